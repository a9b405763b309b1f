/- Parts of a proof, laid together: BP1, RB7, RB8, BX4, BX6, RB9, BX2, RB10. -/
import Derived.Test.YtiojapdolljocaaGreatqMx15
import Derived.Test.YtiojapdolljocaaGreatqMx21
import Derived.Test.YtiojapdolljocaaGreatqMx28
import Derived.Test.YtiojapdolljocaaGreatqMx29
import Derived.Test.YtiojapdolljocaaGreatqMx30
import Derived.Test.YtiojapdolljocaaGreatqMx31
import Derived.Test.YtiojapdolljocaaGreatqMx32
import Derived.Test.YtiojapdolljocaaGreatqMx33
import Derived.Test.YtiojapdolljocaaGreatqMx34
set_option linter.unusedSimpArgs false
set_option maxHeartbeats 8000000
set_option linter.unusedVariables false
set_option linter.unusedSectionVars false
section
namespace Go.Proofs.Wy
open Go Go.Dm Go.Shelf Tryz
variable [DMode]
attribute [local irreducible] DW Bs Bt
set_option maxRecDepth 100000
abbrev sV : DVal:= .agg [.int .i64 0,.nilsl,.nilsl]
abbrev Cb (ls:List (List Nd)):DVal:= .sl 1 24 (ls.map En)
theorem Yv (l:List Arc):Bn prog (.func 65) [.osl 0 0] [⟨0,0,.row 39 4 32 (l.map AW)⟩] (Cg (CA (fun x y=>CT x y==0) l)) []:=SV l
theorem Qh (l:List Nat):Bn prog (.func 64) [.osl 0 0] [⟨0,0,.row 3 1 8 (l.map Bb)⟩] (.tup []) [⟨0,0,.row 3 1 8 ((Jb (l.map aJ)).map IR)⟩]:=by
 have h:=Sz (l.map aJ);rw[bY0]at h;exact h
structure BoxR (H L:List ByteArray) (ls:List (List Nd)) (R:DVal):Prop where
 a:HA ls≠0->R= .tup [sV,.int .i64 (HA ls)]
 b:HA ls=0->ls.any (GS H L)=true->R= .tup [sV,.int .i64 4]
 c:HA ls=0->ls.any (GS H L)=false->64<BZ ls->R= .tup [sV,.int .i64 183]
 d:HA ls=0->∀ts,ls=ts.map flat->(∀t∈ts,Ew t=true/\(flat t).length<=2048)->ls.any (GS H L)=false->BZ ls<=64->R= .tup [lO H L ts,.int .i64 0]
def Hl : Ann:=⟨[77,89,94,100,105,114,126],[⟨16,[13],[],[]⟩,⟨17,[14],[],[]⟩,⟨30,[20],[],[]⟩,⟨38,[201,77],[],[]⟩,⟨39,[],[],[0,1,2,3,4,5,6]⟩]⟩
theorem An_ (H L:List ByteArray) (ls:List (List Nd)) (R:DVal) (hH:H.length≠0) (hR:BoxR H L ls R) (hm:mx R=0):Ae prog 17 [GR H L,Cb ls] R:=by
 refine Ac [94,4] Hl func17 call17 ntmps17 mxd (Au @Hl.eq_1 results17) rfl (fun qJ B qX qQ=> ?_) (hd:=(by simpa using hm))
 have fD:ls.length*24<=150000000000000:=by
  have h1:=qJ.2.1;simp only[FC,aN0]at h1;exact h1.1
 clear qJ;simp only[Am];have e1:=Ms H L
 (refine AG (AD e1) Ab (AD hH) ?_;intros;refine Ah ?_)
 clear hH;refine Ai (X:={k:Nat//k<=ls.length/\HA ls=HA (ls.drop k)}) (fun k=>⟨[(1,Cb ls),(2,.ref [GR H L]),(4,.bx 4 1 0),(5,.int .i64 0),(32,Cb ls),(33,.int .i64 ls.length),(34,.int .i64 k.1)],[⟨4,1,.box [.int .i64 0,.nilsl,.nilsl]⟩]⟩) (fun k=>ls.length-k.1) ⟨0,by simp⟩ (Sub.lit (by simp)) ?_;rintro⟨k,hk,jE⟩;simp only
 by_cases qV:k<ls.length
 ·obtain⟨l,hl,wZ,dM⟩:=Ao qV;rw[aS0 qV,wZ,HA]at jE;have e2:=FS_ l
  by_cases hc:Jg l=0
  ·rw[if_pos hc]at jE;rw[hc]at e2
   (refine AG (AD e2) Ab (GV qV hl wZ @En.eq_1) ?_;intros;refine Ah ?_)
   exact Aj.mk ⟨k+1,by omega,jE⟩ (Sub.lit (by simp)) (by simp;omega)
   skip
  ·rw[if_neg hc]at jE;have fI:=hR.a (by rw[jE];exact hc);rw[jE]at fI;rw[fI];have hcb:(Jg l==0)=false:=by simpa using hc
   exact Av (AD e2) Ab (GN qV hl wZ @En.eq_1 hc hcb)
 have qZ:k=ls.length:=by omega
 subst qZ;rw[bT0]at jE;have vW:HA ls=0:=jE;obtain⟨ts,vD,cY⟩:=IP vW;clear jE hk;have jY:ls.length=ts.length:=by rw[vD,aN0]
 have hocl:=Vg ts fun t ht=>(cY t ht).2
 rw[<-vD]at hocl
 (refine AG Ab Ab Ab ?_;intros;refine Ah ?_)
 refine Ai (X:={k:Nat//k<=ls.length/\(ls.take k).any (GS H L)=false}) (fun k=>⟨[(1,Cb ls),(2,.ref [GR H L]),(4,.bx 4 1 0),(5,.int .i64 0),(9,.int .i64 (BZ (ls.take k.1))),(45,Cb ls),(46,.int .i64 ls.length),(47,.int .i64 k.1)],[⟨4,1,.box [.int .i64 0,.nilsl,.nilsl]⟩]⟩) (fun k=>ls.length-k.1) ⟨0,by simp⟩ (Sub.lit (by simp[Xq])) ?_;rintro⟨k,hk,vI⟩;simp only
 by_cases qV:k<ls.length
 ·obtain⟨l,hl,wZ,dM⟩:=Ao qV
  have hll:l.length<=2048:=by
   rw[vD]at dM;obtain⟨t,ht,rfl⟩:=aT0.1 dM;exact(cY t ht).2
  have hos:=TA (ls.take k) l;rw[<-Bc hl]at hos;have hot:=Tz (ls:=ls) (k:=k+1);obtain⟨m,gS⟩:∃m,m=BZ (ls.take k):=⟨_,rfl⟩;rw[<-gS]at hos |-;have e5:=QK l;have hw5:IntKind.i64.wrap ((m:Int)+(FS l:Int))=(BZ (ls.take (k+1)):Int):=by rw[wq,hos];omega
  (refine AG Ab Ab (GV qV hl wZ @En.eq_1) ?_;intros;refine Ah ?_)
  refine Ai (X:={j:Nat//j<=l.length/\GS H L (l.take j)=false}) (fun j=>⟨[(1,Cb ls),(2,.ref [GR H L]),(4,.bx 4 1 0),(5,.int .i64 0),(9,.int .i64 m),(11,AU l),(45,Cb ls),(46,.int .i64 ls.length),(47,.int .i64 k),(51,AU l),(52,.int .i64 l.length),(53,.int .i64 j.1)],[⟨4,1,.box [.int .i64 0,.nilsl,.nilsl]⟩]⟩) (fun j=>l.length-j.1) ⟨0,by simp[GS]⟩ (Sub.lit (by simp)) ?_;rintro⟨j,hj,nC⟩;simp only
  by_cases qL:j<l.length
  ·obtain⟨x,hx,qA,vO⟩:=Ao qL;have e3:=Qc H L x
   have wT:GS H L (l.take (j+1))=decide (Qb H L x=4):=by
    unfold GS at nC |-;rw[Bc hx,eN0,nC];simp
   obtain⟨E,hE⟩:∃E,E=Qb H L x:=⟨_,rfl⟩;rw[<-hE]at e3 wT;simp only[Bq,AM]at e3
   by_cases h4:E=4
   ·have yJ:ls.any (GS H L)=true:=by
     rw[cH0];refine⟨l,dM,?_⟩;unfold GS;rw[cH0];exact⟨x,vO,by rw[<-hE];simp[h4]⟩
    rw[hR.b vW yJ];exact Av (AD e3) Ab (Jh @Bq.eq_1 qL hx qA h4)
   ·have h4b:(E==4)=false:=by simpa using h4
    rw[decide_eq_false h4]at wT
    (refine AG (AD e3) Ab (GN @Bq.eq_1 qL hx qA h4 h4b) ?_;intros;refine Ah ?_)
    refine Aj.mk ⟨j+1,by omega,wT⟩ (Sub.lit (by simp)) (by simp;omega)
    skip
  ·have qZ:j=l.length:=by omega
   subst qZ;rw[aW0]at nC;have hno2:(ls.take (k+1)).any (GS H L)=false:=by rw[Bc hl,eN0,vI];simp[nC]
   (refine AG (AD e5) Ab (AD hw5) ?_;intros;refine Ah ?_)
   refine Aj.mk ⟨k+1,by omega,hno2⟩ (Sub.lit (by simp)) (by simp;omega)
   skip
 have qZ:k=ls.length:=by omega
 subst qZ;rw[aW0]at vI;clear hk qV
 by_cases kU:64<BZ ls
 ·have hRc:=hR.c vW vI kU;have d1:(64:Int)<(BZ ls:Int):=by omega
  exact Av Ab Ab (CD d1 kU hRc)
 have zJ:=hR.d vW ts vD cY vI (by omega);have hoc:=Gq ts;rw[<-vD]at hoc;have d1:¬(64:Int)<(BZ ls:Int):=by omega
 (refine AG Ab Ab (Au d1 kU) ?_;intros;refine Ah ?_)
 have hlv64:(BT ts).length<=64:=by omega
 obtain⟨SF,cM⟩:∃SF,SF=Nt (Eo H L) ts:=⟨_,rfl⟩
 have wW:∀k,(BT (ts.take k)).length<=64/\Nt (Eo H L) (ts.take k) <+: SF:=fun k=>by
  have h1:=rZ (us:=ts.take k) (vs:=ts.drop k);have h2:=EM_ (Eo H L) (ts.take k) (ts.drop k);rw[List.take_append_drop]at h1 h2;rw[cM];exact⟨by omega,h2⟩
 have zS:∀k,(Kf SF (ts.take k)).length<=1073741824:=fun k=>by
  have h1:=UZ (ts.take k) 0 (fun t ht=>(cY t (dB0 ht)).2) (wW k).1;unfold Kf;rw[KB];have:=(wW k).1;omega
 have vP:∀k,(Rr (ts.take k)).length<=64/\(NR (ts.take k)).length<=64:=fun k=>by
  have h1:=VG (ts.take k) 0;have h2:=sC (ts.take k) 0;have:=(wW k).1;exact⟨by unfold Rr;omega,by unfold NR;omega⟩
 have z0:Kf SF []=[]:=rfl;have z1:Nt (Eo H L) []=[]:=rfl;have z2:Rr []=[]:=rfl;have z3:NR []=[]:=rfl;have z4:Ej []=false:=by rw[Ej]
 refine CI 77 0 201 24 2 16 (by simp) (fun n1=> ?_);refine CI 77 1 202 39 4 32 (by simp) (fun n2=> ?_);refine CI 17 2 94 3 1 8 (by simp) (fun n3=> ?_);refine PR 17 1 1 8 rfl rfl ?_
 refine Ai (X:={k:Nat//k<=ts.length}) (fun k=>⟨[(2,.ref [GR H L]),(4,.bx 4 1 0),(16,.bx 77 1 0),(17,.bx 17 1 0),(79,Cb ls),(80,.int .i64 ls.length),(81,.int .i64 k.1)],
  [⟨4,1,.box [.int .i64 0,.nilsl,.nilsl]⟩,⟨77,1,.box [.osl 201 1,.osl 202 1]⟩,⟨201,1,.row 24 2 16 ((Nt (Eo H L) (ts.take k.1)).map AM)⟩,⟨202,1,.row 39 4 32 ((Kf SF (ts.take k.1)).map AW)⟩,⟨17,1,.box [.bool (Ej (ts.take k.1)),Cz (Rr (ts.take k.1)),.osl 94 1]⟩,⟨94,1,.row 3 1 8 ((NR (ts.take k.1)).map Bb)⟩]⟩) (fun k=>ts.length-k.1) ⟨0,by simp⟩ (Sub.lit (by simp[z0,z1,z2,z3,z4])) ?_
 rintro⟨k,hk⟩;simp only
 by_cases qV:k<ts.length
 ·obtain⟨t,ht,nL,htm⟩:=Ao qV;obtain⟨qW,rU⟩:=cY t htm;have bQ:ls[k]? =some (flat t):=by rw[vD,bK0,ht];rfl
  have zH:k<ls.length:=by omega
  have yN:ls[k]'zH=flat t:=(aB0.1 bQ).2;have cO:=wW (k+1);have y1:=Ca_ H L (ts.take k) t;have y2:=AU_ (ts.take k) t;have y3:=AF_ (ts.take k) t;have y4:=lT SF (ts.take k) t;have y5:=Sl (ts.take k) t;have y6:=QU (ts.take k) t;rw[<-Bc ht]at y1 y2 y3 y4 y5 y6;have y7:=congrArg List.length y6;rw[aC0]at y7;have hA:=zS k;have hF:=vP k;have hF1:=vP (k+1);have e6:=PX H L (flat t) (BT (ts.take k)).length SF (by rw[<-y7];exact cO.1) _ t (Nat.le_refl _) qW 0 [] (Nt (Eo H L) (ts.take k)) (Kf SF (ts.take k)) (by simp) (by rw[Po,Qo];rfl) (by rw[y1];exact cO.2) (by omega)
  rw[y1,y4,bO0]at e6;have g1:=congrArg List.length y2;have g2:=congrArg List.length y3;rw[aC0]at g1 g2;have e7:=oA (Ej (ts.take k)) (BU t) (Rr (ts.take k)) (Ie (flat t) (BT (ts.take k)).length t 0) (NR (ts.take k)) (KO (flat t) (BT (ts.take k)).length t 0) (by omega) (by omega);rw[y5,y2,y3]at e7;refine Kj (Sub.freezeL [94] _) ?_;simp
  (repeat (first | refine AJ fun K hK=> ?_ | (refine BV Hl mxd (by kernel_rfl) ?_;simp[Hl,qX,Bw,zH,bQ,yN,En];try simp (disch:=omega) only[Al]) | refine Aq ?_ | (refine Bi ?_ ?_ ?_;(· (simp[qX,Bw,zH,bQ,yN,En];done));(try (rotate_left;(· (intro hc;(try simp[qX,Bw,zH,bQ,yN,En]at hc);done))))) | (refine AN ?_;simp[results17,qX,Bw,zH,bQ,yN,En]) | ((first | refine AB ?_ | refine AA ?_);simp[qX,Bw,zH,bQ,yN,En]) | (intro hc;(try simp[qX,Bw,zH,bQ,yN,En]at hc);(try (exfalso;omega))) | (refine AQ [(77,0),(201,1),(202,2)] [] (e6) ?_ ?_;(· (simp[qX,Bw,zH,bQ,yN,En];done));(intro _;try simp[qX,Bw,zH,bQ,yN,En])) | (refine AQ [] [(94,0)] (e7) ?_ ?_;(· (simp[qX,Bw,zH,bQ,yN,En];done));(intro _;try simp[qX,Bw,zH,bQ,yN,En])) | (refine⟨?_,?_⟩; · omega) | omega | apply_assumption -exfalso -symm | (exfalso;omega)))
  refine Aj.mk ⟨k+1,by omega⟩ (Sub.lit (by simp)) (by simp;omega)
  skip
 ·have qZ:k=ts.length:=by omega
  subst qZ;rw[aW0];have hA:=zS ts.length;have hF:=vP ts.length;have hP:=wW ts.length;rw[aW0]at hA hF hP;have e8:=JN SF SF (Kf SF ts) [0] (Rr ts) (List.prefix_refl _) (fun q hq=>by have:=VF ts 0 q hq;rw[cM,Po];omega) (by rw[cM,Po];omega) (by simp;omega);have y8:=Bq_ (Eo H L) ts;rw[<-cM]at y8;rw[y8]at e8;have e9:=WK (FN (Eo H L) ts);have e11:=Yv (Jt CT (FN (Eo H L) ts));rw[<-cM];have wL:¬(ts.length:Int)<(ls.length:Int):=by omega
  have hSl:SF.length=(BT ts).length:=by rw[cM,Po]
  have vQ:IntKind.i64.wrap ((SF.length:Int)+1)=((BT ts).length:Int)+1:=by rw[hSl];exact wq
  have yA:=DB_ ts fun t ht=>(cY t ht).1
  unfold lO Ui at zJ;obtain⟨CZ,hCZ⟩:∃CZ,CZ=CA (fun x y=>CT x y==0) (Jt CT (FN (Eo H L) ts)):=⟨_,rfl⟩;rw[<-hCZ]at zJ e11;obtain⟨FR,hFR⟩:∃FR,FR=Hg ts:=⟨_,rfl⟩;rw[<-hFR]at zJ yA;cases hE:Ej ts
  ·have e10:=Qh (NR ts)
   have mM:Jb ((NR ts).map aJ)=FR:=by
    rw[hE]at yA;simp only[aR0,if_false,bO0]at yA;exact yA
   rw[mM]at e10
   (repeat (first | refine AJ fun K hK=> ?_ | (refine BV Hl mxd (by kernel_rfl) ?_;simp[Hl,qX,Bw,wL,Bb,vQ,zJ];try simp (disch:=omega) only[Al]) | refine Aq ?_ | (refine Bi ?_ ?_ ?_;(· (simp[qX,Bw,wL,Bb,vQ,zJ];done));(try (rotate_left;(· (intro hc;(try simp[qX,Bw,wL,Bb,vQ,zJ]at hc);done))))) | (refine AN ?_;simp[results17,qX,Bw,wL,Bb,vQ,zJ]) | ((first | refine AB ?_ | refine AA ?_);simp[qX,Bw,wL,Bb,vQ,zJ]) | (intro hc;(try simp[qX,Bw,wL,Bb,vQ,zJ]at hc);(try (exfalso;omega))) | (refine AQ [(77,0),(201,1),(202,2)] [] (e8) ?_ ?_;(· (simp[qX,Bw,wL,Bb,vQ,zJ];done));(intro _;try simp[qX,Bw,wL,Bb,vQ,zJ])) | (refine AQ [(202,0)] [] (e9) ?_ ?_;(· (simp[qX,Bw,wL,Bb,vQ,zJ];done));(intro _;try simp[qX,Bw,wL,Bb,vQ,zJ])) | (refine AQ [(94,0)] [] (e10) ?_ ?_;(· (simp[qX,Bw,wL,Bb,vQ,zJ];done));(intro _;try simp[qX,Bw,wL,Bb,vQ,zJ])) | (refine AQ [(202,0)] [] (e11) ?_ ?_;(· (simp[qX,Bw,wL,Bb,vQ,zJ];done));(intro _;try simp[qX,Bw,wL,Bb,vQ,zJ])) | (refine⟨?_,?_⟩; · omega) | omega | apply_assumption -exfalso -symm | (exfalso;omega)))
  ·have e10:=Qh (NR ts++[0])
   have mM:Jb ((NR ts++[0]).map aJ)=FR:=by
    rw[hE]at yA;simp only[if_true]at yA;rw[bD0];exact yA
   rw[mM]at e10;have hb:((NR ts).length+1)*8<=150000000000000:=by omega
   (repeat (first | refine AJ fun K hK=> ?_ | (refine BV Hl mxd (by kernel_rfl) ?_;simp[Hl,qX,Bw,wL,Bb,vQ,zJ,hb];try simp (disch:=omega) only[Al]) | refine Aq ?_ | (refine Bi ?_ ?_ ?_;(· (simp[qX,Bw,wL,Bb,vQ,zJ,hb];done));(try (rotate_left;(· (intro hc;(try simp[qX,Bw,wL,Bb,vQ,zJ,hb]at hc);done))))) | (refine AN ?_;simp[results17,qX,Bw,wL,Bb,vQ,zJ,hb]) | ((first | refine AB ?_ | refine AA ?_);simp[qX,Bw,wL,Bb,vQ,zJ,hb]) | (intro hc;(try simp[qX,Bw,wL,Bb,vQ,zJ,hb]at hc);(try (exfalso;omega))) | (refine AQ [(77,0),(201,1),(202,2)] [] (e8) ?_ ?_;(· (simp[qX,Bw,wL,Bb,vQ,zJ,hb];done));(intro _;try simp[qX,Bw,wL,Bb,vQ,zJ,hb])) | (refine AQ [(202,0)] [] (e9) ?_ ?_;(· (simp[qX,Bw,wL,Bb,vQ,zJ,hb];done));(intro _;try simp[qX,Bw,wL,Bb,vQ,zJ,hb])) | (refine AQ [(94,0)] [] (e10) ?_ ?_;(· (simp[qX,Bw,wL,Bb,vQ,zJ,hb];done));(intro _;try simp[qX,Bw,wL,Bb,vQ,zJ,hb])) | (refine AQ [(202,0)] [] (e11) ?_ ?_;(· (simp[qX,Bw,wL,Bb,vQ,zJ,hb];done));(intro _;try simp[qX,Bw,wL,Bb,vQ,zJ,hb])) | (refine⟨?_,?_⟩; · omega) | omega | apply_assumption -exfalso -symm | (exfalso;omega)))
end Go.Proofs.Wy
end
section
namespace Go.Proofs.Wy
open Go Go.Dm Tryz
variable [DMode]
attribute [local irreducible] DW Bs Bt
set_option maxRecDepth 100000
noncomputable def Hm (H L:List ByteArray) (ls:List (List Nd)):Int:=if HA ls=0 then (if ls.any (GS H L)=true then 4 else if 64<BZ ls then 183 else 0)else HA ls
def tK : Ann:=⟨[],[⟨15,[10],[],[]⟩]⟩
theorem Uw (g:List Rul) (ls:List (List Nd)) (hn:((AI 3 g).length+1)*16<=150000000000000):Ae prog 87 [Ar g,Cb ls] (.int .i64 (Hm (Ax g) (Ay g) ls)):=by
 refine Ac [] tK func87 call87 ntmps87 mxd (Au @tK.eq_1 results87) rfl (fun qJ B qX qQ=> ?_)
 have fD:ls.length*24<=150000000000000:=by
  have h1:=qJ.2.1;simp only[FC,aN0]at h1;exact h1.1
 clear qJ;simp only[Am];have eS:=fun x=>Mc g x hn
 obtain⟨H,hH⟩:∃H,H=Ax g:=⟨_,rfl⟩;obtain⟨L,hL⟩:∃L,L=Ay g:=⟨_,rfl⟩;simp only[<-hH,<-hL]at eS |-;clear hH hL;obtain⟨W,hW⟩:∃W,W=Hm H L ls:=⟨_,rfl⟩;rw[<-hW];unfold Hm at hW
 (refine AG Ab Ab Ab ?_;intros;refine Ah ?_)
 refine Ai (X:={k:Nat//k<=ls.length/\HA ls=HA (ls.drop k)}) (fun k=>⟨[(0,Ar g),(1,Cb ls),(5,.int .i64 k.1)],[]⟩) (fun k=>ls.length-k.1) ⟨0,by simp⟩ (Sub.lit (by simp)) ?_;rintro⟨k,hk,jE⟩;simp only
 by_cases qV:k<ls.length
 ·obtain⟨l,hl,wZ,dM⟩:=Ao qV;rw[aS0 qV,wZ,HA]at jE;have e2:=FR_ l;have jC:IntKind.i64.wrap ((k:Int)+1)=(k:Int)+1:=wq
  by_cases hc:Jg l=0
  ·rw[if_pos hc]at jE;rw[hc]at e2
   (refine AG (AD e2) Ab (Jh qV hl wZ @En.eq_1 jC) ?_;intros;refine Ah ?_)
   exact Aj.mk ⟨k+1,by omega,jE⟩ (Sub.lit (by simp)) (by simp;omega)
   skip
  ·rw[if_neg hc]at jE;rw[if_neg (by rw[jE];exact hc),jE]at hW;have hcb:(Jg l==0)=false:=by simpa using hc
   exact Av (AD e2) Ab (Iw qV hl wZ @En.eq_1 hc hcb hW)
 have qZ:k=ls.length:=by omega
 subst qZ;rw[bT0]at jE;have vW:HA ls=0:=jE;rw[if_pos vW]at hW;obtain⟨ts,vD,cY⟩:=IP vW;clear jE hk;have jY:ls.length=ts.length:=by rw[vD,aN0]
 have hocl:=Vg ts fun t ht=>(cY t ht).2
 rw[<-vD]at hocl
 (refine AG Ab Ab Ab ?_;intros;refine Ah ?_)
 refine Ai (X:={k:Nat//k<=ls.length/\(ls.take k).any (GS H L)=false}) (fun k=>⟨[(0,Ar g),(1,Cb ls),(7,.int .i64 (BZ (ls.take k.1))),(8,.int .i64 k.1)],[]⟩) (fun k=>ls.length-k.1) ⟨0,by simp⟩ (Sub.lit (by simp[Xq])) ?_;rintro⟨k,hk,vI⟩;simp only
 by_cases qV:k<ls.length
 ·obtain⟨l,hl,wZ,dM⟩:=Ao qV
  have hll:l.length<=2048:=by
   rw[vD]at dM;obtain⟨t,ht,rfl⟩:=aT0.1 dM;exact(cY t ht).2
  have hos:=TA (ls.take k) l;rw[<-Bc hl]at hos;have hot:=Tz (ls:=ls) (k:=k+1);obtain⟨m,gS⟩:∃m,m=BZ (ls.take k):=⟨_,rfl⟩;rw[<-gS]at hos |-;have e5:=Me l;have hw5:IntKind.i64.wrap ((m:Int)+(FS l:Int))=(BZ (ls.take (k+1)):Int):=by rw[wq,hos];omega
  have jC:IntKind.i64.wrap ((k:Int)+1)=(k:Int)+1:=wq
  (refine AG (AD e5) Ab (Jh qV hl wZ @En.eq_1 hw5) ?_;intros;refine Ah ?_)
  refine Ai (X:={j:Nat//j<=l.length/\GS H L (l.take j)=false}) (fun j=>⟨[(0,Ar g),(1,Cb ls),(7,.int .i64 (BZ (ls.take (k+1)))),(8,.int .i64 k),(9,.int .i64 j.1)],[]⟩) (fun j=>l.length-j.1) ⟨0,by simp[GS]⟩ (Sub.lit (by simp)) ?_;rintro⟨j,hj,nC⟩;simp only
  by_cases qL:j<l.length
  ·obtain⟨x,hx,qA,vO⟩:=Ao qL;have e3:=eS x;have nU:IntKind.i64.wrap ((j:Int)+1)=(j:Int)+1:=wq
   have wT:GS H L (l.take (j+1))=decide (Qb H L x=4):=by
    unfold GS at nC |-;rw[Bc hx,eN0,nC];simp
   obtain⟨E,hE⟩:∃E,E=Qb H L x:=⟨_,rfl⟩;rw[<-hE]at e3 wT;simp only[Bq,AM]at e3
   by_cases h4:E=4
   ·have yJ:ls.any (GS H L)=true:=by
     rw[cH0];refine⟨l,dM,?_⟩;unfold GS;rw[cH0];exact⟨x,vO,by rw[<-hE];simp[h4]⟩
    rw[if_pos yJ]at hW;exact Av (AD e3) Ab (LL @Bq.eq_1 @En.eq_1 qV hl wZ qL hx qA h4 hW)
   ·have h4b:(E==4)=false:=by simpa using h4
    rw[decide_eq_false h4]at wT
    (refine AG (AD e3) Ab (Jn @Bq.eq_1 @En.eq_1 qV hl wZ qL hx qA h4 h4b nU) ?_;intros;refine Ah ?_)
    refine Aj.mk ⟨j+1,by omega,wT⟩ (Sub.lit (by simp)) (by simp;omega)
    skip
  ·have qZ:j=l.length:=by omega
   subst qZ;rw[aW0]at nC;have hno2:(ls.take (k+1)).any (GS H L)=false:=by rw[Bc hl,eN0,vI];simp[nC]
   (refine AG Ab Ab (Jh @En.eq_1 qV hl wZ jC) ?_;intros;refine Ah ?_)
   refine Aj.mk ⟨k+1,by omega,hno2⟩ (Sub.lit (by simp)) (by simp;omega)
   skip
 have qZ:k=ls.length:=by omega
 subst qZ;rw[aW0]at vI;clear hk qV;rw[if_neg (by rw[vI];simp)]at hW
 by_cases kU:64<BZ ls
 ·rw[if_pos kU]at hW;have d1:(64:Int)<(BZ ls:Int):=by omega
  exact Av Ab Ab (CD d1 kU hW)
 ·rw[if_neg kU]at hW;have d1:¬(64:Int)<(BZ ls:Int):=by omega
  exact Av Ab Ab (CD d1 kU hW)
theorem eU (l:List Nd):(FZ l l.length).length=(Cs l).length:=by rw[Kq (Nat.le_refl _),GZ]
theorem Uj (sy:Nd->Sym):∀(ts:List RT) (ah:Nat),(BT ts).length<=64->(Fy sy ah ts).length<=65*(BT ts).length
 | [],ah,_=>by simp[Fy]
 | t::ts,ah,h=>by
  have h1:BT (t::ts)=Cs (flat t)++BT ts:=by simp[BT]
  rw[h1,aC0]at h |-;have ih:=Uj sy ts (ah+(Cs (flat t)).length) (by omega);have h2:=eU (flat t);have h3:=Oe sy ah t (by omega) (FZ (flat t) (flat t).length);have h4:Fy sy ah (t::ts)=EQ sy ah t (FZ (flat t) (flat t).length)++Fy sy (ah+(Cs (flat t)).length) ts:=rfl;rw[h4,aC0];omega
def Kg (sy:Nd->Sym) (us:List RT):List Arc:=EM [] (Fy sy 0 us)
theorem lU (sy:Nd->Sym) (us:List RT) (t:RT):EM (Kg sy us) (EQ sy (BT us).length t (FZ (flat t) (flat t).length))=Kg sy (us++[t]):=by
 unfold Kg;rw[Sj,HZ,bR0];rfl
theorem Bs_ (sy:Nd->Sym) (us:List RT) (h:(BT us).length<=64):(Kg sy us).length<=4160:=by
 have h1:=Mz [] (Fy sy 0 us);have h2:=Uj sy us 0 h;unfold Kg;simp only[List.length_nil]at h1;omega
def ME (us:List RT):List Nat:=Fv 0 us
def SU (t:RT) (ah:Nat) (ps:List Nat):List Nat:=(ps.filter (MH t 0)).map (EZ (flat t) ah)
theorem AY_ (t:RT) (ah:Nat) (ps:List Nat) (p:Nat):SU t ah (ps++[p])=SU t ah ps++(if MH t 0 p=true then [EZ (flat t) ah p]else []):=by
 unfold SU;rw[cV0,bD0];cases h:MH t 0 p<;>simp[h]
theorem DD_ (t:RT) (ah:Nat):SU t ah []=[]:=rfl
theorem DE_ (t:RT) (ah:Nat) (ps:List Nat):(SU t ah ps).length<=ps.length:=by unfold SU;rw[aN0];exact cI0 _ _
theorem AZ_ (us:List RT) (t:RT):ME us++SU t (BT us).length (FZ (flat t) (flat t).length)=ME (us++[t]):=by unfold ME SU;rw[TU,bR0]
theorem Rs : ∀(ts:List RT) (ah:Nat),(Fv ah ts).length<=(BT ts).length
 | [],ah=>by simp[Fv]
 | t::ts,ah=>by
  have h1:BT (t::ts)=Cs (flat t)++BT ts:=by simp[BT]
  have ih:=Rs ts (ah+(Cs (flat t)).length);have h2:=eU (flat t);have h3:((FZ (flat t) (flat t).length).filter (MH t 0)).length<=(FZ (flat t) (flat t).length).length:=cI0 _ _;rw[Fv,h1,aC0,aC0,aN0];omega
def xU (g:List Rul) (ts:List RT):DVal:=Ui ((BT ts).length+1) (Hg ts) (Kg (Hp g) ts)
theorem DC_ (ts:List RT):FM (Hg ts)= .sl 1 8 ((if Ej ts=true then [Bb 0]else [])++(ME ts).map Bb):=by
 unfold Hg ME;rw[show FM ((if Ej ts then [0]else [])++(Fv 0 ts).map aJ)= .sl 1 8 (((if Ej ts then [0]else [])++(Fv 0 ts).map aJ).map IR) from rfl,bD0,bY0];cases Ej ts<;>rfl
def Wf : Ann:=⟨[63,79,84],[]⟩
theorem eG (g:List Rul) (ls:List (List Nd)) (R:DVal) (hn:((AI 3 g).length+1)*16<=150000000000000) (hm:mx R=0)
  (hRa:Hm (Ax g) (Ay g) ls≠0->R= .tup [sV,.int .i64 (Hm (Ax g) (Ay g) ls)])
  (zJ:∀ts,ls=ts.map flat->(∀t∈ts,Ew t=true/\(flat t).length<=2048)->BZ ls<=64->Hm (Ax g) (Ay g) ls=0->R= .tup [xU g ts,.int .i64 0]):Ae prog 39 [Ar g,Cb ls] R:=by
 refine Ac [51,4] Wf func39 call39 ntmps39 mxd (Au @Wf.eq_1 results39) rfl (fun qJ B qX qQ=> ?_) (hd:=(by simpa using hm))
 have fD:ls.length*24<=150000000000000:=by
  have h1:=qJ.2.1;simp only[FC,aN0]at h1;exact h1.1
 clear qJ;simp only[Am];have e1:=Uw g ls hn;obtain⟨W,hW⟩:∃W,W=Hm (Ax g) (Ay g) ls:=⟨_,rfl⟩;simp only[<-hW]at e1 hRa zJ
 by_cases h0:W=0
 ·have vD:∃ts:List RT,ls=ts.map flat/\(∀t∈ts,Ew t=true/\(flat t).length<=2048)/\BZ ls<=64:=by
   rw[h0]at hW;unfold Hm at hW
   split at hW
   ·rename_i he;obtain⟨ts,h1,h2⟩:=IP he;refine⟨ts,h1,h2,?_⟩
    split at hW
    ·omega
    ·split at hW
     ·omega
     ·omega
   ·rename_i he;exact absurd hW.symm he
  obtain⟨ts,vD,cY,hoc⟩:=vD;have fI:=zJ ts vD cY hoc h0;have hoc2:=Gq ts;rw[<-vD]at hoc2;have fF:(BT ts).length<=64:=by omega
  have jY:ls.length=ts.length:=by rw[vD,aN0]
  rw[h0]at e1;clear hW hRa zJ
  (refine AG (AD e1) Ab Ab ?_;intros;refine Ah ?_)
  have wW:∀k,(BT (ts.take k)).length<=64:=fun k=>by
   have h1:=rZ (us:=ts.take k) (vs:=ts.drop k);rw[List.take_append_drop]at h1;omega
  have z1:BT []=[]:=rfl;have z2:Kg (Hp g) []=[]:=rfl;have z3:ME []=[]:=rfl;have z4:Ej []=false:=by rw[Ej]
  refine BO 8 50 3 1 8 (by simp[qX,results39,Wf]) (fun n1=> ?_);refine PR 7 2 4 32 rfl rfl ?_
  refine Ai (X:={k:Nat//k<=ts.length}) (fun k=>⟨[(0,Ar g),(1,Cb ls),(4,.bx 4 1 0),(7,.bx 7 1 0),(8,.osl 50 1),(9,.bool (Ej (ts.take k.1))),(10,.int .i64 k.1)],
   [⟨4,1,.box [.int .i64 0,.nilsl,.nilsl]⟩,⟨7,1,.box [.int .i64 ((BT (ts.take k.1)).length+1),.nilsl,Cg (Kg (Hp g) (ts.take k.1))]⟩,⟨50,1,.row 3 1 8 ((ME (ts.take k.1)).map Bb)⟩]⟩) (fun k=>ts.length-k.1) ⟨0,by simp⟩ (Sub.lit (by simp[z1,z2,z3,z4])) ?_
  rintro⟨k,hk⟩;simp only
  by_cases qV:k<ts.length
  ·obtain⟨t,ht,nL,htm⟩:=Ao qV;obtain⟨qW,rU⟩:=cY t htm;have bQ:ls[k]? =some (flat t):=by rw[vD,bK0,ht];rfl
   have zH:k<ls.length:=by omega
   have yN:ls[k]'zH=flat t:=(aB0.1 bQ).2;have y1:=lU (Hp g) (ts.take k) t;have y2:=AZ_ (ts.take k) t;have y3:=Sl (ts.take k) t;have y4:=congrArg List.length (QU (ts.take k) t);rw[<-Bc ht]at y1 y2 y3 y4;rw[aC0]at y4;have cO:=wW (k+1);have cG:=Bs_ (Hp g) (ts.take k) (wW k);have vP:(ME (ts.take k)).length<=64:=by have:=Rs (ts.take k) 0;have:=wW k;unfold ME;omega
   obtain⟨ah,hah⟩:∃ah,ah=(BT (ts.take k)).length:=⟨_,rfl⟩;rw[<-hah]at y1 y2 y4 |-;have e2:=oE g t ah (Kg (Hp g) (ts.take k)) qW rU (by omega) hn (by omega);rw[y1]at e2;have e3:=Ht (flat t);have zS:=eU (flat t);have gZ:∀j p,(FZ (flat t) (flat t).length)[j]? =some p->IA (flat t) p=j:=fun j p h=>QD (Nat.le_refl _) h
   have yC:At (flat t) 0 t:=At.top qW;have eE:∀q:Nat,Ae prog 90 [AU (flat t),.int .i64 0,.int .i64 q] (.bool (MH t 0 q)):=fun q=>JY q _ t (flat t) 0 rfl yC (by omega)
   have eM:Ae prog 91 [AU (flat t),.int .i64 0] (.bool (BU t)):=FW _ t (flat t) 0 rfl yC (by omega);have hfs:=AY_ t ah;have hfpl:=DE_ t ah;obtain⟨ps,gO⟩:∃ps,ps=FZ (flat t) (flat t).length:=⟨_,rfl⟩;rw[<-gO]at e3 zS gZ y2;clear yC gO;obtain⟨F0,hF0⟩:∃F0,F0=ME (ts.take k):=⟨_,rfl⟩;rw[<-hF0]at y2 vP |-;have vQ:IntKind.i64.wrap ((ah:Int)+1-1)=(ah:Int):=by rw[wq];omega
   have jC:IntKind.i64.wrap ((k:Int)+1)=(k:Int)+1:=wq;have mF:IntKind.i64.wrap ((ah:Int)+1+(ps.length:Int))=((BT (ts.take (k+1))).length:Int)+1:=by rw[wq];omega
   (refine AG (Au e2 e3) Ab (Jh zH bQ yN @En.eq_1 vQ) ?_;intros;refine Ah ?_)
   refine Ai (X:={j:Nat//j<=ps.length}) (fun j=>⟨[(0,Ar g),(1,Cb ls),(4,.bx 4 1 0),(7,.bx 7 1 0),(8,.osl 50 1),(9,.bool (Ej (ts.take k))),(10,.int .i64 k),(11,AU (flat t)),(12,.int .i64 ah),(13,Cz ps),(14,.int .i64 j.1)],
    [⟨4,1,.box [.int .i64 0,.nilsl,.nilsl]⟩,⟨7,1,.box [.int .i64 ((ah:Int)+1),.nilsl,Cg (Kg (Hp g) (ts.take (k+1)))]⟩,⟨50,1,.row 3 1 8 ((F0++SU t ah (ps.take j.1)).map Bb)⟩]⟩) (fun j=>ps.length-j.1) ⟨0,by omega⟩ (Sub.lit (by simp[DD_])) ?_
   rintro⟨j,hj⟩;simp only
   by_cases qL:j<ps.length
   ·obtain⟨q,hq,vY,_⟩:=Ao qL;have e4:=eE q;have hrk:=gZ j q hq;have mS:=hfs (ps.take j) q;rw[<-Bc hq]at mS;have hf2:=hfpl (ps.take j);rw[bA0]at hf2;have zT:EZ (flat t) ah q=ah+j+1:=by unfold EZ;omega
    rw[zT]at mS;obtain⟨F1,hF1⟩:∃F1,F1=SU t ah (ps.take j):=⟨_,rfl⟩;rw[<-hF1]at mS hf2 |-;have hb:(F0.length+F1.length+1)*8<=150000000000000:=by omega
    have nU:IntKind.i64.wrap ((ah:Int)+(j:Int))=(ah:Int)+(j:Int):=wq;have nY:IntKind.i64.wrap ((ah:Int)+(j:Int)+1)=(ah:Int)+(j:Int)+1:=wq;have hwj3:IntKind.i64.wrap ((j:Int)+1)=(j:Int)+1:=wq;cases hd:MH t 0 q
    ·rw[hd]at e4 mS;simp only[aR0,if_false,bO0]at mS
     (refine AG (AD e4) Ab (Jh qL hq vY @Bb.eq_1 hwj3) ?_;intros;refine Ah ?_)
     refine Aj.mk ⟨j+1,by omega⟩ (Sub.lit (by simp[mS])) (by simp;omega)
     skip
    ·rw[hd]at e4 mS;simp only[if_true]at mS
     (refine AG (AD e4) Ab (KQ qL hq vY @Bb.eq_1 nU nY hwj3 hb) ?_;intros;refine Ah ?_)
     refine Aj.mk ⟨j+1,by omega⟩ (Sub.lit (by simp[mS,Bb])) (by simp;omega)
     skip
   ·have qZ:j=ps.length:=by omega
    subst qZ;rw[aW0,y2];cases hE:Ej (ts.take k)
    ·rw[hE,eE0]at y3;rw[y3]at eM
     (refine AG (AD eM) Ab (Au mF jC) ?_;intros;refine Ah ?_)
     refine Aj.mk ⟨k+1,by omega⟩ (Sub.lit (by simp)) (by simp;omega)
     skip
    ·rw[hE,Bool.true_or]at y3
     (refine AG (AD eM) Ab (Au mF jC) ?_;intros;refine Ah ?_)
     refine Aj.mk ⟨k+1,by omega⟩ (Sub.lit (by simp[<-y3])) (by simp;omega)
     skip
  ·have qZ:k=ts.length:=by omega
   subst qZ;rw[aW0];have vP:(ME ts).length<=64:=by have:=Rs ts 0;unfold ME;omega
   have qI:((ME ts).length)*8<=150000000000000:=by omega
   have qT:(1+(ME ts).length)*8<=150000000000000:=by omega
   have wL:¬ts.length<ls.length:=by omega
   have hfe:=DC_ ts;unfold xU Ui at fI;rw[hfe]at fI;refine Kj (Sub.freezeL [50] _) ?_;simp;refine CI 7 1 51 3 1 8 (by simp) (fun n2=> ?_);cases hE:Ej ts
   ·rw[hE]at fI;simp only[aR0,if_false,List.nil_append]at fI;exact Av Ab Ab (GV wL jY fI qI)
   ·rw[hE]at fI;simp only[if_true]at fI;exact Av Ab Ab (Jh wL jY fI qT @Bb.eq_1)
 ·have fI:=hRa h0;have h0b:(W==0)=false:=by simpa using h0
  exact Av (AD e1) Ab (CD h0 h0b fI)
@[simp] theorem IC_ (l:List Bool) (v:Nat) (h:v<(bD l).length):((bD l)[v]'h).tail=[]:=by simp[bD,dBl]
def IM_ (l:List Int):List (List DVal):=l.map IR
@[simp] theorem Is_ (l:List Int):Bp (IM_ l)=0:=CP_ l
def Nk : Ann:=⟨[],[]⟩
theorem UX (l:List Nd) (hs:l.length<=1572864):Ae prog 72 [AU l] (AU l):=by
 refine Ac [50] Nk func72 call72 ntmps72 mxd (Au @Nk.eq_1 results72) rfl (fun qJ B qX qQ=> ?_);clear qJ;simp only[Am];have hb:l.length*32<=150000000000000:=by omega
 iterate 6 ((first | refine AJ fun K hK=> ?_ | (refine BV Nk mxd (by kernel_rfl) ?_;simp[Nk,qX];try simp (disch:=omega) only[Al]) | refine Aq ?_ | (refine Bi ?_ ?_ ?_;(· (simp[qX];done));(try (rotate_left;(· (intro hc;(try simp[qX]at hc);done))))) | (refine AN ?_;simp[results72,qX]) | ((first | refine AB ?_ | refine AA ?_);simp[qX]) | (intro hc;(try simp[qX]at hc);(try (exfalso;omega))) | (refine⟨?_,?_⟩; · omega) | omega | apply_assumption -exfalso -symm | (exfalso;omega)))
 refine BO 3 50 68 3 32 (by simp[qX,results72,Nk]) (fun n=> ?_);exact Av Ab Ab (AD hb)

end Go.Proofs.Wy
end
section
namespace Go.Proofs.Wy
open Go Go.Dm Tryz
attribute [local irreducible] DW Bs Bt
set_option maxRecDepth 100000
mutual
theorem Rp : ∀(t t':RT) (r r':List Nd),Ew t=true->Ew t'=true->flat t++r=flat t'++r'->t=t'/\r=r'
 | .mk x ks,.mk x' ks',r,r',h,h',he=>by
  rw[AO,AO,List.cons_append,List.cons_append]at he;injection he with h1 h2
  subst h1;have h3:=(Cj h).2.1;have h4:=(Cj h').2.1;obtain⟨h5,h6⟩:=TS ks ks' r r' (Cj h).2.2 (Cj h').2.2 (by omega) h2;exact⟨by rw[h5],h6⟩
theorem TS : ∀(ks ks':List RT) (r r':List Nd),FJ ks=true->FJ ks'=true->ks.length=ks'.length->Ak ks++r=Ak ks'++r'->ks=ks'/\r=r'
 | [],[],r,r',_,_,_,he=>by rw[Ch]at he;exact⟨rfl,by simpa using he⟩
 | [],_::_,_,_,_,_,hl,_=>by simp at hl
 | _::_,[],_,_,_,_,hl,_=>by simp at hl
 | u::us,u'::us',r,r',h,h',hl,he=>by
  rw[Ap,Ap,aV0,aV0]at he;obtain⟨h1,h2⟩:=Rp u u' _ _ (BM h).1 (BM h').1 he;obtain⟨h3,h4⟩:=TS us us' r r' (BM h).2 (BM h').2 (by simpa using hl) h2;exact⟨by rw[h1,h3],h4⟩
end
theorem Td : ∀(ts ts':List RT),(∀t∈ts,Ew t=true)->(∀t∈ts',Ew t=true)->ts.map flat=ts'.map flat->ts=ts'
 | [],[],_,_,_=>rfl
 | [],_::_,_,_,h=>by simp at h
 | _::_,[],_,_,h=>by simp at h
 | t::ts,t'::ts',h,h',he=>by
  rw[List.map_cons,List.map_cons]at he;injection he with h1 h2
  have h3:=(Rp t t' [] [] (h t aI0) (h' t' aI0) (by rw[h1])).1;have h4:=Td ts ts' (fun u hu=>h u (aG0 _ hu)) (fun u hu=>h' u (aG0 _ hu)) h2;rw[h3,h4]
theorem GV_ (g:List Rul) (ts:List RT) (qW:∀t∈ts,Ew t=true):lO (Ax g) (Ay g) ts=xU g ts:=by
 unfold lO xU Kg EM Hp;rw[Em_ _ ts qW]
end Go.Proofs.Wy
end
