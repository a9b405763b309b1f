/- Parts of a proof, laid together: BP1, RB7, RB8, BX4, BX6, RB9, BX2, RB10. -/
import Derived.Test.YtbpmiknobocjoaaGreatqAp17
import Derived.Test.YtbpmiknobocjoaaGreatqAp24
import Derived.Test.YtbpmiknobocjoaaGreatqAp31
import Derived.Test.YtbpmiknobocjoaaGreatqAp32
import Derived.Test.YtbpmiknobocjoaaGreatqAp34
import Derived.Test.YtbpmiknobocjoaaGreatqAp35
import Derived.Test.YtbpmiknobocjoaaGreatqAp36
import Derived.Test.YtbpmiknobocjoaaGreatqAp37
set_option linter.unusedSimpArgs false
set_option maxHeartbeats 8000000
set_option linter.unusedVariables false
set_option linter.unusedSectionVars false
section
namespace Go.Proofs.Wy
open Go Go.Dm Go.Shelf Tryz
variable [DMode]
attribute [local irreducible] DW BN BS
set_option maxRecDepth 100000
abbrev Zl : DVal:= .agg [.int .i64 0,.nilsl,.nilsl]
abbrev Cc (ls:List (List Nd)):DVal:= .sl 1 24 (ls.map Fg)
theorem YZ (l:List Arc):Bj prog (.func 54) [.osl 0 0] [⟨0,0,.row 42 4 32 (l.map AN)⟩] (BR (Cy (fun x y=>CW x y==0) l)) []:=Tl l
theorem Qz (l:List Nat):Bj prog (.func 53) [.osl 0 0] [⟨0,0,.row 3 1 8 (l.map Bd)⟩] (.tup []) [⟨0,0,.row 3 1 8 ((Jt (l.map aM)).map Dj)⟩]:=by
 have h:=SQ (l.map aM);rw[cC0]at h;exact h
structure BoxR (H L:List ByteArray) (ls:List (List Nd)) (R:DVal):Prop where
 a:HI ls≠0->R= .tup [Zl,.int .i64 (HI ls)]
 b:HI ls=0->ls.any (Hb H L)=true->R= .tup [Zl,.int .i64 4]
 c:HI ls=0->ls.any (Hb H L)=false->64<Cw ls->R= .tup [Zl,.int .i64 183]
 d:HI ls=0->∀ts,ls=ts.map Ad->(∀t∈ts,ED t=true/\(Ad t).length<=2048)->ls.any (Hb H L)=false->Cw ls<=64->R= .tup [lY H L ts,.int .i64 0]
def Ht : Ann:=⟨[77,89,94,100,105,114,126],[⟨16,[13],[],[]⟩,⟨17,[14],[],[]⟩,⟨30,[20],[],[]⟩,⟨38,[201,77],[],[]⟩,⟨39,[],[],[0,1,2,3,4,5,6]⟩]⟩
theorem AL_ (H L:List ByteArray) (ls:List (List Nd)) (R:DVal) (hH:H.length≠0) (hR:BoxR H L ls R) (hm:mx R=0):Af prog 19 [CB H L,Cc ls] R:=by
 refine Ae [94,4] Ht func19 call19 ntmps19 mxd (AB @Ht.eq_1 results19) rfl (fun qJ B qX qQ=> ?_) (hd:=(by simpa using hm))
 have bW:ls.length*24<=150000000000000:=by
  have h1:=qJ.2.1;simp only[Ev,aJ0]at h1;exact h1.1
 clear qJ;simp only[Aq];have e1:=MP H L
 (refine AL (AH e1) Ab (AH hH) ?_;intros;refine Am ?_)
 clear hH;refine Ai (X:={k:Nat//k<=ls.length/\HI ls=HI (ls.drop k)}) (fun k=>⟨[(1,Cc ls),(2,.ref [CB H L]),(4,.bx 4 1 0),(5,.int .i64 0),(32,Cc ls),(33,.int .i64 ls.length),(34,.int .i64 k.1)],[⟨4,1,.box [.int .i64 0,.nilsl,.nilsl]⟩]⟩) (fun k=>ls.length-k.1) ⟨0,by simp⟩ (Sub.lit (by simp)) ?_;rintro⟨k,hk,jB⟩;simp only
 by_cases qV:k<ls.length
 ·obtain⟨l,hl,wW,dN⟩:=Ap qV;rw[aR0 qV,wW,HI]at jB;have e2:=Gg_ l
  by_cases hc:Jz l=0
  ·rw[if_pos hc]at jB;rw[hc]at e2
   (refine AL (AH e2) Ab (IF qV hl wW @Fg.eq_1) ?_;intros;refine Am ?_)
   exact Al.mk ⟨k+1,by omega,jB⟩ (Sub.lit (by simp)) (by simp;omega)
   skip
  ·rw[if_neg hc]at jB;have fK:=hR.a (by rw[jB];exact hc);rw[jB]at fK;rw[fK];have hcb:(Jz l==0)=false:=by simpa using hc
   exact Az (AH e2) Ab (Jm qV hl wW @Fg.eq_1 hc hcb)
 have qZ:k=ls.length:=by omega
 subst qZ;rw[bU0]at jB;have vL:HI ls=0:=jB;obtain⟨ts,vC,bT⟩:=Jf vL;clear jB hk;have yK:ls.length=ts.length:=by rw[vC,aJ0]
 have hocl:=Vx ts fun t ht=>(bT t ht).2
 rw[<-vC]at hocl
 (refine AL Ab Ab Ab ?_;intros;refine Am ?_)
 refine Ai (X:={k:Nat//k<=ls.length/\(ls.take k).any (Hb H L)=false}) (fun k=>⟨[(1,Cc ls),(2,.ref [CB H L]),(4,.bx 4 1 0),(5,.int .i64 0),(9,.int .i64 (Cw (ls.take k.1))),(45,Cc ls),(46,.int .i64 ls.length),(47,.int .i64 k.1)],[⟨4,1,.box [.int .i64 0,.nilsl,.nilsl]⟩]⟩) (fun k=>ls.length-k.1) ⟨0,by simp⟩ (Sub.lit (by simp[XV])) ?_;rintro⟨k,hk,zX⟩;simp only
 by_cases qV:k<ls.length
 ·obtain⟨l,hl,wW,dN⟩:=Ap qV
  have hll:l.length<=2048:=by
   rw[vC]at dN;obtain⟨t,ht,rfl⟩:=aT0.1 dN;exact(bT t ht).2
  have hos:=TQ (ls.take k) l;rw[<-Bh hl]at hos;have hot:=TP (ls:=ls) (k:=k+1);obtain⟨m,jF⟩:∃m,m=Cw (ls.take k):=⟨_,rfl⟩;rw[<-jF]at hos |-;have e5:=QZ l;have hw5:IntKind.i64.wrap ((m:Int)+(HC l:Int))=(Cw (ls.take (k+1)):Int):=by rw[wq,hos];omega
  (refine AL Ab Ab (IF qV hl wW @Fg.eq_1) ?_;intros;refine Am ?_)
  refine Ai (X:={j:Nat//j<=l.length/\Hb H L (l.take j)=false}) (fun j=>⟨[(1,Cc ls),(2,.ref [CB H L]),(4,.bx 4 1 0),(5,.int .i64 0),(9,.int .i64 m),(11,AM l),(45,Cc ls),(46,.int .i64 ls.length),(47,.int .i64 k),(51,AM l),(52,.int .i64 l.length),(53,.int .i64 j.1)],[⟨4,1,.box [.int .i64 0,.nilsl,.nilsl]⟩]⟩) (fun j=>l.length-j.1) ⟨0,by simp[Hb]⟩ (Sub.lit (by simp)) ?_;rintro⟨j,hj,nZ⟩;simp only
  by_cases qL:j<l.length
  ·obtain⟨x,hx,qB,vD⟩:=Ap qL;have e3:=Qv H L x
   have wI:Hb H L (l.take (j+1))=decide (Qu H L x=4):=by
    unfold Hb at nZ |-;rw[Bh hx,eL0,nZ];simp
   obtain⟨E,hE⟩:∃E,E=Qu H L x:=⟨_,rfl⟩;rw[<-hE]at e3 wI;simp only[Bo,Ch]at e3
   by_cases h4:E=4
   ·have yQ:ls.any (Hb H L)=true:=by
     rw[cF0];refine⟨l,dN,?_⟩;unfold Hb;rw[cF0];exact⟨x,vD,by rw[<-hE];simp[h4]⟩
    rw[hR.b vL yQ];exact Az (AH e3) Ab (Lj @Bo.eq_1 qL hx qB h4)
   ·have h4b:(E==4)=false:=by simpa using h4
    rw[decide_eq_false h4]at wI
    (refine AL (AH e3) Ab (Jm @Bo.eq_1 qL hx qB h4 h4b) ?_;intros;refine Am ?_)
    refine Al.mk ⟨j+1,by omega,wI⟩ (Sub.lit (by simp)) (by simp;omega)
    skip
  ·have qZ:j=l.length:=by omega
   subst qZ;rw[aU0]at nZ;have hno2:(ls.take (k+1)).any (Hb H L)=false:=by rw[Bh hl,eL0,zX];simp[nZ]
   (refine AL (AH e5) Ab (AH hw5) ?_;intros;refine Am ?_)
   refine Al.mk ⟨k+1,by omega,hno2⟩ (Sub.lit (by simp)) (by simp;omega)
   skip
 have qZ:k=ls.length:=by omega
 subst qZ;rw[aU0]at zX;clear hk qV
 by_cases kA:64<Cw ls
 ·have hRc:=hR.c vL zX kA;have d1:(64:Int)<(Cw ls:Int):=by omega
  exact Az Ab Ab (CL d1 kA hRc)
 have zO:=hR.d vL ts vC bT zX (by omega);have hoc:=IV ts;rw[<-vC]at hoc;have d1:¬(64:Int)<(Cw ls:Int):=by omega
 (refine AL Ab Ab (AB d1 kA) ?_;intros;refine Am ?_)
 have hlv64:(BY ts).length<=64:=by omega
 obtain⟨SF,cO⟩:∃SF,SF=NN (Ew H L) ts:=⟨_,rfl⟩
 have wL:∀k,(BY (ts.take k)).length<=64/\NN (Ew H L) (ts.take k) <+: SF:=fun k=>by
  have h1:=sC (us:=ts.take k) (vs:=ts.drop k);have h2:=Ff_ (Ew H L) (ts.take k) (ts.drop k);rw[List.take_append_drop]at h1 h2;rw[cO];exact⟨by omega,h2⟩
 have zA:∀k,(KC SF (ts.take k)).length<=1073741824:=fun k=>by
  have h1:=Vo (ts.take k) 0 (fun t ht=>(bT t (cZ0 ht)).2) (wL k).1;unfold KC;rw[KZ];have:=(wL k).1;omega
 have vI:∀k,(RL (ts.take k)).length<=64/\(Ou (ts.take k)).length<=64:=fun k=>by
  have h1:=Wd (ts.take k) 0;have h2:=sH (ts.take k) 0;have:=(wL k).1;exact⟨by unfold RL;omega,by unfold Ou;omega⟩
 have z0:KC SF []=[]:=rfl;have z1:NN (Ew H L) []=[]:=rfl;have z2:RL []=[]:=rfl;have z3:Ou []=[]:=rfl;have z4:Ep []=false:=by rw[Ep]
 refine Ct 77 0 201 40 2 16 (by simp) (fun n1=> ?_);refine Ct 77 1 202 42 4 32 (by simp) (fun n2=> ?_);refine Ct 17 2 94 3 1 8 (by simp) (fun n3=> ?_);refine Ql 17 1 1 8 rfl rfl ?_
 refine Ai (X:={k:Nat//k<=ts.length}) (fun k=>⟨[(2,.ref [CB H L]),(4,.bx 4 1 0),(16,.bx 77 1 0),(17,.bx 17 1 0),(79,Cc ls),(80,.int .i64 ls.length),(81,.int .i64 k.1)],
  [⟨4,1,.box [.int .i64 0,.nilsl,.nilsl]⟩,⟨77,1,.box [.osl 201 1,.osl 202 1]⟩,⟨201,1,.row 40 2 16 ((NN (Ew H L) (ts.take k.1)).map Ch)⟩,⟨202,1,.row 42 4 32 ((KC SF (ts.take k.1)).map AN)⟩,⟨17,1,.box [.bool (Ep (ts.take k.1)),CI (RL (ts.take k.1)),.osl 94 1]⟩,⟨94,1,.row 3 1 8 ((Ou (ts.take k.1)).map Bd)⟩]⟩) (fun k=>ts.length-k.1) ⟨0,by simp⟩ (Sub.lit (by simp[z0,z1,z2,z3,z4])) ?_
 rintro⟨k,hk⟩;simp only
 by_cases qV:k<ts.length
 ·obtain⟨t,ht,nQ,htm⟩:=Ap qV;obtain⟨qG,rQ⟩:=bT t htm;have gP:ls[k]? =some (Ad t):=by rw[vC,bH0,ht];rfl
  have zC:k<ls.length:=by omega
  have yZ:ls[k]'zC=Ad t:=(aB0.1 gP).2;have cX:=wL (k+1);have y1:=Cq_ H L (ts.take k) t;have y2:=Bn_ (ts.take k) t;have y3:=AZ_ (ts.take k) t;have y4:=oB SF (ts.take k) t;have y5:=SD (ts.take k) t;have y6:=Rk (ts.take k) t;rw[<-Bh ht]at y1 y2 y3 y4 y5 y6;have y7:=congrArg List.length y6;rw[aD0]at y7;have hA:=zA k;have hF:=vI k;have hF1:=vI (k+1);have e6:=Qq H L (Ad t) (BY (ts.take k)).length SF (by rw[<-y7];exact cX.1) _ t (Nat.le_refl _) qG 0 [] (NN (Ew H L) (ts.take k)) (KC SF (ts.take k)) (by simp) (by rw[PL,QF];rfl) (by rw[y1];exact cX.2) (by omega)
  rw[y1,y4,bR0]at e6;have g1:=congrArg List.length y2;have g2:=congrArg List.length y3;rw[aD0]at g1 g2;have e7:=oI (Ep (ts.take k)) (BZ t) (RL (ts.take k)) (Iq (Ad t) (BY (ts.take k)).length t 0) (Ou (ts.take k)) (Lr (Ad t) (BY (ts.take k)).length t 0) (by omega) (by omega);rw[y5,y2,y3]at e7;refine ER (Sub.freezeL [94] _) ?_;simp
  (repeat (first | refine AC fun K hK=> ?_ | (refine BA Ht mxd (by kernel_rfl) ?_;simp[Ht,qX,BC,zC,gP,yZ,Fg];try simp (disch:=omega) only[Ag]) | refine Ao ?_ | (refine AX ?_ ?_ ?_;(· (simp[qX,BC,zC,gP,yZ,Fg];done));(try (rotate_left;(· (intro hc;(try simp[qX,BC,zC,gP,yZ,Fg]at hc);done))))) | (refine AE ?_;simp[results19,qX,BC,zC,gP,yZ,Fg]) | ((first | refine Aw ?_ | refine Av ?_);simp[qX,BC,zC,gP,yZ,Fg]) | (intro hc;(try simp[qX,BC,zC,gP,yZ,Fg]at hc);(try (exfalso;omega))) | (refine AO [(77,0),(201,1),(202,2)] [] (e6) ?_ ?_;(· (simp[qX,BC,zC,gP,yZ,Fg];done));(intro _;try simp[qX,BC,zC,gP,yZ,Fg])) | (refine AO [] [(94,0)] (e7) ?_ ?_;(· (simp[qX,BC,zC,gP,yZ,Fg];done));(intro _;try simp[qX,BC,zC,gP,yZ,Fg])) | (refine⟨?_,?_⟩; · omega) | omega | apply_assumption -exfalso -symm | (exfalso;omega)))
  refine Al.mk ⟨k+1,by omega⟩ (Sub.lit (by simp)) (by simp;omega)
  skip
 ·have qZ:k=ts.length:=by omega
  subst qZ;rw[aU0];have hA:=zA ts.length;have hF:=vI ts.length;have hP:=wL ts.length;rw[aU0]at hA hF hP;have e8:=Kj SF SF (KC SF ts) [0] (RL ts) (List.prefix_refl _) (fun q hq=>by have:=Wc ts 0 q hq;rw[cO,PL];omega) (by rw[cO,PL];omega) (by simp;omega);have y8:=BI_ (Ew H L) ts;rw[<-cO]at y8;rw[y8]at e8;have e9:=Xj (FV (Ew H L) ts);have e11:=YZ (JL CW (FV (Ew H L) ts));rw[<-cO];have wA:¬(ts.length:Int)<(ls.length:Int):=by omega
  have hSl:SF.length=(BY ts).length:=by rw[cO,PL]
  have vU:IntKind.i64.wrap ((SF.length:Int)+1)=((BY ts).length:Int)+1:=by rw[hSl];exact wq
  have yW:=DV_ ts fun t ht=>(bT t ht).1
  unfold lY UC at zO;obtain⟨CZ,hCZ⟩:∃CZ,CZ=Cy (fun x y=>CW x y==0) (JL CW (FV (Ew H L) ts)):=⟨_,rfl⟩;rw[<-hCZ]at zO e11;obtain⟨FR,hFR⟩:∃FR,FR=Hp ts:=⟨_,rfl⟩;rw[<-hFR]at zO yW;cases hE:Ep ts
  ·have e10:=Qz (Ou ts)
   have nR:Jt ((Ou ts).map aM)=FR:=by
    rw[hE]at yW;simp only[aQ0,if_false,bR0]at yW;exact yW
   rw[nR]at e10
   (repeat (first | refine AC fun K hK=> ?_ | (refine BA Ht mxd (by kernel_rfl) ?_;simp[Ht,qX,BC,wA,Bd,vU,zO];try simp (disch:=omega) only[Ag]) | refine Ao ?_ | (refine AX ?_ ?_ ?_;(· (simp[qX,BC,wA,Bd,vU,zO];done));(try (rotate_left;(· (intro hc;(try simp[qX,BC,wA,Bd,vU,zO]at hc);done))))) | (refine AE ?_;simp[results19,qX,BC,wA,Bd,vU,zO]) | ((first | refine Aw ?_ | refine Av ?_);simp[qX,BC,wA,Bd,vU,zO]) | (intro hc;(try simp[qX,BC,wA,Bd,vU,zO]at hc);(try (exfalso;omega))) | (refine AO [(77,0),(201,1),(202,2)] [] (e8) ?_ ?_;(· (simp[qX,BC,wA,Bd,vU,zO];done));(intro _;try simp[qX,BC,wA,Bd,vU,zO])) | (refine AO [(202,0)] [] (e9) ?_ ?_;(· (simp[qX,BC,wA,Bd,vU,zO];done));(intro _;try simp[qX,BC,wA,Bd,vU,zO])) | (refine AO [(94,0)] [] (e10) ?_ ?_;(· (simp[qX,BC,wA,Bd,vU,zO];done));(intro _;try simp[qX,BC,wA,Bd,vU,zO])) | (refine AO [(202,0)] [] (e11) ?_ ?_;(· (simp[qX,BC,wA,Bd,vU,zO];done));(intro _;try simp[qX,BC,wA,Bd,vU,zO])) | (refine⟨?_,?_⟩; · omega) | omega | apply_assumption -exfalso -symm | (exfalso;omega)))
  ·have e10:=Qz (Ou ts++[0])
   have nR:Jt ((Ou ts++[0]).map aM)=FR:=by
    rw[hE]at yW;simp only[if_true]at yW;rw[bD0];exact yW
   rw[nR]at e10;have hb:((Ou ts).length+1)*8<=150000000000000:=by omega
   (repeat (first | refine AC fun K hK=> ?_ | (refine BA Ht mxd (by kernel_rfl) ?_;simp[Ht,qX,BC,wA,Bd,vU,zO,hb];try simp (disch:=omega) only[Ag]) | refine Ao ?_ | (refine AX ?_ ?_ ?_;(· (simp[qX,BC,wA,Bd,vU,zO,hb];done));(try (rotate_left;(· (intro hc;(try simp[qX,BC,wA,Bd,vU,zO,hb]at hc);done))))) | (refine AE ?_;simp[results19,qX,BC,wA,Bd,vU,zO,hb]) | ((first | refine Aw ?_ | refine Av ?_);simp[qX,BC,wA,Bd,vU,zO,hb]) | (intro hc;(try simp[qX,BC,wA,Bd,vU,zO,hb]at hc);(try (exfalso;omega))) | (refine AO [(77,0),(201,1),(202,2)] [] (e8) ?_ ?_;(· (simp[qX,BC,wA,Bd,vU,zO,hb];done));(intro _;try simp[qX,BC,wA,Bd,vU,zO,hb])) | (refine AO [(202,0)] [] (e9) ?_ ?_;(· (simp[qX,BC,wA,Bd,vU,zO,hb];done));(intro _;try simp[qX,BC,wA,Bd,vU,zO,hb])) | (refine AO [(94,0)] [] (e10) ?_ ?_;(· (simp[qX,BC,wA,Bd,vU,zO,hb];done));(intro _;try simp[qX,BC,wA,Bd,vU,zO,hb])) | (refine AO [(202,0)] [] (e11) ?_ ?_;(· (simp[qX,BC,wA,Bd,vU,zO,hb];done));(intro _;try simp[qX,BC,wA,Bd,vU,zO,hb])) | (refine⟨?_,?_⟩; · omega) | omega | apply_assumption -exfalso -symm | (exfalso;omega)))
end Go.Proofs.Wy
end
section
namespace Go.Proofs.Wy
open Go Go.Dm Tryz
variable [DMode]
attribute [local irreducible] DW BN BS
set_option maxRecDepth 100000
noncomputable def Hu (H L:List ByteArray) (ls:List (List Nd)):Int:=if HI ls=0 then (if ls.any (Hb H L)=true then 4 else if 64<Cw ls then 183 else 0)else HI ls
def uK : Ann:=⟨[],[⟨15,[10],[],[]⟩]⟩
theorem UP (g:List Rul) (ls:List (List Nd)) (hn:((AK 3 g).length+1)*16<=150000000000000):Af prog 63 [Au g,Cc ls] (.int .i64 (Hu (AD g) (AG g) ls)):=by
 refine Ae [] uK func63 call63 ntmps63 mxd (AB @uK.eq_1 results63) rfl (fun qJ B qX qQ=> ?_)
 have bW:ls.length*24<=150000000000000:=by
  have h1:=qJ.2.1;simp only[Ev,aJ0]at h1;exact h1.1
 clear qJ;simp only[Aq];have eS:=fun x=>MC g x hn
 obtain⟨H,hH⟩:∃H,H=AD g:=⟨_,rfl⟩;obtain⟨L,hL⟩:∃L,L=AG g:=⟨_,rfl⟩;simp only[<-hH,<-hL]at eS |-;clear hH hL;obtain⟨W,hW⟩:∃W,W=Hu H L ls:=⟨_,rfl⟩;rw[<-hW];unfold Hu at hW
 (refine AL Ab Ab Ab ?_;intros;refine Am ?_)
 refine Ai (X:={k:Nat//k<=ls.length/\HI ls=HI (ls.drop k)}) (fun k=>⟨[(0,Au g),(1,Cc ls),(5,.int .i64 k.1)],[]⟩) (fun k=>ls.length-k.1) ⟨0,by simp⟩ (Sub.lit (by simp)) ?_;rintro⟨k,hk,jB⟩;simp only
 by_cases qV:k<ls.length
 ·obtain⟨l,hl,wW,dN⟩:=Ap qV;rw[aR0 qV,wW,HI]at jB;have e2:=Gf_ l;have vQ:IntKind.i64.wrap ((k:Int)+1)=(k:Int)+1:=wq
  by_cases hc:Jz l=0
  ·rw[if_pos hc]at jB;rw[hc]at e2
   (refine AL (AH e2) Ab (Lj qV hl wW @Fg.eq_1 vQ) ?_;intros;refine Am ?_)
   exact Al.mk ⟨k+1,by omega,jB⟩ (Sub.lit (by simp)) (by simp;omega)
   skip
  ·rw[if_neg hc]at jB;rw[if_neg (by rw[jB];exact hc),jB]at hW;have hcb:(Jz l==0)=false:=by simpa using hc
   exact Az (AH e2) Ab (IH qV hl wW @Fg.eq_1 hc hcb hW)
 have qZ:k=ls.length:=by omega
 subst qZ;rw[bU0]at jB;have vL:HI ls=0:=jB;rw[if_pos vL]at hW;obtain⟨ts,vC,bT⟩:=Jf vL;clear jB hk;have yK:ls.length=ts.length:=by rw[vC,aJ0]
 have hocl:=Vx ts fun t ht=>(bT t ht).2
 rw[<-vC]at hocl
 (refine AL Ab Ab Ab ?_;intros;refine Am ?_)
 refine Ai (X:={k:Nat//k<=ls.length/\(ls.take k).any (Hb H L)=false}) (fun k=>⟨[(0,Au g),(1,Cc ls),(7,.int .i64 (Cw (ls.take k.1))),(8,.int .i64 k.1)],[]⟩) (fun k=>ls.length-k.1) ⟨0,by simp⟩ (Sub.lit (by simp[XV])) ?_;rintro⟨k,hk,zX⟩;simp only
 by_cases qV:k<ls.length
 ·obtain⟨l,hl,wW,dN⟩:=Ap qV
  have hll:l.length<=2048:=by
   rw[vC]at dN;obtain⟨t,ht,rfl⟩:=aT0.1 dN;exact(bT t ht).2
  have hos:=TQ (ls.take k) l;rw[<-Bh hl]at hos;have hot:=TP (ls:=ls) (k:=k+1);obtain⟨m,jF⟩:∃m,m=Cw (ls.take k):=⟨_,rfl⟩;rw[<-jF]at hos |-;have e5:=ME l;have hw5:IntKind.i64.wrap ((m:Int)+(HC l:Int))=(Cw (ls.take (k+1)):Int):=by rw[wq,hos];omega
  have vQ:IntKind.i64.wrap ((k:Int)+1)=(k:Int)+1:=wq
  (refine AL (AH e5) Ab (Lj qV hl wW @Fg.eq_1 hw5) ?_;intros;refine Am ?_)
  refine Ai (X:={j:Nat//j<=l.length/\Hb H L (l.take j)=false}) (fun j=>⟨[(0,Au g),(1,Cc ls),(7,.int .i64 (Cw (ls.take (k+1)))),(8,.int .i64 k),(9,.int .i64 j.1)],[]⟩) (fun j=>l.length-j.1) ⟨0,by simp[Hb]⟩ (Sub.lit (by simp)) ?_;rintro⟨j,hj,nZ⟩;simp only
  by_cases qL:j<l.length
  ·obtain⟨x,hx,qB,vD⟩:=Ap qL;have e3:=eS x;have fE:IntKind.i64.wrap ((j:Int)+1)=(j:Int)+1:=wq
   have wI:Hb H L (l.take (j+1))=decide (Qu H L x=4):=by
    unfold Hb at nZ |-;rw[Bh hx,eL0,nZ];simp
   obtain⟨E,hE⟩:∃E,E=Qu H L x:=⟨_,rfl⟩;rw[<-hE]at e3 wI;simp only[Bo,Ch]at e3
   by_cases h4:E=4
   ·have yQ:ls.any (Hb H L)=true:=by
     rw[cF0];refine⟨l,dN,?_⟩;unfold Hb;rw[cF0];exact⟨x,vD,by rw[<-hE];simp[h4]⟩
    rw[if_pos yQ]at hW;exact Az (AH e3) Ab (Ml @Bo.eq_1 @Fg.eq_1 qV hl wW qL hx qB h4 hW)
   ·have h4b:(E==4)=false:=by simpa using h4
    rw[decide_eq_false h4]at wI
    (refine AL (AH e3) Ab (JE @Bo.eq_1 @Fg.eq_1 qV hl wW qL hx qB h4 h4b fE) ?_;intros;refine Am ?_)
    refine Al.mk ⟨j+1,by omega,wI⟩ (Sub.lit (by simp)) (by simp;omega)
    skip
  ·have qZ:j=l.length:=by omega
   subst qZ;rw[aU0]at nZ;have hno2:(ls.take (k+1)).any (Hb H L)=false:=by rw[Bh hl,eL0,zX];simp[nZ]
   (refine AL Ab Ab (Lj @Fg.eq_1 qV hl wW vQ) ?_;intros;refine Am ?_)
   refine Al.mk ⟨k+1,by omega,hno2⟩ (Sub.lit (by simp)) (by simp;omega)
   skip
 have qZ:k=ls.length:=by omega
 subst qZ;rw[aU0]at zX;clear hk qV;rw[if_neg (by rw[zX];simp)]at hW
 by_cases kA:64<Cw ls
 ·rw[if_pos kA]at hW;have d1:(64:Int)<(Cw ls:Int):=by omega
  exact Az Ab Ab (CL d1 kA hW)
 ·rw[if_neg kA]at hW;have d1:¬(64:Int)<(Cw ls:Int):=by omega
  exact Az Ab Ab (CL d1 kA hW)
theorem eZ (l:List Nd):(Gi l l.length).length=(Cq l).length:=by rw[KO (Nat.le_refl _),Hi]
theorem UD (sy:Nd->Sym):∀(ts:List RT) (ah:Nat),(BY ts).length<=64->(FJ sy ah ts).length<=65*(BY ts).length
 | [],ah,_=>by simp[FJ]
 | t::ts,ah,h=>by
  have h1:BY (t::ts)=Cq (Ad t)++BY ts:=by simp[BY]
  rw[h1,aD0]at h |-;have ih:=UD sy ts (ah+(Cq (Ad t)).length) (by omega);have h2:=eZ (Ad t);have h3:=OE sy ah t (by omega) (Gi (Ad t) (Ad t).length);have h4:FJ sy ah (t::ts)=EZ sy ah t (Gi (Ad t) (Ad t).length)++FJ sy (ah+(Cq (Ad t)).length) ts:=rfl;rw[h4,aD0];omega
def KD (sy:Nd->Sym) (us:List RT):List Arc:=ET [] (FJ sy 0 us)
theorem oC (sy:Nd->Sym) (us:List RT) (t:RT):ET (KD sy us) (EZ sy (BY us).length t (Gi (Ad t) (Ad t).length))=KD sy (us++[t]):=by
 unfold KD;rw[Sy,Il,bQ0];rfl
theorem BK_ (sy:Nd->Sym) (us:List RT) (h:(BY us).length<=64):(KD sy us).length<=4160:=by
 have h1:=MV [] (FJ sy 0 us);have h2:=UD sy us 0 h;unfold KD;simp only[List.length_nil]at h1;omega
def MY (us:List RT):List Nat:=FG 0 us
def Tk (t:RT) (ah:Nat) (ps:List Nat):List Nat:=(ps.filter (Nc t 0)).map (Fi (Ad t) ah)
theorem Br_ (t:RT) (ah:Nat) (ps:List Nat) (p:Nat):Tk t ah (ps++[p])=Tk t ah ps++(if Nc t 0 p=true then [Fi (Ad t) ah p]else []):=by
 unfold Tk;rw[dI0,bD0];cases h:Nc t 0 p<;>simp[h]
theorem DX_ (t:RT) (ah:Nat):Tk t ah []=[]:=rfl
theorem DY_ (t:RT) (ah:Nat) (ps:List Nat):(Tk t ah ps).length<=ps.length:=by unfold Tk;rw[aJ0];exact cM0 _ _
theorem Bt_ (us:List RT) (t:RT):MY us++Tk t (BY us).length (Gi (Ad t) (Ad t).length)=MY (us++[t]):=by unfold MY Tk;rw[Up,bQ0]
theorem RM : ∀(ts:List RT) (ah:Nat),(FG ah ts).length<=(BY ts).length
 | [],ah=>by simp[FG]
 | t::ts,ah=>by
  have h1:BY (t::ts)=Cq (Ad t)++BY ts:=by simp[BY]
  have ih:=RM ts (ah+(Cq (Ad t)).length);have h2:=eZ (Ad t);have h3:((Gi (Ad t) (Ad t).length).filter (Nc t 0)).length<=(Gi (Ad t) (Ad t).length).length:=cM0 _ _;rw[FG,h1,aD0,aD0,aJ0];omega
def Av_ (g:List Rul) (ts:List RT):DVal:=UC ((BY ts).length+1) (Hp ts) (KD (HO g) ts)
theorem DW_ (ts:List RT):CQ (Hp ts)= .sl 1 8 ((if Ep ts=true then [Bd 0]else [])++(MY ts).map Bd):=by
 unfold Hp MY;rw[show CQ ((if Ep ts then [0]else [])++(FG 0 ts).map aM)= .sl 1 8 (((if Ep ts then [0]else [])++(FG 0 ts).map aM).map Dj) from rfl,bD0,cC0];cases Ep ts<;>rfl
def WF : Ann:=⟨[63,79,84],[]⟩
theorem eN (g:List Rul) (ls:List (List Nd)) (R:DVal) (hn:((AK 3 g).length+1)*16<=150000000000000) (hm:mx R=0)
  (hRa:Hu (AD g) (AG g) ls≠0->R= .tup [Zl,.int .i64 (Hu (AD g) (AG g) ls)])
  (zO:∀ts,ls=ts.map Ad->(∀t∈ts,ED t=true/\(Ad t).length<=2048)->Cw ls<=64->Hu (AD g) (AG g) ls=0->R= .tup [Av_ g ts,.int .i64 0]):Af prog 35 [Au g,Cc ls] R:=by
 refine Ae [51,4] WF func35 call35 ntmps35 mxd (AB @WF.eq_1 results35) rfl (fun qJ B qX qQ=> ?_) (hd:=(by simpa using hm))
 have bW:ls.length*24<=150000000000000:=by
  have h1:=qJ.2.1;simp only[Ev,aJ0]at h1;exact h1.1
 clear qJ;simp only[Aq];have e1:=UP g ls hn;obtain⟨W,hW⟩:∃W,W=Hu (AD g) (AG g) ls:=⟨_,rfl⟩;simp only[<-hW]at e1 hRa zO
 by_cases h0:W=0
 ·have vC:∃ts:List RT,ls=ts.map Ad/\(∀t∈ts,ED t=true/\(Ad t).length<=2048)/\Cw ls<=64:=by
   rw[h0]at hW;unfold Hu at hW
   split at hW
   ·rename_i he;obtain⟨ts,h1,h2⟩:=Jf he;refine⟨ts,h1,h2,?_⟩
    split at hW
    ·omega
    ·split at hW
     ·omega
     ·omega
   ·rename_i he;exact absurd hW.symm he
  obtain⟨ts,vC,bT,hoc⟩:=vC;have fK:=zO ts vC bT hoc h0;have hoc2:=IV ts;rw[<-vC]at hoc2;have gK:(BY ts).length<=64:=by omega
  have yK:ls.length=ts.length:=by rw[vC,aJ0]
  rw[h0]at e1;clear hW hRa zO
  (refine AL (AH e1) Ab Ab ?_;intros;refine Am ?_)
  have wL:∀k,(BY (ts.take k)).length<=64:=fun k=>by
   have h1:=sC (us:=ts.take k) (vs:=ts.drop k);rw[List.take_append_drop]at h1;omega
  have z1:BY []=[]:=rfl;have z2:KD (HO g) []=[]:=rfl;have z3:MY []=[]:=rfl;have z4:Ep []=false:=by rw[Ep]
  refine BM 8 50 3 1 8 (by simp[qX,results35,WF]) (fun n1=> ?_);refine Ql 7 2 4 32 rfl rfl ?_
  refine Ai (X:={k:Nat//k<=ts.length}) (fun k=>⟨[(0,Au g),(1,Cc ls),(4,.bx 4 1 0),(7,.bx 7 1 0),(8,.osl 50 1),(9,.bool (Ep (ts.take k.1))),(10,.int .i64 k.1)],
   [⟨4,1,.box [.int .i64 0,.nilsl,.nilsl]⟩,⟨7,1,.box [.int .i64 ((BY (ts.take k.1)).length+1),.nilsl,BR (KD (HO g) (ts.take k.1))]⟩,⟨50,1,.row 3 1 8 ((MY (ts.take k.1)).map Bd)⟩]⟩) (fun k=>ts.length-k.1) ⟨0,by simp⟩ (Sub.lit (by simp[z1,z2,z3,z4])) ?_
  rintro⟨k,hk⟩;simp only
  by_cases qV:k<ts.length
  ·obtain⟨t,ht,nQ,htm⟩:=Ap qV;obtain⟨qG,rQ⟩:=bT t htm;have gP:ls[k]? =some (Ad t):=by rw[vC,bH0,ht];rfl
   have zC:k<ls.length:=by omega
   have yZ:ls[k]'zC=Ad t:=(aB0.1 gP).2;have y1:=oC (HO g) (ts.take k) t;have y2:=Bt_ (ts.take k) t;have y3:=SD (ts.take k) t;have y4:=congrArg List.length (Rk (ts.take k) t);rw[<-Bh ht]at y1 y2 y3 y4;rw[aD0]at y4;have cX:=wL (k+1);have mD:=BK_ (HO g) (ts.take k) (wL k);have vI:(MY (ts.take k)).length<=64:=by have:=RM (ts.take k) 0;have:=wL k;unfold MY;omega
   obtain⟨ah,hah⟩:∃ah,ah=(BY (ts.take k)).length:=⟨_,rfl⟩;rw[<-hah]at y1 y2 y4 |-;have e2:=oM g t ah (KD (HO g) (ts.take k)) qG rQ (by omega) hn (by omega);rw[y1]at e2;have e3:=HA (Ad t);have zA:=eZ (Ad t);have gL:∀j p,(Gi (Ad t) (Ad t).length)[j]? =some p->IR (Ad t) p=j:=fun j p h=>QV (Nat.le_refl _) h
   have yI:At (Ad t) 0 t:=At.top qG;have eE:∀q:Nat,Af prog 66 [AM (Ad t),.int .i64 0,.int .i64 q] (.bool (Nc t 0 q)):=fun q=>Kt q _ t (Ad t) 0 rfl yI (by omega)
   have eM:Af prog 67 [AM (Ad t),.int .i64 0] (.bool (BZ t)):=Ga _ t (Ad t) 0 rfl yI (by omega);have hfs:=Br_ t ah;have hfpl:=DY_ t ah;obtain⟨ps,bM⟩:∃ps,ps=Gi (Ad t) (Ad t).length:=⟨_,rfl⟩;rw[<-bM]at e3 zA gL y2;clear yI bM;obtain⟨F0,hF0⟩:∃F0,F0=MY (ts.take k):=⟨_,rfl⟩;rw[<-hF0]at y2 vI |-;have vU:IntKind.i64.wrap ((ah:Int)+1-1)=(ah:Int):=by rw[wq];omega
   have vQ:IntKind.i64.wrap ((k:Int)+1)=(k:Int)+1:=wq;have mU:IntKind.i64.wrap ((ah:Int)+1+(ps.length:Int))=((BY (ts.take (k+1))).length:Int)+1:=by rw[wq];omega
   (refine AL (AB e2 e3) Ab (Lj zC gP yZ @Fg.eq_1 vU) ?_;intros;refine Am ?_)
   refine Ai (X:={j:Nat//j<=ps.length}) (fun j=>⟨[(0,Au g),(1,Cc ls),(4,.bx 4 1 0),(7,.bx 7 1 0),(8,.osl 50 1),(9,.bool (Ep (ts.take k))),(10,.int .i64 k),(11,AM (Ad t)),(12,.int .i64 ah),(13,CI ps),(14,.int .i64 j.1)],
    [⟨4,1,.box [.int .i64 0,.nilsl,.nilsl]⟩,⟨7,1,.box [.int .i64 ((ah:Int)+1),.nilsl,BR (KD (HO g) (ts.take (k+1)))]⟩,⟨50,1,.row 3 1 8 ((F0++Tk t ah (ps.take j.1)).map Bd)⟩]⟩) (fun j=>ps.length-j.1) ⟨0,by omega⟩ (Sub.lit (by simp[DX_])) ?_
   rintro⟨j,hj⟩;simp only
   by_cases qL:j<ps.length
   ·obtain⟨q,hq,wB,_⟩:=Ap qL;have e4:=eE q;have hrk:=gL j q hq;have mG:=hfs (ps.take j) q;rw[<-Bh hq]at mG;have hf2:=hfpl (ps.take j);rw[aY0]at hf2;have zR:Fi (Ad t) ah q=ah+j+1:=by unfold Fi;omega
    rw[zR]at mG;obtain⟨F1,hF1⟩:∃F1,F1=Tk t ah (ps.take j):=⟨_,rfl⟩;rw[<-hF1]at mG hf2 |-;have hb:(F0.length+F1.length+1)*8<=150000000000000:=by omega
    have fE:IntKind.i64.wrap ((ah:Int)+(j:Int))=(ah:Int)+(j:Int):=wq;have mK:IntKind.i64.wrap ((ah:Int)+(j:Int)+1)=(ah:Int)+(j:Int)+1:=wq;have hwj3:IntKind.i64.wrap ((j:Int)+1)=(j:Int)+1:=wq;cases hd:Nc t 0 q
    ·rw[hd]at e4 mG;simp only[aQ0,if_false,bR0]at mG
     (refine AL (AH e4) Ab (Lj qL hq wB @Bd.eq_1 hwj3) ?_;intros;refine Am ?_)
     refine Al.mk ⟨j+1,by omega⟩ (Sub.lit (by simp[mG])) (by simp;omega)
     skip
    ·rw[hd]at e4 mG;simp only[if_true]at mG
     (refine AL (AH e4) Ab (KG qL hq wB @Bd.eq_1 fE mK hwj3 hb) ?_;intros;refine Am ?_)
     refine Al.mk ⟨j+1,by omega⟩ (Sub.lit (by simp[mG,Bd])) (by simp;omega)
     skip
   ·have qZ:j=ps.length:=by omega
    subst qZ;rw[aU0,y2];cases hE:Ep (ts.take k)
    ·rw[hE,eA0]at y3;rw[y3]at eM
     (refine AL (AH eM) Ab (AB mU vQ) ?_;intros;refine Am ?_)
     refine Al.mk ⟨k+1,by omega⟩ (Sub.lit (by simp)) (by simp;omega)
     skip
    ·rw[hE,Bool.true_or]at y3
     (refine AL (AH eM) Ab (AB mU vQ) ?_;intros;refine Am ?_)
     refine Al.mk ⟨k+1,by omega⟩ (Sub.lit (by simp[<-y3])) (by simp;omega)
     skip
  ·have qZ:k=ts.length:=by omega
   subst qZ;rw[aU0];have vI:(MY ts).length<=64:=by have:=RM ts 0;unfold MY;omega
   have qC:((MY ts).length)*8<=150000000000000:=by omega
   have wX:(1+(MY ts).length)*8<=150000000000000:=by omega
   have wA:¬ts.length<ls.length:=by omega
   have hfe:=DW_ ts;unfold Av_ UC at fK;rw[hfe]at fK;refine ER (Sub.freezeL [50] _) ?_;simp;refine Ct 7 1 51 3 1 8 (by simp) (fun n2=> ?_);cases hE:Ep ts
   ·rw[hE]at fK;simp only[aQ0,if_false,List.nil_append]at fK;exact Az Ab Ab (IF wA yK fK qC)
   ·rw[hE]at fK;simp only[if_true]at fK;exact Az Ab Ab (Lj wA yK fK wX @Bd.eq_1)
 ·have fK:=hRa h0;have h0b:(W==0)=false:=by simpa using h0
  exact Az (AH e1) Ab (CL h0 h0b fK)
@[simp] theorem IH_ (l:List Bool) (v:Nat) (h:v<(bD l).length):((bD l)[v]'h).tail=[]:=by simp[bD,dBl]
def IQ_ (l:List Int):List (List DVal):=l.map Dj
@[simp] theorem Iz_ (l:List Int):Br (IQ_ l)=0:=De_ l
def uQ : Ann:=⟨[],[]⟩
theorem SR (l:List Int):Af prog 14 [CQ l,CQ l] (.bool true):=by
 refine Ae [] uQ func14 call14 ntmps14 mxd (AB @uQ.eq_1 results14) rfl (fun qJ B qX qQ=> ?_);have hl:=Dv_ qJ.1;clear qJ;simp only[Aq]
 (refine AL Ab Ab Ab ?_;intros;refine Am ?_)
 refine Ai (X:={k:Nat//k<=l.length}) (fun k=>⟨[(0,CQ l),(1,CQ l),(5,.int .i64 k.1)],[]⟩) (fun k=>l.length-k.1) ⟨0,by simp⟩ (Sub.lit (by simp)) ?_;rintro⟨k,hk⟩;simp only
 by_cases qV:k<l.length
 ·obtain⟨q,hq,wB,_⟩:=Ap qV
  (refine AL Ab Ab (IF @Dj.eq_1 qV hq wB) ?_;intros;refine Am ?_)
  refine Al.mk ⟨k+1,by omega⟩ (Sub.lit (by simp)) (by simp;omega)
  skip
 ·have qZ:k=l.length:=by omega
  subst qZ;exact Az Ab Ab Ab


end Go.Proofs.Wy
end
section
namespace Go.Proofs.Wy
open Go Go.Dm Tryz
attribute [local irreducible] DW BN BS
set_option maxRecDepth 100000
mutual
theorem RJ : ∀(t t':RT) (r r':List Nd),ED t=true->ED t'=true->Ad t++r=Ad t'++r'->t=t'/\r=r'
 | .mk x ks,.mk x' ks',r,r',h,h',he=>by
  rw[AQ,AQ,List.cons_append,List.cons_append]at he;injection he with h1 h2
  subst h1;have h3:=(Cg h).2.1;have h4:=(Cg h').2.1;obtain⟨h5,h6⟩:=Uo ks ks' r r' (Cg h).2.2 (Cg h').2.2 (by omega) h2;exact⟨by rw[h5],h6⟩
theorem Uo : ∀(ks ks':List RT) (r r':List Nd),FQ ks=true->FQ ks'=true->ks.length=ks'.length->An ks++r=An ks'++r'->ks=ks'/\r=r'
 | [],[],r,r',_,_,_,he=>by rw[Ce]at he;exact⟨rfl,by simpa using he⟩
 | [],_::_,_,_,_,_,hl,_=>by simp at hl
 | _::_,[],_,_,_,_,hl,_=>by simp at hl
 | u::us,u'::us',r,r',h,h',hl,he=>by
  rw[Ax,Ax,aS0,aS0]at he;obtain⟨h1,h2⟩:=RJ u u' _ _ (BQ h).1 (BQ h').1 he;obtain⟨h3,h4⟩:=Uo us us' r r' (BQ h).2 (BQ h').2 (by simpa using hl) h2;exact⟨by rw[h1,h3],h4⟩
end
theorem Tv : ∀(ts ts':List RT),(∀t∈ts,ED t=true)->(∀t∈ts',ED t=true)->ts.map Ad=ts'.map Ad->ts=ts'
 | [],[],_,_,_=>rfl
 | [],_::_,_,_,h=>by simp at h
 | _::_,[],_,_,h=>by simp at h
 | t::ts,t'::ts',h,h',he=>by
  rw[List.map_cons,List.map_cons]at he;injection he with h1 h2
  have h3:=(RJ t t' [] [] (h t aH0) (h' t' aH0) (by rw[h1])).1;have h4:=Tv ts ts' (fun u hu=>h u (aF0 _ hu)) (fun u hu=>h' u (aF0 _ hu)) h2;rw[h3,h4]
theorem Hn_ (g:List Rul) (ts:List RT) (qG:∀t∈ts,ED t=true):lY (AD g) (AG g) ts=Av_ g ts:=by
 unfold lY Av_ KD ET HO;rw[EF_ _ ts qG]
end Go.Proofs.Wy
end
