/- Parts of a proof, laid together: RB2, RB3, RB4, RB5, RB6, BP1, RB7, RB8, RB9, RB10, RS0, RS1, RS2, RS3, RS4, RS5, RS6, RS7, RS8, W97, WO, W98, W44, W47, W96, CF0, EnZ, CF1, QB7, QB8. -/
import Derived.Test.YtiojapdolljocaaGreatqBw14
import Derived.Test.YtiojapdolljocaaGreatqBw15
import Derived.Test.YtiojapdolljocaaGreatqBw18
import Derived.Test.YtiojapdolljocaaGreatqBw19
import Derived.Test.YtiojapdolljocaaGreatqBw20
import Derived.Test.YtiojapdolljocaaGreatqBw24
import Derived.Test.YtiojapdolljocaaGreatqBw25
import Derived.Test.YtiojapdolljocaaGreatqBw26
import Derived.Test.YtiojapdolljocaaGreatqBw27
import Derived.Test.YtiojapdolljocaaGreatqBw28
import Derived.Test.YtiojapdolljocaaGreatqBw29
import Derived.Test.YtiojapdolljocaaGreatqBw30
import Derived.Test.YtiojapdolljocaaGreatqBw31
import Derived.Test.YtiojapdolljocaaGreatqBw32
import Derived.Test.YtiojapdolljocaaGreatqBw33
set_option linter.unusedSimpArgs false
set_option maxHeartbeats 8000000
set_option linter.unusedVariables false
set_option linter.unusedSectionVars false
section
namespace Go.Proofs.Wy
open Go Go.Dm Tryz
variable [DMode]
attribute [local irreducible] DW Bh Bk
set_option maxRecDepth 100000





end Go.Proofs.Wy
end
section
namespace Go.Proofs.Wy
open Go Go.Dm Go.Shelf Tryz
variable [DMode]
attribute [local irreducible] DW Bh Bk
set_option maxRecDepth 100000
abbrev Tu : DVal:= .agg [.int .i64 0,.nilsl,.nilsl]
abbrev Ci (ls:List (List Nd)):DVal:= .sl 1 24 (ls.map EY)
theorem XI (l:List Arc):Bl prog (.func 65) [.osl 0 0] [⟨0,0,.row 39 4 32 (l.map CB)⟩] (Ga (Df (fun x y=>HZ x y==0) l)) []:=Sg l
theorem Pw (l:List Nat):Bl prog (.func 64) [.osl 0 0] [⟨0,0,.row 3 1 8 (l.map BK)⟩] (.tup []) [⟨0,0,.row 3 1 8 ((Im (l.map eY)).map CT)⟩]:=by
 have h:=RO (l.map eY);rw[cA0]at h;exact h
structure BoxR (H L:List ByteArray) (ls:List (List Nd)) (R:DVal):Prop where
 a:Kf ls≠0->R= .tup [Tu,.int .i64 (Kf ls)]
 b:Kf ls=0->ls.any (Nm H L)=true->R= .tup [Tu,.int .i64 4]
 c:Kf ls=0->ls.any (Nm H L)=false->64<En ls->R= .tup [Tu,.int .i64 183]
 d:Kf ls=0->∀ts,ls=ts.map flat->(∀t∈ts,DR t=true/\(flat t).length<=2048)->ls.any (Nm H L)=false->En ls<=64->R= .tup [BO_ H L ts,.int .i64 0]
def Gx : Ann:=⟨[77,89,94,100,105,114,126],[⟨16,[13],[],[]⟩,⟨17,[14],[],[]⟩,⟨30,[20],[],[]⟩,⟨38,[201,77],[],[]⟩,⟨39,[],[],[0,1,2,3,4,5,6]⟩]⟩
theorem SI (H L:List ByteArray) (ls:List (List Nd)) (R:DVal) (hH:H.length≠0) (hR:BoxR H L ls R) (hm:mx R=0):Ag prog 17 [Iu H L,Ci ls] R:=by
 refine Ad [94,4] Gx func17 call17 ntmps17 mxd (Az @Gx.eq_1 results17) rfl (fun qJ B qX qQ=> ?_) (hd:=(by simpa using hm))
 have dH:ls.length*24<=150000000000000:=by
  have h1:=qJ.2.1;simp only[Ef,aO0]at h1;exact h1.1
 clear qJ;simp only[Ap];have e1:=Uw H L
 (refine Ba (AQ e1) Ac (AQ hH) ?_;intros;refine Al ?_)
 clear hH;refine An (X:={k:Nat//k<=ls.length/\Kf ls=Kf (ls.drop k)}) (fun k=>⟨[(1,Ci ls),(2,.ref [Iu H L]),(4,.bx 4 1 0),(5,.int .i64 0),(32,Ci ls),(33,.int .i64 ls.length),(34,.int .i64 k.1)],[⟨4,1,.box [.int .i64 0,.nilsl,.nilsl]⟩]⟩) (fun k=>ls.length-k.1) ⟨0,by simp⟩ (Sub.lit (by simp)) ?_;rintro⟨k,hk,mM⟩;simp only
 by_cases qV:k<ls.length
 ·obtain⟨l,hl,wY,mN⟩:=Ar qV;rw[aU0 qV,wY,Kf]at mM;have e2:=Dv_ l
  by_cases hc:NW l=0
  ·rw[if_pos hc]at mM;rw[hc]at e2
   (refine Ba (AQ e2) Ac (JV qV hl wY @EY.eq_1) ?_;intros;refine Al ?_)
   exact Ak.mk ⟨k+1,by omega,mM⟩ (Sub.lit (by simp)) (by simp;omega)
   skip
  ·rw[if_neg hc]at mM;have hRR:=hR.a (by rw[mM];exact hc);rw[mM]at hRR;rw[hRR];have hcb:(NW l==0)=false:=by simpa using hc
   exact AA (AQ e2) Ac (Rp qV hl wY @EY.eq_1 hc hcb)
 have qN:k=ls.length:=by omega
 subst qN;rw[cL0]at mM;have vA:Kf ls=0:=mM;obtain⟨ts,zL,kT⟩:=Lc vA;clear mM hk;have mS:ls.length=ts.length:=by rw[zL,aO0]
 have hocl:=iY ts fun t ht=>(kT t ht).2
 rw[<-zL]at hocl
 (refine Ba Ac Ac Ac ?_;intros;refine Al ?_)
 refine An (X:={k:Nat//k<=ls.length/\(ls.take k).any (Nm H L)=false}) (fun k=>⟨[(1,Ci ls),(2,.ref [Iu H L]),(4,.bx 4 1 0),(5,.int .i64 0),(9,.int .i64 (En (ls.take k.1))),(45,Ci ls),(46,.int .i64 ls.length),(47,.int .i64 k.1)],[⟨4,1,.box [.int .i64 0,.nilsl,.nilsl]⟩]⟩) (fun k=>ls.length-k.1) ⟨0,by simp⟩ (Sub.lit (by simp[As_])) ?_;rintro⟨k,hk,zQ⟩;simp only
 by_cases qV:k<ls.length
 ·obtain⟨l,hl,wY,mN⟩:=Ar qV
  have hll:l.length<=2048:=by
   rw[zL]at mN;obtain⟨t,ht,rfl⟩:=aQ0.1 mN;exact(kT t ht).2
  have hos:=sI (ls.take k) l;rw[<-Bf hl]at hos;have hot:=sH (ls:=ls) (k:=k+1);obtain⟨m,gD⟩:∃m,m=En (ls.take k):=⟨_,rfl⟩;rw[<-gD]at hos |-;have e5:=Qb l;have hw5:IntKind.i64.wrap ((m:Int)+(Ir l:Int))=(En (ls.take (k+1)):Int):=by rw[wq,hos];omega
  (refine Ba Ac Ac (JV qV hl wY @EY.eq_1) ?_;intros;refine Al ?_)
  refine An (X:={j:Nat//j<=l.length/\Nm H L (l.take j)=false}) (fun j=>⟨[(1,Ci ls),(2,.ref [Iu H L]),(4,.bx 4 1 0),(5,.int .i64 0),(9,.int .i64 m),(11,Bi l),(45,Ci ls),(46,.int .i64 ls.length),(47,.int .i64 k),(51,Bi l),(52,.int .i64 l.length),(53,.int .i64 j.1)],[⟨4,1,.box [.int .i64 0,.nilsl,.nilsl]⟩]⟩) (fun j=>l.length-j.1) ⟨0,by simp[Nm]⟩ (Sub.lit (by simp)) ?_;rintro⟨j,hj,hnj⟩;simp only
  by_cases qK:j<l.length
  ·obtain⟨x,hx,qG,zJ⟩:=Ar qK;have e3:=Pt H L x
   have wT:Nm H L (l.take (j+1))=decide (Ps H L x=4):=by
    unfold Nm at hnj |-;rw[Bf hx,List.any_append,hnj];simp
   obtain⟨E,hE⟩:∃E,E=Ps H L x:=⟨_,rfl⟩;rw[<-hE]at e3 wT;simp only[Bu,AR]at e3
   by_cases h4:E=4
   ·have wF:ls.any (Nm H L)=true:=by
     rw[cF0];refine⟨l,mN,?_⟩;unfold Nm;rw[cF0];exact⟨x,zJ,by rw[<-hE];simp[h4]⟩
    rw[hR.b vA wF];exact AA (AQ e3) Ac (Lj @Bu.eq_1 qK hx qG h4)
   ·have h4b:(E==4)=false:=by simpa using h4
    rw[decide_eq_false h4]at wT
    (refine Ba (AQ e3) Ac (Rp @Bu.eq_1 qK hx qG h4 h4b) ?_;intros;refine Al ?_)
    refine Ak.mk ⟨j+1,by omega,wT⟩ (Sub.lit (by simp)) (by simp;omega)
    skip
  ·have qN:j=l.length:=by omega
   subst qN;rw[aT0]at hnj;have hno2:(ls.take (k+1)).any (Nm H L)=false:=by rw[Bf hl,List.any_append,zQ];simp[hnj]
   (refine Ba (AQ e5) Ac (AQ hw5) ?_;intros;refine Al ?_)
   refine Ak.mk ⟨k+1,by omega,hno2⟩ (Sub.lit (by simp)) (by simp;omega)
   skip
 have qN:k=ls.length:=by omega
 subst qN;rw[aT0]at zQ;clear hk qV
 by_cases jU:64<En ls
 ·have hRc:=hR.c vA zQ jU;have d1:(64:Int)<(En ls:Int):=by omega
  exact AA Ac Ac (HB d1 jU hRc)
 have zN:=hR.d vA ts zL kT zQ (by omega);have hoc:=KO ts;rw[<-zL]at hoc;have d1:¬(64:Int)<(En ls:Int):=by omega
 (refine Ba Ac Ac (Az d1 jU) ?_;intros;refine Al ?_)
 have hlv64:(BW ts).length<=64:=by omega
 obtain⟨SF,bO⟩:∃SF,SF=OK (Co H L) ts:=⟨_,rfl⟩
 have wU:∀k,(BW (ts.take k)).length<=64/\OK (Co H L) (ts.take k) <+: SF:=fun k=>by
  have h1:=CY_ (us:=ts.take k) (vs:=ts.drop k);have h2:=CA_ (Co H L) (ts.take k) (ts.drop k);rw[List.take_append_drop]at h1 h2;rw[bO];exact⟨by omega,h2⟩
 have gA:∀k,(Jv SF (ts.take k)).length<=1073741824:=fun k=>by
  have h1:=iN (ts.take k) 0 (fun t ht=>(kT t (eF0 ht)).2) (wU k).1;unfold Jv;rw[JQ];have:=(wU k).1;omega
 have zG:∀k,(QC (ts.take k)).length<=64/\(MW (ts.take k)).length<=64:=fun k=>by
  have h1:=lS (ts.take k) 0;have h2:=lK (ts.take k) 0;have:=(wU k).1;exact⟨by unfold QC;omega,by unfold MW;omega⟩
 have z0:Jv SF []=[]:=rfl;have z1:OK (Co H L) []=[]:=rfl;have z2:QC []=[]:=rfl;have z3:MW []=[]:=rfl;have z4:Fi []=false:=by rw[Fi]
 refine Nv 77 0 201 24 2 16 (by simp) (fun n1=> ?_);refine Nv 77 1 202 39 4 32 (by simp) (fun n2=> ?_);refine Nv 17 2 94 3 1 8 (by simp) (fun n3=> ?_);refine Vu 17 1 1 8 rfl rfl ?_
 refine An (X:={k:Nat//k<=ts.length}) (fun k=>⟨[(2,.ref [Iu H L]),(4,.bx 4 1 0),(16,.bx 77 1 0),(17,.bx 17 1 0),(79,Ci ls),(80,.int .i64 ls.length),(81,.int .i64 k.1)],
  [⟨4,1,.box [.int .i64 0,.nilsl,.nilsl]⟩,⟨77,1,.box [.osl 201 1,.osl 202 1]⟩,⟨201,1,.row 24 2 16 ((OK (Co H L) (ts.take k.1)).map AR)⟩,⟨202,1,.row 39 4 32 ((Jv SF (ts.take k.1)).map CB)⟩,⟨17,1,.box [.bool (Fi (ts.take k.1)),Ey (QC (ts.take k.1)),.osl 94 1]⟩,⟨94,1,.row 3 1 8 ((MW (ts.take k.1)).map BK)⟩]⟩) (fun k=>ts.length-k.1) ⟨0,by simp⟩ (Sub.lit (by simp[z0,z1,z2,z3,z4])) ?_
 rintro⟨k,hk⟩;simp only
 by_cases qV:k<ts.length
 ·obtain⟨t,ht,mT,htm⟩:=Ar qV;obtain⟨qO,h2048⟩:=kT t htm;have cY:ls[k]? =some (flat t):=by rw[zL,bH0,ht];rfl
  have yZ:k<ls.length:=by omega
  have yP:ls[k]'yZ=flat t:=(aF0.1 cY).2;have bC:=wU (k+1);have y1:=xP H L (ts.take k) t;have y2:=tN (ts.take k) t;have y3:=sV (ts.take k) t;have y4:=eF SF (ts.take k) t;have y5:=eK (ts.take k) t;have y6:=WQ (ts.take k) t;rw[<-Bf ht]at y1 y2 y3 y4 y5 y6;have y7:=congrArg List.length y6;rw[aE0]at y7;have hA:=gA k;have hF:=zG k;have hF1:=zG (k+1);have e6:=Pp H L (flat t) (BW (ts.take k)).length SF (by rw[<-y7];exact bC.1) _ t (Nat.le_refl _) qO 0 [] (OK (Co H L) (ts.take k)) (Jv SF (ts.take k)) (by simp) (by rw[OJ,IL];rfl) (by rw[y1];exact bC.2) (by omega)
  rw[y1,y4,bO0]at e6;have g1:=congrArg List.length y2;have g2:=congrArg List.length y3;rw[aE0]at g1 g2;have e7:=eM (Fi (ts.take k)) (DD t) (QC (ts.take k)) (Hj (flat t) (BW (ts.take k)).length t 0) (MW (ts.take k)) (Ke (flat t) (BW (ts.take k)).length t 0) (by omega) (by omega);rw[y5,y2,y3]at e7;refine GL (Sub.freezeL [94] _) ?_;simp
  (repeat (first | refine AC fun K hK=> ?_ | (refine BL Gx mxd (by kernel_rfl) ?_;simp[Gx,qX,Bs,yZ,cY,yP,EY];try simp (disch:=omega) only[Ai]) | refine Am ?_ | (refine AX ?_ ?_ ?_;(· (simp[qX,Bs,yZ,cY,yP,EY];done));(try (rotate_left;(· (intro hc;(try simp[qX,Bs,yZ,cY,yP,EY]at hc);done))))) | (refine AI ?_;simp[results17,qX,Bs,yZ,cY,yP,EY]) | ((first | refine Av ?_ | refine Au ?_);simp[qX,Bs,yZ,cY,yP,EY]) | (intro hc;(try simp[qX,Bs,yZ,cY,yP,EY]at hc);(try (exfalso;omega))) | (refine AV [(77,0),(201,1),(202,2)] [] (e6) ?_ ?_;(· (simp[qX,Bs,yZ,cY,yP,EY];done));(intro _;try simp[qX,Bs,yZ,cY,yP,EY])) | (refine AV [] [(94,0)] (e7) ?_ ?_;(· (simp[qX,Bs,yZ,cY,yP,EY];done));(intro _;try simp[qX,Bs,yZ,cY,yP,EY])) | (refine⟨?_,?_⟩; · omega) | omega | apply_assumption -exfalso -symm | (exfalso;omega)))
  refine Ak.mk ⟨k+1,by omega⟩ (Sub.lit (by simp)) (by simp;omega)
  skip
 ·have qN:k=ts.length:=by omega
  subst qN;rw[aT0];have hA:=gA ts.length;have hF:=zG ts.length;have hP:=wU ts.length;rw[aT0]at hA hF hP;have e8:=Jd SF SF (Jv SF ts) [0] (QC ts) (List.prefix_refl _) (fun q hq=>by have:=UR ts 0 q hq;rw[bO,OJ];omega) (by rw[bO,OJ];omega) (by simp;omega);have y8:=uJ (Co H L) ts;rw[<-bO]at y8;rw[y8]at e8;have e9:=VQ (Ju (Co H L) ts);have e11:=XI (Nz HZ (Ju (Co H L) ts));rw[<-bO];have wJ:¬(ts.length:Int)<(ls.length:Int):=by omega
  have hSl:SF.length=(BW ts).length:=by rw[bO,OJ]
  have wK:IntKind.i64.wrap ((SF.length:Int)+1)=((BW ts).length:Int)+1:=by rw[hSl];exact wq
  have zZ:=Bp_ ts fun t ht=>(kT t ht).1
  unfold BO_ BS_ at zN;obtain⟨CZ,hCZ⟩:∃CZ,CZ=Df (fun x y=>HZ x y==0) (Nz HZ (Ju (Co H L) ts)):=⟨_,rfl⟩;rw[<-hCZ]at zN e11;obtain⟨FR,hFR⟩:∃FR,FR=Jm ts:=⟨_,rfl⟩;rw[<-hFR]at zN zZ;cases hE:Fi ts
  ·have e10:=Pw (MW ts)
   have dQ:Im ((MW ts).map eY)=FR:=by
    rw[hE]at zZ;simp only[bE0,if_false,bO0]at zZ;exact zZ
   rw[dQ]at e10
   (repeat (first | refine AC fun K hK=> ?_ | (refine BL Gx mxd (by kernel_rfl) ?_;simp[Gx,qX,Bs,wJ,BK,wK,zN];try simp (disch:=omega) only[Ai]) | refine Am ?_ | (refine AX ?_ ?_ ?_;(· (simp[qX,Bs,wJ,BK,wK,zN];done));(try (rotate_left;(· (intro hc;(try simp[qX,Bs,wJ,BK,wK,zN]at hc);done))))) | (refine AI ?_;simp[results17,qX,Bs,wJ,BK,wK,zN]) | ((first | refine Av ?_ | refine Au ?_);simp[qX,Bs,wJ,BK,wK,zN]) | (intro hc;(try simp[qX,Bs,wJ,BK,wK,zN]at hc);(try (exfalso;omega))) | (refine AV [(77,0),(201,1),(202,2)] [] (e8) ?_ ?_;(· (simp[qX,Bs,wJ,BK,wK,zN];done));(intro _;try simp[qX,Bs,wJ,BK,wK,zN])) | (refine AV [(202,0)] [] (e9) ?_ ?_;(· (simp[qX,Bs,wJ,BK,wK,zN];done));(intro _;try simp[qX,Bs,wJ,BK,wK,zN])) | (refine AV [(94,0)] [] (e10) ?_ ?_;(· (simp[qX,Bs,wJ,BK,wK,zN];done));(intro _;try simp[qX,Bs,wJ,BK,wK,zN])) | (refine AV [(202,0)] [] (e11) ?_ ?_;(· (simp[qX,Bs,wJ,BK,wK,zN];done));(intro _;try simp[qX,Bs,wJ,BK,wK,zN])) | (refine⟨?_,?_⟩; · omega) | omega | apply_assumption -exfalso -symm | (exfalso;omega)))
  ·have e10:=Pw (MW ts++[0])
   have dQ:Im ((MW ts++[0]).map eY)=FR:=by
    rw[hE]at zZ;simp only[if_true]at zZ;rw[bI0];exact zZ
   rw[dQ]at e10;have hb:((MW ts).length+1)*8<=150000000000000:=by omega
   (repeat (first | refine AC fun K hK=> ?_ | (refine BL Gx mxd (by kernel_rfl) ?_;simp[Gx,qX,Bs,wJ,BK,wK,zN,hb];try simp (disch:=omega) only[Ai]) | refine Am ?_ | (refine AX ?_ ?_ ?_;(· (simp[qX,Bs,wJ,BK,wK,zN,hb];done));(try (rotate_left;(· (intro hc;(try simp[qX,Bs,wJ,BK,wK,zN,hb]at hc);done))))) | (refine AI ?_;simp[results17,qX,Bs,wJ,BK,wK,zN,hb]) | ((first | refine Av ?_ | refine Au ?_);simp[qX,Bs,wJ,BK,wK,zN,hb]) | (intro hc;(try simp[qX,Bs,wJ,BK,wK,zN,hb]at hc);(try (exfalso;omega))) | (refine AV [(77,0),(201,1),(202,2)] [] (e8) ?_ ?_;(· (simp[qX,Bs,wJ,BK,wK,zN,hb];done));(intro _;try simp[qX,Bs,wJ,BK,wK,zN,hb])) | (refine AV [(202,0)] [] (e9) ?_ ?_;(· (simp[qX,Bs,wJ,BK,wK,zN,hb];done));(intro _;try simp[qX,Bs,wJ,BK,wK,zN,hb])) | (refine AV [(94,0)] [] (e10) ?_ ?_;(· (simp[qX,Bs,wJ,BK,wK,zN,hb];done));(intro _;try simp[qX,Bs,wJ,BK,wK,zN,hb])) | (refine AV [(202,0)] [] (e11) ?_ ?_;(· (simp[qX,Bs,wJ,BK,wK,zN,hb];done));(intro _;try simp[qX,Bs,wJ,BK,wK,zN,hb])) | (refine⟨?_,?_⟩; · omega) | omega | apply_assumption -exfalso -symm | (exfalso;omega)))
end Go.Proofs.Wy
end
section
namespace Go.Proofs.Wy
open Go Go.Dm Tryz
variable [DMode]
attribute [local irreducible] DW Bh Bk
set_option maxRecDepth 100000
noncomputable def Iw (H L:List ByteArray) (ls:List (List Nd)):Int:=if Kf ls=0 then (if ls.any (Nm H L)=true then 4 else if 64<En ls then 183 else 0)else Kf ls

def Ms : Ann:=⟨[],[]⟩
theorem Ug (l:List Nd) (hs:l.length<=1572864):Ag prog 72 [Bi l] (Bi l):=by
 refine Ad [50] Ms func72 call72 ntmps72 mxd (Az @Ms.eq_1 results72) rfl (fun qJ B qX qQ=> ?_);clear qJ;simp only[Ap];have hb:l.length*32<=150000000000000:=by omega
 iterate 6 ((first | refine AC fun K hK=> ?_ | (refine BL Ms mxd (by kernel_rfl) ?_;simp[Ms,qX];try simp (disch:=omega) only[Ai]) | refine Am ?_ | (refine AX ?_ ?_ ?_;(· (simp[qX];done));(try (rotate_left;(· (intro hc;(try simp[qX]at hc);done))))) | (refine AI ?_;simp[results72,qX]) | ((first | refine Av ?_ | refine Au ?_);simp[qX]) | (intro hc;(try simp[qX]at hc);(try (exfalso;omega))) | (refine⟨?_,?_⟩; · omega) | omega | apply_assumption -exfalso -symm | (exfalso;omega)))
 refine CD 3 50 68 3 32 (by simp[qX,results72,Ms]) (fun n=> ?_);exact AA Ac Ac (AQ hb)
def Vi : Ann:=⟨[17],[]⟩
theorem KB (ls:List (List Nd)) (hs:∀l∈ls,l.length<=1572864) (hl:ls.length*24<=140737488355328):Ag prog 34 [Ci ls] (Ci ls):=by
 refine Ad [50] Vi func34 call34 ntmps34 mxd (Az @Vi.eq_1 results34) rfl (fun qJ B qX qQ=> ?_);clear qJ;simp only[Ap]
 (refine Ba Ac Ac Ac ?_;intros;refine Al ?_)
 refine CD 3 50 63 1 24 (by simp[qX,results34,Vi]) (fun n=> ?_);refine An (X:={k:Nat//k<=ls.length}) (fun k=>⟨[(0,Ci ls),(3,.osl 50 1),(4,.int .i64 k.1)],[⟨50,1,.row 63 1 24 ((ls.take k.1).map EY)⟩]⟩) (fun k=>ls.length-k.1) ⟨0,by omega⟩ (Sub.lit (by simp)) ?_;rintro⟨k,hk⟩;simp only
 by_cases qV:k<ls.length
 ·obtain⟨l,hx,qG,hm⟩:=Ar qV;have e1:=Ug l (hs l hm);have zL:(ls.take (k+1)).map EY=(ls.take k).map EY++[[Bi l]]:=by rw[Bf hx,bI0];rfl
  have hts2:List.take (k+1) (List.map EY ls)=(ls.take k).map EY++[[Bi l]]:=by rw[<-List.map_take];exact zL
  have mS:(ls.take k).length<=k:=by rw[aW0];omega
  obtain⟨T,hT⟩:∃T,T=ls.take k:=⟨_,rfl⟩;rw[<-hT]at hts2 mS |-;have hb:(T.length+1)*24<=150000000000000:=by omega
  have kS:IntKind.i64.wrap ((k:Int)+1)=(k:Int)+1:=wq
  (refine Ba (AQ e1) Ac (Rp @EY.eq_1 qV hx qG hb kS) ?_;intros;refine Al ?_)
  refine Ak.mk ⟨k+1,by omega⟩ (Sub.lit (by simp[hts2])) (by simp;omega)
  skip
 ·have qN:k=ls.length:=by omega
  subst qN;rw[aT0];exact AA Ac Ac Ac
def oF : Ann:=⟨[],[]⟩
theorem Qh (g:List Rul) (c:Int) (h:Ag prog 28 [AM g] (.int .i64 c)):Ag prog 33 [AM g] (.bool (decide (c=0))):=by
 refine Ad [] oF func33 call33 ntmps33 mxd (Az @oF.eq_1 results33) rfl (fun qJ B qX qQ=> ?_);clear qJ;simp only[Ap];exact AA (AQ h) Ac Ac
end Go.Proofs.Wy
end
section
namespace Go.Proofs.Wy
open Go Go.Dm Tryz
attribute [local irreducible] DW Bh Bk
set_option maxRecDepth 100000
mutual
theorem Qz : ∀(t t':RT) (r r':List Nd),DR t=true->DR t'=true->flat t++r=flat t'++r'->t=t'/\r=r'
 | .mk x ks,.mk x' ks',r,r',h,h',he=>by
  rw[Ax,Ax,List.cons_append,List.cons_append]at he;injection he with h1 h2
  subst h1;have h3:=(BJ h).2.1;have h4:=(BJ h').2.1;obtain⟨h5,h6⟩:=Th ks ks' r r' (BJ h).2.2 (BJ h').2.2 (by omega) h2;exact⟨by rw[h5],h6⟩
theorem Th : ∀(ks ks':List RT) (r r':List Nd),Fs ks=true->Fs ks'=true->ks.length=ks'.length->Ah ks++r=Ah ks'++r'->ks=ks'/\r=r'
 | [],[],r,r',_,_,_,he=>by rw[BR]at he;exact⟨rfl,by simpa using he⟩
 | [],_::_,_,_,_,_,hl,_=>by simp at hl
 | _::_,[],_,_,_,_,hl,_=>by simp at hl
 | u::us,u'::us',r,r',h,h',hl,he=>by
  rw[Ao,Ao,aS0,aS0]at he;obtain⟨h1,h2⟩:=Qz u u' _ _ (BG h).1 (BG h').1 he;obtain⟨h3,h4⟩:=Th us us' r r' (BG h).2 (BG h').2 (by simpa using hl) h2;exact⟨by rw[h1,h3],h4⟩
end
theorem Sr : ∀(ts ts':List RT),(∀t∈ts,DR t=true)->(∀t∈ts',DR t=true)->ts.map flat=ts'.map flat->ts=ts'
 | [],[],_,_,_=>rfl
 | [],_::_,_,_,h=>by simp at h
 | _::_,[],_,_,h=>by simp at h
 | t::ts,t'::ts',h,h',he=>by
  rw[List.map_cons,List.map_cons]at he;injection he with h1 h2
  have h3:=(Qz t t' [] [] (h t aK0) (h' t' aK0) (by rw[h1])).1;have h4:=Sr ts ts' (fun u hu=>h u (aI0 _ hu)) (fun u hu=>h' u (aI0 _ hu)) h2;rw[h3,h4]
def Yz : Ann:=⟨[],[⟨16,[13],[],[]⟩,⟨17,[14],[],[]⟩,⟨30,[20],[],[]⟩]⟩
theorem nH (ls:List (List Nd)):Ag prog 17 [.nilp,Ci ls] (.tup [Tu,.int .i64 1]):=by
 refine Ad [4] Yz func17 call17 ntmps17 mxd (Az @Yz.eq_1 results17) rfl (fun qJ B qX qQ=> ?_);clear qJ;simp only[Ap];exact AA Ac Ac Ac
def Yy : Ann:=⟨[],[⟨1,[1],[],[]⟩]⟩
theorem NK : Ag prog 32 [] (.bool true):=by
 refine Ad [] Yy func32 call32 ntmps32 mxd (Az @Yy.eq_1 results32) rfl (fun qJ B qX qQ=> ?_);clear qJ;simp only[Ap];have e1:Ag prog 17 [.nilp,.sl 1 24 []] (.tup [Tu,.int .i64 1]):=nH []
 have e2:Ag prog 80 [.agg [.int .i64 0,.sl 1 8 [],.sl 4 32 []]] (.int .i64 200):=by
  have h:=Jr ⟨0,[],[]⟩;rw[show Cf ⟨0,[],[]⟩=false by decide]at h;exact h
 have e3:Ag prog 80 [.agg [.int .i64 1,.sl 1 8 [],.sl 4 32 []]] (.int .i64 0):=by
  have h:=Jr ⟨1,[],[]⟩;rw[show Cf ⟨1,[],[]⟩=true by decide]at h;exact h
 exact AA (HB e1 e2 e3) Ac Ac
end Go.Proofs.Wy
end
section
namespace Go.Proofs.Wy
open Go Go.Dm Tryz
variable [DMode]
structure OkgT (gt:GT):Prop where
 ok:uU gt
 one:1<=gt.length
 le:gt.length<=64
 hd:(AE (Bz gt)).length<=16
 lb:(AH (Bz gt)).length<=16
 oc:DX (Bz gt)<=64
 dp:Gu gt=false
 ms:(Dc (Bz gt)).length=0
 tx:(BY gt).size<=2048
theorem CF_ {gt:GT} (hk:uU gt) (h1:1<=gt.length) (h2:gt.length<=64) (h:Me gt=0):OkgT gt:=by
 unfold Me at h
 repeat' split at h
 all_goals first
  | omega
  | skip
 rename_i a1 a2 a3 a4 a5 a6;exact⟨hk,h1,h2,by omega,by omega,by omega,by simpa using a4,by omega,by omega⟩
def Fh_ : Nat->List Auto->List (Auto×Nat)
 | _,[]=>[]
 | f,a::l=>(a,f)::Fh_ (f+a.st.toNat) l
def dPt (p:Auto×Nat):List DVal:=[.int .i64 p.1.st,Fu p.1.fin,Ga p.1.arcs,.int .i64 (p.2:Int)]
@[simp] theorem Em_ (p:Auto×Nat):AJ (dPt p)=0:=by simp[dPt,AJ,mx]
@[simp] theorem FW_ (l:List (Auto×Nat)):Bq (l.map dPt)=0:=HM _ Em_ l
end Go.Proofs.Wy
end
section
namespace Go.Proofs.Wy
open Go Go.Dm Tryz
variable [DMode]
attribute [local irreducible] DW Bh Bk
set_option maxRecDepth 100000

end Go.Proofs.Wy
end
section
namespace Go.Proofs.Wy
open Go Go.Dm Tryz
attribute [local irreducible] DW Bh Bk
set_option maxRecDepth 100000
theorem Xh {gt:GT} (h:OkgT gt):(AE (Bz gt)).length≠0:=by
 intro h0
 cases gt with
 | nil=>have:=h.one;simp at this
 | cons p gt =>
  have h1:p.1∈AE (Bz (p::gt)):=KY.2 ⟨⟨p.1,flat p.2⟩,aK0,rfl⟩;rw[cX0.1 h0]at h1;simp at h1
def stL (l:List Auto):List Nat:=(Fh_ 0 l).map (·.2)
def ntL (l:List Auto):List Nat:=l.zipIdx.flatMap fun p=>List.replicate p.1.st.toNat p.2
structure SmA (a:Auto):Prop where
 ok:Cf a=true
 fi:a.fin.length<=65
 ar:a.arcs.length<=1073741888
@[simp] theorem EP_ (l:List Auto):Bq (l.map Bj)=0:=HM _ AC_ l


theorem FE_ (g:List Rul) (hs:Gn g):∃c:Int,Ag prog 49 [AM g] (.int .i64 c)/\Ag prog 28 [AM g] (.int .i64 c)/\(c=0->∃gt,g=Bz gt/\OkgT gt):=by
 by_cases h:g.length<1\/64<g.length
 ·exact⟨180,Si g h,PP g h,by omega⟩
 ·cases ht:EL g with
  | false=>exact⟨170,XL g (by omega) (by omega) hs ht,Uh g (by omega) (by omega) hs ht,by omega⟩
  | true =>
   obtain⟨gt,rfl,hk⟩:=VG ht;have hl:=Gs gt;exact⟨Me gt,aZ gt (by omega) (by omega) hk hs,Wh gt (by omega) (by omega) hk hs,fun h0=>⟨gt,rfl,CF_ hk (by omega) (by omega) h0⟩⟩

end Go.Proofs.Wy
end
section
namespace Go.Proofs.Wy
open Go Go.Dm Tryz
variable [DMode]
attribute [local irreducible] DW Bh Bk
set_option maxRecDepth 100000

end Go.Proofs.Wy
end
section
namespace Go.Proofs.Wy
open Go Go.Dm Tryz
variable [DMode]

end Go.Proofs.Wy
end
section
namespace Go.Proofs.Wy
open Go Go.Dm Tryz
variable [DMode]
attribute [local irreducible] DW Bh Bk
set_option maxRecDepth 100000

end Go.Proofs.Wy
end
section
namespace Go.Proofs.Wy
open Go Go.Dm Tryz
variable [DMode]
attribute [local irreducible] DW Bh Bk


end Go.Proofs.Wy
end
section
namespace Go.Proofs.Wy
open Go Go.Dm Tryz
variable [DMode]
attribute [local irreducible] DW Bh Bk
set_option maxRecDepth 100000

end Go.Proofs.Wy
end
section
namespace Go.Proofs.Wy
open Go Go.Dm Tryz
variable [DMode]
def GH_ (xs:List Auto) (q:Nat):Nat:=((List.range q).filter fun p=>decide (¬p∈stL xs)).length
def Gl_ (xs:List Auto) (q:Nat):Nat:=if q∈stL xs then (ntL xs).getD q 0 else xs.length+GH_ xs q
end Go.Proofs.Wy
end
section
namespace Go.Dm
variable [DMode]
def Fg_ (es':List (List DVal)):DObj->DObj
 | .row et k bs _=> .row et k bs es'
 | o=>o
def Fd_ (id:Nat) (es':List (List DVal)):List Ent->List Ent
 | []=>[]
 | e::t=>(if e.id=id then ⟨e.id,e.r,Fg_ es' e.obj⟩else e)::Fd_ id es' t
attribute [simp] Fg_ Fd_
end Go.Dm
end
section
namespace Go.Proofs.Wy
open Go Go.Dm Tryz
attribute [local irreducible] DW Bh Bk
set_option maxRecDepth 100000
def dF (xs:List Auto) (q:Int):List DVal:=[.int .i64 (Gl_ xs q.toNat:Int),.nilsl]
@[simp] theorem Fs_ (xs:List Auto) (q:Int):AJ (dF xs q)=0:=by simp[dF,AJ,mx]
@[simp] theorem Gr_ (xs:List Auto) (l:List Int):Bq (l.map (dF xs))=0:=HM _ (Fs_ xs) l
def lL (H L:List ByteArray) (s:Sym):Bool:=decide (0<=s.n)&&decide (s.n<((if s.label then L.length else H.length:Nat):Int))
def Cj : Ann:=⟨[],[]⟩
theorem KP (H L:List ByteArray) (s:Sym):∃t:ByteArray,(lL H L s=true->(if s.label=true then L else H)[s.n.toNat]? =some t)/\Ag prog 35 [Iu H L,.agg (AR s)] (.tup [.str t,.int .i64 (if lL H L s then 0 else 4)]):=by
 have e1:=Fx H L;obtain⟨lb,n⟩:=s;unfold lL;simp only;have wH:(⟨#[]⟩:ByteArray).size<=maxLen:=by decide
 obtain⟨T,hT⟩:∃T,T=(if lb=true then L else H):=⟨_,rfl⟩;have hTl:(if lb=true then L.length else H.length)=T.length:=by rw[hT];cases lb<;>rfl
 rw[hTl]
 by_cases h0:n<0
 ·have hk:(decide (0<=n)&&decide (n<(T.length:Int)))=false:=by simp;omega
  rw[hk];refine⟨⟨#[]⟩,fun h=>by simp at h,?_⟩;refine Ad [] Cj func35 call35 ntmps35 mxd (Az @Cj.eq_1 results35) rfl (fun qJ B qX qQ=> ?_) (hd:=(by simp[mx,AJ]));clear qJ;simp only[Ap];cases lb
  ·
   (repeat (first | refine AC fun K hK=> ?_ | (refine BL Cj mxd (by kernel_rfl) ?_;simp[Cj,qX,AR,h0,wH];try simp (disch:=omega) only[Ai]) | refine Am ?_ | (refine AX ?_ ?_ ?_;(· (simp[qX,AR,h0,wH];done));(try (rotate_left;(· (intro hc;(try simp[qX,AR,h0,wH]at hc);done))))) | (refine AI ?_;simp[results35,qX,AR,h0,wH]) | ((first | refine Av ?_ | refine Au ?_);simp[qX,AR,h0,wH]) | (intro hc;(try simp[qX,AR,h0,wH]at hc);(try (exfalso;omega))) | ((first | refine Af (e1) ?_ | (refine Ae (e1) ?_ ?_;(· (simp;done))));try simp[qX,AR,h0,wH]) | (refine⟨?_,?_⟩; · omega) | omega | apply_assumption -exfalso -symm | (exfalso;omega)))
  ·
   (repeat (first | refine AC fun K hK=> ?_ | (refine BL Cj mxd (by kernel_rfl) ?_;simp[Cj,qX,AR,h0,wH];try simp (disch:=omega) only[Ai]) | refine Am ?_ | (refine AX ?_ ?_ ?_;(· (simp[qX,AR,h0,wH];done));(try (rotate_left;(· (intro hc;(try simp[qX,AR,h0,wH]at hc);done))))) | (refine AI ?_;simp[results35,qX,AR,h0,wH]) | ((first | refine Av ?_ | refine Au ?_);simp[qX,AR,h0,wH]) | (intro hc;(try simp[qX,AR,h0,wH]at hc);(try (exfalso;omega))) | ((first | refine Af (e1) ?_ | (refine Ae (e1) ?_ ?_;(· (simp;done))));try simp[qX,AR,h0,wH]) | (refine⟨?_,?_⟩; · omega) | omega | apply_assumption -exfalso -symm | (exfalso;omega)))
 ·by_cases h1:n<(T.length:Int)
  ·obtain⟨k,rfl⟩:∃k:Nat,n=k:=⟨n.toNat,by omega⟩;have hk:(decide (0<=(k:Int))&&decide ((k:Int)<(T.length:Int)))=true:=by simp;omega
   have vJ:k<T.length:=by omega
   have hx:=aB0 vJ;obtain⟨x,hxe⟩:∃x,x=T[k]:=⟨_,rfl⟩;rw[<-hxe]at hx;have zE:T[k]=x:=hxe.symm;rw[hk];have h2:¬(T.length:Int)<=k:=by omega
   have h3:¬T.length<=k:=by omega
   refine⟨x,fun _=>by rw[<-hT,cB0];exact hx,?_⟩;refine Ad [] Cj func35 call35 ntmps35 mxd (Az @Cj.eq_1 results35) rfl (fun qJ B qX qQ=> ?_) (hd:=(by simp[mx,AJ]));clear qJ;simp only[Ap];cases lb
   ·simp only[bE0,if_false]at hT;subst hT
    (repeat (first | refine AC fun K hK=> ?_ | (refine BL Cj mxd (by kernel_rfl) ?_;simp[Cj,qX,AR,AD,h0,h1,h2,h3,vJ,hx,zE,wH];try simp (disch:=omega) only[Ai]) | refine Am ?_ | (refine AX ?_ ?_ ?_;(· (simp[qX,AR,AD,h0,h1,h2,h3,vJ,hx,zE,wH];done));(try (rotate_left;(· (intro hc;(try simp[qX,AR,AD,h0,h1,h2,h3,vJ,hx,zE,wH]at hc);done))))) | (refine AI ?_;simp[results35,qX,AR,AD,h0,h1,h2,h3,vJ,hx,zE,wH]) | ((first | refine Av ?_ | refine Au ?_);simp[qX,AR,AD,h0,h1,h2,h3,vJ,hx,zE,wH]) | (intro hc;(try simp[qX,AR,AD,h0,h1,h2,h3,vJ,hx,zE,wH]at hc);(try (exfalso;omega))) | ((first | refine Af (e1) ?_ | (refine Ae (e1) ?_ ?_;(· (simp;done))));try simp[qX,AR,AD,h0,h1,h2,h3,vJ,hx,zE,wH]) | (refine⟨?_,?_⟩; · omega) | omega | apply_assumption -exfalso -symm | (exfalso;omega)))
   ·simp only[if_true]at hT;subst hT
    (repeat (first | refine AC fun K hK=> ?_ | (refine BL Cj mxd (by kernel_rfl) ?_;simp[Cj,qX,AR,AD,h0,h1,h2,h3,vJ,hx,zE,wH];try simp (disch:=omega) only[Ai]) | refine Am ?_ | (refine AX ?_ ?_ ?_;(· (simp[qX,AR,AD,h0,h1,h2,h3,vJ,hx,zE,wH];done));(try (rotate_left;(· (intro hc;(try simp[qX,AR,AD,h0,h1,h2,h3,vJ,hx,zE,wH]at hc);done))))) | (refine AI ?_;simp[results35,qX,AR,AD,h0,h1,h2,h3,vJ,hx,zE,wH]) | ((first | refine Av ?_ | refine Au ?_);simp[qX,AR,AD,h0,h1,h2,h3,vJ,hx,zE,wH]) | (intro hc;(try simp[qX,AR,AD,h0,h1,h2,h3,vJ,hx,zE,wH]at hc);(try (exfalso;omega))) | ((first | refine Af (e1) ?_ | (refine Ae (e1) ?_ ?_;(· (simp;done))));try simp[qX,AR,AD,h0,h1,h2,h3,vJ,hx,zE,wH]) | (refine⟨?_,?_⟩; · omega) | omega | apply_assumption -exfalso -symm | (exfalso;omega)))
  ·have hk:(decide (0<=n)&&decide (n<(T.length:Int)))=false:=by simp;omega
   rw[hk];refine⟨⟨#[]⟩,fun h=>by simp at h,?_⟩;have h2:(T.length:Int)<=n:=by omega
   refine Ad [] Cj func35 call35 ntmps35 mxd (Az @Cj.eq_1 results35) rfl (fun qJ B qX qQ=> ?_) (hd:=(by simp[mx,AJ]));clear qJ;simp only[Ap];cases lb
   ·simp only[bE0,if_false]at hT;subst hT
    (repeat (first | refine AC fun K hK=> ?_ | (refine BL Cj mxd (by kernel_rfl) ?_;simp[Cj,qX,AR,AD,h0,h1,h2,wH];try simp (disch:=omega) only[Ai]) | refine Am ?_ | (refine AX ?_ ?_ ?_;(· (simp[qX,AR,AD,h0,h1,h2,wH];done));(try (rotate_left;(· (intro hc;(try simp[qX,AR,AD,h0,h1,h2,wH]at hc);done))))) | (refine AI ?_;simp[results35,qX,AR,AD,h0,h1,h2,wH]) | ((first | refine Av ?_ | refine Au ?_);simp[qX,AR,AD,h0,h1,h2,wH]) | (intro hc;(try simp[qX,AR,AD,h0,h1,h2,wH]at hc);(try (exfalso;omega))) | ((first | refine Af (e1) ?_ | (refine Ae (e1) ?_ ?_;(· (simp;done))));try simp[qX,AR,AD,h0,h1,h2,wH]) | (refine⟨?_,?_⟩; · omega) | omega | apply_assumption -exfalso -symm | (exfalso;omega)))
   ·simp only[if_true]at hT;subst hT
    (repeat (first | refine AC fun K hK=> ?_ | (refine BL Cj mxd (by kernel_rfl) ?_;simp[Cj,qX,AR,AD,h0,h1,h2,wH];try simp (disch:=omega) only[Ai]) | refine Am ?_ | (refine AX ?_ ?_ ?_;(· (simp[qX,AR,AD,h0,h1,h2,wH];done));(try (rotate_left;(· (intro hc;(try simp[qX,AR,AD,h0,h1,h2,wH]at hc);done))))) | (refine AI ?_;simp[results35,qX,AR,AD,h0,h1,h2,wH]) | ((first | refine Av ?_ | refine Au ?_);simp[qX,AR,AD,h0,h1,h2,wH]) | (intro hc;(try simp[qX,AR,AD,h0,h1,h2,wH]at hc);(try (exfalso;omega))) | ((first | refine Af (e1) ?_ | (refine Ae (e1) ?_ ?_;(· (simp;done))));try simp[qX,AR,AD,h0,h1,h2,wH]) | (refine⟨?_,?_⟩; · omega) | omega | apply_assumption -exfalso -symm | (exfalso;omega)))

end Go.Proofs.Wy
end
