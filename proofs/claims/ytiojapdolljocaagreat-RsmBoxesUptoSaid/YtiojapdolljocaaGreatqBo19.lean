/- Parts of a proof, laid together: RG, RX1, EnW. -/
import Derived.Test.YtiojapdolljocaaGreatqBo15
import Derived.Test.YtiojapdolljocaaGreatqBo18
set_option linter.unusedSimpArgs false
set_option maxHeartbeats 8000000
set_option linter.unusedVariables false
set_option linter.unusedSectionVars false
section
namespace Go.Proofs.Wy
open Go Go.Dm Tryz
variable [DMode]
mutual
def DQ : RT->Bool
 | .mk x ks=>if x.k=2\/x.k=3 then false else if x.k=5 then GD ks else if x.k=4\/x.k=7 then Fp ks else true
def GD : List RT->Bool
 | []=>false
 | t::ts=>DQ t||GD ts
def Fp : List RT->Bool
 | []=>true
 | t::ts=>DQ t&&Fp ts
end
theorem iH (x:Nd) (ks:List RT):DQ (.mk x ks)=if x.k=2\/x.k=3 then false else if x.k=5 then GD ks else if x.k=4\/x.k=7 then Fp ks else true:=by rw[DQ]
theorem QL : ∀ts:List RT,GD ts=ts.any DQ
 | []=>by rw[GD];rfl
 | t::ts=>by rw[GD,QL ts];rfl
theorem QP : ∀ts:List RT,Fp ts=ts.all DQ
 | []=>by rw[Fp];rfl
 | t::ts=>by rw[Fp,QP ts];rfl
theorem MX (t:RT) (ts:List RT):Fp (t::ts)=(DQ t&&Fp ts):=by rw[Fp]
theorem Jc : Fp []=true:=by rw[Fp]
theorem SZ (ts:List RT) (t:RT):Fp (ts++[t])=(Fp ts&&DQ t):=by rw[QP,QP,List.all_append];simp
def Cn (l f:List Nat):List (Nat×Nat):=l.flatMap fun p=>f.map fun q=>(p,q)
theorem Jq {l f:List Nat} {p q:Nat}:(p,q)∈Cn l f↔p∈l/\q∈f:=by
 unfold Cn;simp only[bQ0,aR0,_root_.Prod.mk.injEq]
 constructor
 ·rintro⟨a,ha,b,hb,rfl,rfl⟩;exact⟨ha,hb⟩
 ·rintro⟨ha,hb⟩;exact⟨p,ha,q,hb,rfl,rfl⟩
theorem sC (f:List Nat):Cn [] f=[]:=rfl
mutual
def YA : RT->Nat->List Nat
 | .mk x ks,a=>if x.k=2\/x.k=3 then [a]else UU x.k ks (a+1)
def UU (k:Int):List RT->Nat->List Nat
 | [],_=>[]
 | u::us,a=>YA u a++(if k=4/\DQ u=false then []else UU k us (a+(flat u).length))
end
mutual
def NM : RT->Nat->List Nat
 | .mk x ks,a=>if x.k=2\/x.k=3 then [a]else NN x.k ks (a+1)
def NN (k:Int):List RT->Nat->List Nat
 | [],_=>[]
 | u::us,a=>if k=4 then NN k us (a+(flat u).length)++(if Fp us=true then NM u a else [])else NM u a++NN k us (a+(flat u).length)
end
mutual
def aC : RT->Nat->List (Nat×Nat)
 | .mk x ks,a=>if x.k=2\/x.k=3 then []else YE x.k ks (a+1) []++(if x.k=6\/x.k=7 then Cn (NN x.k ks (a+1)) (UU x.k ks (a+1))else [])
def YE (k:Int):List RT->Nat->List Nat->List (Nat×Nat)
 | [],_,_=>[]
 | u::us,a,acc=>aC u a++((if k=4 then Cn acc (YA u a)else [])++YE k us (a+(flat u).length) (if k=4 then NM u a++(if DQ u=true then acc else [])else []))
end
theorem Qa (x:Nd) (ks:List RT) (a:Nat):YA (.mk x ks) a=if x.k=2\/x.k=3 then [a]else UU x.k ks (a+1):=by rw[YA]
theorem Ly (k:Int) (a:Nat):UU k [] a=[]:=by rw[UU]
theorem Hf (k:Int) (u:RT) (us:List RT) (a:Nat):UU k (u::us) a=YA u a++(if k=4/\DQ u=false then []else UU k us (a+(flat u).length)):=by rw[UU]
theorem Kq (x:Nd) (ks:List RT) (a:Nat):NM (.mk x ks) a=if x.k=2\/x.k=3 then [a]else NN x.k ks (a+1):=by rw[NM]
theorem Gi (k:Int) (a:Nat):NN k [] a=[]:=by rw[NN]
theorem Ec (k:Int) (u:RT) (us:List RT) (a:Nat):NN k (u::us) a=if k=4 then NN k us (a+(flat u).length)++(if Fp us=true then NM u a else [])else NM u a++NN k us (a+(flat u).length):=by rw[NN]
theorem MW (x:Nd) (ks:List RT) (a:Nat):aC (.mk x ks) a=if x.k=2\/x.k=3 then []else YE x.k ks (a+1) []++(if x.k=6\/x.k=7 then Cn (NN x.k ks (a+1)) (UU x.k ks (a+1))else []):=by rw[aC]
theorem Jx (k:Int) (a:Nat) (acc:List Nat):YE k [] a acc=[]:=by rw[YE]
theorem Ej (k:Int) (u:RT) (us:List RT) (a:Nat) (acc:List Nat):YE k (u::us) a acc=aC u a++((if k=4 then Cn acc (YA u a)else [])++YE k us (a+(flat u).length) (if k=4 then NM u a++(if DQ u=true then acc else [])else [])):=by rw[YE]
theorem Dr : Ah []=[]:=by rw[Ah]
theorem Qe (k:Int) (u:RT):∀(us:List RT) (a:Nat),UU k (us++[u]) a=UU k us a++(if k=4/\Fp us=false then []else YA u (a+(Ah us).length))
 | [],a=>by simp[Ly,Hf,Jc,Dr]
 | v::us,a=>by
  rw[List.cons_append,Hf,Hf,Qe k u us,MX,Aq,aB0,<-cR0,aT0]
  by_cases h4:k=4<;>cases hv:DQ v<;>simp[h4]
theorem PH (k:Int) (u:RT):∀(us:List RT) (a:Nat),NN k (us++[u]) a=if k=4 then NM u (a+(Ah us).length)++(if DQ u=true then NN k us a else [])else NN k us a++NM u (a+(Ah us).length)
 | [],a=>by simp[Gi,Ec,Jc,Dr]
 | v::us,a=>by
  rw[List.cons_append,Ec,Ec,PH k u us,SZ,Aq,aB0,<-cR0]
  by_cases h4:k=4
  ·cases hu:DQ u<;>cases hs:Fp us<;>simp[h4]
  ·simp[h4]
theorem SQ (u:RT):∀(us:List RT) (a:Nat) (acc:List Nat),YE 4 (us++[u]) a acc=YE 4 us a acc++(aC u (a+(Ah us).length)++Cn (NN 4 us a++(if Fp us=true then acc else [])) (YA u (a+(Ah us).length)))
 | [],a,acc=>by simp[Jx,Ej,Gi,Jc,Dr]
 | v::us,a,acc=>by
  rw[List.cons_append,Ej,Ej,SQ u us,MX,Aq,aB0,<-cR0,Ec];cases hv:DQ v<;>cases hs:Fp us<;>simp[aT0]
theorem Xm (k:Int) (h4:¬k=4) (u:RT):∀(us:List RT) (a:Nat),YE k (us++[u]) a []=YE k us a []++aC u (a+(Ah us).length)
 | [],a=>by simp[Jx,Ej,Dr,h4]
 | v::us,a=>by
  rw[List.cons_append,Ej,Ej,Aq,aB0,<-cR0];simp only[h4,if_false,List.nil_append];rw[Xm k h4 u us,aT0]
-- where these lie
mutual
theorem Qc : ∀(t:RT) (a q:Nat),q∈YA t a->a<=q/\q<a+(flat t).length
 | .mk x ks,a,q,h=>by
  rw[Qa]at h;rw[AR,List.length_cons]
  split at h
  ·simp at h;omega
  ·have:=KD x.k ks (a+1) q h;omega
theorem KD (k:Int):∀(us:List RT) (a q:Nat),q∈UU k us a->a<=q/\q<a+(Ah us).length
 | [],a,q,h=>by simp[Ly]at h
 | u::us,a,q,h=>by
  rw[Hf,aI0]at h;rw[Aq,aB0]
  rcases h with h | h
  ·have:=Qc u a q h;omega
  ·split at h
   ·simp at h
   ·have:=KD k us _ q h;omega
end
mutual
theorem Kr : ∀(t:RT) (a q:Nat),q∈NM t a->a<=q/\q<a+(flat t).length
 | .mk x ks,a,q,h=>by
  rw[Kq]at h;rw[AR,List.length_cons]
  split at h
  ·simp at h;omega
  ·have:=IJ x.k ks (a+1) q h;omega
theorem IJ (k:Int):∀(us:List RT) (a q:Nat),q∈NN k us a->a<=q/\q<a+(Ah us).length
 | [],a,q,h=>by simp[Gi]at h
 | u::us,a,q,h=>by
  rw[Ec]at h;rw[Aq,aB0]
  have key:q∈NM u a\/q∈NN k us (a+(flat u).length):=by
   split at h
   ·rcases aI0.1 h with h | h
    ·exact .inr h
    ·split at h
     ·exact .inl h
     ·simp at h
   ·exact aI0.1 h
  rcases key with h | h
  ·have:=Kr u a q h;omega
  ·have:=IJ k us _ q h;omega
end
mutual
theorem BG_ : ∀(t:RT) (a p q:Nat),(p,q)∈aC t a->(a<=p/\p<a+(flat t).length)/\(a<=q/\q<a+(flat t).length)
 | .mk x ks,a,p,q,h=>by
  rw[MW]at h;rw[AR,List.length_cons]
  split at h
  ·simp at h
  ·rcases aI0.1 h with h | h
   ·rcases UC x.k ks (a+1) [] p q h with ⟨h1 | h1,h2⟩
    ·omega
    ·simp at h1
   ·split at h
    ·obtain⟨h1,h2⟩:=Jq.1 h;have:=IJ x.k ks _ p h1;have:=KD x.k ks _ q h2;omega
    ·simp at h
theorem UC (k:Int):∀(us:List RT) (a:Nat) (acc:List Nat) (p q:Nat),(p,q)∈YE k us a acc->((a<=p/\p<a+(Ah us).length)\/p∈acc)/\(a<=q/\q<a+(Ah us).length)
 | [],a,acc,p,q,h=>by simp[Jx]at h
 | u::us,a,acc,p,q,h=>by
  rw[Ej]at h;rw[Aq,aB0];simp only[aI0]at h
  rcases h with h | h | h
  ·have:=BG_ u a p q h;omega
  ·split at h
   ·obtain⟨h1,h2⟩:=Jq.1 h;have:=Qc u a q h2;exact⟨.inr h1,by omega⟩
   ·simp at h
  ·obtain⟨h1,h2⟩:=UC k us _ _ p q h;refine⟨?_,by omega⟩
   rcases h1 with h1 | h1
   ·left;omega
   ·split at h1
    ·rcases aI0.1 h1 with h1 | h1
     ·have:=Kr u a p h1;left;omega
     ·split at h1
      ·exact .inr h1
      ·simp at h1
    ·simp at h1
end
def inB (u:RT) (a p:Nat):Bool:=decide (a<=p)&&decide (p<a+(flat u).length)
theorem CR_ {u:RT} {a p:Nat}:inB u a p=true↔a<=p/\p<a+(flat u).length:=by unfold inB;simp
mutual
def enT : RT->Nat->Nat->Bool
 | .mk x ks,a,p=>decide (a=p)||enL x.k ks (a+1) p
def enL (k:Int):List RT->Nat->Nat->Bool
 | [],_,_=>false
 | u::us,a,p=>enL k us (a+(flat u).length) p||((!decide (k=4)||Fp us)&&(inB u a p&&enT u a p))
end
theorem Eo_ (x:Nd) (ks:List RT) (a p:Nat):enT (.mk x ks) a p=(decide (a=p)||enL x.k ks (a+1) p):=by rw[enT]
theorem iF (k:Int) (a p:Nat):enL k [] a p=false:=by rw[enL]
theorem AZ_ (k:Int) (u:RT) (us:List RT) (a p:Nat):enL k (u::us) a p=(enL k us (a+(flat u).length) p||((!decide (k=4)||Fp us)&&(inB u a p&&enT u a p))):=by rw[enL]
def Lf (l:List Nd) (a p:Nat):Prop:=∀x,a<=p->l[p-a]? =some x->x.k=2\/x.k=3
theorem Lf.left {l m:List Nd} {a p:Nat} (h:Lf (l++m) a p):Lf l a p:=fun x h1 h2=>h x h1 (by
 rw[aV0 (aG0.1 h2).1];exact h2)
theorem Lf.right {l m:List Nd} {a p:Nat} (h:Lf (l++m) a p):Lf m (a+l.length) p:=fun x h1 h2=>h x (by omega) (by
 rw[aX0 (by omega),Nat.sub_sub];exact h2)
theorem Lf.kids {x:Nd} {ks:List RT} {a p:Nat} (h:Lf (flat (.mk x ks)) a p):Lf (Ah ks) (a+1) p:=fun y h1 h2=>h y (by omega) (by
 rw[AR,show p-a=(p-(a+1))+1 by omega,bJ0];exact h2)
theorem Lf.head {x:Nd} {ks:List RT} {a p:Nat} (h:Lf (flat (.mk x ks)) a p) (hx:¬(x.k=2\/x.k=3)):a≠p:=fun e=>hx (h x (by omega) (by rw[AR,show p-a=0 by omega];rfl))
theorem PD {x:Nd} {ks:List RT} (h:EZ (.mk x ks)=true) (hx:x.k=2\/x.k=3):ks=[]:=by
 obtain⟨h1,h2,_⟩:=Cx h;unfold DA at h1
 have h0:x.n=0:=by
  rcases hx with hx | hx
  ·rw[if_neg (by omega),if_pos hx]at h1;simp only[aN0,decide_eq_true_eq]at h1;exact h1.1
  ·rw[if_neg (by omega),if_neg (by omega),if_pos hx]at h1;simp only[aN0,decide_eq_true_eq]at h1;exact h1.1
 exact bK0 (by omega)
theorem eF {x:Nd} {ks:List RT} (h:EZ (.mk x ks)=true) (hx:x.k=6\/x.k=7\/x.k=8):∃u,ks=[u]:=by
 obtain⟨h1,h2,_⟩:=Cx h;unfold DA at h1
 have h0:x.n=1:=by
  rcases hx with hx | hx | hx<;>simp[hx]at h1<;>exact h1.2
 exact List.length_eq_one_iff.1 (by omega)
mutual
theorem ZJ : ∀(t:RT) (a p:Nat),EZ t=true->Lf (flat t) a p->(p∈NM t a↔enT t a p=true)
 | .mk x ks,a,p,ok,hl=>by
  rw[Kq,Eo_]
  by_cases hx:x.k=2\/x.k=3
  ·rw[if_pos hx,PD ok hx,iF];simp only[aE0,Bool.or_false,decide_eq_true_eq];exact eq_comm
  ·have qE:=hl.head hx;rw[if_neg hx,decide_eq_false qE,Bool.false_or];exact iG x.k ks (a+1) p (Cx ok).2.2 hl.kids
theorem iG (k:Int):∀(us:List RT) (a p:Nat),Fs us=true->Lf (Ah us) a p->(p∈NN k us a↔enL k us a p=true)
 | [],a,p,_,_=>by simp[Gi,iF]
 | u::us,a,p,ok,hl=>by
  obtain⟨ok1,xV⟩:=Ck ok;rw[Aq]at hl;have i1:=ZJ u a p ok1 hl.left;have i2:=iG k us _ p xV hl.right;rw[Ec,AZ_,cV0,aN0,aN0,<-i2]
  have e1:p∈NM u a↔(inB u a p=true/\enT u a p=true):=by
   rw[<-i1];exact⟨fun h=>⟨CR_.2 (Kr u a p h),h⟩,fun h=>h.2⟩
  rw[<-e1]
  by_cases h4:k=4
  ·rw[if_pos h4,aI0];cases hs:Fp us<;>simp[h4]
  ·rw[if_neg h4,aI0];simp only[h4,decide_false,Bool.not_false,Bool.true_or,true_and];exact or_comm
end
mutual
theorem Wo : ∀(t:RT) (a:Nat),(NM t a).Nodup
 | .mk x ks,a=>by
  rw[Kq]
  split
  ·simp
  ·exact Sp x.k ks (a+1)
theorem Sp (k:Int):∀(us:List RT) (a:Nat),(NN k us a).Nodup
 | [],a=>by rw[Gi];simp
 | u::us,a=>by
  have h1:=Wo u a;have h2:=Sp k us (a+(flat u).length);rw[Ec]
  split
  ·refine bS0.2 ⟨h2,?_,?_⟩
   ·split
    ·exact h1
    ·simp
   ·rintro x hx y hy rfl
    split at hy
    ·have:=IJ k us _ x hx;have:=Kr u a x hy;omega
    ·simp at hy
  ·refine bS0.2 ⟨h1,h2,?_⟩;rintro x hx y hy rfl;have:=IJ k us _ x hy;have:=Kr u a x hx;omega
end
-- what begins and ends are occurrences
mutual
theorem Qb : ∀(t:RT) (a q:Nat),q∈YA t a->∃x,(flat t)[q-a]? =some x/\(x.k=2\/x.k=3)
 | .mk x ks,a,q,h=>by
  rw[Qa]at h
  split at h
  ·rename_i hx;simp at h;subst h;exact⟨x,by rw[AR,eH0];rfl,hx⟩
  ·have h1:=KD x.k ks _ q h;obtain⟨y,hy,hk⟩:=Lz x.k ks _ q h;refine⟨y,?_,hk⟩;rw[AR,show q-a=(q-(a+1))+1 by omega,bJ0];exact hy
theorem Lz (k:Int):∀(us:List RT) (a q:Nat),q∈UU k us a->∃x,(Ah us)[q-a]? =some x/\(x.k=2\/x.k=3)
 | [],a,q,h=>by simp[Ly]at h
 | u::us,a,q,h=>by
  rw[Hf,aI0]at h;rw[Aq]
  rcases h with h | h
  ·have h1:=Qc u a q h;obtain⟨y,hy,hk⟩:=Qb u a q h;exact⟨y,by rw[aV0 (by omega)];exact hy,hk⟩
  ·split at h
   ·simp at h
   ·have h1:=KD k us _ q h;obtain⟨y,hy,hk⟩:=Lz k us _ q h;exact⟨y,by rw[aX0 (by omega),Nat.sub_sub];exact hy,hk⟩
end
mutual
theorem PG : ∀(t:RT) (a q:Nat),q∈NM t a->∃x,(flat t)[q-a]? =some x/\(x.k=2\/x.k=3)
 | .mk x ks,a,q,h=>by
  rw[Kq]at h
  split at h
  ·rename_i hx;simp at h;subst h;exact⟨x,by rw[AR,eH0];rfl,hx⟩
  ·have h1:=IJ x.k ks _ q h;obtain⟨y,hy,hk⟩:=PI x.k ks _ q h;refine⟨y,?_,hk⟩;rw[AR,show q-a=(q-(a+1))+1 by omega,bJ0];exact hy
theorem PI (k:Int):∀(us:List RT) (a q:Nat),q∈NN k us a->∃x,(Ah us)[q-a]? =some x/\(x.k=2\/x.k=3)
 | [],a,q,h=>by simp[Gi]at h
 | u::us,a,q,h=>by
  rw[Ec]at h;rw[Aq]
  have key:q∈NM u a\/q∈NN k us (a+(flat u).length):=by
   split at h
   ·rcases aI0.1 h with h | h
    ·exact .inr h
    ·split at h
     ·exact .inl h
     ·simp at h
   ·exact aI0.1 h
  rcases key with h | h
  ·have h1:=Kr u a q h;obtain⟨y,hy,hk⟩:=PG u a q h;exact⟨y,by rw[aV0 (by omega)];exact hy,hk⟩
  ·have h1:=IJ k us _ q h;obtain⟨y,hy,hk⟩:=PI k us _ q h;exact⟨y,by rw[aX0 (by omega),Nat.sub_sub];exact hy,hk⟩
end
mutual
theorem QK : ∀(t:RT) (a p q:Nat),(p,q)∈aC t a->(∃x,(flat t)[p-a]? =some x/\(x.k=2\/x.k=3))/\(∃x,(flat t)[q-a]? =some x/\(x.k=2\/x.k=3))
 | .mk x ks,a,p,q,h=>by
  rw[MW]at h
  have lift:∀r,a+1<=r->(∃x,(Ah ks)[r-(a+1)]? =some x/\(x.k=2\/x.k=3))->∃y,(flat (.mk x ks))[r-a]? =some y/\(y.k=2\/y.k=3):=by
   rintro r hr ⟨y,hy,hk⟩;refine⟨y,?_,hk⟩;rw[AR,show r-a=(r-(a+1))+1 by omega,bJ0];exact hy
  split at h
  ·simp at h
  ·rcases aI0.1 h with h | h
   ·have h1:=UC x.k ks _ [] p q h;obtain⟨h2,h3⟩:=Xn x.k ks _ [] p q h;simp only[List.not_mem_nil,or_false]at h1 h2;exact⟨lift p h1.1.1 h2,lift q h1.2.1 h3⟩
   ·split at h
    ·obtain⟨h1,h2⟩:=Jq.1 h;exact⟨lift p (IJ x.k ks _ p h1).1 (PI x.k ks _ p h1),lift q (KD x.k ks _ q h2).1 (Lz x.k ks _ q h2)⟩
    ·simp at h
theorem Xn (k:Int):∀(us:List RT) (a:Nat) (acc:List Nat) (p q:Nat),(p,q)∈YE k us a acc->((∃x,(Ah us)[p-a]? =some x/\(x.k=2\/x.k=3))\/p∈acc)/\(∃x,(Ah us)[q-a]? =some x/\(x.k=2\/x.k=3))
 | [],a,acc,p,q,h=>by simp[Jx]at h
 | u::us,a,acc,p,q,h=>by
  rw[Ej]at h;rw[Aq]
  have l1:∀r,a<=r/\r<a+(flat u).length->(∃x,(flat u)[r-a]? =some x/\(x.k=2\/x.k=3))->∃y,(flat u++Ah us)[r-a]? =some y/\(y.k=2\/y.k=3):=by
   rintro r hr ⟨y,hy,hk⟩;exact⟨y,by rw[aV0 (by omega)];exact hy,hk⟩
  have l2:∀r,a+(flat u).length<=r->(∃x,(Ah us)[r-(a+(flat u).length)]? =some x/\(x.k=2\/x.k=3))->∃y,(flat u++Ah us)[r-a]? =some y/\(y.k=2\/y.k=3):=by
   rintro r hr ⟨y,hy,hk⟩;exact⟨y,by rw[aX0 (by omega),Nat.sub_sub];exact hy,hk⟩
  simp only[aI0]at h
  rcases h with h | h | h
  ·have h1:=BG_ u a p q h;obtain⟨h2,h3⟩:=QK u a p q h;exact⟨.inl (l1 p h1.1 h2),l1 q h1.2 h3⟩
  ·split at h
   ·obtain⟨h1,h2⟩:=Jq.1 h;exact⟨.inr h1,l1 q (Qc u a q h2) (Qb u a q h2)⟩
   ·simp at h
  ·obtain⟨h1,h2⟩:=UC k us _ _ p q h;obtain⟨h3,h4⟩:=Xn k us _ _ p q h;refine⟨?_,l2 q h2.1 h4⟩
   by_cases hacc:p∈acc
   ·exact .inr hacc
   left
   have h5:∀{c:List Nat},p∈(if k=4 then NM u a++(if DQ u=true then acc else [])else [])->p∈NM u a:=by
    intro _ h
    split at h
    ·rcases aI0.1 h with h | h
     ·exact h
     ·split at h
      ·exact absurd h hacc
      ·simp at h
    ·simp at h
   by_cases nW:p∈NM u a
   ·exact l1 p (Kr u a p nW) (PG u a p nW)
   ·rcases h1 with h1 | h1
    ·rcases h3 with h3 | h3
     ·exact l2 p h1.1 h3
     ·exact absurd (h5 (c:=[]) h3) nW
    ·exact absurd (h5 (c:=[]) h1) nW
end
end Go.Proofs.Wy
end
section
namespace Go.Proofs.Wy
open Go Go.Dm Tryz
variable [DMode]
attribute [local irreducible] DW Bm Bq
set_option maxRecDepth 100000
theorem AO : (⟨#[]⟩:ByteArray).size=0:=rfl
def XQ : Ann:=⟨[],[]⟩
theorem rO (x:Nd):Ae prog 156 [.agg (BM x)] (.bool (DA x)):=by
 refine Ac [] XQ func156 call156 ntmps156 mxd (Ar @XQ.eq_1 results156) rfl (fun qJ B qX qQ=> ?_);simp only[Ak];have e1:=EH 200 Yx Gr x.s;have e2:=EH 201 Yz Gy x.s;unfold DA YD
 by_cases k1:x.k=1
 ·exact Aw Ab Ab (GE @BM.eq_1 @AO k1)
 by_cases k2:x.k=2
 ·by_cases h0:x.n=0
  ·exact Aw (AJ e1) Ab (Mj @BM.eq_1 @AO k1 k2 h0)
  ·have vD:(x.n==0)=false:=by simpa using h0
   exact Aw Ab Ab (MY @BM.eq_1 @AO k1 k2 h0 vD)
 by_cases k3:x.k=3
 ·by_cases h0:x.n=0
  ·exact Aw (AJ e2) Ab (MY @BM.eq_1 @AO k1 k2 k3 h0)
  ·have vD:(x.n==0)=false:=by simpa using h0
   exact Aw Ab Ab (NA @BM.eq_1 @AO k1 k2 k3 h0 vD)
 by_cases k4:x.k=4
 ·exact Aw Ab Ab (MY @BM.eq_1 @AO k1 k2 k3 k4)
 by_cases k5:x.k=5
 ·exact Aw Ab Ab (NA @BM.eq_1 @AO k1 k2 k3 k4 k5)
 by_cases k6:x.k=6
 ·exact Aw Ab Ab (Mi @BM.eq_1 @AO k1 k2 k3 k4 k5 k6)
 by_cases k7:x.k=7
 ·exact Aw Ab Ab (YF @BM.eq_1 @AO k1 k2 k3 k4 k5 k6 k7)
 by_cases k8:x.k=8
 ·exact Aw Ab Ab (UK @BM.eq_1 @AO k1 k2 k3 k4 k5 k6 k7 k8)
 exact Aw Ab Ab (UK @BM.eq_1 @AO k1 k2 k3 k4 k5 k6 k7 k8)
def DH (r:List Nd) (w:Nat):Bool:=match Eo r w with
 | some []=>true
 | _=>false
theorem Td (x:Nd) (r:List Nd):DH (x::r) 0=false:=by unfold DH;rw[Ch]
theorem KL {r:List Nd} {w:Nat} (h:Eo r w=none):DH r w=false:=by unfold DH;rw[h]
theorem Te {x:Nd} {r:List Nd} {w:Nat} (h:DA x=true):DH (x::r) (w+1)=DH r (w+x.n.toNat):=by unfold DH;rw[Ds,if_pos h]
theorem UW (w:Nat):DH [] w=decide (w=0):=by
 unfold DH
 cases w with
 | zero=>rw[Ch];rfl
 | succ w=>rw[Hg];rfl
def XR : Ann:=⟨[],[⟨4,[5],[],[]⟩]⟩
theorem Fg (l:List Nd) (hs:l.length<=1572864):Ae prog 103 [Bl l] (.bool (CT l)):=by
 refine Ac [] XR func103 call103 ntmps103 mxd (Ar @XR.eq_1 results103) rfl (fun qJ B qX qQ=> ?_);clear qJ;simp only[Ak];obtain⟨R,hR⟩:∃R,R=CT l:=⟨_,rfl⟩;rw[<-hR];have vJ:DH l 1=R:=by rw[hR];rfl
 clear hR
 (refine AX Ab Ab Ab ?_;intros;refine Am ?_)
 refine Al (X:={p:Nat×Nat//p.1<=l.length/\DH (l.drop p.1) p.2=R/\p.2<=1+p.1*1572864/\(p.1=0->p.2=1)}) (fun p=>⟨[(0,Bl l),(3,.int .i64 p.1.2),(6,Bl l),(7,.int .i64 l.length),(8,.int .i64 p.1.1)],[]⟩) (fun p=>l.length-p.1.1) ⟨(0,1),by simp[vJ]⟩ (Sub.lit (by simp)) ?_;clear vJ;rintro⟨⟨k,w⟩,hk,hw,dR,hw0⟩;simp only at hk hw dR hw0 |-
 by_cases qV:k<l.length
 ·obtain⟨x,hx,qA,_⟩:=Ax qV;rw[aW0 qV,qA]at hw;have e1:=rO x;simp only[BM]at e1
  cases w with
  | zero =>
   rw[Td]at hw;subst hw;exact Aw Ab Ab (Ik @BM.eq_1 qV hx qA)
  | succ v =>
   have hv:¬(v:Int)+1=0:=by omega
   have kT:(((v:Int)+1)==0)=false:=by simpa using hv
   cases hm:DA x
   ·rw[hm]at e1;rw[KL (by rw[Ds,hm];rfl)]at hw;subst hw;exact Aw (AJ e1) Ab (MY @BM.eq_1 qV hx qA hv kT)
   ·rw[hm]at e1;have zU:=GV hm;obtain⟨c,yQ⟩:∃c:Nat,x.n=(c:Int):=⟨x.n.toNat,by omega⟩;rw[yQ]at e1;rw[Te hm,yQ,dD0]at hw
    by_cases jE:l.length<c
    ·have yW:(l.length:Int)<(c:Int):=by omega
     rw[KL (Qh _ _ (by rw[cB0];omega))]at hw;subst hw;exact Aw (AJ e1) Ab (YF @BM.eq_1 qV hx qA hv kT yQ jE yW)
    ·have yW:¬(l.length:Int)<(c:Int):=by omega
     have q1:IntKind.i64.wrap ((c:Int)-1)=(c:Int)-1:=wq;have q2:IntKind.i64.wrap ((v:Int)+1+((c:Int)-1))=(v:Int)+(c:Int):=by rw[wq];omega
     (refine AX (AJ e1) Ab (Yn @BM.eq_1 qV hx qA hv kT yQ jE yW q1 q2) ?_;intros;refine Am ?_)
     refine An.mk ⟨(k+1,v+c),show k+1<=l.length/\DH (l.drop (k+1)) (v+c)=R/\v+c<=1+(k+1)*1572864/\(k+1=0->v+c=1) from ⟨by omega,hw,by omega,by omega⟩⟩ (Sub.lit (by simp)) (by simp;omega)
     skip
 ·have qZ:k=l.length:=by omega
  subst qZ;rw[cN0,UW]at hw
  cases w with
  | zero =>
   have zG:0<l.length:=by
    rcases Nat.eq_zero_or_pos l.length with h | h
    ·have:=hw0 h;omega
    ·exact h
   simp only[decide_true]at hw;subst hw;exact Aw Ab Ab (AJ zG)
  | succ v =>
   have hw2:R=false:=by rw[<-hw];simp
   subst hw2;have hv:¬(v:Int)+1=0:=by omega
   have kT:(((v:Int)+1)==0)=false:=by simpa using hv
   exact Aw Ab Ab (Ar hv kT)
end Go.Proofs.Wy
end
section
namespace Go.Dm
variable [DMode]
theorem Aa_ {cur:Er} {M:List Nat} {h:Array Obj} {l:Loc} {obj:DObj} (hk:Jd cur M h l obj):∀b∈l.blks,∀c,h[b]? ≠some (.deferred c):=by
 intro b hb c hc
 cases obj with
 | box cs =>
  obtain⟨b',arr,ty,h1,h2,_⟩:=hk;rw[h1]at hb;simp only[aE0]at hb;subst hb;rw[h2]at hc;simp at hc
 | row et k bs es =>
  obtain⟨_,⟨_,h1,_⟩ | ⟨b',arr,cap,h1,h2,h3,_⟩⟩:=hk
  ·rw[h1]at hb;cases hb
  ·rw[h1]at hb;simp only[aE0]at hb;subst hb;rw[h3]at hc;simp at hc
 | map ks vs =>
  obtain⟨b',es,clk,h1,h2,_⟩:=hk;rw[h1]at hb;simp only[aE0]at hb;subst hb;rw[h2]at hc;simp at hc
 | abs A=>exact A.nd _ _ _ _ hk b hb c hc
def tY (sl:List (Nat×DVal)) (hsl:Jp sl<=1) (own:List Ent) (tm:Array Value) (own0:List Ent) (loc0:Nat->Loc) (l:Nat) (L:Loop):Abs where
 J:=fun M bl hd h=>hd= .func (.yield l) #[] #[]/\∃loc,bl=Aa own loc++[l]/\(own.map (·.id)).Nodup/\(∀e∈own,Jd (Ad own loc) M h (loc e.id) e.obj) /\
  (∀p∈sl,rd (Ad own loc) M h p.2 (tm.getD p.1 Go.undef))/\h[l]? =some (.loop L)/\(∀e∈own,e.r<1->Ad own0 loc0 e.id e.r=some (loc e.id))
 weak:=by
  rintro M M' bl hd h h' hb hm hk ⟨h1,loc,h2,h3,h4,h5,h6,h7⟩;have W:∀n,Weak (Ad own loc) (Ad own loc) M M' h h' n:=fun n=>⟨fun _ _ _ _ h=>h,hb,hm⟩
  refine⟨h1,loc,h2,h3,fun e he=>Bd (W _) (Nat.le_refl _) (fun b o qG ho=>hk b o ?_ ho) (h4 e he),fun p hp=>Cc (W _) _ _ (Nat.le_refl _) (h5 p hp),hk l _ ?_ h6,h7⟩
  ·rw[h2];exact aL0 _ (AZ he qG)
  ·rw[h2];simp
 one:=by rintro _ _ _ _ ⟨rfl,_⟩;exact⟨rfl,rfl⟩
 nd:=by
  rintro M bl hd h ⟨_,loc,rfl,_,h4,_,h6,_⟩ b hb c hc
  rcases aI0.1 hb with hb | hb
  ·obtain⟨e,he,hb⟩:=bQ0.1 hb;exact Aa_ (h4 e he) b hb c hc
  ·simp only[aE0]at hb;subst hb;rw[h6]at hc;simp at hc
def Rh : List Nat->List DVal->List (Nat×DVal)->List (Nat×DVal)
 | p::ps,d::ds,l=>Rh ps ds ((p,d)::l)
 | _,_,l=>l
theorem Nc : ∀(z:List (Nat×Value)) (t:Array Value),(z.foldl (fun t p=>t.setIfInBounds p.1 p.2) t).size=t.size
 | [],t=>rfl
 | p::z,t=>by rw[cQ0,Nc z];simp
theorem eB {cur:Er} {M:List Nat} {h:Array Obj}:∀(ps:List Nat) (ds:List DVal) (vs:List Value) (l:List (Nat×DVal)) (t:Array Value),ds.length=ps.length->(∀p∈ps,p<t.size)->Au cur M h ds vs ->
  (∀i,rd cur M h (Be l i) (t.getD i Go.undef))->∀i,rd cur M h (Be (Rh ps ds l) i) (((ps.zip vs).foldl (fun t p=>t.setIfInBounds p.1 p.2) t).getD i Go.undef)
 | [],ds,vs,l,t,hl,hp,hr,hs=>by
  cases ds with
  | nil=>simpa[Rh]using hs
  | cons d ds=>simp at hl
 | p::ps,[],vs,l,t,hl,hp,hr,hs=>by simp at hl
 | p::ps,d::ds,vs,l,t,hl,hp,hr,hs=>by
  simp only[Au]at hr;obtain⟨v,r,rfl,h1,h2⟩:=hr;simp only[Rh,List.zip_cons_cons,cQ0];refine eB ps ds r _ _ (by simpa using hl) (fun q hq=>by simpa using hp q (aF0 _ hq)) h2 ?_;intro i;have qV:=hp p aH0;simp only[Be,aK0,cO0]
  by_cases hi:i=p
  ·subst hi;simpa[qV]using h1
  ·rw[if_neg hi,if_neg (fun h=>hi h.symm)];have:=hs i;simpa[aK0]using this
theorem WB : ∀(l:List (Nat×DVal)) (i:Nat),Be l i= .any\/(i,Be l i)∈l
 | [],i=> .inl rfl
 | (j,d)::l,i=>by
  simp only[Be]
  split
  ·rename_i h;subst h;exact .inr (by simp)
  ·exact(WB l i).imp id (fun h=>aF0 _ h)
def RQ (B:Base) (okk:Bool) (S:List Ent) (j:Code):Exit->DS->Prop
 | .normal,s=>okk=true/\Sub B ⟨[],s.own⟩ ⟨[],S⟩
 | .ret,s=>okk=false/\j= .ret/\Sub B ⟨[],s.own⟩ ⟨[],S⟩
 | .exit id,s=>okk=false/\j= .exit id/\Sub B ⟨[],s.own⟩ ⟨[],S⟩
 | .goto t,s=>okk=false/\j= .goto t/\Sub B ⟨[],s.own⟩ ⟨[],S⟩
 | _,_=>False
def RB (P:Program) (nt:Nat) (body:Code) (okk:Bool) (S:List Ent) (j:Code) (s:DS):Prop:=∀B:Base,B.nt=nt->DW P B body (RQ B okk S j) s
theorem FI_ {P:Program} {nt:Nat} {body:Code} {okk:Bool} {S:List Ent} {j:Code} {s:DS} (h:∀B:Base,B.nt=nt->DW P B body (RQ B okk S j) s):RB P nt body okk S j s:=h
def RA (P:Program) (nt:Nat) (body:Code) (okk:Bool) (S:List Ent) (j:Code):Exit->DS->Prop
 | .normal,s=>RB P nt body okk S j s
 | _,_=>False
theorem ZR {own own':List Ent} {loc loc':Nat->Loc} {M M':List Nat} {h h':Array Obj} {n:Nat} (hc:∀e∈own',e.r<n->Ad own loc e.id e.r=some (loc' e.id)) (hb:∀(b:Nat) (o:Obj),b∉M->FY o=true->h[b]? =some o->h'[b]? =some o)
  (hm:∀b∈M',b∈M\/h.size<=b):Weak (Ad own loc) (Ad own' loc') M M' h h' n where
 c:=by
  intro id r l hr hl;obtain⟨e,he,rfl,rfl,rfl⟩:=BC hl;exact hc e he hr
 b:=hb
 m:=by
  intro b o qG _ ho vV
  rcases hm b vV with h1 | h1
  ·exact qG h1
  ·have:=(aC0.1 ho).1;omega
theorem EN (w:World) (l:Nat) (o:Obj):(w.putObj l o).heap.size=w.heap.size:=by simp[World.putObj]
theorem Ez_ {P:Program} {sl:List (Nat×DVal)} {hsl:Jp sl<=1} {own S:List Ent} {tm:Array Value} {own0:List Ent} {loc0:Nat->Loc} {l nt:Nat} {L:Loop} {x:List DVal} {okk:Bool} {j:Code}
  (hL:L.state= .ready) (hLp:L.pending=none) (hLt:L.tmps=tm) (qX:tm.size=nt) (hx:x.length=L.params.size) (mN:∀p∈L.params.toList,p<nt) (hx0:AH x=0)
  (h:∀B:Base,B.nt=nt->DW P B L.assign (RA P nt L.body okk S j) ⟨Rh L.params.toList x sl,own⟩) :
  YAt P l (tY sl hsl own tm own0 loc0 l L) x okk (tY sl hsl S tm own0 loc0 l { L with state:=if okk then .ready else .done,pending:=if okk then none else some j }):=by
 rintro M bl hd w vs hnd mK gH ⟨rfl,loc,rfl,hidn,wO,jJ,zJ,hver0⟩ wF;have hlM:l∈M:=mK l (by simp)
 have fH:l∉Aa own loc:=by
  intro hm;rw[bS0]at hnd;exact hnd.2.2 l hm l (by simp) rfl
 have hhotM:∀b∈Aa own loc,b∈M:=fun b hb=>mK b (aL0 _ hb)
 have qU:=Ap _ _ wF;simp only[bI0]at qU;have hy:=run_yield (P:=P) (args:=vs) zJ (by omega)
 -- the base of the assignment
 let M0:List Nat:=M.filter (fun b=> !(Aa own loc).contains b)
 have hM0:∀b,b∈M0↔b∈M/\b∉Aa own loc:=by
  intro b;simp only[M0,cC0,List.contains_eq_mem,Bool.not_eq_true',decide_eq_false_iff_not]
 have hMM:∀b,b∈Aa own loc++M0↔b∈M:=by
  intro b;rw[aI0,hM0]
  constructor
  ·rintro (h | h)
   ·exact hhotM b h
   ·exact h.1
  ·intro h
   by_cases hb:b∈Aa own loc
   ·exact .inl hb
   ·exact .inr ⟨h,hb⟩
 have W0:∀n,Weak (Ad own loc) (Ad own loc) M (Aa own loc++M0) w.heap w.heap n:=fun n =>
  ⟨fun _ _ _ _ h=>h,fun b o _ (_:FY o=true) ho=>ho,fun b o hb (_:FY o=true) _ hm=>hb ((hMM b).1 hm)⟩
 let B1:Base:=⟨own,loc,M0,1,w,nt,some l,by decide,w.heap.size,Nat.le_refl _⟩
 let a1:Act:={ tmps:=(L.params.zip vs).foldl (fun tmps (t,a)=>tmps.setIfInBounds t a) L.tmps,defers:=[] }
 have nE:a1.tmps=(L.params.toList.zip vs.toList).foldl (fun t p=>t.setIfInBounds p.1 p.2) tm:=by
  show (L.params.zip vs).foldl _ _=_
  rw[<-Array.foldl_toList,Array.toList_zip,hLt]
 have R1:Rel B1 ⟨Rh L.params.toList x sl,own⟩ a1 w loc:=by
  refine⟨⟨hidn,?_,fun b hb hm=>((hM0 b).1 hm).2 hb,fun b hb=>gH b ((hMM b).1 hb),fun e he=>Bd (W0 _) (Nat.le_refl _) (fun _ _ _ h=>h) (wO e he)⟩,Upd.refl _ _,fun b hb=> .inl hb,fun e he _=>AG hidn he,?_,?_,⟨[],rfl,List.nodup_nil,by simp⟩⟩
  ·rw[bS0]at hnd;exact hnd.1
  ·intro i;rw[nE];refine eB _ _ _ _ _ (by simpa using hx) (fun p hp=>by rw[qX];exact mN p hp) ?_ ?_ i
   ·exact AQ (n:=0) ⟨fun _ _ _ h=>by omega,fun b o _ (_:FY o=true) ho=>ho,fun b o hb (_:FY o=true) _ hm=>hb ((hMM b).1 hm)⟩ _ _ (dF0 hx0) wF
   ·intro q
    rcases WB sl q with h1 | h1
    ·rw[h1];simp[rd]
    ·exact Cc (W0 _) _ _ (Nat.le_refl _) (jJ _ h1)
  ·rw[nE,Nc];exact qX
 refine⟨L.fn,_,L.assign,L.body,hy,roundIn_of_wpIn (F:=wd none) trivial ?_⟩;refine wpIn_mono (h B1 rfl a1 w loc R1) ?_;rintro e a' w' ⟨s',loc',hq,R'⟩
 cases e<;>simp only[RA]at hq<;>first
  | exact hq.elim
  | skip
 -- the record lies as it lay
 have gL:w'.heap[l]? =some (.loop L):=by
  rw[R'.upd.blk l (aC0.1 zJ).1 fH];exact zJ
 have hllt:l<w'.heap.size:=(aC0.1 gL).1;refine⟨w'.putObj l (.loop { L with state:= .busy }),run_beginRound gL hL,?_⟩;obtain⟨w2,hw2⟩:∃w2,w2=w'.putObj l (.loop { L with state:= .busy }):=⟨_,rfl⟩;rw[<-hw2];have hsz2:w2.heap.size=w'.heap.size:=by rw[hw2];exact EN _ _ _
 have hoth:∀b,b≠l->w2.heap[b]? =w'.heap[b]? :=fun b hb=>by rw[hw2];exact World.putObj_heap_other hb
 have hlb:w2.heap[l]? =some (.loop { L with state:= .busy }):=by rw[hw2];exact World.putObj_heap_same hllt
 have hlM0:l∈M0:=(hM0 l).2 ⟨hlM,fH⟩;have cJ:l∉Aa s'.own loc':=fun hm=>R'.st.ap l hm hlM0
 have hd2:∀(b:Nat) (o:Obj),FY o=true->w'.heap[b]? =some o->w2.heap[b]? =some o:=by
  intro b o ho hb;rw[hoth b (fun he=>by subst he;rw[gL]at hb;simp only[aA0]at hb;subst hb;simp[FY]at ho)];exact hb
 have St2:St s'.own loc' M0 w2.heap:=R'.st.same (dF0 hsz2.symm) hd2 (fun b o hm hb=>by rw[hoth b (fun he=>cJ (he▸hm))];exact hb)
 have W2:∀n,Weak (Ad s'.own loc') (Ad s'.own loc') (Aa s'.own loc'++M0) (Aa s'.own loc'++M0) w'.heap w2.heap n:=fun n =>
  ⟨fun _ _ _ _ h=>h,fun b o _ (h1:FY o=true) h2=>hd2 b o h1 h2,fun b o hb (_:FY o=true) _=>hb⟩
 let B2:Base:=⟨s'.own,loc',M0,1,w2,nt,some l,by decide,w2.heap.size,Nat.le_refl _⟩
 obtain⟨rs,mU,_,_,hrs2⟩:=R'.df;have hz:rs=[]:=hrs2 (by simp[B1])
 let B2:Base:=⟨s'.own,loc',M0,1,w2,nt,some l,by decide,w2.heap.size,Nat.le_refl _⟩
 have R2:Rel B2 s' a' w2 loc' :=
  ⟨St2,Upd.refl _ _,fun b hb=> .inl hb,fun e he _=>AG St2.nd he,fun i=>Cc (W2 _) _ _ (Nat.le_refl _) (R'.sl i),R'.nt,⟨[],by rw[hz]at mU;simpa using mU,List.nodup_nil,by simp⟩⟩
 refine wpIn_mono (hq B2 rfl a' w2 loc' R2) ?_;rintro e a2 w3 ⟨s3,loc3,bL,R3⟩
 have gS:w3.heap[l]? =some (.loop { L with state:= .busy }):=by
  rw[R3.upd.blk l (aC0.1 hlb).1 cJ];exact hlb
 have fin:∀(jump:Option Code),Sub B2 ⟨[],s3.own⟩ ⟨[],S⟩->jump.isNone=okk->jump=(if okk then none else some j)->∃v w4,(Instr.endRound l jump).run P w3= .ok v w4/\∃v0,Ending.returned v= .returned v0/\v0= .bool okk/\∃bl',Upd (Aa own loc++[l]) w w4/\bl'.Nodup/\(∀q∈bl',q<w4.heap.size/\(q∈Aa own loc++[l]\/w.heap.size<=q)) /\
   ∀M',(∀q∈M',q∈bl'\/(q∈M/\q∉Aa own loc++[l]))->(tY sl hsl S tm own0 loc0 l { L with state:=if okk then .ready else .done,pending:=if okk then none else some j }).J M' bl' (.func (.yield l) #[] #[]) w4.heap:=by
  intro jump yJ hj1 nG;have qM:=run_endRound (P:=P) jump gS
  have hrec':({ ({ L with state:= .busy }:Loop)with state:=if jump.isNone then .ready else .done,pending:=jump }:Loop)={ L with state:=if okk then .ready else .done,pending:=if okk then none else some j }:=by
   rw[hj1,nG]
  rw[hrec',hj1]at qM;obtain⟨w4,bU⟩:∃w4,w4=w3.putObj l (.loop { L with state:=if okk then .ready else .done,pending:=if okk then none else some j }):=⟨_,rfl⟩;rw[<-bU]at qM;have nL:=(aC0.1 gS).1;have mJ:w4.heap.size=w3.heap.size:=by rw[bU];exact EN _ _ _
  have yR:∀b,b≠l->w4.heap[b]? =w3.heap[b]? :=fun b hb=>by rw[bU];exact World.putObj_heap_other hb
  have hl4:w4.heap[l]? =some (.loop { L with state:=if okk then .ready else .done,pending:=if okk then none else some j }):=by rw[bU];exact World.putObj_heap_same nL
  have R3':Rel B2 ⟨[],s3.own⟩ a2 w3 loc3:=⟨R3.st,R3.upd,R3.new,R3.ver,fun i=>by simp[Be,rd],R3.nt,R3.df⟩;obtain⟨loc4,R4⟩:=yJ a2 w3 loc3 R3';have cU:l∉Aa S loc4:=fun hm=>R4.st.ap l hm hlM0
  have uput:∀(v:World) (o:Obj),Upd [l] v (v.putObj l o):=fun v o=>⟨rfl,rfl,rfl,fun _=>Nat.le_refl _,by rw[EN];exact Nat.le_refl _,fun b _ hb=>World.putObj_heap_other (fun h=>hb (by simp[h]))⟩
  have U1:Upd (Aa own loc++[l]) w w':=(Upd.refl _ w).trans R'.upd (fun x hx=> .inl (aL0 _ hx));have U2:Upd (Aa own loc++[l]) w w2:=by rw[hw2];exact U1.trans (uput _ _) (fun x hx=> .inl (aP0 _ hx))
  have U3:Upd (Aa own loc++[l]) w w3:=U2.trans R4.upd (fun x hx=>(R'.new x hx).imp (fun h=>aL0 _ h) id);have U4:Upd (Aa own loc++[l]) w w4:=by rw[bU];exact U3.trans (uput _ _) (fun x hx=> .inl (aP0 _ hx))
  have jK:∀q∈Aa S loc4,q<w4.heap.size/\(q∈Aa own loc++[l]\/w.heap.size<=q):=by
   intro q hq;refine⟨by rw[mJ];exact R4.st.lt q (aL0 _ hq),?_⟩
   rcases R4.new q hq with h | h
   ·exact(R'.new q h).imp (fun h=>aL0 _ h) id
   ·exact .inr (Nat.le_trans U2.size h)
  refine⟨_,w4,qM,_,rfl,rfl,Aa S loc4++[l],U4,?_,?_,?_⟩
  ·rw[bS0];exact⟨R4.st.bl,by simp,fun b hb b' qG gF=>cU (by simp only[aE0]at qG;rw[<-qG,<-gF];exact hb)⟩
  ·intro q hq
   rcases aI0.1 hq with hq | hq
   ·exact jK q hq
   ·simp only[aE0]at hq;subst hq;exact⟨by rw[mJ];exact nL,.inl (by simp)⟩
  ·intro M' hM'
   have cB:∀e∈S,e.r<1->Ad own loc e.id e.r=some (loc4 e.id):=by
    intro e he qV;obtain⟨e1,h1,h2,h3,h4⟩:=BC (R4.ver e he qV);have h5:=R'.ver e1 h1 (by show e1.r<1;omega);rw[h2,h3]at h5;rw[h4];exact h5
   have hinM:∀b∈M',b∈Aa S loc4++M0:=by
    intro b hb
    rcases hM' b hb with h | ⟨h1,h2⟩
    ·rcases aI0.1 h with h | h
     ·exact aL0 _ h
     ·simp only[aE0]at h;subst h;exact aP0 _ hlM0
    ·exact aP0 _ ((hM0 b).2 ⟨h1,fun h=>h2 (aL0 _ h)⟩)
   have hd4:∀(b:Nat) (o:Obj),FY o=true->w3.heap[b]? =some o->w4.heap[b]? =some o:=by
    intro b o ho hb;rw[yR b (fun he=>by subst he;rw[gS]at hb;simp only[aA0]at hb;subst hb;simp[FY]at ho)];exact hb
   have W4:∀n,Weak (Ad S loc4) (Ad S loc4) (Aa S loc4++M0) M' w3.heap w4.heap n:=fun n =>
    ⟨fun _ _ _ _ h=>h,fun b o _ (h1:FY o=true) h2=>hd4 b o h1 h2,fun b o hb (_:FY o=true) _ hm=>hb (hinM b hm)⟩
   have W5:Weak (Ad own loc) (Ad S loc4) M M' w.heap w4.heap 1:=by
    refine ZR cB (fun b o hb _ ho=> ?_) (fun b hb=> ?_)
    ·rw[U4.blk b (aC0.1 ho).1 (fun h=>hb (mK b h))];exact ho
    ·rcases hM' b hb with h | ⟨h1,_⟩
     ·rcases aI0.1 h with h | h
      ·exact(jK b h).2.imp (mK b) id
      ·simp only[aE0]at h;subst h;exact .inl hlM
     ·exact .inl h1
   refine⟨rfl,loc4,rfl,R4.st.nd,fun e he=> ?_,fun p hp=> ?_,hl4,fun e he qV=> ?_⟩
   ·exact Bd (W4 _) (Nat.le_refl _) (fun b o hb ho=>by rw[yR b (fun h=>cU (h▸AZ he hb))];exact ho) (R4.st.ok e he)
   ·refine Cc W5 _ _ (Nat.le_trans ?_ hsl) (jJ p hp)
    have:∀(l:List (Nat×DVal)),p∈l->mx p.2<=Jp l:=by
     intro l
     induction l with
     | nil=>intro h;cases h
     | cons q l ih =>
      intro h;simp only[Jp]
      rcases aJ0.1 h with rfl | h
      ·omega
      ·have:=ih h;omega
    exact this sl hp
   ·obtain⟨e1,h1,h2,h3,h4⟩:=BC (cB e he qV);have h5:=hver0 e1 h1 (by omega);rw[h2,h3]at h5;rw[h4];exact h5
 cases e<;>simp only[RQ]at bL<;>simp only[roundPost]
 ·obtain⟨rfl,hs⟩:=bL;exact fin none hs rfl rfl
 ·obtain⟨rfl,rfl,hs⟩:=bL;exact fin _ hs rfl rfl
 ·obtain⟨rfl,rfl,hs⟩:=bL;exact fin _ hs rfl rfl
 ·obtain⟨rfl,rfl,hs⟩:=bL;exact fin _ hs rfl rfl
end Go.Dm
end
