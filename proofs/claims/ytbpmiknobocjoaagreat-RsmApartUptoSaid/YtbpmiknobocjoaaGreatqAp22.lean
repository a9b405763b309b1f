/- Parts of a proof, laid together: RG, RX1. -/
import Derived.Test.YtbpmiknobocjoaaGreatqAp17
import Derived.Test.YtbpmiknobocjoaaGreatqAp18
import Derived.Test.YtbpmiknobocjoaaGreatqAp21
set_option linter.unusedSimpArgs false
set_option maxHeartbeats 8000000
set_option linter.unusedVariables false
set_option linter.unusedSectionVars false
section
namespace Go.Proofs.Wy
open Go Go.Dm Tryz
variable [DMode]
mutual
def BZ : RT->Bool
 | .mk x ks=>if x.k=2\/x.k=3 then false else if x.k=5 then Ep ks else if x.k=4\/x.k=7 then FN ks else true
def Ep : List RT->Bool
 | []=>false
 | t::ts=>BZ t||Ep ts
def FN : List RT->Bool
 | []=>true
 | t::ts=>BZ t&&FN ts
end
theorem Wj (x:Nd) (ks:List RT):BZ (.mk x ks)=if x.k=2\/x.k=3 then false else if x.k=5 then Ep ks else if x.k=4\/x.k=7 then FN ks else true:=by rw[BZ]
theorem Nv : ∀ts:List RT,Ep ts=ts.any BZ
 | []=>by rw[Ep];rfl
 | t::ts=>by rw[Ep,Nv ts];rfl
theorem NF : ∀ts:List RT,FN ts=ts.all BZ
 | []=>by rw[FN];rfl
 | t::ts=>by rw[FN,NF ts];rfl
theorem OI (t:RT) (ts:List RT):FN (t::ts)=(BZ t&&FN ts):=by rw[FN]
theorem GV : FN []=true:=by rw[FN]
theorem OH (ts:List RT) (t:RT):FN (ts++[t])=(FN ts&&BZ t):=by rw[NF,NF,List.all_append];simp
def Cn (l f:List Nat):List (Nat×Nat):=l.flatMap fun p=>f.map fun q=>(p,q)
theorem Gk {l f:List Nat} {p q:Nat}:(p,q)∈Cn l f↔p∈l/\q∈f:=by
 unfold Cn;simp only[bP0,aT0,_root_.Prod.mk.injEq]
 constructor
 ·rintro⟨a,ha,b,hb,rfl,rfl⟩;exact⟨ha,hb⟩
 ·rintro⟨ha,hb⟩;exact⟨p,ha,q,hb,rfl,rfl⟩
theorem Bd_ (f:List Nat):Cn [] f=[]:=rfl
mutual
def SL : RT->Nat->List Nat
 | .mk x ks,a=>if x.k=2\/x.k=3 then [a]else Wf x.k ks (a+1)
def Wf (k:Int):List RT->Nat->List Nat
 | [],_=>[]
 | u::us,a=>SL u a++(if k=4/\BZ u=false then []else Wf k us (a+(Ad u).length))
end
mutual
def NO : RT->Nat->List Nat
 | .mk x ks,a=>if x.k=2\/x.k=3 then [a]else Ps x.k ks (a+1)
def Ps (k:Int):List RT->Nat->List Nat
 | [],_=>[]
 | u::us,a=>if k=4 then Ps k us (a+(Ad u).length)++(if FN us=true then NO u a else [])else NO u a++Ps k us (a+(Ad u).length)
end
mutual
def Zq : RT->Nat->List (Nat×Nat)
 | .mk x ks,a=>if x.k=2\/x.k=3 then []else Zu x.k ks (a+1) []++(if x.k=6\/x.k=7 then Cn (Ps x.k ks (a+1)) (Wf x.k ks (a+1))else [])
def Zu (k:Int):List RT->Nat->List Nat->List (Nat×Nat)
 | [],_,_=>[]
 | u::us,a,acc=>Zq u a++((if k=4 then Cn acc (SL u a)else [])++Zu k us (a+(Ad u).length) (if k=4 then NO u a++(if BZ u=true then acc else [])else []))
end
theorem OA (x:Nd) (ks:List RT) (a:Nat):SL (.mk x ks) a=if x.k=2\/x.k=3 then [a]else Wf x.k ks (a+1):=by rw[SL]
theorem KW (k:Int) (a:Nat):Wf k [] a=[]:=by rw[Wf]
theorem GL (k:Int) (u:RT) (us:List RT) (a:Nat):Wf k (u::us) a=SL u a++(if k=4/\BZ u=false then []else Wf k us (a+(Ad u).length)):=by rw[Wf]
theorem Ma (x:Nd) (ks:List RT) (a:Nat):NO (.mk x ks) a=if x.k=2\/x.k=3 then [a]else Ps x.k ks (a+1):=by rw[NO]
theorem Hm (k:Int) (a:Nat):Ps k [] a=[]:=by rw[Ps]
theorem EG (k:Int) (u:RT) (us:List RT) (a:Nat):Ps k (u::us) a=if k=4 then Ps k us (a+(Ad u).length)++(if FN us=true then NO u a else [])else NO u a++Ps k us (a+(Ad u).length):=by rw[Ps]
theorem Mj (x:Nd) (ks:List RT) (a:Nat):Zq (.mk x ks) a=if x.k=2\/x.k=3 then []else Zu x.k ks (a+1) []++(if x.k=6\/x.k=7 then Cn (Ps x.k ks (a+1)) (Wf x.k ks (a+1))else []):=by rw[Zq]
theorem Ji (k:Int) (a:Nat) (acc:List Nat):Zu k [] a acc=[]:=by rw[Zu]
theorem Ed (k:Int) (u:RT) (us:List RT) (a:Nat) (acc:List Nat):Zu k (u::us) a acc=Zq u a++((if k=4 then Cn acc (SL u a)else [])++Zu k us (a+(Ad u).length) (if k=4 then NO u a++(if BZ u=true then acc else [])else [])):=by rw[Zu]
theorem Ce : An []=[]:=by rw[An]
theorem RO (k:Int) (u:RT):∀(us:List RT) (a:Nat),Wf k (us++[u]) a=Wf k us a++(if k=4/\FN us=false then []else SL u (a+(An us).length))
 | [],a=>by simp[KW,GL,GV,Ce]
 | v::us,a=>by
  rw[List.cons_append,GL,GL,RO k u us,OI,Ax,aD0,<-cS0,aS0]
  by_cases h4:k=4<;>cases hv:BZ v<;>simp[h4]
theorem Rq (k:Int) (u:RT):∀(us:List RT) (a:Nat),Ps k (us++[u]) a=if k=4 then NO u (a+(An us).length)++(if BZ u=true then Ps k us a else [])else Ps k us a++NO u (a+(An us).length)
 | [],a=>by simp[Hm,EG,GV,Ce]
 | v::us,a=>by
  rw[List.cons_append,EG,EG,Rq k u us,OH,Ax,aD0,<-cS0]
  by_cases h4:k=4
  ·cases hu:BZ u<;>cases hs:FN us<;>simp[h4]
  ·simp[h4]
theorem UH (u:RT):∀(us:List RT) (a:Nat) (acc:List Nat),Zu 4 (us++[u]) a acc=Zu 4 us a acc++(Zq u (a+(An us).length)++Cn (Ps 4 us a++(if FN us=true then acc else [])) (SL u (a+(An us).length)))
 | [],a,acc=>by simp[Ji,Ed,Hm,GV,Ce]
 | v::us,a,acc=>by
  rw[List.cons_append,Ed,Ed,UH u us,OI,Ax,aD0,<-cS0,EG];cases hv:BZ v<;>cases hs:FN us<;>simp[aS0]
theorem Zr (k:Int) (h4:¬k=4) (u:RT):∀(us:List RT) (a:Nat),Zu k (us++[u]) a []=Zu k us a []++Zq u (a+(An us).length)
 | [],a=>by simp[Ji,Ed,Ce,h4]
 | v::us,a=>by
  rw[List.cons_append,Ed,Ed,Ax,aD0,<-cS0];simp only[h4,if_false,List.nil_append];rw[Zr k h4 u us,aS0]
-- where these lie
mutual
theorem Kr : ∀(t:RT) (a q:Nat),q∈SL t a->a<=q/\q<a+(Ad t).length
 | .mk x ks,a,q,h=>by
  rw[OA]at h;rw[AQ,List.length_cons]
  split at h
  ·simp at h;omega
  ·have:=Mg x.k ks (a+1) q h;omega
theorem Mg (k:Int):∀(us:List RT) (a q:Nat),q∈Wf k us a->a<=q/\q<a+(An us).length
 | [],a,q,h=>by simp[KW]at h
 | u::us,a,q,h=>by
  rw[GL,aG0]at h;rw[Ax,aD0]
  rcases h with h | h
  ·have:=Kr u a q h;omega
  ·split at h
   ·simp at h
   ·have:=Mg k us _ q h;omega
end
mutual
theorem HG : ∀(t:RT) (a q:Nat),q∈NO t a->a<=q/\q<a+(Ad t).length
 | .mk x ks,a,q,h=>by
  rw[Ma]at h;rw[AQ,List.length_cons]
  split at h
  ·simp at h;omega
  ·have:=Kh x.k ks (a+1) q h;omega
theorem Kh (k:Int):∀(us:List RT) (a q:Nat),q∈Ps k us a->a<=q/\q<a+(An us).length
 | [],a,q,h=>by simp[Hm]at h
 | u::us,a,q,h=>by
  rw[EG]at h;rw[Ax,aD0]
  have key:q∈NO u a\/q∈Ps k us (a+(Ad u).length):=by
   split at h
   ·rcases aG0.1 h with h | h
    ·exact .inr h
    ·split at h
     ·exact .inl h
     ·simp at h
   ·exact aG0.1 h
  rcases key with h | h
  ·have:=HG u a q h;omega
  ·have:=Kh k us _ q h;omega
end
mutual
theorem oH : ∀(t:RT) (a p q:Nat),(p,q)∈Zq t a->(a<=p/\p<a+(Ad t).length)/\(a<=q/\q<a+(Ad t).length)
 | .mk x ks,a,p,q,h=>by
  rw[Mj]at h;rw[AQ,List.length_cons]
  split at h
  ·simp at h
  ·rcases aG0.1 h with h | h
   ·rcases WC x.k ks (a+1) [] p q h with ⟨h1 | h1,h2⟩
    ·omega
    ·simp at h1
   ·split at h
    ·obtain⟨h1,h2⟩:=Gk.1 h;have:=Kh x.k ks _ p h1;have:=Mg x.k ks _ q h2;omega
    ·simp at h
theorem WC (k:Int):∀(us:List RT) (a:Nat) (acc:List Nat) (p q:Nat),(p,q)∈Zu k us a acc->((a<=p/\p<a+(An us).length)\/p∈acc)/\(a<=q/\q<a+(An us).length)
 | [],a,acc,p,q,h=>by simp[Ji]at h
 | u::us,a,acc,p,q,h=>by
  rw[Ed]at h;rw[Ax,aD0];simp only[aG0]at h
  rcases h with h | h | h
  ·have:=oH u a p q h;omega
  ·split at h
   ·obtain⟨h1,h2⟩:=Gk.1 h;have:=Kr u a q h2;exact⟨.inr h1,by omega⟩
   ·simp at h
  ·obtain⟨h1,h2⟩:=WC k us _ _ p q h;refine⟨?_,by omega⟩
   rcases h1 with h1 | h1
   ·left;omega
   ·split at h1
    ·rcases aG0.1 h1 with h1 | h1
     ·have:=HG u a p h1;left;omega
     ·split at h1
      ·exact .inr h1
      ·simp at h1
    ·simp at h1
end
def Jd (u:RT) (a p:Nat):Bool:=decide (a<=p)&&decide (p<a+(Ad u).length)
theorem Dq {u:RT} {a p:Nat}:Jd u a p=true↔a<=p/\p<a+(Ad u).length:=by unfold Jd;simp
theorem Ie_ {u:RT} {a p:Nat} (h:p<a\/a+(Ad u).length<=p):Jd u a p=false:=by
 rw[eD0];intro hh;rw[Dq]at hh;omega
mutual
def Sv : RT->Nat->Nat->Bool
 | .mk x ks,a,p=>decide (a=p)||bgL x.k ks (a+1) p
def bgL (k:Int):List RT->Nat->Nat->Bool
 | [],_,_=>false
 | u::us,a,p=>(Jd u a p&&Sv u a p)||(if k=4/\BZ u=false then false else bgL k us (a+(Ad u).length) p)
end
mutual
def Nc : RT->Nat->Nat->Bool
 | .mk x ks,a,p=>decide (a=p)||sP x.k ks (a+1) p
def sP (k:Int):List RT->Nat->Nat->Bool
 | [],_,_=>false
 | u::us,a,p=>sP k us (a+(Ad u).length) p||((!decide (k=4)||FN us)&&(Jd u a p&&Nc u a p))
end
def afL : List RT->Nat->Nat->Bool
 | [],_,_=>false
 | u::us,a,q=>if Jd u a q then Sv u a q else if BZ u then afL us (a+(Ad u).length) q else false
def WU : List RT->Nat->Nat->Nat->Bool
 | [],_,_,_=>false
 | u::us,a,p,q=>if Jd u a p then Nc u a p&&afL us (a+(Ad u).length) q else WU us (a+(Ad u).length) p q
def hdL : List RT->Nat->Nat->Nat->Bool
 | [],_,_,_=>false
 | u::_,a,p,q=>Nc u a p&&Sv u a q
mutual
def Qd : RT->Nat->Nat->Nat->Bool
 | .mk x ks,a,p,q=>if (decide (x.k=6)||decide (x.k=7))&&hdL ks (a+1) p q then true else match VY ks (a+1) p q with
  | some b=>b
  | none=>decide (x.k=4)&&WU ks (a+1) p q
def VY : List RT->Nat->Nat->Nat->Option Bool
 | [],_,_,_=>none
 | u::us,a,p,q=>if Jd u a p&&Jd u a q then some (Qd u a p q)else VY us (a+(Ad u).length) p q
end
theorem ED_ (x:Nd) (ks:List RT) (a p:Nat):Sv (.mk x ks) a p=(decide (a=p)||bgL x.k ks (a+1) p):=by rw[Sv]
theorem Qh (k:Int) (a p:Nat):bgL k [] a p=false:=by rw[bgL]
theorem Sw (k:Int) (u:RT) (us:List RT) (a p:Nat):bgL k (u::us) a p=((Jd u a p&&Sv u a p)||(if k=4/\BZ u=false then false else bgL k us (a+(Ad u).length) p)):=by rw[bgL]
theorem Eg_ (x:Nd) (ks:List RT) (a p:Nat):Nc (.mk x ks) a p=(decide (a=p)||sP x.k ks (a+1) p):=by rw[Nc]
theorem Nf (k:Int) (a p:Nat):sP k [] a p=false:=by rw[sP]
theorem Kv (k:Int) (u:RT) (us:List RT) (a p:Nat):sP k (u::us) a p=(sP k us (a+(Ad u).length) p||((!decide (k=4)||FN us)&&(Jd u a p&&Nc u a p))):=by rw[sP]
theorem YS (k:Int) (u:RT) (p:Nat):∀(us:List RT) (a:Nat),sP k (us++[u]) a p=((Jd u (a+(An us).length) p&&Nc u (a+(An us).length) p)||(if k=4/\BZ u=false then false else sP k us a p))
 | [],a=>by simp[Nf,Kv,GV,Ce]
 | v::us,a=>by
  rw[List.cons_append,Kv,Kv,YS k u p us,OH,Ax,aD0,<-cS0]
  by_cases h4:k=4
  ·cases hu:BZ u<;>cases hs:FN us<;>simp[h4,Bool.or_assoc]
  ·simp[h4,Bool.or_assoc]
theorem lH (x:Nd) (ks:List RT) (a p q:Nat):Qd (.mk x ks) a p q=if (decide (x.k=6)||decide (x.k=7))&&hdL ks (a+1) p q then true else match VY ks (a+1) p q with
 | some b=>b
 | none=>decide (x.k=4)&&WU ks (a+1) p q:=by rw[Qd]
theorem Ho (a p q:Nat):VY [] a p q=none:=by rw[VY]
theorem GI (u:RT) (us:List RT) (a p q:Nat):VY (u::us) a p q=if Jd u a p&&Jd u a q then some (Qd u a p q)else VY us (a+(Ad u).length) p q:=by rw[VY]
theorem Qk : ∀(us:List RT) (a q:Nat),q<a->afL us a q=false
 | [],_,_,_=>rfl
 | u::us,a,q,h=>by
  rw[afL,Ie_ (.inl h)];simp only[aQ0,if_false];rw[Qk us _ q (by omega)];simp
theorem Qc : ∀(us:List RT) (a p q:Nat),p<a\/q<a->WU us a p q=false
 | [],_,_,_,_=>rfl
 | u::us,a,p,q,h=>by
  rw[WU]
  split
  ·rename_i hp;rw[Dq]at hp;rw[Qk us _ q (by omega),dU0]
  ·exact Qc us _ p q (by omega)
theorem Qe : ∀(us:List RT) (a p q:Nat),p<a\/q<a->VY us a p q=none
 | [],_,_,_,_=>by rw[Ho]
 | u::us,a,p,q,h=>by
  rw[GI,if_neg]
  ·exact Qe us _ p q (by omega)
  ·intro hh;rw[aL0,Dq,Dq]at hh;omega
def Lf (l:List Nd) (a p:Nat):Prop:=∀x,a<=p->l[p-a]? =some x->x.k=2\/x.k=3
theorem Lf.left {l m:List Nd} {a p:Nat} (h:Lf (l++m) a p):Lf l a p:=fun x h1 h2=>h x h1 (by
 rw[bC0 (aB0.1 h2).1];exact h2)
theorem Lf.right {l m:List Nd} {a p:Nat} (h:Lf (l++m) a p):Lf m (a+l.length) p:=fun x h1 h2=>h x (by omega) (by
 rw[bE0 (by omega),Nat.sub_sub];exact h2)
theorem Lf.kids {x:Nd} {ks:List RT} {a p:Nat} (h:Lf (Ad (.mk x ks)) a p):Lf (An ks) (a+1) p:=fun y h1 h2=>h y (by omega) (by
 rw[AQ,show p-a=(p-(a+1))+1 by omega,bL0];exact h2)
theorem Lf.head {x:Nd} {ks:List RT} {a p:Nat} (h:Lf (Ad (.mk x ks)) a p) (hx:¬(x.k=2\/x.k=3)):a≠p:=fun e=>hx (h x (by omega) (by rw[AQ,show p-a=0 by omega];rfl))
theorem Kf {x:Nd} {ks:List RT} (h:ED (.mk x ks)=true) (hx:x.k=2\/x.k=3):ks=[]:=by
 obtain⟨h1,h2,_⟩:=Cg h;unfold DZ at h1
 have h0:x.n=0:=by
  rcases hx with hx | hx
  ·rw[if_neg (by omega),if_pos hx]at h1;simp only[aL0,decide_eq_true_eq]at h1;exact h1.1
  ·rw[if_neg (by omega),if_neg (by omega),if_pos hx]at h1;simp only[aL0,decide_eq_true_eq]at h1;exact h1.1
 exact bN0 (by omega)
theorem PO {x:Nd} {ks:List RT} (h:ED (.mk x ks)=true) (hx:x.k=6\/x.k=7\/x.k=8):∃u,ks=[u]:=by
 obtain⟨h1,h2,_⟩:=Cg h;unfold DZ at h1
 have h0:x.n=1:=by
  rcases hx with hx | hx | hx<;>simp[hx]at h1<;>exact h1.2
 exact List.length_eq_one_iff.1 (by omega)
mutual
theorem Su : ∀(t:RT) (a p:Nat),ED t=true->Lf (Ad t) a p->(p∈SL t a↔Sv t a p=true)
 | .mk x ks,a,p,ok,hl=>by
  rw[OA,ED_]
  by_cases hx:x.k=2\/x.k=3
  ·rw[if_pos hx,Kf ok hx,Qh];simp only[aE0,Bool.or_false,decide_eq_true_eq];exact eq_comm
  ·have qF:=hl.head hx;rw[if_neg hx,decide_eq_false qF,eA0];exact Ww x.k ks (a+1) p (Cg ok).2.2 hl.kids
theorem Ww (k:Int):∀(us:List RT) (a p:Nat),FQ us=true->Lf (An us) a p->(p∈Wf k us a↔bgL k us a p=true)
 | [],a,p,_,_=>by simp[KW,Qh]
 | u::us,a,p,ok,hl=>by
  obtain⟨PW,Tb⟩:=BQ ok;rw[Ax]at hl;have i1:=Su u a p PW hl.left;have i2:=Ww k us _ p Tb hl.right;rw[GL,Sw,aG0,dB0,aL0]
  have e1:p∈SL u a↔(Jd u a p=true/\Sv u a p=true):=by
   rw[<-i1];exact⟨fun h=>⟨Dq.2 (Kr u a p h),h⟩,fun h=>h.2⟩
  rw[e1]
  by_cases hc:k=4/\BZ u=false
  ·rw[if_pos hc,if_pos hc];simp
  ·rw[if_neg hc,if_neg hc,i2]
end
mutual
theorem RU : ∀(t:RT) (a p:Nat),ED t=true->Lf (Ad t) a p->(p∈NO t a↔Nc t a p=true)
 | .mk x ks,a,p,ok,hl=>by
  rw[Ma,Eg_]
  by_cases hx:x.k=2\/x.k=3
  ·rw[if_pos hx,Kf ok hx,Nf];simp only[aE0,Bool.or_false,decide_eq_true_eq];exact eq_comm
  ·have qF:=hl.head hx;rw[if_neg hx,decide_eq_false qF,eA0];exact Wi x.k ks (a+1) p (Cg ok).2.2 hl.kids
theorem Wi (k:Int):∀(us:List RT) (a p:Nat),FQ us=true->Lf (An us) a p->(p∈Ps k us a↔sP k us a p=true)
 | [],a,p,_,_=>by simp[Hm,Nf]
 | u::us,a,p,ok,hl=>by
  obtain⟨PW,Tb⟩:=BQ ok;rw[Ax]at hl;have i1:=RU u a p PW hl.left;have i2:=Wi k us _ p Tb hl.right;rw[EG,Kv,dB0,aL0,aL0,<-i2]
  have e1:p∈NO u a↔(Jd u a p=true/\Nc u a p=true):=by
   rw[<-i1];exact⟨fun h=>⟨Dq.2 (HG u a p h),h⟩,fun h=>h.2⟩
  rw[<-e1]
  by_cases h4:k=4
  ·rw[if_pos h4,aG0];cases hs:FN us<;>simp[h4]
  ·rw[if_neg h4,aG0];simp only[h4,decide_false,Bool.not_false,Bool.true_or,true_and];exact or_comm
end
mutual
theorem lG : ∀(t:RT) (a p q:Nat),ED t=true->Lf (Ad t) a p->Lf (Ad t) a q->((p,q)∈Zq t a↔Qd t a p q=true)
 | .mk x ks,a,p,q,ok,hp,hq=>by
  rw[Mj,lH];obtain⟨_,_,Tb⟩:=Cg ok
  by_cases hx:x.k=2\/x.k=3
  ·rw[if_pos hx,Kf ok hx,Ho,decide_eq_false (by omega),decide_eq_false (by omega),decide_eq_false (by omega)];simp
  ·rw[if_neg hx,aG0];have hL:=sL x.k ks (a+1) [] p q Tb hp.kids hq.kids (by simp);simp only[eX0,false_and,or_false]at hL;rw[hL]
   by_cases h67:x.k=6\/x.k=7
   ·rw[if_pos h67,Gk];have h4:¬x.k=4:=by omega
    have hk:x.k=6\/x.k=7\/x.k=8:=by omega
    obtain⟨u,rfl⟩:=PO ok hk;rw[Wi x.k [u] (a+1) p Tb hp.kids,Ww x.k [u] (a+1) q Tb hq.kids];have h1:sP x.k [u] (a+1) p=(Jd u (a+1) p&&Nc u (a+1) p):=by rw[Kv,Nf,GV];simp
    have h2:bgL x.k [u] (a+1) q=(Jd u (a+1) q&&Sv u (a+1) q):=by rw[Sw,Qh];simp
    have h3:hdL [u] (a+1) p q=(Nc u (a+1) p&&Sv u (a+1) q):=rfl;have i1:Nc u (a+1) p=true->Jd u (a+1) p=true:=fun h=>Dq.2 (HG u _ p ((RU u (a+1) p (BQ Tb).1 (by have:=hp.kids;rw[Ax,Ce,bR0]at this;exact this)).2 h))
    have i2:Sv u (a+1) q=true->Jd u (a+1) q=true:=fun h=>Dq.2 (Kr u _ q ((Su u (a+1) q (BQ Tb).1 (by have:=hq.kids;rw[Ax,Ce,bR0]at this;exact this)).2 h))
    have e67:(decide (x.k=6)||decide (x.k=7))=true:=by simpa using h67
    rw[h1,h2,h3,e67,cA0];simp only[h4,decide_false,cL0,false_and,or_false,aL0]
    by_cases hh:Nc u (a+1) p=true/\Sv u (a+1) q=true
    ·rw[if_pos hh];simp only[iff_true];exact .inr ⟨⟨i1 hh.1,hh.1⟩,i2 hh.2,hh.2⟩
    ·rw[if_neg hh]
     cases hf:VY [u] (a+1) p q with
     | none =>
      simp only[reduceCtorEq,false_or];exact⟨fun h=>absurd ⟨h.1.2,h.2.2⟩ hh,fun h=>by simp at h⟩
     | some b =>
      simp only[aA0];exact⟨fun h=>by rcases h with h | h;exact h;exact absurd ⟨h.1.2,h.2.2⟩ hh,fun h=> .inl h⟩
   ·have e67:(decide (x.k=6)||decide (x.k=7))=false:=by rw[eD0];simpa using h67
    rw[if_neg h67,e67,cL0];simp only[aQ0,if_false,eX0,or_false]
    cases hf:VY ks (a+1) p q with
    | none=>simp
    | some b=>simp
theorem sL (k:Int):∀(us:List RT) (a:Nat) (acc:List Nat) (p q:Nat),FQ us=true->Lf (An us) a p->Lf (An us) a q->(∀r∈acc,r<a) ->
  ((p,q)∈Zu k us a acc↔(VY us a p q=some true\/(k=4/\VY us a p q=none/\(WU us a p q=true\/(p∈acc/\afL us a q=true)))))
 | [],a,acc,p,q,_,_,_,_=>by simp[Ji,Ho,WU,afL]
 | u::us,a,acc,p,q,ok,hp,hq,bR=>by
  obtain⟨PW,Tb⟩:=BQ ok;rw[Ax]at hp hq;have iT:=lG u a p q PW hp.left hq.left;have ib:=Su u a q PW hq.left;have ie:=RU u a p PW hp.left;have rT:=oH u a p q;have rf:=Kr u a q;have rl:=HG u a p;have racc:p∈acc->p<a:=bR p;obtain⟨a',ha'⟩:∃a',a'=a+(Ad u).length:=⟨_,rfl⟩;obtain⟨acc',bN⟩:∃acc',acc'=(if k=4 then NO u a++(if BZ u=true then acc else [])else []):=⟨_,rfl⟩
  have qV:∀r∈acc',r<a':=by
   intro r hr;rw[bN]at hr
   split at hr
   ·rcases aG0.1 hr with hr | hr
    ·have:=HG u a r hr;omega
    ·split at hr
     ·have:=bR r hr;omega
     ·simp at hr
   ·simp at hr
  have iL:=sL k us a' acc' p q Tb (ha'▸hp.right) (ha'▸hq.right) qV
  have macc:k=4->(p∈acc'↔p∈NO u a\/(BZ u=true/\p∈acc)):=by
   intro h4;rw[bN,if_pos h4,aG0];cases BZ u<;>simp
  rw[Ed,GI,WU,afL,<-ha',<-bN,aG0,aG0,iL,iT]
  have mj:(p,q)∈(if k=4 then Cn acc (SL u a)else [])↔k=4/\p∈acc/\q∈SL u a:=by
   by_cases h4:k=4<;>simp[h4,Gk]
  rw[mj];clear hp hq bR qV iL mj bN
  by_cases bp:Jd u a p=true
  ·have bp':=Dq.1 bp;have hna:¬p∈acc:=fun h=>by have:=racc h;omega
   by_cases bq:Jd u a q=true
   ·have bq':=Dq.1 bq;rw[bp,bq,Qe us a' p q (by omega),Qc us a' p q (by omega),Qk us a' q (by omega)];simp[hna]
   ·have bq':¬(a<=q/\q<a+(Ad u).length):=fun h=>bq (Dq.2 h)
    have hnT:¬Qd u a p q=true:=fun h=>bq' (rT (iT.2 h)).2
    rw[dR0]at bq;rw[bp,bq,Qe us a' p q (by omega),Qc us a' p q (by omega)];simp only[hnT,hna,dU0,aQ0,if_false,if_true,false_and,and_false,false_or,or_false,reduceCtorEq,true_and,aL0]
    constructor
    ·rintro⟨h4,h1,h2⟩;rw[macc h4]at h1
     rcases h1 with h1 | h1
     ·exact⟨h4,ie.1 h1,h2⟩
     ·exact absurd h1.2 hna
    ·rintro⟨h4,h1,h2⟩;exact⟨h4,(macc h4).2 (.inl (ie.2 h1)),h2⟩
  ·have bp':¬(a<=p/\p<a+(Ad u).length):=fun h=>bp (Dq.2 h)
   have hnT:¬Qd u a p q=true:=fun h=>bp' (rT (iT.2 h)).1
   have nO:¬p∈NO u a:=fun h=>bp' (rl h)
   rw[dR0]at bp
   by_cases bq:Jd u a q=true
   ·have bq':=Dq.1 bq;rw[bp,bq,Qe us a' p q (by omega),Qc us a' p q (by omega),Qk us a' q (by omega)];simp only[hnT,cL0,aQ0,if_false,if_true,false_and,and_false,false_or,or_false,reduceCtorEq,true_and];rw[ib]
   ·have bq':¬(a<=q/\q<a+(Ad u).length):=fun h=>bq (Dq.2 h)
    have hnf:¬q∈SL u a:=fun h=>bq' (rf h)
    rw[dR0]at bq;rw[bp,bq];simp only[hnT,hnf,cL0,aQ0,if_false,and_false,false_or]
    by_cases h4:k=4
    ·rw[macc h4];cases BZ u<;>simp[nO]
    ·simp[h4]
end
mutual
theorem Ys : ∀(t:RT) (a:Nat),(NO t a).Nodup
 | .mk x ks,a=>by
  rw[Ma]
  split
  ·simp
  ·exact Uc x.k ks (a+1)
theorem Uc (k:Int):∀(us:List RT) (a:Nat),(Ps k us a).Nodup
 | [],a=>by rw[Hm];simp
 | u::us,a=>by
  have h1:=Ys u a;have h2:=Uc k us (a+(Ad u).length);rw[EG]
  split
  ·refine bX0.2 ⟨h2,?_,?_⟩
   ·split
    ·exact h1
    ·simp
   ·rintro x hx y hy rfl
    split at hy
    ·have:=Kh k us _ x hx;have:=HG u a x hy;omega
    ·simp at hy
  ·refine bX0.2 ⟨h1,h2,?_⟩;rintro x hx y hy rfl;have:=Kh k us _ x hy;have:=HG u a x hx;omega
end
-- what begins and ends are occurrences
mutual
theorem Na : ∀(t:RT) (a q:Nat),q∈SL t a->∃x,(Ad t)[q-a]? =some x/\(x.k=2\/x.k=3)
 | .mk x ks,a,q,h=>by
  rw[OA]at h
  split at h
  ·rename_i hx;simp at h;subst h;exact⟨x,by rw[AQ,eF0];rfl,hx⟩
  ·have h1:=Mg x.k ks _ q h;obtain⟨y,hy,hk⟩:=Nb x.k ks _ q h;refine⟨y,?_,hk⟩;rw[AQ,show q-a=(q-(a+1))+1 by omega,bL0];exact hy
theorem Nb (k:Int):∀(us:List RT) (a q:Nat),q∈Wf k us a->∃x,(An us)[q-a]? =some x/\(x.k=2\/x.k=3)
 | [],a,q,h=>by simp[KW]at h
 | u::us,a,q,h=>by
  rw[GL,aG0]at h;rw[Ax]
  rcases h with h | h
  ·have h1:=Kr u a q h;obtain⟨y,hy,hk⟩:=Na u a q h;exact⟨y,by rw[bC0 (by omega)];exact hy,hk⟩
  ·split at h
   ·simp at h
   ·have h1:=Mg k us _ q h;obtain⟨y,hy,hk⟩:=Nb k us _ q h;exact⟨y,by rw[bE0 (by omega),Nat.sub_sub];exact hy,hk⟩
end
mutual
theorem Rp : ∀(t:RT) (a q:Nat),q∈NO t a->∃x,(Ad t)[q-a]? =some x/\(x.k=2\/x.k=3)
 | .mk x ks,a,q,h=>by
  rw[Ma]at h
  split at h
  ·rename_i hx;simp at h;subst h;exact⟨x,by rw[AQ,eF0];rfl,hx⟩
  ·have h1:=Kh x.k ks _ q h;obtain⟨y,hy,hk⟩:=Rr x.k ks _ q h;refine⟨y,?_,hk⟩;rw[AQ,show q-a=(q-(a+1))+1 by omega,bL0];exact hy
theorem Rr (k:Int):∀(us:List RT) (a q:Nat),q∈Ps k us a->∃x,(An us)[q-a]? =some x/\(x.k=2\/x.k=3)
 | [],a,q,h=>by simp[Hm]at h
 | u::us,a,q,h=>by
  rw[EG]at h;rw[Ax]
  have key:q∈NO u a\/q∈Ps k us (a+(Ad u).length):=by
   split at h
   ·rcases aG0.1 h with h | h
    ·exact .inr h
    ·split at h
     ·exact .inl h
     ·simp at h
   ·exact aG0.1 h
  rcases key with h | h
  ·have h1:=HG u a q h;obtain⟨y,hy,hk⟩:=Rp u a q h;exact⟨y,by rw[bC0 (by omega)];exact hy,hk⟩
  ·have h1:=Kh k us _ q h;obtain⟨y,hy,hk⟩:=Rr k us _ q h;exact⟨y,by rw[bE0 (by omega),Nat.sub_sub];exact hy,hk⟩
end
mutual
theorem Nu : ∀(t:RT) (a p q:Nat),(p,q)∈Zq t a->(∃x,(Ad t)[p-a]? =some x/\(x.k=2\/x.k=3))/\(∃x,(Ad t)[q-a]? =some x/\(x.k=2\/x.k=3))
 | .mk x ks,a,p,q,h=>by
  rw[Mj]at h
  have lift:∀r,a+1<=r->(∃x,(An ks)[r-(a+1)]? =some x/\(x.k=2\/x.k=3))->∃y,(Ad (.mk x ks))[r-a]? =some y/\(y.k=2\/y.k=3):=by
   rintro r hr ⟨y,hy,hk⟩;refine⟨y,?_,hk⟩;rw[AQ,show r-a=(r-(a+1))+1 by omega,bL0];exact hy
  split at h
  ·simp at h
  ·rcases aG0.1 h with h | h
   ·have h1:=WC x.k ks _ [] p q h;obtain⟨h2,h3⟩:=Zt x.k ks _ [] p q h;simp only[eX0,or_false]at h1 h2;exact⟨lift p h1.1.1 h2,lift q h1.2.1 h3⟩
   ·split at h
    ·obtain⟨h1,h2⟩:=Gk.1 h;exact⟨lift p (Kh x.k ks _ p h1).1 (Rr x.k ks _ p h1),lift q (Mg x.k ks _ q h2).1 (Nb x.k ks _ q h2)⟩
    ·simp at h
theorem Zt (k:Int):∀(us:List RT) (a:Nat) (acc:List Nat) (p q:Nat),(p,q)∈Zu k us a acc->((∃x,(An us)[p-a]? =some x/\(x.k=2\/x.k=3))\/p∈acc)/\(∃x,(An us)[q-a]? =some x/\(x.k=2\/x.k=3))
 | [],a,acc,p,q,h=>by simp[Ji]at h
 | u::us,a,acc,p,q,h=>by
  rw[Ed]at h;rw[Ax]
  have l1:∀r,a<=r/\r<a+(Ad u).length->(∃x,(Ad u)[r-a]? =some x/\(x.k=2\/x.k=3))->∃y,(Ad u++An us)[r-a]? =some y/\(y.k=2\/y.k=3):=by
   rintro r hr ⟨y,hy,hk⟩;exact⟨y,by rw[bC0 (by omega)];exact hy,hk⟩
  have l2:∀r,a+(Ad u).length<=r->(∃x,(An us)[r-(a+(Ad u).length)]? =some x/\(x.k=2\/x.k=3))->∃y,(Ad u++An us)[r-a]? =some y/\(y.k=2\/y.k=3):=by
   rintro r hr ⟨y,hy,hk⟩;exact⟨y,by rw[bE0 (by omega),Nat.sub_sub];exact hy,hk⟩
  simp only[aG0]at h
  rcases h with h | h | h
  ·have h1:=oH u a p q h;obtain⟨h2,h3⟩:=Nu u a p q h;exact⟨.inl (l1 p h1.1 h2),l1 q h1.2 h3⟩
  ·split at h
   ·obtain⟨h1,h2⟩:=Gk.1 h;exact⟨.inr h1,l1 q (Kr u a q h2) (Na u a q h2)⟩
   ·simp at h
  ·obtain⟨h1,h2⟩:=WC k us _ _ p q h;obtain⟨h3,h4⟩:=Zt k us _ _ p q h;refine⟨?_,l2 q h2.1 h4⟩
   by_cases bR:p∈acc
   ·exact .inr bR
   left
   have h5:∀{c:List Nat},p∈(if k=4 then NO u a++(if BZ u=true then acc else [])else [])->p∈NO u a:=by
    intro _ h
    split at h
    ·rcases aG0.1 h with h | h
     ·exact h
     ·split at h
      ·exact absurd h bR
      ·simp at h
    ·simp at h
   by_cases pW:p∈NO u a
   ·exact l1 p (HG u a p pW) (Rp u a p pW)
   ·rcases h1 with h1 | h1
    ·rcases h3 with h3 | h3
     ·exact l2 p h1.1 h3
     ·exact absurd (h5 (c:=[]) h3) pW
    ·exact absurd (h5 (c:=[]) h1) pW
end
end Go.Proofs.Wy
end
section
namespace Go.Proofs.Wy
open Go Go.Dm Tryz
variable [DMode]
attribute [local irreducible] DW BN BS
set_option maxRecDepth 100000
theorem AY : (⟨#[]⟩:ByteArray).size=0:=rfl
def ZI : Ann:=⟨[],[]⟩
theorem AU_ (x:Nd):Af prog 119 [.agg (Bo x)] (.bool (DZ x)):=by
 refine Ae [] ZI func119 call119 ntmps119 mxd (AB @ZI.eq_1 results119) rfl (fun qJ B qX qQ=> ?_);simp only[Aq];have e1:=Fs 158 aL Hv x.s;have e2:=Fs 159 aO HE x.s;unfold DZ aQ
 by_cases k1:x.k=1
 ·exact Az Ab Ab (CL @Bo.eq_1 @AY k1)
 by_cases k2:x.k=2
 ·by_cases h0:x.n=0
  ·exact Az (AH e1) Ab (Lj @Bo.eq_1 @AY k1 k2 h0)
  ·have zJ:(x.n==0)=false:=by simpa using h0
   exact Az Ab Ab (Jm @Bo.eq_1 @AY k1 k2 h0 zJ)
 by_cases k3:x.k=3
 ·by_cases h0:x.n=0
  ·exact Az (AH e2) Ab (Jm @Bo.eq_1 @AY k1 k2 k3 h0)
  ·have zJ:(x.n==0)=false:=by simpa using h0
   exact Az Ab Ab (IH @Bo.eq_1 @AY k1 k2 k3 h0 zJ)
 by_cases k4:x.k=4
 ·exact Az Ab Ab (Jm @Bo.eq_1 @AY k1 k2 k3 k4)
 by_cases k5:x.k=5
 ·exact Az Ab Ab (IH @Bo.eq_1 @AY k1 k2 k3 k4 k5)
 by_cases k6:x.k=6
 ·exact Az Ab Ab (KG @Bo.eq_1 @AY k1 k2 k3 k4 k5 k6)
 by_cases k7:x.k=7
 ·exact Az Ab Ab (WJ @Bo.eq_1 @AY k1 k2 k3 k4 k5 k6 k7)
 by_cases k8:x.k=8
 ·exact Az Ab Ab (Ml @Bo.eq_1 @AY k1 k2 k3 k4 k5 k6 k7 k8)
 exact Az Ab Ab (Ml @Bo.eq_1 @AY k1 k2 k3 k4 k5 k6 k7 k8)
def Ef (r:List Nd) (w:Nat):Bool:=match EU r w with
 | some []=>true
 | _=>false
theorem UQ (x:Nd) (r:List Nd):Ef (x::r) 0=false:=by unfold Ef;rw[Cs]
theorem Mn {r:List Nd} {w:Nat} (h:EU r w=none):Ef r w=false:=by unfold Ef;rw[h]
theorem UR {x:Nd} {r:List Nd} {w:Nat} (h:DZ x=true):Ef (x::r) (w+1)=Ef r (w+x.n.toNat):=by unfold Ef;rw[DI,if_pos h]
theorem WX (w:Nat):Ef [] w=decide (w=0):=by
 unfold Ef
 cases w with
 | zero=>rw[Cs];rfl
 | succ w=>rw[Iu];rfl
def uB : Ann:=⟨[],[⟨4,[5],[],[]⟩]⟩
theorem FW (l:List Nd) (hs:l.length<=1572864):Af prog 73 [AM l] (.bool (Dg l)):=by
 refine Ae [] uB func73 call73 ntmps73 mxd (AB @uB.eq_1 results73) rfl (fun qJ B qX qQ=> ?_);clear qJ;simp only[Aq];obtain⟨R,hR⟩:∃R,R=Dg l:=⟨_,rfl⟩;rw[<-hR];have wY:Ef l 1=R:=by rw[hR];rfl
 clear hR
 (refine AL Ab Ab Ab ?_;intros;refine Am ?_)
 refine Ai (X:={p:Nat×Nat//p.1<=l.length/\Ef (l.drop p.1) p.2=R/\p.2<=1+p.1*1572864/\(p.1=0->p.2=1)}) (fun p=>⟨[(0,AM l),(3,.int .i64 p.1.2),(6,AM l),(7,.int .i64 l.length),(8,.int .i64 p.1.1)],[]⟩) (fun p=>l.length-p.1.1) ⟨(0,1),by simp[wY]⟩ (Sub.lit (by simp)) ?_;clear wY;rintro⟨⟨k,w⟩,hk,hw,mP,hw0⟩;simp only at hk hw mP hw0 |-
 by_cases qV:k<l.length
 ·obtain⟨x,hx,qB,_⟩:=Ap qV;rw[aR0 qV,qB]at hw;have e1:=AU_ x;simp only[Bo]at e1
  cases w with
  | zero =>
   rw[UQ]at hw;subst hw;exact Az Ab Ab (IF @Bo.eq_1 qV hx qB)
  | succ v =>
   have hv:¬(v:Int)+1=0:=by omega
   have zB:(((v:Int)+1)==0)=false:=by simpa using hv
   cases hm:DZ x
   ·rw[hm]at e1;rw[Mn (by rw[DI,hm];rfl)]at hw;subst hw;exact Az (AH e1) Ab (Jm @Bo.eq_1 qV hx qB hv zB)
   ·rw[hm]at e1;have zD:=Ig hm;obtain⟨c,jZ⟩:∃c:Nat,x.n=(c:Int):=⟨x.n.toNat,by omega⟩;rw[jZ]at e1;rw[UR hm,jZ,eC0]at hw
    by_cases fW:l.length<c
    ·have kZ:(l.length:Int)<(c:Int):=by omega
     rw[Mn (RS _ _ (by rw[cD0];omega))]at hw;subst hw;exact Az (AH e1) Ab (WJ @Bo.eq_1 qV hx qB hv zB jZ fW kZ)
    ·have kZ:¬(l.length:Int)<(c:Int):=by omega
     have q1:IntKind.i64.wrap ((c:Int)-1)=(c:Int)-1:=wq;have q2:IntKind.i64.wrap ((v:Int)+1+((c:Int)-1))=(v:Int)+(c:Int):=by rw[wq];omega
     (refine AL (AH e1) Ab (JE @Bo.eq_1 qV hx qB hv zB jZ fW kZ q1 q2) ?_;intros;refine Am ?_)
     refine Al.mk ⟨(k+1,v+c),show k+1<=l.length/\Ef (l.drop (k+1)) (v+c)=R/\v+c<=1+(k+1)*1572864/\(k+1=0->v+c=1) from ⟨by omega,hw,by omega,by omega⟩⟩ (Sub.lit (by simp)) (by simp;omega)
     skip
 ·have qZ:k=l.length:=by omega
  subst qZ;rw[bU0,WX]at hw
  cases w with
  | zero =>
   have yR:0<l.length:=by
    rcases eM0 l.length with h | h
    ·have:=hw0 h;omega
    ·exact h
   simp only[decide_true]at hw;subst hw;exact Az Ab Ab (AH yR)
  | succ v =>
   have mU:R=false:=by rw[<-hw];simp
   subst mU;have hv:¬(v:Int)+1=0:=by omega
   have zB:(((v:Int)+1)==0)=false:=by simpa using hv
   exact Az Ab Ab (AB hv zB)
end Go.Proofs.Wy
end
