/- Parts of a proof, laid together: RG, RX1. -/
import Derived.Test.YtiojapdolljocaaGreatqMx15
import Derived.Test.YtiojapdolljocaaGreatqMx18
set_option linter.unusedSimpArgs false
set_option maxHeartbeats 8000000
set_option linter.unusedVariables false
set_option linter.unusedSectionVars false
section
namespace Go.Proofs.Wy
open Go Go.Dm Tryz
variable [DMode]
mutual
def BU : RT->Bool
 | .mk x ks=>if x.k=2\/x.k=3 then false else if x.k=5 then Ej ks else if x.k=4\/x.k=7 then FH ks else true
def Ej : List RT->Bool
 | []=>false
 | t::ts=>BU t||Ej ts
def FH : List RT->Bool
 | []=>true
 | t::ts=>BU t&&FH ts
end
theorem VK (x:Nd) (ks:List RT):BU (.mk x ks)=if x.k=2\/x.k=3 then false else if x.k=5 then Ej ks else if x.k=4\/x.k=7 then FH ks else true:=by rw[BU]
theorem Na : ∀ts:List RT,Ej ts=ts.any BU
 | []=>by rw[Ej];rfl
 | t::ts=>by rw[Ej,Na ts];rfl
theorem Nn : ∀ts:List RT,FH ts=ts.all BU
 | []=>by rw[FH];rfl
 | t::ts=>by rw[FH,Nn ts];rfl
theorem Oj (t:RT) (ts:List RT):FH (t::ts)=(BU t&&FH ts):=by rw[FH]
theorem GJ : FH []=true:=by rw[FH]
theorem Oi (ts:List RT) (t:RT):FH (ts++[t])=(FH ts&&BU t):=by rw[Nn,Nn,List.all_append];simp
def Cq (l f:List Nat):List (Nat×Nat):=l.flatMap fun p=>f.map fun q=>(p,q)
theorem Gb {l f:List Nat} {p q:Nat}:(p,q)∈Cq l f↔p∈l/\q∈f:=by
 unfold Cq;simp only[bQ0,aT0,_root_.Prod.mk.injEq]
 constructor
 ·rintro⟨a,ha,b,hb,rfl,rfl⟩;exact⟨ha,hb⟩
 ·rintro⟨ha,hb⟩;exact⟨p,ha,q,hb,rfl,rfl⟩
theorem AJ_ (f:List Nat):Cq [] f=[]:=rfl
mutual
def Ss : RT->Nat->List Nat
 | .mk x ks,a=>if x.k=2\/x.k=3 then [a]else VI x.k ks (a+1)
def VI (k:Int):List RT->Nat->List Nat
 | [],_=>[]
 | u::us,a=>Ss u a++(if k=4/\BU u=false then []else VI k us (a+(flat u).length))
end
mutual
def Nu : RT->Nat->List Nat
 | .mk x ks,a=>if x.k=2\/x.k=3 then [a]else OY x.k ks (a+1)
def OY (k:Int):List RT->Nat->List Nat
 | [],_=>[]
 | u::us,a=>if k=4 then OY k us (a+(flat u).length)++(if FH us=true then Nu u a else [])else Nu u a++OY k us (a+(flat u).length)
end
mutual
def YL : RT->Nat->List (Nat×Nat)
 | .mk x ks,a=>if x.k=2\/x.k=3 then []else YO x.k ks (a+1) []++(if x.k=6\/x.k=7 then Cq (OY x.k ks (a+1)) (VI x.k ks (a+1))else [])
def YO (k:Int):List RT->Nat->List Nat->List (Nat×Nat)
 | [],_,_=>[]
 | u::us,a,acc=>YL u a++((if k=4 then Cq acc (Ss u a)else [])++YO k us (a+(flat u).length) (if k=4 then Nu u a++(if BU u=true then acc else [])else []))
end
theorem NX (x:Nd) (ks:List RT) (a:Nat):Ss (.mk x ks) a=if x.k=2\/x.k=3 then [a]else VI x.k ks (a+1):=by rw[Ss]
theorem Kx (k:Int) (a:Nat):VI k [] a=[]:=by rw[VI]
theorem GD (k:Int) (u:RT) (us:List RT) (a:Nat):VI k (u::us) a=Ss u a++(if k=4/\BU u=false then []else VI k us (a+(flat u).length)):=by rw[VI]
theorem Lv (x:Nd) (ks:List RT) (a:Nat):Nu (.mk x ks) a=if x.k=2\/x.k=3 then [a]else OY x.k ks (a+1):=by rw[Nu]
theorem Hc (k:Int) (a:Nat):OY k [] a=[]:=by rw[OY]
theorem Ez (k:Int) (u:RT) (us:List RT) (a:Nat):OY k (u::us) a=if k=4 then OY k us (a+(flat u).length)++(if FH us=true then Nu u a else [])else Nu u a++OY k us (a+(flat u).length):=by rw[OY]
theorem LK (x:Nd) (ks:List RT) (a:Nat):YL (.mk x ks) a=if x.k=2\/x.k=3 then []else YO x.k ks (a+1) []++(if x.k=6\/x.k=7 then Cq (OY x.k ks (a+1)) (VI x.k ks (a+1))else []):=by rw[YL]
theorem IS (k:Int) (a:Nat) (acc:List Nat):YO k [] a acc=[]:=by rw[YO]
theorem DV (k:Int) (u:RT) (us:List RT) (a:Nat) (acc:List Nat):YO k (u::us) a acc=YL u a++((if k=4 then Cq acc (Ss u a)else [])++YO k us (a+(flat u).length) (if k=4 then Nu u a++(if BU u=true then acc else [])else [])):=by rw[YO]
theorem Ch : Ak []=[]:=by rw[Ak]
theorem Ru (k:Int) (u:RT):∀(us:List RT) (a:Nat),VI k (us++[u]) a=VI k us a++(if k=4/\FH us=false then []else Ss u (a+(Ak us).length))
 | [],a=>by simp[Kx,GD,GJ,Ch]
 | v::us,a=>by
  rw[List.cons_append,GD,GD,Ru k u us,Oj,Ap,aC0,<-cQ0,aV0]
  by_cases h4:k=4<;>cases hv:BU v<;>simp[h4]
theorem Ra (k:Int) (u:RT):∀(us:List RT) (a:Nat),OY k (us++[u]) a=if k=4 then Nu u (a+(Ak us).length)++(if BU u=true then OY k us a else [])else OY k us a++Nu u (a+(Ak us).length)
 | [],a=>by simp[Hc,Ez,GJ,Ch]
 | v::us,a=>by
  rw[List.cons_append,Ez,Ez,Ra k u us,Oi,Ap,aC0,<-cQ0]
  by_cases h4:k=4
  ·cases hu:BU u<;>cases hs:FH us<;>simp[h4]
  ·simp[h4]
theorem Un (u:RT):∀(us:List RT) (a:Nat) (acc:List Nat),YO 4 (us++[u]) a acc=YO 4 us a acc++(YL u (a+(Ak us).length)++Cq (OY 4 us a++(if FH us=true then acc else [])) (Ss u (a+(Ak us).length)))
 | [],a,acc=>by simp[IS,DV,Hc,GJ,Ch]
 | v::us,a,acc=>by
  rw[List.cons_append,DV,DV,Un u us,Oj,Ap,aC0,<-cQ0,Ez];cases hv:BU v<;>cases hs:FH us<;>simp[aV0]
theorem YM (k:Int) (h4:¬k=4) (u:RT):∀(us:List RT) (a:Nat),YO k (us++[u]) a []=YO k us a []++YL u (a+(Ak us).length)
 | [],a=>by simp[IS,DV,Ch,h4]
 | v::us,a=>by
  rw[List.cons_append,DV,DV,Ap,aC0,<-cQ0];simp only[h4,if_false,List.nil_append];rw[YM k h4 u us,aV0]
-- where these lie
mutual
theorem JX : ∀(t:RT) (a q:Nat),q∈Ss t a->a<=q/\q<a+(flat t).length
 | .mk x ks,a,q,h=>by
  rw[NX]at h;rw[AO,List.length_cons]
  split at h
  ·simp at h;omega
  ·have:=LD x.k ks (a+1) q h;omega
theorem LD (k:Int):∀(us:List RT) (a q:Nat),q∈VI k us a->a<=q/\q<a+(Ak us).length
 | [],a,q,h=>by simp[Kx]at h
 | u::us,a,q,h=>by
  rw[GD,aH0]at h;rw[Ap,aC0]
  rcases h with h | h
  ·have:=JX u a q h;omega
  ·split at h
   ·simp at h
   ·have:=LD k us _ q h;omega
end
mutual
theorem Hz : ∀(t:RT) (a q:Nat),q∈Nu t a->a<=q/\q<a+(flat t).length
 | .mk x ks,a,q,h=>by
  rw[Lv]at h;rw[AO,List.length_cons]
  split at h
  ·simp at h;omega
  ·have:=JL x.k ks (a+1) q h;omega
theorem JL (k:Int):∀(us:List RT) (a q:Nat),q∈OY k us a->a<=q/\q<a+(Ak us).length
 | [],a,q,h=>by simp[Hc]at h
 | u::us,a,q,h=>by
  rw[Ez]at h;rw[Ap,aC0]
  have key:q∈Nu u a\/q∈OY k us (a+(flat u).length):=by
   split at h
   ·rcases aH0.1 h with h | h
    ·exact .inr h
    ·split at h
     ·exact .inl h
     ·simp at h
   ·exact aH0.1 h
  rcases key with h | h
  ·have:=Hz u a q h;omega
  ·have:=JL k us _ q h;omega
end
mutual
theorem lZ : ∀(t:RT) (a p q:Nat),(p,q)∈YL t a->(a<=p/\p<a+(flat t).length)/\(a<=q/\q<a+(flat t).length)
 | .mk x ks,a,p,q,h=>by
  rw[LK]at h;rw[AO,List.length_cons]
  split at h
  ·simp at h
  ·rcases aH0.1 h with h | h
   ·rcases Wb x.k ks (a+1) [] p q h with ⟨h1 | h1,h2⟩
    ·omega
    ·simp at h1
   ·split at h
    ·obtain⟨h1,h2⟩:=Gb.1 h;have:=JL x.k ks _ p h1;have:=LD x.k ks _ q h2;omega
    ·simp at h
theorem Wb (k:Int):∀(us:List RT) (a:Nat) (acc:List Nat) (p q:Nat),(p,q)∈YO k us a acc->((a<=p/\p<a+(Ak us).length)\/p∈acc)/\(a<=q/\q<a+(Ak us).length)
 | [],a,acc,p,q,h=>by simp[IS]at h
 | u::us,a,acc,p,q,h=>by
  rw[DV]at h;rw[Ap,aC0];simp only[aH0]at h
  rcases h with h | h | h
  ·have:=lZ u a p q h;omega
  ·split at h
   ·obtain⟨h1,h2⟩:=Gb.1 h;have:=JX u a q h2;exact⟨.inr h1,by omega⟩
   ·simp at h
  ·obtain⟨h1,h2⟩:=Wb k us _ _ p q h;refine⟨?_,by omega⟩
   rcases h1 with h1 | h1
   ·left;omega
   ·split at h1
    ·rcases aH0.1 h1 with h1 | h1
     ·have:=Hz u a p h1;left;omega
     ·split at h1
      ·exact .inr h1
      ·simp at h1
    ·simp at h1
end
def IK (u:RT) (a p:Nat):Bool:=decide (a<=p)&&decide (p<a+(flat u).length)
theorem Dj {u:RT} {a p:Nat}:IK u a p=true↔a<=p/\p<a+(flat u).length:=by unfold IK;simp
theorem HU_ {u:RT} {a p:Nat} (h:p<a\/a+(flat u).length<=p):IK u a p=false:=by
 rw[dQ0];intro hh;rw[Dj]at hh;omega
mutual
def Sf : RT->Nat->Nat->Bool
 | .mk x ks,a,p=>decide (a=p)||bgL x.k ks (a+1) p
def bgL (k:Int):List RT->Nat->Nat->Bool
 | [],_,_=>false
 | u::us,a,p=>(IK u a p&&Sf u a p)||(if k=4/\BU u=false then false else bgL k us (a+(flat u).length) p)
end
mutual
def MH : RT->Nat->Nat->Bool
 | .mk x ks,a,p=>decide (a=p)||sL x.k ks (a+1) p
def sL (k:Int):List RT->Nat->Nat->Bool
 | [],_,_=>false
 | u::us,a,p=>sL k us (a+(flat u).length) p||((!decide (k=4)||FH us)&&(IK u a p&&MH u a p))
end
def afL : List RT->Nat->Nat->Bool
 | [],_,_=>false
 | u::us,a,q=>if IK u a q then Sf u a q else if BU u then afL us (a+(flat u).length) q else false
def Wt : List RT->Nat->Nat->Nat->Bool
 | [],_,_,_=>false
 | u::us,a,p,q=>if IK u a p then MH u a p&&afL us (a+(flat u).length) q else Wt us (a+(flat u).length) p q
def hdL : List RT->Nat->Nat->Nat->Bool
 | [],_,_,_=>false
 | u::_,a,p,q=>MH u a p&&Sf u a q
mutual
def PG : RT->Nat->Nat->Nat->Bool
 | .mk x ks,a,p,q=>if (decide (x.k=6)||decide (x.k=7))&&hdL ks (a+1) p q then true else match VC ks (a+1) p q with
  | some b=>b
  | none=>decide (x.k=4)&&Wt ks (a+1) p q
def VC : List RT->Nat->Nat->Nat->Option Bool
 | [],_,_,_=>none
 | u::us,a,p,q=>if IK u a p&&IK u a q then some (PG u a p q)else VC us (a+(flat u).length) p q
end
theorem Ek_ (x:Nd) (ks:List RT) (a p:Nat):Sf (.mk x ks) a p=(decide (a=p)||bgL x.k ks (a+1) p):=by rw[Sf]
theorem PK (k:Int) (a p:Nat):bgL k [] a p=false:=by rw[bgL]
theorem Sg (k:Int) (u:RT) (us:List RT) (a p:Nat):bgL k (u::us) a p=((IK u a p&&Sf u a p)||(if k=4/\BU u=false then false else bgL k us (a+(flat u).length) p)):=by rw[bgL]
theorem DM_ (x:Nd) (ks:List RT) (a p:Nat):MH (.mk x ks) a p=(decide (a=p)||sL x.k ks (a+1) p):=by rw[MH]
theorem MI (k:Int) (a p:Nat):sL k [] a p=false:=by rw[sL]
theorem Ka (k:Int) (u:RT) (us:List RT) (a p:Nat):sL k (u::us) a p=(sL k us (a+(flat u).length) p||((!decide (k=4)||FH us)&&(IK u a p&&MH u a p))):=by rw[sL]
theorem Yo (k:Int) (u:RT) (p:Nat):∀(us:List RT) (a:Nat),sL k (us++[u]) a p=((IK u (a+(Ak us).length) p&&MH u (a+(Ak us).length) p)||(if k=4/\BU u=false then false else sL k us a p))
 | [],a=>by simp[MI,Ka,GJ,Ch]
 | v::us,a=>by
  rw[List.cons_append,Ka,Ka,Yo k u p us,Oi,Ap,aC0,<-cQ0]
  by_cases h4:k=4
  ·cases hu:BU u<;>cases hs:FH us<;>simp[h4,Bool.or_assoc]
  ·simp[h4,Bool.or_assoc]
theorem iZ (x:Nd) (ks:List RT) (a p q:Nat):PG (.mk x ks) a p q=if (decide (x.k=6)||decide (x.k=7))&&hdL ks (a+1) p q then true else match VC ks (a+1) p q with
 | some b=>b
 | none=>decide (x.k=4)&&Wt ks (a+1) p q:=by rw[PG]
theorem Hf (a p q:Nat):VC [] a p q=none:=by rw[VC]
theorem GA (u:RT) (us:List RT) (a p q:Nat):VC (u::us) a p q=if IK u a p&&IK u a q then some (PG u a p q)else VC us (a+(flat u).length) p q:=by rw[VC]
theorem PQ : ∀(us:List RT) (a q:Nat),q<a->afL us a q=false
 | [],_,_,_=>rfl
 | u::us,a,q,h=>by
  rw[afL,HU_ (.inl h)];simp only[aR0,if_false];rw[PQ us _ q (by omega)];simp
theorem PE : ∀(us:List RT) (a p q:Nat),p<a\/q<a->Wt us a p q=false
 | [],_,_,_,_=>rfl
 | u::us,a,p,q,h=>by
  rw[Wt]
  split
  ·rename_i hp;rw[Dj]at hp;rw[PQ us _ q (by omega),dX0]
  ·exact PE us _ p q (by omega)
theorem PH : ∀(us:List RT) (a p q:Nat),p<a\/q<a->VC us a p q=none
 | [],_,_,_,_=>by rw[Hf]
 | u::us,a,p,q,h=>by
  rw[GA,if_neg]
  ·exact PH us _ p q (by omega)
  ·intro hh;rw[aJ0,Dj,Dj]at hh;omega
def Lf (l:List Nd) (a p:Nat):Prop:=∀x,a<=p->l[p-a]? =some x->x.k=2\/x.k=3
theorem Lf.left {l m:List Nd} {a p:Nat} (h:Lf (l++m) a p):Lf l a p:=fun x h1 h2=>h x h1 (by
 rw[aZ0 (aB0.1 h2).1];exact h2)
theorem Lf.right {l m:List Nd} {a p:Nat} (h:Lf (l++m) a p):Lf m (a+l.length) p:=fun x h1 h2=>h x (by omega) (by
 rw[bB0 (by omega),Nat.sub_sub];exact h2)
theorem Lf.kids {x:Nd} {ks:List RT} {a p:Nat} (h:Lf (flat (.mk x ks)) a p):Lf (Ak ks) (a+1) p:=fun y h1 h2=>h y (by omega) (by
 rw[AO,show p-a=(p-(a+1))+1 by omega,bL0];exact h2)
theorem Lf.head {x:Nd} {ks:List RT} {a p:Nat} (h:Lf (flat (.mk x ks)) a p) (hx:¬(x.k=2\/x.k=3)):a≠p:=fun e=>hx (h x (by omega) (by rw[AO,show p-a=0 by omega];rfl))
theorem JK {x:Nd} {ks:List RT} (h:Ew (.mk x ks)=true) (hx:x.k=2\/x.k=3):ks=[]:=by
 obtain⟨h1,h2,_⟩:=Cj h;unfold DO at h1
 have h0:x.n=0:=by
  rcases hx with hx | hx
  ·rw[if_neg (by omega),if_pos hx]at h1;simp only[aJ0,decide_eq_true_eq]at h1;exact h1.1
  ·rw[if_neg (by omega),if_neg (by omega),if_pos hx]at h1;simp only[aJ0,decide_eq_true_eq]at h1;exact h1.1
 exact bM0 (by omega)
theorem Pt {x:Nd} {ks:List RT} (h:Ew (.mk x ks)=true) (hx:x.k=6\/x.k=7\/x.k=8):∃u,ks=[u]:=by
 obtain⟨h1,h2,_⟩:=Cj h;unfold DO at h1
 have h0:x.n=1:=by
  rcases hx with hx | hx | hx<;>simp[hx]at h1<;>exact h1.2
 exact List.length_eq_one_iff.1 (by omega)
mutual
theorem Se : ∀(t:RT) (a p:Nat),Ew t=true->Lf (flat t) a p->(p∈Ss t a↔Sf t a p=true)
 | .mk x ks,a,p,ok,hl=>by
  rw[NX,Ek_]
  by_cases hx:x.k=2\/x.k=3
  ·rw[if_pos hx,JK ok hx,PK];simp only[aF0,Bool.or_false,decide_eq_true_eq];exact eq_comm
  ·have qF:=hl.head hx;rw[if_neg hx,decide_eq_false qF,eE0];exact VX x.k ks (a+1) p (Cj ok).2.2 hl.kids
theorem VX (k:Int):∀(us:List RT) (a p:Nat),FJ us=true->Lf (Ak us) a p->(p∈VI k us a↔bgL k us a p=true)
 | [],a,p,_,_=>by simp[Kx,PK]
 | u::us,a,p,ok,hl=>by
  obtain⟨ok1,SI⟩:=BM ok;rw[Ap]at hl;have i1:=Se u a p ok1 hl.left;have i2:=VX k us _ p SI hl.right;rw[GD,Sg,aH0,cU0,aJ0]
  have e1:p∈Ss u a↔(IK u a p=true/\Sf u a p=true):=by
   rw[<-i1];exact⟨fun h=>⟨Dj.2 (JX u a p h),h⟩,fun h=>h.2⟩
  rw[e1]
  by_cases hc:k=4/\BU u=false
  ·rw[if_pos hc,if_pos hc];simp
  ·rw[if_neg hc,if_neg hc,i2]
end
mutual
theorem Rx : ∀(t:RT) (a p:Nat),Ew t=true->Lf (flat t) a p->(p∈Nu t a↔MH t a p=true)
 | .mk x ks,a,p,ok,hl=>by
  rw[Lv,DM_]
  by_cases hx:x.k=2\/x.k=3
  ·rw[if_pos hx,JK ok hx,MI];simp only[aF0,Bool.or_false,decide_eq_true_eq];exact eq_comm
  ·have qF:=hl.head hx;rw[if_neg hx,decide_eq_false qF,eE0];exact VJ x.k ks (a+1) p (Cj ok).2.2 hl.kids
theorem VJ (k:Int):∀(us:List RT) (a p:Nat),FJ us=true->Lf (Ak us) a p->(p∈OY k us a↔sL k us a p=true)
 | [],a,p,_,_=>by simp[Hc,MI]
 | u::us,a,p,ok,hl=>by
  obtain⟨ok1,SI⟩:=BM ok;rw[Ap]at hl;have i1:=Rx u a p ok1 hl.left;have i2:=VJ k us _ p SI hl.right;rw[Ez,Ka,cU0,aJ0,aJ0,<-i2]
  have e1:p∈Nu u a↔(IK u a p=true/\MH u a p=true):=by
   rw[<-i1];exact⟨fun h=>⟨Dj.2 (Hz u a p h),h⟩,fun h=>h.2⟩
  rw[<-e1]
  by_cases h4:k=4
  ·rw[if_pos h4,aH0];cases hs:FH us<;>simp[h4]
  ·rw[if_neg h4,aH0];simp only[h4,decide_false,Bool.not_false,Bool.true_or,true_and];exact or_comm
end
mutual
theorem iY : ∀(t:RT) (a p q:Nat),Ew t=true->Lf (flat t) a p->Lf (flat t) a q->((p,q)∈YL t a↔PG t a p q=true)
 | .mk x ks,a,p,q,ok,hp,hq=>by
  rw[LK,iZ];obtain⟨_,_,SI⟩:=Cj ok
  by_cases hx:x.k=2\/x.k=3
  ·rw[if_pos hx,JK ok hx,Hf,decide_eq_false (by omega),decide_eq_false (by omega),decide_eq_false (by omega)];simp
  ·rw[if_neg hx,aH0];have hL:=sG x.k ks (a+1) [] p q SI hp.kids hq.kids (by simp);simp only[fB0,false_and,or_false]at hL;rw[hL]
   by_cases h67:x.k=6\/x.k=7
   ·rw[if_pos h67,Gb];have h4:¬x.k=4:=by omega
    have hk:x.k=6\/x.k=7\/x.k=8:=by omega
    obtain⟨u,rfl⟩:=Pt ok hk;rw[VJ x.k [u] (a+1) p SI hp.kids,VX x.k [u] (a+1) q SI hq.kids];have h1:sL x.k [u] (a+1) p=(IK u (a+1) p&&MH u (a+1) p):=by rw[Ka,MI,GJ];simp
    have h2:bgL x.k [u] (a+1) q=(IK u (a+1) q&&Sf u (a+1) q):=by rw[Sg,PK];simp
    have h3:hdL [u] (a+1) p q=(MH u (a+1) p&&Sf u (a+1) q):=rfl;have i1:MH u (a+1) p=true->IK u (a+1) p=true:=fun h=>Dj.2 (Hz u _ p ((Rx u (a+1) p (BM SI).1 (by have:=hp.kids;rw[Ap,Ch,bO0]at this;exact this)).2 h))
    have i2:Sf u (a+1) q=true->IK u (a+1) q=true:=fun h=>Dj.2 (JX u _ q ((Se u (a+1) q (BM SI).1 (by have:=hq.kids;rw[Ap,Ch,bO0]at this;exact this)).2 h))
    have e67:(decide (x.k=6)||decide (x.k=7))=true:=by simpa using h67
    rw[h1,h2,h3,e67,cC0];simp only[h4,decide_false,cM0,false_and,or_false,aJ0]
    by_cases hh:MH u (a+1) p=true/\Sf u (a+1) q=true
    ·rw[if_pos hh];simp only[iff_true];exact .inr ⟨⟨i1 hh.1,hh.1⟩,i2 hh.2,hh.2⟩
    ·rw[if_neg hh]
     cases hf:VC [u] (a+1) p q with
     | none =>
      simp only[reduceCtorEq,false_or];exact⟨fun h=>absurd ⟨h.1.2,h.2.2⟩ hh,fun h=>by simp at h⟩
     | some b =>
      simp only[aA0];exact⟨fun h=>by rcases h with h | h;exact h;exact absurd ⟨h.1.2,h.2.2⟩ hh,fun h=> .inl h⟩
   ·have e67:(decide (x.k=6)||decide (x.k=7))=false:=by rw[dQ0];simpa using h67
    rw[if_neg h67,e67,cM0];simp only[aR0,if_false,fB0,or_false]
    cases hf:VC ks (a+1) p q with
    | none=>simp
    | some b=>simp
theorem sG (k:Int):∀(us:List RT) (a:Nat) (acc:List Nat) (p q:Nat),FJ us=true->Lf (Ak us) a p->Lf (Ak us) a q->(∀r∈acc,r<a) ->
  ((p,q)∈YO k us a acc↔(VC us a p q=some true\/(k=4/\VC us a p q=none/\(Wt us a p q=true\/(p∈acc/\afL us a q=true)))))
 | [],a,acc,p,q,_,_,_,_=>by simp[IS,Hf,Wt,afL]
 | u::us,a,acc,p,q,ok,hp,hq,cJ=>by
  obtain⟨ok1,SI⟩:=BM ok;rw[Ap]at hp hq;have iT:=iY u a p q ok1 hp.left hq.left;have ib:=Se u a q ok1 hq.left;have ie:=Rx u a p ok1 hp.left;have rT:=lZ u a p q;have rf:=JX u a q;have rl:=Hz u a p;have racc:p∈acc->p<a:=cJ p;obtain⟨a',ha'⟩:∃a',a'=a+(flat u).length:=⟨_,rfl⟩;obtain⟨acc',bA⟩:∃acc',acc'=(if k=4 then Nu u a++(if BU u=true then acc else [])else []):=⟨_,rfl⟩
  have qV:∀r∈acc',r<a':=by
   intro r hr;rw[bA]at hr
   split at hr
   ·rcases aH0.1 hr with hr | hr
    ·have:=Hz u a r hr;omega
    ·split at hr
     ·have:=cJ r hr;omega
     ·simp at hr
   ·simp at hr
  have iL:=sG k us a' acc' p q SI (ha'▸hp.right) (ha'▸hq.right) qV
  have macc:k=4->(p∈acc'↔p∈Nu u a\/(BU u=true/\p∈acc)):=by
   intro h4;rw[bA,if_pos h4,aH0];cases BU u<;>simp
  rw[DV,GA,Wt,afL,<-ha',<-bA,aH0,aH0,iL,iT]
  have mj:(p,q)∈(if k=4 then Cq acc (Ss u a)else [])↔k=4/\p∈acc/\q∈Ss u a:=by
   by_cases h4:k=4<;>simp[h4,Gb]
  rw[mj];clear hp hq cJ qV iL mj bA
  by_cases bp:IK u a p=true
  ·have bp':=Dj.1 bp;have hna:¬p∈acc:=fun h=>by have:=racc h;omega
   by_cases bq:IK u a q=true
   ·have bq':=Dj.1 bq;rw[bp,bq,PH us a' p q (by omega),PE us a' p q (by omega),PQ us a' q (by omega)];simp[hna]
   ·have bq':¬(a<=q/\q<a+(flat u).length):=fun h=>bq (Dj.2 h)
    have hnT:¬PG u a p q=true:=fun h=>bq' (rT (iT.2 h)).2
    rw[dU0]at bq;rw[bp,bq,PH us a' p q (by omega),PE us a' p q (by omega)];simp only[hnT,hna,dX0,aR0,if_false,if_true,false_and,and_false,false_or,or_false,reduceCtorEq,true_and,aJ0]
    constructor
    ·rintro⟨h4,h1,h2⟩;rw[macc h4]at h1
     rcases h1 with h1 | h1
     ·exact⟨h4,ie.1 h1,h2⟩
     ·exact absurd h1.2 hna
    ·rintro⟨h4,h1,h2⟩;exact⟨h4,(macc h4).2 (.inl (ie.2 h1)),h2⟩
  ·have bp':¬(a<=p/\p<a+(flat u).length):=fun h=>bp (Dj.2 h)
   have hnT:¬PG u a p q=true:=fun h=>bp' (rT (iT.2 h)).1
   have cZ:¬p∈Nu u a:=fun h=>bp' (rl h)
   rw[dU0]at bp
   by_cases bq:IK u a q=true
   ·have bq':=Dj.1 bq;rw[bp,bq,PH us a' p q (by omega),PE us a' p q (by omega),PQ us a' q (by omega)];simp only[hnT,cM0,aR0,if_false,if_true,false_and,and_false,false_or,or_false,reduceCtorEq,true_and];rw[ib]
   ·have bq':¬(a<=q/\q<a+(flat u).length):=fun h=>bq (Dj.2 h)
    have hnf:¬q∈Ss u a:=fun h=>bq' (rf h)
    rw[dU0]at bq;rw[bp,bq];simp only[hnT,hnf,cM0,aR0,if_false,and_false,false_or]
    by_cases h4:k=4
    ·rw[macc h4];cases BU u<;>simp[cZ]
    ·simp[h4]
end
mutual
theorem XM : ∀(t:RT) (a:Nat),(Nu t a).Nodup
 | .mk x ks,a=>by
  rw[Lv]
  split
  ·simp
  ·exact TJ x.k ks (a+1)
theorem TJ (k:Int):∀(us:List RT) (a:Nat),(OY k us a).Nodup
 | [],a=>by rw[Hc];simp
 | u::us,a=>by
  have h1:=XM u a;have h2:=TJ k us (a+(flat u).length);rw[Ez]
  split
  ·refine bV0.2 ⟨h2,?_,?_⟩
   ·split
    ·exact h1
    ·simp
   ·rintro x hx y hy rfl
    split at hy
    ·have:=JL k us _ x hx;have:=Hz u a x hy;omega
    ·simp at hy
  ·refine bV0.2 ⟨h1,h2,?_⟩;rintro x hx y hy rfl;have:=JL k us _ x hy;have:=Hz u a x hx;omega
end
-- what begins and ends are occurrences
mutual
theorem MF : ∀(t:RT) (a q:Nat),q∈Ss t a->∃x,(flat t)[q-a]? =some x/\(x.k=2\/x.k=3)
 | .mk x ks,a,q,h=>by
  rw[NX]at h
  split at h
  ·rename_i hx;simp at h;subst h;exact⟨x,by rw[AO,eG0];rfl,hx⟩
  ·have h1:=LD x.k ks _ q h;obtain⟨y,hy,hk⟩:=MG x.k ks _ q h;refine⟨y,?_,hk⟩;rw[AO,show q-a=(q-(a+1))+1 by omega,bL0];exact hy
theorem MG (k:Int):∀(us:List RT) (a q:Nat),q∈VI k us a->∃x,(Ak us)[q-a]? =some x/\(x.k=2\/x.k=3)
 | [],a,q,h=>by simp[Kx]at h
 | u::us,a,q,h=>by
  rw[GD,aH0]at h;rw[Ap]
  rcases h with h | h
  ·have h1:=JX u a q h;obtain⟨y,hy,hk⟩:=MF u a q h;exact⟨y,by rw[aZ0 (by omega)];exact hy,hk⟩
  ·split at h
   ·simp at h
   ·have h1:=LD k us _ q h;obtain⟨y,hy,hk⟩:=MG k us _ q h;exact⟨y,by rw[bB0 (by omega),Nat.sub_sub];exact hy,hk⟩
end
mutual
theorem QZ : ∀(t:RT) (a q:Nat),q∈Nu t a->∃x,(flat t)[q-a]? =some x/\(x.k=2\/x.k=3)
 | .mk x ks,a,q,h=>by
  rw[Lv]at h
  split at h
  ·rename_i hx;simp at h;subst h;exact⟨x,by rw[AO,eG0];rfl,hx⟩
  ·have h1:=JL x.k ks _ q h;obtain⟨y,hy,hk⟩:=Rb x.k ks _ q h;refine⟨y,?_,hk⟩;rw[AO,show q-a=(q-(a+1))+1 by omega,bL0];exact hy
theorem Rb (k:Int):∀(us:List RT) (a q:Nat),q∈OY k us a->∃x,(Ak us)[q-a]? =some x/\(x.k=2\/x.k=3)
 | [],a,q,h=>by simp[Hc]at h
 | u::us,a,q,h=>by
  rw[Ez]at h;rw[Ap]
  have key:q∈Nu u a\/q∈OY k us (a+(flat u).length):=by
   split at h
   ·rcases aH0.1 h with h | h
    ·exact .inr h
    ·split at h
     ·exact .inl h
     ·simp at h
   ·exact aH0.1 h
  rcases key with h | h
  ·have h1:=Hz u a q h;obtain⟨y,hy,hk⟩:=QZ u a q h;exact⟨y,by rw[aZ0 (by omega)];exact hy,hk⟩
  ·have h1:=JL k us _ q h;obtain⟨y,hy,hk⟩:=Rb k us _ q h;exact⟨y,by rw[bB0 (by omega),Nat.sub_sub];exact hy,hk⟩
end
mutual
theorem MZ : ∀(t:RT) (a p q:Nat),(p,q)∈YL t a->(∃x,(flat t)[p-a]? =some x/\(x.k=2\/x.k=3))/\(∃x,(flat t)[q-a]? =some x/\(x.k=2\/x.k=3))
 | .mk x ks,a,p,q,h=>by
  rw[LK]at h
  have lift:∀r,a+1<=r->(∃x,(Ak ks)[r-(a+1)]? =some x/\(x.k=2\/x.k=3))->∃y,(flat (.mk x ks))[r-a]? =some y/\(y.k=2\/y.k=3):=by
   rintro r hr ⟨y,hy,hk⟩;refine⟨y,?_,hk⟩;rw[AO,show r-a=(r-(a+1))+1 by omega,bL0];exact hy
  split at h
  ·simp at h
  ·rcases aH0.1 h with h | h
   ·have h1:=Wb x.k ks _ [] p q h;obtain⟨h2,h3⟩:=YN x.k ks _ [] p q h;simp only[fB0,or_false]at h1 h2;exact⟨lift p h1.1.1 h2,lift q h1.2.1 h3⟩
   ·split at h
    ·obtain⟨h1,h2⟩:=Gb.1 h;exact⟨lift p (JL x.k ks _ p h1).1 (Rb x.k ks _ p h1),lift q (LD x.k ks _ q h2).1 (MG x.k ks _ q h2)⟩
    ·simp at h
theorem YN (k:Int):∀(us:List RT) (a:Nat) (acc:List Nat) (p q:Nat),(p,q)∈YO k us a acc->((∃x,(Ak us)[p-a]? =some x/\(x.k=2\/x.k=3))\/p∈acc)/\(∃x,(Ak us)[q-a]? =some x/\(x.k=2\/x.k=3))
 | [],a,acc,p,q,h=>by simp[IS]at h
 | u::us,a,acc,p,q,h=>by
  rw[DV]at h;rw[Ap]
  have l1:∀r,a<=r/\r<a+(flat u).length->(∃x,(flat u)[r-a]? =some x/\(x.k=2\/x.k=3))->∃y,(flat u++Ak us)[r-a]? =some y/\(y.k=2\/y.k=3):=by
   rintro r hr ⟨y,hy,hk⟩;exact⟨y,by rw[aZ0 (by omega)];exact hy,hk⟩
  have l2:∀r,a+(flat u).length<=r->(∃x,(Ak us)[r-(a+(flat u).length)]? =some x/\(x.k=2\/x.k=3))->∃y,(flat u++Ak us)[r-a]? =some y/\(y.k=2\/y.k=3):=by
   rintro r hr ⟨y,hy,hk⟩;exact⟨y,by rw[bB0 (by omega),Nat.sub_sub];exact hy,hk⟩
  simp only[aH0]at h
  rcases h with h | h | h
  ·have h1:=lZ u a p q h;obtain⟨h2,h3⟩:=MZ u a p q h;exact⟨.inl (l1 p h1.1 h2),l1 q h1.2 h3⟩
  ·split at h
   ·obtain⟨h1,h2⟩:=Gb.1 h;exact⟨.inr h1,l1 q (JX u a q h2) (MF u a q h2)⟩
   ·simp at h
  ·obtain⟨h1,h2⟩:=Wb k us _ _ p q h;obtain⟨h3,h4⟩:=YN k us _ _ p q h;refine⟨?_,l2 q h2.1 h4⟩
   by_cases cJ:p∈acc
   ·exact .inr cJ
   left
   have h5:∀{c:List Nat},p∈(if k=4 then Nu u a++(if BU u=true then acc else [])else [])->p∈Nu u a:=by
    intro _ h
    split at h
    ·rcases aH0.1 h with h | h
     ·exact h
     ·split at h
      ·exact absurd h cJ
      ·simp at h
    ·simp at h
   by_cases pH:p∈Nu u a
   ·exact l1 p (Hz u a p pH) (QZ u a p pH)
   ·rcases h1 with h1 | h1
    ·rcases h3 with h3 | h3
     ·exact l2 p h1.1 h3
     ·exact absurd (h5 (c:=[]) h3) pH
    ·exact absurd (h5 (c:=[]) h1) pH
end
end Go.Proofs.Wy
end
section
namespace Go.Proofs.Wy
open Go Go.Dm Tryz
variable [DMode]
attribute [local irreducible] DW Bs Bt
set_option maxRecDepth 100000
theorem AV : (⟨#[]⟩:ByteArray).size=0:=rfl
def Zv : Ann:=⟨[],[]⟩
theorem Aw_ (x:Nd):Ae prog 156 [.agg (Bq x)] (.bool (DO x)):=by
 refine Ac [] Zv func156 call156 ntmps156 mxd (Au @Zv.eq_1 results156) rfl (fun qJ B qX qQ=> ?_);simp only[Am];have e1:=Fh 200 aI Hn x.s;have e2:=Fh 201 aL Hx x.s;unfold DO aN
 by_cases k1:x.k=1
 ·exact Av Ab Ab (CD @Bq.eq_1 @AV k1)
 by_cases k2:x.k=2
 ·by_cases h0:x.n=0
  ·exact Av (AD e1) Ab (Jh @Bq.eq_1 @AV k1 k2 h0)
  ·have vS:(x.n==0)=false:=by simpa using h0
   exact Av Ab Ab (GN @Bq.eq_1 @AV k1 k2 h0 vS)
 by_cases k3:x.k=3
 ·by_cases h0:x.n=0
  ·exact Av (AD e2) Ab (GN @Bq.eq_1 @AV k1 k2 k3 h0)
  ·have vS:(x.n==0)=false:=by simpa using h0
   exact Av Ab Ab (Iw @Bq.eq_1 @AV k1 k2 k3 h0 vS)
 by_cases k4:x.k=4
 ·exact Av Ab Ab (GN @Bq.eq_1 @AV k1 k2 k3 k4)
 by_cases k5:x.k=5
 ·exact Av Ab Ab (Iw @Bq.eq_1 @AV k1 k2 k3 k4 k5)
 by_cases k6:x.k=6
 ·exact Av Ab Ab (KQ @Bq.eq_1 @AV k1 k2 k3 k4 k5 k6)
 by_cases k7:x.k=7
 ·exact Av Ab Ab (Ut @Bq.eq_1 @AV k1 k2 k3 k4 k5 k6 k7)
 by_cases k8:x.k=8
 ·exact Av Ab Ab (LL @Bq.eq_1 @AV k1 k2 k3 k4 k5 k6 k7 k8)
 exact Av Ab Ab (LL @Bq.eq_1 @AV k1 k2 k3 k4 k5 k6 k7 k8)
def DY (r:List Nd) (w:Nat):Bool:=match EN r w with
 | some []=>true
 | _=>false
theorem Uy (x:Nd) (r:List Nd):DY (x::r) 0=false:=by unfold DY;rw[Cu]
theorem LN {r:List Nd} {w:Nat} (h:EN r w=none):DY r w=false:=by unfold DY;rw[h]
theorem Uz {x:Nd} {r:List Nd} {w:Nat} (h:DO x=true):DY (x::r) (w+1)=DY r (w+x.n.toNat):=by unfold DY;rw[DB,if_pos h]
theorem Wv (w:Nat):DY [] w=decide (w=0):=by
 unfold DY
 cases w with
 | zero=>rw[Cu];rfl
 | succ w=>rw[Ih];rfl
def Zw : Ann:=⟨[],[⟨4,[5],[],[]⟩]⟩
theorem FO (l:List Nd) (hs:l.length<=1572864):Ae prog 103 [AU l] (.bool (Dd l)):=by
 refine Ac [] Zw func103 call103 ntmps103 mxd (Au @Zw.eq_1 results103) rfl (fun qJ B qX qQ=> ?_);clear qJ;simp only[Am];obtain⟨R,hR⟩:∃R,R=Dd l:=⟨_,rfl⟩;rw[<-hR];have wX:DY l 1=R:=by rw[hR];rfl
 clear hR
 (refine AG Ab Ab Ab ?_;intros;refine Ah ?_)
 refine Ai (X:={p:Nat×Nat//p.1<=l.length/\DY (l.drop p.1) p.2=R/\p.2<=1+p.1*1572864/\(p.1=0->p.2=1)}) (fun p=>⟨[(0,AU l),(3,.int .i64 p.1.2),(6,AU l),(7,.int .i64 l.length),(8,.int .i64 p.1.1)],[]⟩) (fun p=>l.length-p.1.1) ⟨(0,1),by simp[wX]⟩ (Sub.lit (by simp)) ?_;clear wX;rintro⟨⟨k,w⟩,hk,hw,nO,hw0⟩;simp only at hk hw nO hw0 |-
 by_cases qV:k<l.length
 ·obtain⟨x,hx,qA,_⟩:=Ao qV;rw[aS0 qV,qA]at hw;have e1:=Aw_ x;simp only[Bq]at e1
  cases w with
  | zero =>
   rw[Uy]at hw;subst hw;exact Av Ab Ab (GV @Bq.eq_1 qV hx qA)
  | succ v =>
   have hv:¬(v:Int)+1=0:=by omega
   have jH:(((v:Int)+1)==0)=false:=by simpa using hv
   cases hm:DO x
   ·rw[hm]at e1;rw[LN (by rw[DB,hm];rfl)]at hw;subst hw;exact Av (AD e1) Ab (GN @Bq.eq_1 qV hx qA hv jH)
   ·rw[hm]at e1;have zB:=HU hm;obtain⟨c,yB⟩:∃c:Nat,x.n=(c:Int):=⟨x.n.toNat,by omega⟩;rw[yB]at e1;rw[Uz hm,yB,dE0]at hw
    by_cases fG:l.length<c
    ·have kX:(l.length:Int)<(c:Int):=by omega
     rw[LN (Rw _ _ (by rw[cF0];omega))]at hw;subst hw;exact Av (AD e1) Ab (Ut @Bq.eq_1 qV hx qA hv jH yB fG kX)
    ·have kX:¬(l.length:Int)<(c:Int):=by omega
     have q1:IntKind.i64.wrap ((c:Int)-1)=(c:Int)-1:=wq;have q2:IntKind.i64.wrap ((v:Int)+1+((c:Int)-1))=(v:Int)+(c:Int):=by rw[wq];omega
     (refine AG (AD e1) Ab (Jn @Bq.eq_1 qV hx qA hv jH yB fG kX q1 q2) ?_;intros;refine Ah ?_)
     refine Aj.mk ⟨(k+1,v+c),show k+1<=l.length/\DY (l.drop (k+1)) (v+c)=R/\v+c<=1+(k+1)*1572864/\(k+1=0->v+c=1) from ⟨by omega,hw,by omega,by omega⟩⟩ (Sub.lit (by simp)) (by simp;omega)
     skip
 ·have qZ:k=l.length:=by omega
  subst qZ;rw[bT0,Wv]at hw
  cases w with
  | zero =>
   have zR:0<l.length:=by
    rcases eP0 l.length with h | h
    ·have:=hw0 h;omega
    ·exact h
   simp only[decide_true]at hw;subst hw;exact Av Ab Ab (AD zR)
  | succ v =>
   have mF:R=false:=by rw[<-hw];simp
   subst mF;have hv:¬(v:Int)+1=0:=by omega
   have jH:(((v:Int)+1)==0)=false:=by simpa using hv
   exact Av Ab Ab (Au hv jH)
end Go.Proofs.Wy
end
