/- Parts of a proof, laid together: BO0, EnBl. -/
import Derived.Shelf.Strings.BuilderF
import Derived.Test.YtiojapdolljocaaGreatqMx15
import Derived.Test.YtiojapdolljocaaGreatqMx19
import Derived.Test.YtiojapdolljocaaGreatqMx21
set_option linter.unusedSimpArgs false
set_option maxHeartbeats 8000000
set_option linter.unusedVariables false
set_option linter.unusedSectionVars false
section
namespace Go.Proofs.Wy
open Go Go.Dm Tryz
variable [DMode]
theorem BB {x:Nd}:BR x=true↔x.k=2\/x.k=3:=by unfold BR;simp
def IA (l:List Nd) (p:Nat):Nat:=((l.take p).filter BR).length
def Cs (l:List Nd):List Nd:=l.filter BR
theorem Qo (l:List Nd):IA l 0=0:=by simp[IA]
theorem GZ (l:List Nd):IA l l.length=(Cs l).length:=by simp[IA,Cs]
theorem Qp {l:List Nd} {p:Nat} {x:Nd} (h:l[p]? =some x):IA l (p+1)=IA l p+(if BR x=true then 1 else 0):=by
 unfold IA;rw[bJ0,h,cV0];cases hx:BR x<;>simp[hx]
theorem Qq (l:List Nd) {p q:Nat} (h:p<=q):IA l p<=IA l q:=by
 unfold IA;obtain⟨d,rfl⟩:∃d,q=p+d:=⟨q-p,by omega⟩;rw[List.take_add,cV0,aC0];omega
theorem eI {l:List Nd} {p q:Nat} {x:Nd} (h:l[p]? =some x) (hx:BR x=true) (hq:p<q):IA l p<IA l q:=by
 have h1:=Qp h;rw[if_pos hx]at h1;have:=Qq l (show p+1<=q from hq);omega
theorem GL_ {l:List Nd} {p:Nat} {x:Nd} (h:l[p]? =some x) (hx:BR x=true):(Cs l)[IA l p]? =some x:=by
 obtain⟨hp,rfl⟩:=aB0.1 h;unfold Cs IA
 have h1:l.filter BR=(l.take p).filter BR++(l[p]::(l.drop (p+1)).filter BR):=by
  have h2:l=l.take p++l[p]::l.drop (p+1):=by rw[<-aS0 hp,List.take_append_drop]
  have h3:=congrArg (List.filter BR) h2;rw[cV0,List.filter_cons,if_pos hx]at h3;exact h3
 rw[h1,bB0 (Nat.le_refl _),eG0];rfl
theorem Tx {l:List Nd}:∀{n:Nat},n<=l.length->(Cw l n).length=IA l n
 | 0,_=>by simp[Cw,IA]
 | n+1,h=>by
  have hn:l[n]? =some (l[n]'(by omega)):=aE0 (by omega);rw[Ls hn,Qp hn,aC0,Tx (by omega)];cases BR l[n]<;>simp
theorem Mo (l:List Nd):FS l=(Cs l).length:=by unfold FS;rw[Tx (Nat.le_refl _),GZ]
def Dm_ (l:List Nd) (i:Nat):Bool:=match l[i]? with | some x=>BR x | none=>false
def FZ (l:List Nd) (n:Nat):List Nat:=(List.range n).filter (Dm_ l)
theorem Cy_ (l:List Nd):FZ l 0=[]:=rfl
theorem QC {l:List Nd} {n:Nat} {x:Nd} (h:l[n]? =some x):FZ l (n+1)=FZ l n++(if BR x=true then [n]else []):=by
 unfold FZ;rw[List.range_succ,cV0];have:Dm_ l n=BR x:=by unfold Dm_;rw[h]
 cases hx:BR x<;>simp[this,hx]
theorem Dl_ {l:List Nd} {i:Nat}:Dm_ l i=true↔∃x,l[i]? =some x/\BR x=true:=by
 unfold Dm_;cases l[i]? <;>simp
theorem IF {l:List Nd} {i:Nat}:i∈FZ l l.length↔∃x,l[i]? =some x/\BR x=true:=by
 unfold FZ;rw[cE0,dP0,Dl_];exact⟨fun h=>h.2,fun h=>⟨(aB0.1 h.choose_spec.1).1,h⟩⟩
theorem Kq {l:List Nd}:∀{n:Nat},n<=l.length->(FZ l n).length=IA l n
 | 0,_=>by simp[FZ,IA]
 | n+1,h=>by
  have hn:l[n]? =some (l[n]'(by omega)):=aE0 (by omega);rw[QC hn,Qp hn,aC0,Kq (by omega)];cases BR l[n]<;>simp
theorem QD {l:List Nd}:∀{n j p:Nat},n<=l.length->(FZ l n)[j]? =some p->IA l p=j
 | 0,j,p,_,h=>by simp[FZ]at h
 | n+1,j,p,hn,h=>by
  have hx:l[n]? =some (l[n]'(by omega)):=aE0 (by omega);rw[QC hx]at h;have hl:=Kq (l:=l) (n:=n) (by omega)
  by_cases hj:j<(FZ l n).length
  ·rw[aZ0 hj]at h;exact QD (by omega) h
  ·rw[bB0 (by omega)]at h
   split at h
   ·have:j-(FZ l n).length=0:=by
     rcases eP0 (j-(FZ l n).length)with h0 | h0
     ·exact h0
     ·rw[eH0 (by simp;omega)]at h;simp at h
    rw[this]at h;simp at h;subst h;omega
   ·simp at h
theorem Cz_ (l:List Nd) (n:Nat):(FZ l n).Pairwise (· < ·):=(List.pairwise_lt_range).filter _
def EZ (l:List Nd) (ah p:Nat):Nat:=ah+IA l p+1
def Vk (l:List Nd) (ah:Nat) (p:Nat×Nat):Nat×Nat:=(EZ l ah p.1,EZ l ah p.2)
def nd (l:List Nd) (p:Nat):Nd:=l.getD p ⟨0,⟨#[]⟩,0⟩
theorem rK {l:List Nd} {p:Nat} {x:Nd} (h:l[p]? =some x):nd l p=x:=by unfold nd;rw[aO0,h];rfl
def Ws : Nat->List RT->List (Nat×Nat)
 | _,[]=>[]
 | ah,t::ts=>(YL t 0).map (Vk (flat t) ah)++Ws (ah+(Cs (flat t)).length) ts
def VH : Nat->List RT->List Nat
 | _,[]=>[]
 | ah,t::ts=>(Ss t 0).map (EZ (flat t) ah)++VH (ah+(Cs (flat t)).length) ts
def sD : Nat->List RT->List Nat
 | _,[]=>[]
 | ah,t::ts=>(Nu t 0).map (EZ (flat t) ah)++sD (ah+(Cs (flat t)).length) ts
def BT (ts:List RT):List Nd:=ts.flatMap fun t=>Cs (flat t)
def Nt (sy:Nd->Sym) (ts:List RT):List Sym:=(BT ts).map sy
theorem QU (ts:List RT) (t:RT):BT (ts++[t])=BT ts++Cs (flat t):=by simp[BT]
theorem Xg (t:RT):∀(ts:List RT) (ah:Nat),Ws ah (ts++[t])=Ws ah ts++(YL t 0).map (Vk (flat t) (ah+(BT ts).length))
 | [],ah=>by simp[Ws,BT]
 | u::ts,ah=>by
  rw[List.cons_append,Ws,Ws,Xg t ts,aV0,cQ0];simp[BT]
theorem Ym (t:RT):∀(ts:List RT) (ah:Nat),VH ah (ts++[t])=VH ah ts++(Ss t 0).map (EZ (flat t) (ah+(BT ts).length))
 | [],ah=>by simp[VH,BT]
 | u::ts,ah=>by
  rw[List.cons_append,VH,VH,Ym t ts,aV0,cQ0];simp[BT]
theorem XN (t:RT):∀(ts:List RT) (ah:Nat),sD ah (ts++[t])=sD ah ts++(Nu t 0).map (EZ (flat t) (ah+(BT ts).length))
 | [],ah=>by simp[sD,BT]
 | u::ts,ah=>by
  rw[List.cons_append,sD,sD,XN t ts,aV0,cQ0];simp[BT]
def Ph (S:List Sym) (p:Nat×Nat):Arc:=⟨(p.1:Int),S.getD (p.2-1) ⟨false,0⟩,(p.2:Int)⟩
def FN (sy:Nd->Sym) (ts:List RT):List Arc:=(Ws 0 ts++(VH 0 ts).map fun q=>(0,q)).map (Ph (Nt sy ts))
def Lj (sy:Nd->Sym) (ah:Nat) (t:RT) (q:Nat):List Arc :=
 (if Sf t 0 q then [⟨0,sy (nd (flat t) q),(EZ (flat t) ah q:Int)⟩]else []) ++
  (FZ (flat t) (flat t).length).flatMap fun p=>if PG t 0 p q then [⟨(EZ (flat t) ah p:Int),sy (nd (flat t) q),(EZ (flat t) ah q:Int)⟩]else []
def Fy (sy:Nd->Sym):Nat->List RT->List Arc
 | _,[]=>[]
 | ah,t::ts=>(FZ (flat t) (flat t).length).flatMap (Lj sy ah t)++Fy sy (ah+(Cs (flat t)).length) ts
theorem Sj (sy:Nd->Sym) (t:RT):∀(ts:List RT) (ah:Nat),Fy sy ah (ts++[t])=Fy sy ah ts++(FZ (flat t) (flat t).length).flatMap (Lj sy (ah+(BT ts).length) t)
 | [],ah=>by simp[Fy,BT]
 | u::ts,ah=>by
  rw[List.cons_append,Fy,Fy,Sj sy t ts,aV0,cQ0];simp[BT]
theorem OA {l:List Nd} {q:Nat} (h:∃x,l[q]? =some x/\BR x=true):Lf l 0 q:=fun y _ hy=>by
 obtain⟨x,hx,hk⟩:=h;rw[eC0,hx]at hy;simp only[aA0]at hy;subst hy;exact BB.1 hk
theorem XC (sy:Nd->Sym) (S:List Sym) (z:Arc):∀(ts:List RT) (ah:Nat),(∀t∈ts,Ew t=true)->S.drop ah=Nt sy ts ->
  (z∈(Ws ah ts++(VH ah ts).map fun q=>(0,q)).map (Ph S)↔z∈Fy sy ah ts)
 | [],ah,_,_=>by simp[Ws,VH,Fy]
 | t::ts,ah,qW,hS=>by
  have hS1:Nt sy (t::ts)=(Cs (flat t)).map sy++Nt sy ts:=by simp[Nt,BT]
  rw[hS1]at hS
  have hS2:S.drop (ah+(Cs (flat t)).length)=Nt sy ts:=by
   rw[<-eV0,hS,dT0 (by simp)];rw[show (Cs (flat t)).length=((Cs (flat t)).map sy).length by simp,bT0,List.nil_append]
  have ih:=XC sy S z ts (ah+(Cs (flat t)).length) (fun u hu=>qW u (aG0 _ hu)) hS2;obtain⟨l,hl⟩:∃l,l=flat t:=⟨_,rfl⟩
  have look:∀{q:Nat} {x:Nd},l[q]? =some x->BR x=true->S.getD (EZ l ah q-1) ⟨false,0⟩=sy x:=by
   intro q x hx hk;have h1:=GL_ hx hk
   have h2:(S.drop ah)[IA l q]? =some (sy x):=by
    have qV:=(aB0.1 h1).1;rw[hS,<-hl,aZ0 (by simpa using qV),bK0,h1];rfl
   rw[cL0]at h2;unfold EZ;rw[aO0,eQ0,h2];rfl
  have jO:=qW t aI0;rw[<-hl]at ih;rw[Ws,VH,Fy,<-hl];simp only[bD0,aH0]at ih |-
  have here:(z∈((YL t 0).map (Vk l ah)).map (Ph S)\/z∈(((Ss t 0).map (EZ l ah)).map fun q=>(0,q)).map (Ph S))↔z∈(FZ l l.length).flatMap (Lj sy ah t):=by
   simp only[bQ0,IF]
   constructor
   ·rintro (h | h)
    ·simp only[aT0]at h;obtain⟨_,⟨⟨p,q⟩,cU,rfl⟩,rfl⟩:=h;obtain⟨⟨x,hx,fK⟩,⟨y,hy,gD⟩⟩:=MZ t 0 p q cU;rw[eC0,<-hl]at hx hy;refine⟨q,⟨y,hy,BB.2 gD⟩,?_⟩;unfold Lj;rw[aH0,bQ0,<-hl]
     right
     refine⟨p,IF.2 ⟨x,hx,BB.2 fK⟩,?_⟩;rw[if_pos ((iY t 0 p q jO (hl▸OA ⟨x,hx,BB.2 fK⟩) (hl▸OA ⟨y,hy,BB.2 gD⟩)).1 cU)];simp only[Ph,Vk,look hy (BB.2 gD),rK hy,aF0]
    ·simp only[aT0]at h;obtain⟨_,⟨_,⟨q,hq,rfl⟩,rfl⟩,rfl⟩:=h;obtain⟨y,hy,gD⟩:=MF t 0 q hq;rw[eC0,<-hl]at hy;refine⟨q,⟨y,hy,BB.2 gD⟩,?_⟩;unfold Lj;rw[aH0,<-hl]
     left
     rw[if_pos ((Se t 0 q jO (hl▸OA ⟨y,hy,BB.2 gD⟩)).1 hq)];simp only[Ph,look hy (BB.2 gD),rK hy,aF0];rfl
   ·rintro⟨q,⟨y,hy,gD⟩,h⟩;unfold Lj at h;rw[aH0,bQ0,<-hl,rK hy]at h
    rcases h with h | ⟨p,hp,h⟩
    ·split at h
     ·rename_i hb
      right
      simp only[aT0];refine⟨_,⟨_,⟨q,(Se t 0 q jO (hl▸OA ⟨y,hy,gD⟩)).2 hb,rfl⟩,rfl⟩,?_⟩;simp only[aF0]at h;rw[h];simp only[Ph,look hy gD];rfl
     ·simp at h
    ·split at h
     ·rename_i hb
      left
      obtain⟨x,hx,fK⟩:=IF.1 hp;simp only[aT0];refine⟨_,⟨(p,q),(iY t 0 p q jO (hl▸OA ⟨x,hx,fK⟩) (hl▸OA ⟨y,hy,gD⟩)).2 hb,rfl⟩,?_⟩;simp only[aF0]at h;rw[h];simp only[Ph,Vk,look hy gD]
     ·simp at h
  rw[<-here,<-ih]
  constructor
  ·rintro ((h | h) | h | h)
   ·exact .inl (.inl h)
   ·exact .inr (.inl h)
   ·exact .inl (.inr h)
   ·exact .inr (.inr h)
  ·rintro ((h | h) | h | h)
   ·exact .inl (.inl h)
   ·exact .inr (.inl h)
   ·exact .inl (.inr h)
   ·exact .inr (.inr h)
theorem Ip (x y:Arc):CT x y=AB_ HC (AB_ Nw HC) (x.fr,x.sy,x.to) (y.fr,y.sy,y.to):=rfl
theorem De : OrdC CT:=by
 have h:=eZ EW_ (eZ Gu_ EW_);refine⟨fun x y=> ?_,fun x y=> ?_,fun x y z=> ?_⟩
 ·rw[Ip,h.eq0];cases x;cases y;simp only[_root_.Prod.mk.injEq,Arc.mk.injEq]
 ·rw[Ip,Ip];exact h.anti _ _
 ·rw[Ip,Ip,Ip];exact h.trans _ _ _
theorem Em_ (sy:Nd->Sym) (ts:List RT) (qW:∀t∈ts,Ew t=true):CA (fun x y=>CT x y==0) (Jt CT (FN sy ts))=(Fy sy 0 ts).foldl (DG CT) []:=by
 rw[Dv_ De];obtain⟨h1,h2⟩:=EE De (Dz De (FN sy ts));obtain⟨h3,h4⟩:=EE De (Dz De (Fy sy 0 ts));refine Nx De h1 h3 fun z=> ?_
 rw[h2,h4,(EW _ _).mem_iff,(EW _ _).mem_iff];exact XC sy (Nt sy ts) z ts 0 qW (by simp)
def Fv : Nat->List RT->List Nat
 | _,[]=>[]
 | ah,t::ts=>((FZ (flat t) (flat t).length).filter (MH t 0)).map (EZ (flat t) ah)++Fv (ah+(Cs (flat t)).length) ts
theorem TU (t:RT):∀(ts:List RT) (ah:Nat),Fv ah (ts++[t])=Fv ah ts++((FZ (flat t) (flat t).length).filter (MH t 0)).map (EZ (flat t) (ah+(BT ts).length))
 | [],ah=>by simp[Fv,BT]
 | u::ts,ah=>by
  rw[List.cons_append,Fv,Fv,TU t ts,aV0,cQ0];simp[BT]
theorem Yh : ∀(ts:List RT) (ah:Nat),(∀t∈ts,Ew t=true)->(sD ah ts).Perm (Fv ah ts)
 | [],ah,_=>by simp[sD,Fv]
 | t::ts,ah,qW=>by
  rw[sD,Fv];refine List.Perm.append (List.Perm.map _ ?_) (Yh ts _ fun u hu=>qW u (aG0 _ hu));refine(List.perm_ext_iff_of_nodup (XM t 0) (((Cz_ _ _).imp fun h=>Nat.ne_of_lt h).filter _)).2 fun q=> ?_
  have jO:=qW t aI0;rw[cE0,IF]
  constructor
  ·intro h;obtain⟨y,hy,gD⟩:=QZ t 0 q h;rw[eC0]at hy;have hq:=(⟨y,hy,BB.2 gD⟩:∃x,(flat t)[q]? =some x/\BR x=true);exact⟨hq,(Rx t 0 q jO (OA hq)).1 h⟩
  ·rintro⟨hq,h⟩;exact(Rx t 0 q jO (OA hq)).2 h
theorem GC_ {l:List Nd} {ah p q:Nat} (hp:p∈FZ l l.length) (h:p<q):EZ l ah p<EZ l ah q:=by
 obtain⟨x,hx,hk⟩:=IF.1 hp;have:=eI hx hk h;unfold EZ;omega
theorem VE : ∀(ts:List RT) (ah:Nat),(Fv ah ts).Pairwise (· < ·)/\∀q∈Fv ah ts,ah<q/\q<=ah+(BT ts).length
 | [],ah=>by simp[Fv]
 | t::ts,ah=>by
  obtain⟨h1,h2⟩:=VE ts (ah+(Cs (flat t)).length)
  have hb:∀q∈((FZ (flat t) (flat t).length).filter (MH t 0)).map (EZ (flat t) ah),ah<q/\q<=ah+(Cs (flat t)).length:=by
   intro q hq;obtain⟨p,hp,rfl⟩:=aT0.1 hq;obtain⟨x,hx,hk⟩:=IF.1 (cE0.1 hp).1;have h3:=eI hx hk (aB0.1 hx).1;rw[GZ]at h3;unfold EZ;omega
  have hl:(BT (t::ts)).length=(Cs (flat t)).length+(BT ts).length:=by simp[BT]
  rw[Fv];refine⟨List.pairwise_append.2 ⟨?_,h1,?_⟩,?_⟩
  ·rw[cX0];refine List.Pairwise.imp_of_mem ?_ ((Cz_ _ _).filter _);intro a b ha _ hab;exact GC_ (cE0.1 ha).1 hab
  ·intro a ha b qM;have:=hb a ha;have:=h2 b qM;omega
  ·intro q hq
   rcases aH0.1 hq with hq | hq
   ·have:=hb q hq;omega
   ·have:=h2 q hq;omega
theorem Ch_ {l l':List Int} (hp:l.Perm l') (hs:l'.Pairwise (· < ·)):l.mergeSort (fun x y=>decide (x<=y))=l':=by
 have tr:∀a b c:Int,decide (a<=b)=true->decide (b<=c)=true->decide (a<=c)=true:=fun a b c h1 h2=>by simp only[decide_eq_true_eq]at *;omega
 have to:∀a b:Int,(decide (a<=b)||decide (b<=a))=true:=fun a b=>by simp only[cU0,decide_eq_true_eq];omega
 refine List.Perm.eq_of_pairwise (le:=fun a b=>decide (a<=b)=true) (fun a b _ _ h1 h2=> ?_) (List.pairwise_mergeSort tr to l) (hs.imp fun h=>by simp only[decide_eq_true_eq];omega) ((eA0 l _).trans hp);simp only[decide_eq_true_eq]at h1 h2;omega
def aJ (n:Nat):Int:=(n:Int)
def Hg (ts:List RT):List Int:=(if Ej ts then [0]else [])++(Fv 0 ts).map aJ
theorem DB_ (ts:List RT) (qW:∀t∈ts,Ew t=true):((sD 0 ts).map aJ++(if Ej ts then [0]else [])).mergeSort (fun x y=>decide (x<=y))=Hg ts:=by
 refine Ch_ ?_ ?_
 ·unfold Hg;exact List.perm_append_comm.trans (List.Perm.append_left _ ((Yh ts 0 qW).map aJ))
 ·obtain⟨h1,h2⟩:=VE ts 0
  have hm:((Fv 0 ts).map aJ).Pairwise (· < ·):=by
   rw[cX0];exact h1.imp fun h=>by unfold aJ;omega
  unfold Hg
  split
  ·refine cK0.2 ⟨fun q hq=> ?_,hm⟩;obtain⟨p,hp,rfl⟩:=aT0.1 hq;have:=h2 p hp;unfold aJ;omega
  ·exact hm
end Go.Proofs.Wy
end
section
namespace Go.Dm
variable [DMode]
open Go.Shelf Go.Proofs Go.RowKit
section
variable {P : Program} {B : Base} {s : DS} {a : Act} {w : World} {loc : Nat -> Loc}
theorem Rel.newTyped {id n k bs:Nat} {cs:List DVal} {us:List Value} {ty:TypeId} {dst:Option Nat} (R:Rel B s a w loc) (qH:Ce B s<=n) (vA:AL cs<=n) (qS:∀i,dst=some i->i<B.nt)
  (vE:Az (cu s loc) (hm s loc B.M0) w.heap cs us) (qC:∀u∈us,u.oneCell'=true) (hk:cs.length=k) (wT:bs<=150000000000000) :
  Rel B ⟨Bz s.slots dst (.rx id n k 0 0),upE s.own id n (.row ty k bs [cs])⟩ (a.put dst (.pointer (some ⟨w.heap.size,0,none⟩))) (w.alloc (.cells us.toArray ty)) (CQ loc id ⟨[w.heap.size],.slice (some ⟨w.heap.size,0,none⟩) 1 1⟩):=by
 have hw:=Upd.alloc' (Aa s.own loc) w (.cells us.toArray ty)
 have hL:∀b,b∈(⟨[w.heap.size],.slice (some ⟨w.heap.size,0,none⟩) 1 1⟩:Loc).blks->b<(w.alloc (.cells us.toArray ty)).heap.size/\((∃e∈s.own,e.id=id/\b∈(loc id).blks)\/w.heap.size<=b):=by
  intro b hb;simp only[aF0]at hb;subst hb;exact⟨by simp,.inr (Nat.le_refl _)⟩
 have W:=R.weakUp (obj:= .row ty k bs [cs]) qH hw hL (.inl (Nat.le_refl _));have pW:=Aw _ _ vE;refine R.up qH qS hw (fun b hb _=>by simp only[World.alloc,bS0];rw[if_neg (by omega)]) hL (.inl (Nat.le_refl _)) ?_ ?_
 ·refine⟨by simpa using wT,.inr ⟨w.heap.size,us.toArray,1,rfl,rfl,heap_alloc_new w _,by simp,by unfold maxLen;omega,by simp;omega,?_⟩⟩
  have:=UU (cur:=Ad (upE s.own id n (.row ty k bs [cs])) (CQ loc id ⟨[w.heap.size],.slice (some ⟨w.heap.size,0,none⟩) 1 1⟩)) (M:=Aa (upE s.own id n (.row ty k bs [cs])) (CQ loc id ⟨[w.heap.size],.slice (some ⟨w.heap.size,0,none⟩) 1 1⟩)++B.M0) (H:=(w.alloc (.cells us.toArray ty)).heap) k [cs] [us] [] rfl (by
   intro i c u hc hu
   cases i with
   | zero =>
    simp only[bE0,aA0]at hc hu;subst hc;subst hu;exact⟨hk,AY W cs us vA vE,qC⟩
   | succ i=>simp at hc)
  simpa using this
 ·simp only[rd];intro l hl;rw[Dv]at hl;simp only[aA0]at hl;subst hl;exact⟨_,rfl,by simp⟩
theorem Om {id i k bs:Nat} {t ty:TypeId} {GL:String} {z:List DVal} {Q:Exit->DS->Prop} (hi:i<B.nt) (hz:tZero P t=some z) (hp:z.all (Fo [])=true) (hk:z.length=k) (wT:bs<=150000000000000)
  (h:∀r,Ce B s<=r->Q .normal ⟨Bz s.slots (some i) (.rx i r k 0 0),upE s.own i r (.row t k bs [z])⟩):DW P B (.region id #[⟨some i,.alloc t,ty,GL, #[],none⟩] false) Q s:=by
 intro a w loc R;refine wpIn_region ?_;rw[List.range_eq_range']
 show wpOpsIn _ _ _ _ _ [0] _ _
 simp only[wpOpsIn];have hw:Region.wanted (⟨some i,.alloc t,ty,GL, #[],none⟩:Oper) (yielded #[⟨some i,.alloc t,ty,GL, #[],none⟩] a.tmps)=true:=by simp[Region.wanted]
 simp only[dJ0,bE0];rw[if_pos hw];obtain⟨zv,yM,rfl⟩:=Gh (w:=w) hz;have vE:Az (cu s loc) (hm s loc B.M0) w.heap (zv.cells.toList.map Ca) zv.cells.toList:=Bu _
 have vA:AL (zv.cells.toList.map Ca)=0:=by
  have h1:∀v,mx (Ca v)=0:=by
   intro v;unfold Ca
   split<;>(try split)<;>simp[mx]
  generalize zv.cells.toList=l
  induction l with
  | nil=>simp[AL]
  | cons v l ih=>simp only[List.map_cons,AL,h1,ih];rfl
 have qC:=Gp R.st (zv.cells.toList.map Ca) zv.cells.toList (bC0.2 fun d hd=>QF (bC0.1 hp d hd)) vE;have R':=R.newTyped (id:=i) (n:=Ce B s) (k:=k) (bs:=bs) (ty:=t) (dst:=some i) (Nat.le_refl _) (by omega) (fun j hj=>by simp only[aA0]at hj;omega) vE qC hk wT
 have qB:(execOp a.eval ⟨some i,.alloc t,ty,GL, #[],none⟩).run P w= .ok (.value (.pointer (some ⟨w.heap.size,0,none⟩))) (w.alloc (.cells zv.cells.toList.toArray t)):=by
  simp[execOp,Instr.alloc,yM,newVar,newRow]
 exact ES (fun c hc=>by cases hc) qB ⟨_,_,h _ (Nat.le_refl _),R'⟩
end
section
variable {P : Program} {ρ : Ren}
theorem TI {T n:Nat} (hd:P.depth≠0) (hs:P.cellsOf T≠0) (hn:1<=n):liesAt P P.depth T n 0 T 1=true:=by
 obtain⟨d,hd⟩:∃d,P.depth=d+1:=⟨P.depth-1,by omega⟩;have h1:sameLayout P (d+1) T T=true:=by simp[sameLayout]
 rw[hd];unfold liesAt;rw[hd];unfold rowAt;simp[hs,hn,h1]
theorem aP (w:World) (g n:Nat):Upd [g] w (w.drew.freeze ⟨g,0,none⟩ n):=by
 unfold World.freeze
 split
 ·exact Upd.drew _ w
 ·refine⟨rfl,rfl,rfl,fun _=>Nat.le_succ _,by simp,fun b hb qF=> ?_⟩;simp only[aF0]at qF;simp only[cG0];rw[if_neg (fun h=>qF h.symm)];rfl
set_option maxRecDepth 100000 in
theorem GF (L:Lays.n169 P ρ) (X:Builder.Extra P ρ) (b g cap:Nat) (p:Value) (cs cur:Array Value) (l:List UInt8) (w:World) (h0:l≠[]) (hb:w.heap[b]? =some (.cells cs (ρ.t 72) (0,0))) (qI:cs[1]? =some (.slice (some ⟨g,0,none⟩) l.length cap))
  (hg:w.heap[g]? =some (.cells cur (ρ.t 5) (0,0))) (hnc:l.length<=cap) (nT:cap<=maxLen) (jQ:cur.size=cap) (htake:cur.toList.take l.length=Lib.byteCells l) :
  Calls P (ρ.f 169) #[.pointer (some ⟨b,0,none⟩)] w fun e w'=>e= .returned (.string ⟨l.toArray⟩)/\Upd [g] w w'/\w'=w.drew.freeze ⟨g,0,none⟩ l.length:=by
 have bK:l.length≠0:=by simpa using h0
 have c1:w.drew.cell? ⟨b,1,none⟩=some (.slice (some ⟨g,0,none⟩) l.length cap):=by
  have:w.drew.heap[b]? =some (.cells cs (ρ.t 72) (0,0)):=hb;rw[Lib.cell_of_heap this];exact qI
 have hSD:(Builtin.unsafeSliceData_ #[(ρ.t 37)] (ρ.t 127) #[.slice (some ⟨g,0,none⟩) l.length cap]).run P w.drew= .ok (.pointer (some ⟨g,0,none⟩)) w.drew :=
  Lib.run_unsafeSliceData_row _ _ _ _ _ _ (by omega)
 have hUS:(Builtin.unsafeString_ #[(ρ.t 127),(ρ.t 3)] (ρ.t 9) #[.pointer (some ⟨g,0,none⟩),.int .i64 l.length]).run P w.drew= .ok (.string ⟨l.toArray⟩) (w.drew.freeze ⟨g,0,none⟩ l.length):=by
  refine Lib.run_unsafeString_row w.drew (ρ.t 127) (ρ.t 3) (ρ.t 9) (ρ.t 5) L.t127 X.cellsByte g cur.size (by have hg':w.drew.heap[g]? =some (.cells cur (ρ.t 5) (0,0)):=hg;simp[World.shape?,hg']) l h0 (by omega) (by unfold maxLen at nT;omega) ?_;intro j x hx;have hg':w.drew.heap[g]? =some (.cells cur (ρ.t 5) (0,0)):=hg;have hadd:(⟨g,0,none⟩:Addr).add j=⟨g,j,none⟩:=by unfold Addr.add;split<;>simp_all
  rw[hadd,Lib.cell_of_heap hg'];have hj:j<l.length:=(aB0.1 hx).1;have h2:(Lib.byteCells l)[j]? =some (.int .u8 x.toNat):=by simp[Lib.byteCells,hx]
  rw[<-htake,bN0 hj]at h2;simpa using h2
 have mixed:=L.mixed;have t72:=L.t72;have a72:=L.a72;have z72:=L.z72;have v72:=L.v72;have u72:=run_underlying L.t72;have t70:=L.t70;have a70:=L.a70;have z70:=L.z70;have v70:=L.v70;have u70:=run_underlying L.t70;have t37:=L.t37;have a37:=L.a37;have z37:=L.z37;have v37:=L.v37;have u37:=run_underlying L.t37;have t127:=L.t127;have a127:=L.a127;have z127:=L.z127;have v127:=L.v127;have u127:=run_underlying L.t127
 have t3:=L.t3;have a3:=L.a3;have z3:=L.z3;have v3:=L.v3;have u3:=run_underlying L.t3;have t9:=L.t9;have a9:=L.a9;have z9:=L.z9;have v9:=L.v9;have u9:=run_underlying L.t9;have t5:=X.t5;have a5:=X.a5;have z5:=X.z5;have v5:=X.v5;have u5:=run_underlying X.t5
 go_enter L.f169,Body.n169_ntmps ρ
 go_wp2
 go_region_o
 all_goals (go_wp2;go_ret;exact⟨rfl,aP w g l.length,rfl⟩)
theorem Im {cur:ER} {M:List Nat} {H:Array Obj} {d0 d1:DVal} {arr:Array Value} (h:EL cur M H 2 [[d0,d1]] arr 0):∃v0 v1 rest,arr=(v0::v1::rest).toArray/\rd cur M H d0 v0/\rd cur M H d1 v1:=by
 obtain⟨rows,r1,r2,r3,r4⟩:=Fj 2 _ arr 0 h
 match rows,r1 with
 | [us],_ =>
  obtain⟨g1,g2,g3⟩:=r3 0 _ _ rfl rfl;simp only[Az]at g2;obtain⟨v0,r,rfl,h0,v1,r',rfl,h1,rfl⟩:=g2;have e0:=(r4 0 v0 (by simp)).1;have e1:=(r4 1 v1 (by simp)).1;obtain⟨l⟩:=arr
  match l,e0,e1 with
  | x::y::rest,e0,e1 =>
   simp at e0 e1;subst e0;subst e1;exact⟨x,y,rest,rfl,h0,h1⟩
theorem VV {cur:ER} {M:List Nat} {H:Array Obj} {d0 d1:DVal} {v0 v1:Value} {rest:List Value} (h0:rd cur M H d0 v0) (h1:rd cur M H d1 v1) (o0:v0.oneCell'=true) (o1:v1.oneCell'=true):EL cur M H 2 [[d0,d1]] (v0::v1::rest).toArray 0:=by
 have:=UU (cur:=cur) (M:=M) (H:=H) 2 [[d0,d1]] [[v0,v1]] rest rfl (by
  intro i c u hc hu
  cases i with
  | zero =>
   simp only[bE0,aA0]at hc hu;subst hc;subst hu;exact⟨rfl,⟨v0,_,rfl,h0,v1,_,rfl,h1,rfl⟩,by simp[o0,o1]⟩
  | succ i=>simp at hc)
 simpa using this
theorem Pd {g T:Nat} (hd:P.depth≠0) (hs:P.cellsOf T=2) (hE:Enters P g) (bs:Nat)
  (wU:∀(b n:Nat) (w:World),w.cell? ⟨b,0,none⟩=some (.pointer none)->w.shape? b=some (T,n)->0<n->liesAt P P.depth T (n/P.cellsOf T) 0 T 1=true->w.frozen? ⟨b,0,none⟩=false ->
   Calls P g #[.pointer (some ⟨b,0,none⟩)] w fun e w'=>e= .returned (.tuple #[])/\w'=w.setCell ⟨b,0,none⟩ (.pointer (some ⟨b,0,none⟩))) :
  Bn P (.func g) [.rx 0 0 2 0 0] [⟨0,0,.row T 2 bs [[.nilp,.nilsl]]⟩] (.tup []) [⟨0,0,.row T 2 bs [[.rx 0 0 2 0 0,.nilsl]]⟩]:=by
 refine⟨by simp,hE,fun M w loc vs S vX=> ?_⟩;have hk:=S.ok _ (aF0.2 rfl);obtain⟨wT,hk⟩:=hk
 rcases hk with ⟨h,_⟩ | ⟨b,arr,cap,h1,h2,h3,h4,h5,h6,h7⟩
 ·simp at h
 ·obtain⟨v0,v1,rest,rfl,g0,g1⟩:=Im h7;simp only[rd]at g0 g1;subst g0;subst g1;have qD:Ad [(⟨0,0,.row T 2 bs [[.nilp,.nilsl]]⟩:Ent)] loc 0 0=some (loc 0):=by simp[Ad,An]
  simp only[Az,rd]at vX;obtain⟨pv,r,vX,hp,rfl⟩:=vX;obtain⟨b',qM,rfl⟩:=hp _ qD;simp only at h1 h2;rw[h1]at qM;simp only[bH0,and_true]at qM;subst qM;have vT:vs= #[.pointer (some ⟨b,0,none⟩)]:=by apply Array.ext';simpa using vX
  subst vT;have qP:2<=(Array.size (Value.pointer none::Value.slice none 0 0::rest).toArray):=by simp
  refine⟨hE,(wU b (rest.length+2) w (by rw[Lib.cell_of_heap h3];rfl) (by simp[World.shape?,h3]) (by omega) (TI hd (by omega) (by rw[hs];omega)) (Lib.frozen_of_heap h3 0)).mono ?_⟩;rintro e w' ⟨rfl,rfl⟩;refine⟨_,rfl,loc,?_,?_,?_,?_,?_⟩
  ·have vC:=setCell_eq_setRow w b 0 _ _ _ (.pointer (some ⟨b,0,none⟩)) h3;rw[vC];refine⟨S.nd,S.bl,S.ap,fun q hq=>by have:=S.lt q hq;simpa using this,fun e he=> ?_⟩;simp only[aF0]at he;subst he;refine⟨wT,.inr ⟨b,_,cap,h1,h2,setRow_heap w b _ _ _ (0,0) h3,h4,h5,by simpa using h6,?_⟩⟩
   have:=VV (cur:=Ad [(⟨0,0,.row T 2 bs [[.rx 0 0 2 0 0,.nilsl]]⟩:Ent)] loc) (M:=Aa [(⟨0,0,.row T 2 bs [[.rx 0 0 2 0 0,.nilsl]]⟩:Ent)] loc++M) (H:=(w.setRow b ((Value.pointer none::Value.slice none 0 0::rest).toArray.setIfInBounds 0 (.pointer (some ⟨b,0,none⟩)))).heap)
    (d0:= .rx 0 0 2 0 0) (d1:= .nilsl) (v0:= .pointer (some ⟨b,0,none⟩)) (v1:= .slice none 0 0) (rest:=rest) (by
     simp only[rd];intro l hl;have jK:Ad [(⟨0,0,.row T 2 bs [[.rx 0 0 2 0 0,.nilsl]]⟩:Ent)] loc 0 0=some (loc 0):=by simp[Ad,An]
     rw[jK]at hl;simp only[aA0]at hl;subst hl
     exact⟨b,h1,by simp⟩) (by simp[rd]) rfl rfl
   simpa using this
  ·refine⟨rfl,rfl,rfl,fun _=>Nat.le_refl _,by simp[World.setCell],fun q hq qF=> ?_⟩
   have hqb:b≠q:=by
    intro h;subst h;exact qF (by simp[Aa,h1])
   simp[World.setCell,cG0,hqb]
  ·intro q hq;exact .inl hq
  ·intro e he _;simp only[aF0]at he;subst he;exact qD
  ·simp[rd,Az]
theorem Pc {g T:Nat} (hE:Enters P g) (bs:Nat) (q:DVal) (rest:List Ent) (hr:∀e∈rest,e.r=0)
  (wU:∀(b:Nat) (w:World),w.cell? ⟨b,0,none⟩=some (.pointer (some ⟨b,0,none⟩))->Calls P g #[.pointer (some ⟨b,0,none⟩)] w fun e w'=>e= .returned (.tuple #[])/\w'=w) :
  Bn P (.func g) [.rx 0 0 2 0 0] (⟨0,0,.row T 2 bs [[.rx 0 0 2 0 0,q]]⟩::rest) (.tup []) (⟨0,0,.row T 2 bs [[.rx 0 0 2 0 0,q]]⟩::rest):=by
 refine⟨fun e he=>by rcases aK0.1 he with rfl | he<;>simp_all,hE,fun M w loc vs S vX=> ?_⟩;have hk:=S.ok _ aI0;obtain⟨wT,hk⟩:=hk
 rcases hk with ⟨h,_⟩ | ⟨b,arr,cap,h1,h2,h3,h4,h5,h6,h7⟩
 ·simp at h
 ·obtain⟨v0,v1,rs,rfl,g0,g1⟩:=Im h7;simp only[rd]at g0;have qD:Ad ((⟨0,0,.row T 2 bs [[.rx 0 0 2 0 0,q]]⟩:Ent)::rest) loc 0 0=some (loc 0):=by simp[Ad,An]
  obtain⟨b0,qR,rfl⟩:=g0 _ qD;simp only[Az,rd]at vX;obtain⟨pv,r,vX,hp,rfl⟩:=vX;obtain⟨b',qM,rfl⟩:=hp _ qD;simp only at h1 h2;rw[h1]at qM qR;simp only[bH0,and_true]at qM qR;subst qM;subst qR;have vT:vs= #[.pointer (some ⟨b,0,none⟩)]:=by apply Array.ext';simpa using vX
  subst vT;refine⟨hE,(wU b w (by rw[Lib.cell_of_heap h3];rfl)).mono ?_⟩;rintro e w' ⟨rfl,rfl⟩;refine⟨_,rfl,loc,S,Upd.refl _ _,fun q hq=> .inl hq,fun e he _=>AK S.nd he,by simp[rd,Az]⟩
theorem KP (L:Lays.n169 P ρ) (X:Builder.Extra P ρ) (hE:Enters P (ρ.f 169)) (bs:Nat) (x:ByteArray) (hx:x.size≠0) :
  Bn P (.func (ρ.f 169)) [.rx 0 0 2 0 0] [⟨0,0,.row (ρ.t 72) 2 bs [[.rx 0 0 2 0 0,.osl 1 0]]⟩,⟨1,0,.row (ρ.t 5) 1 1 (AX x)⟩] (.str x) []:=by
 refine⟨by simp,hE,fun M w loc vs S vX=> ?_⟩;have hk:=S.ok _ aI0;have yX:=S.ok _ (aG0 _ aI0);obtain⟨wT,hk⟩:=hk;obtain⟨hbs2,yX⟩:=yX
 rcases hk with ⟨h,_⟩ | ⟨b,arr,cap,h1,h2,h3,h4,h5,h6,h7⟩
 ·simp at h
 rcases yX with ⟨h,_⟩ | ⟨g,cur,cap2,k1,k2,k3,k4,k5,k6,k7⟩
 ·have:=congrArg List.length h;rw[AZ]at this;exact absurd this hx
 ·obtain⟨v0,v1,rest,rfl,g0,g1⟩:=Im h7;simp only[rd]at g0 g1;have qD:Ad [(⟨0,0,.row (ρ.t 72) 2 bs [[.rx 0 0 2 0 0,.osl 1 0]]⟩:Ent),⟨1,0,.row (ρ.t 5) 1 1 (AX x)⟩] loc 0 0=some (loc 0):=by simp[Ad,An]
  have mV:Ad [(⟨0,0,.row (ρ.t 72) 2 bs [[.rx 0 0 2 0 0,.osl 1 0]]⟩:Ent),⟨1,0,.row (ρ.t 5) 1 1 (AX x)⟩] loc 1 0=some (loc 1):=by simp[Ad,An]
  have fR:=g1 _ mV;simp only at k1 k2;rw[k2,AZ]at fR;subst fR;simp only[Az,rd]at vX;obtain⟨pv,r,vX,hp,rfl⟩:=vX;obtain⟨b',qM,rfl⟩:=hp _ qD;simp only at h1 h2;rw[h1]at qM;simp only[bH0,and_true]at qM;subst qM;have vT:vs= #[.pointer (some ⟨b,0,none⟩)]:=by apply Array.ext';simpa using vX
  subst vT;have bM:x.data.toList.length=x.size:=rfl;obtain⟨rows,r1,r2,r3,r4⟩:=Fj 1 _ cur 0 k7
  have vP:rows.flatten=Lib.byteCells x.data.toList:=by
   have:∀(bl:List UInt8) (rows:List (List Value)),rows.length=bl.length->(∀(i:Nat) (cs:List DVal) (us:List Value),(bl.map fun b=>[DVal.int .u8 (b.toNat:Int)])[i]? =some cs->rows[i]? =some us->cs.length=1/\Az (Ad [(⟨0,0,.row (ρ.t 72) 2 bs [[.rx 0 0 2 0 0,.osl 1 0]]⟩:Ent),⟨1,0,.row (ρ.t 5) 1 1 (AX x)⟩] loc) (Aa [(⟨0,0,.row (ρ.t 72) 2 bs [[.rx 0 0 2 0 0,.osl 1 0]]⟩:Ent),⟨1,0,.row (ρ.t 5) 1 1 (AX x)⟩] loc++M) w.heap cs us/\∀u∈us,u.oneCell'=true)->rows.flatten=Lib.byteCells bl:=by
    intro bl
    induction bl with
    | nil=>intro rows hl _;rw[bM0 hl];rfl
    | cons y bl ih =>
     intro rows hl h
     match rows,hl with
     | us::rows,hl =>
      obtain⟨_,h1,_⟩:=h 0 _ _ rfl rfl;simp only[Az,rd]at h1;obtain⟨v,r,rfl,⟨rfl,_⟩,rfl⟩:=h1;have:=ih rows (by simpa using hl) fun i cs us hc hu=>h (i+1) cs us (by simpa using hc) (by simpa using hu)
      simp[this,Lib.byteCells]
   exact this x.data.toList rows (by rw[r1,AZ];rfl) r3
  rw[AZ]at k4 r2;have hcsz:cur.size=cap2:=by omega
  have ht:=HJ r2 r4 (by omega);rw[vP,Nat.mul_one]at ht;refine⟨hE,(GF L X b g cap2 v0 _ cur x.data.toList w (fun h=>hx (by rw[<-bM,h];rfl)) h3 rfl k3 k4 k5 hcsz ht).mono ?_⟩;rintro e w' ⟨rfl,hu,_⟩;refine⟨_,rfl,loc,⟨by simp,by simp[Aa],by simp[Aa],fun q hq=> ?_,by simp⟩,?_,by simp[Aa],by simp,?_⟩
  ·have:=S.lt q (aP0 _ (by simpa[Aa]using hq));exact cJ0 this hu.size
  ·refine⟨hu.os,hu.tape,hu.output,hu.drawn,hu.size,fun q hq qF=>hu.blk q hq fun hm=>qF ?_⟩;simp only[aF0]at hm;subst hm;simp[Aa,k1]
  ·simp only[rd];exact⟨trivial,by omega⟩
theorem Ke (L:Lays.n169 P ρ) (X:Builder.Extra P ρ) (hE:Enters P (ρ.f 169)) (bs:Nat) (x:ByteArray) (hx:x.size≠0) :
  Bn P (.func (ρ.f 169)) [.rx 0 0 2 0 0] [⟨0,0,.row (ρ.t 72) 2 bs [[.rx 0 0 2 0 0,.osl 1 0]]⟩,⟨1,0,.row (ρ.t 5) 1 1 (AX x)⟩] (.str x) [⟨0,0,.row (ρ.t 72) 2 bs [[.rx 0 0 2 0 0,.sl 1 1 (AX x)]]⟩]:=by
 refine⟨by simp,hE,fun M w loc vs S vX=> ?_⟩;have hk:=S.ok _ aI0;have yX:=S.ok _ (aG0 _ aI0);obtain⟨wT,hk⟩:=hk;obtain⟨hbs2,yX⟩:=yX
 rcases hk with ⟨h,_⟩ | ⟨b,arr,cap,h1,h2,h3,h4,h5,h6,h7⟩
 ·simp at h
 rcases yX with ⟨h,_⟩ | ⟨g,cur,cap2,k1,k2,k3,k4,k5,k6,k7⟩
 ·have:=congrArg List.length h;rw[AZ]at this;exact absurd this hx
 ·obtain⟨v0,v1,rest,rfl,g0,g1⟩:=Im h7;simp only[rd]at g0 g1;have qD:Ad [(⟨0,0,.row (ρ.t 72) 2 bs [[.rx 0 0 2 0 0,.osl 1 0]]⟩:Ent),⟨1,0,.row (ρ.t 5) 1 1 (AX x)⟩] loc 0 0=some (loc 0):=by simp[Ad,An]
  have mV:Ad [(⟨0,0,.row (ρ.t 72) 2 bs [[.rx 0 0 2 0 0,.osl 1 0]]⟩:Ent),⟨1,0,.row (ρ.t 5) 1 1 (AX x)⟩] loc 1 0=some (loc 1):=by simp[Ad,An]
  have fR:=g1 _ mV;simp only at k1 k2;rw[k2,AZ]at fR;subst fR;simp only[Az,rd]at vX;obtain⟨pv,r,vX,hp,rfl⟩:=vX;obtain⟨b',qM,rfl⟩:=hp _ qD;simp only at h1 h2;rw[h1]at qM;simp only[bH0,and_true]at qM;subst qM;have vT:vs= #[.pointer (some ⟨b,0,none⟩)]:=by apply Array.ext';simpa using vX
  subst vT;have bM:x.data.toList.length=x.size:=rfl;obtain⟨rows,r1,r2,r3,r4⟩:=Fj 1 _ cur 0 k7
  have vP:rows.flatten=Lib.byteCells x.data.toList:=by
   have:∀(bl:List UInt8) (rows:List (List Value)),rows.length=bl.length->(∀(i:Nat) (cs:List DVal) (us:List Value),(bl.map fun b=>[DVal.int .u8 (b.toNat:Int)])[i]? =some cs->rows[i]? =some us->cs.length=1/\Az (Ad [(⟨0,0,.row (ρ.t 72) 2 bs [[.rx 0 0 2 0 0,.osl 1 0]]⟩:Ent),⟨1,0,.row (ρ.t 5) 1 1 (AX x)⟩] loc) (Aa [(⟨0,0,.row (ρ.t 72) 2 bs [[.rx 0 0 2 0 0,.osl 1 0]]⟩:Ent),⟨1,0,.row (ρ.t 5) 1 1 (AX x)⟩] loc++M) w.heap cs us/\∀u∈us,u.oneCell'=true)->rows.flatten=Lib.byteCells bl:=by
    intro bl
    induction bl with
    | nil=>intro rows hl _;rw[bM0 hl];rfl
    | cons y bl ih =>
     intro rows hl h
     match rows,hl with
     | us::rows,hl =>
      obtain⟨_,h1,_⟩:=h 0 _ _ rfl rfl;simp only[Az,rd]at h1;obtain⟨v,r,rfl,⟨rfl,_⟩,rfl⟩:=h1;have:=ih rows (by simpa using hl) fun i cs us hc hu=>h (i+1) cs us (by simpa using hc) (by simpa using hu)
      simp[this,Lib.byteCells]
   exact this x.data.toList rows (by rw[r1,AZ];rfl) r3
  rw[AZ]at k4 r2;have hcsz:cur.size=cap2:=by omega
  have ht:=HJ r2 r4 (by omega);rw[vP,Nat.mul_one]at ht;refine⟨hE,(GF L X b g cap2 v0 _ cur x.data.toList w (fun h=>hx (by rw[<-bM,h];rfl)) h3 rfl k3 k4 k5 hcsz ht).mono ?_⟩;rintro e w' ⟨rfl,hu,hw⟩;have jF:=g0 _ qD;obtain⟨b2,qT,rfl⟩:=jF;rw[h1]at qT;simp only[bH0,and_true]at qT;subst qT;have jD:=S.bl;have hap:=S.ap;simp only[Aa,dD0,List.flatMap_nil,h1,k1,bO0,List.cons_append,List.nil_append,cP0,aF0]at jD
  have hbg:b≠g:=jD.1;have hbM:b∉M:=hap b (by simp[Aa,h1]);have hgM:g∉M:=hap g (by simp[Aa,k1]);have fA:=(aD0.1 h3).1;have hglt:=(aD0.1 k3).1;have hH:Aa [(⟨0,0,.row (ρ.t 72) 2 bs [[.rx 0 0 2 0 0,.sl 1 1 (AX x)]]⟩:Ent)] loc=[b]:=by simp[Aa,h1]
  have hhb:w'.heap[b]? =some (.cells (Value.pointer (some ⟨b,0*2+0,none⟩):: .slice (some ⟨g,0,none⟩) x.size cap2::rest).toArray (ρ.t 72) (0,0)):=by rw[hu.blk b fA (by simpa using hbg)];exact h3
  have hhg:∃fz,w'.heap[g]? =some (.cells cur (ρ.t 5) fz):=by
   rw[hw];unfold World.freeze;rw[if_neg (by rw[bM];exact hx)];have:w.drew.heap[g]? =some (.cells cur (ρ.t 5) (0,0)):=k3;simp only[cG0,if_true,this];exact⟨_,rfl⟩
  have W:Weak (Ad [(⟨0,0,.row (ρ.t 72) 2 bs [[.rx 0 0 2 0 0,.osl 1 0]]⟩:Ent),⟨1,0,.row (ρ.t 5) 1 1 (AX x)⟩] loc) (Ad [(⟨0,0,.row (ρ.t 72) 2 bs [[.rx 0 0 2 0 0,.sl 1 1 (AX x)]]⟩:Ent)] loc) (Aa [(⟨0,0,.row (ρ.t 72) 2 bs [[.rx 0 0 2 0 0,.osl 1 0]]⟩:Ent),⟨1,0,.row (ρ.t 5) 1 1 (AX x)⟩] loc++M) ([b]++M) w.heap w'.heap 0:=by
   refine⟨fun id r l hr _=>absurd hr (eM0 _),fun q o hq _ ho=> ?_,fun q o hq _ _ hm=>hq ?_⟩
   ·rw[hu.blk q (aD0.1 ho).1 (fun hm=>hq ?_)]
    ·exact ho
    ·simp only[aF0]at hm;subst hm;simp[Aa,k1]
   ·rcases aH0.1 hm with hm | hm
    ·simp only[aF0]at hm;subst hm;simp[Aa,h1]
    ·exact aP0 _ hm
  refine⟨_,rfl,loc,⟨by simp,by rw[hH];simp,fun q hq=> ?_,fun q hq=> ?_,?_⟩,?_,fun q hq=> ?_,?_,?_⟩
  ·rw[hH]at hq;simp only[aF0]at hq;subst hq;exact hbM
  ·rw[hH]at hq;refine cJ0 (S.lt q ?_) hu.size
   rcases aH0.1 hq with hq | hq
   ·simp only[aF0]at hq;subst hq;simp[Aa,h1]
   ·exact aP0 _ hq
  ·intro e he;simp only[aF0]at he;subst he;rw[hH];refine⟨by simpa using wT,.inr ⟨b,_,cap,h1,by simpa using h2,hhb,by simpa using h4,h5,h6,VV ?_ ?_ rfl rfl⟩⟩
   ·simp only[rd];intro l hl;have:Ad [(⟨0,0,.row (ρ.t 72) 2 bs [[.rx 0 0 2 0 0,.sl 1 1 (AX x)]]⟩:Ent)] loc 0 0=some (loc 0):=by simp[Ad,An]
    rw[this]at hl;simp only[aA0]at hl;subst hl;exact⟨b,h1,rfl⟩
   ·simp only[rd];obtain⟨fz,hfz⟩:=hhg;rw[AZ]
    exact⟨_,_,rfl,by simpa[AZ]using k4,k5,by simpa[AZ]using hbs2,.inr ⟨g,0,cur,_,fz,rfl,fun hm=>by
     rcases aH0.1 hm with hm | hm
     ·simp only[aF0]at hm;exact hbg hm.symm
     ·exact hgM hm,hfz,Cv W 1 _ cur 0 (by rw[Ga];exact Nat.le_refl _) k7⟩⟩
  ·refine⟨hu.os,hu.tape,hu.output,hu.drawn,hu.size,fun q hq qF=>hu.blk q hq fun hm=>qF ?_⟩;simp only[aF0]at hm;subst hm;simp[Aa,k1]
  ·rw[hH]at hq;simp only[aF0]at hq;subst hq;exact .inl (by simp[Aa,h1])
  ·intro e he _;simp only[aF0]at he;subst he;exact qD
  ·simp only[rd];exact⟨trivial,by omega⟩
end
end Go.Dm
end
