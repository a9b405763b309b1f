/- Parts of a proof, laid together: BO0, EnBl. -/
import Derived.Shelf.Strings.BuilderF
import Derived.Test.YtbpmiknobocjoaaGreatqAp17
import Derived.Test.YtbpmiknobocjoaaGreatqAp22
import Derived.Test.YtbpmiknobocjoaaGreatqAp24
set_option linter.unusedSimpArgs false
set_option maxHeartbeats 8000000
set_option linter.unusedVariables false
set_option linter.unusedSectionVars false
section
namespace Go.Proofs.Wy
open Go Go.Dm Tryz
variable [DMode]
theorem BF {x:Nd}:BV x=true↔x.k=2\/x.k=3:=by unfold BV;simp
def IR (l:List Nd) (p:Nat):Nat:=((l.take p).filter BV).length
def Cq (l:List Nd):List Nd:=l.filter BV
theorem QF (l:List Nd):IR l 0=0:=by simp[IR]
theorem Hi (l:List Nd):IR l l.length=(Cq l).length:=by simp[IR,Cq]
theorem QG {l:List Nd} {p:Nat} {x:Nd} (h:l[p]? =some x):IR l (p+1)=IR l p+(if BV x=true then 1 else 0):=by
 unfold IR;rw[bM0,h,dI0];cases hx:BV x<;>simp[hx]
theorem QH (l:List Nd) {p q:Nat} (h:p<=q):IR l p<=IR l q:=by
 unfold IR;obtain⟨d,rfl⟩:∃d,q=p+d:=⟨q-p,by omega⟩;rw[List.take_add,dI0,aD0];omega
theorem eO {l:List Nd} {p q:Nat} {x:Nd} (h:l[p]? =some x) (hx:BV x=true) (hq:p<q):IR l p<IR l q:=by
 have h1:=QG h;rw[if_pos hx]at h1;have:=QH l (show p+1<=q from hq);omega
theorem Hc_ {l:List Nd} {p:Nat} {x:Nd} (h:l[p]? =some x) (hx:BV x=true):(Cq l)[IR l p]? =some x:=by
 obtain⟨hp,rfl⟩:=aB0.1 h;unfold Cq IR
 have h1:l.filter BV=(l.take p).filter BV++(l[p]::(l.drop (p+1)).filter BV):=by
  have h2:l=l.take p++l[p]::l.drop (p+1):=by rw[<-aR0 hp,List.take_append_drop]
  have h3:=congrArg (List.filter BV) h2;rw[dI0,List.filter_cons,if_pos hx]at h3;exact h3
 rw[h1,bE0 (Nat.le_refl _),eF0];rfl
theorem TO {l:List Nd}:∀{n:Nat},n<=l.length->(Cv l n).length=IR l n
 | 0,_=>by simp[Cv,IR]
 | n+1,h=>by
  have hn:l[n]? =some (l[n]'(by omega)):=aI0 (by omega);rw[LX hn,QG hn,aD0,TO (by omega)];cases BV l[n]<;>simp
theorem MM (l:List Nd):HC l=(Cq l).length:=by unfold HC;rw[TO (Nat.le_refl _),Hi]
def DI_ (l:List Nd) (i:Nat):Bool:=match l[i]? with | some x=>BV x | none=>false
def Gi (l:List Nd) (n:Nat):List Nat:=(List.range n).filter (DI_ l)
theorem CM_ (l:List Nd):Gi l 0=[]:=rfl
theorem QU {l:List Nd} {n:Nat} {x:Nd} (h:l[n]? =some x):Gi l (n+1)=Gi l n++(if BV x=true then [n]else []):=by
 unfold Gi;rw[List.range_succ,dI0];have:DI_ l n=BV x:=by unfold DI_;rw[h]
 cases hx:BV x<;>simp[this,hx]
theorem DH_ {l:List Nd} {i:Nat}:DI_ l i=true↔∃x,l[i]? =some x/\BV x=true:=by
 unfold DI_;cases l[i]? <;>simp
theorem IX {l:List Nd} {i:Nat}:i∈Gi l l.length↔∃x,l[i]? =some x/\BV x=true:=by
 unfold Gi;rw[cG0,bZ0,DH_];exact⟨fun h=>h.2,fun h=>⟨(aB0.1 h.choose_spec.1).1,h⟩⟩
theorem KO {l:List Nd}:∀{n:Nat},n<=l.length->(Gi l n).length=IR l n
 | 0,_=>by simp[Gi,IR]
 | n+1,h=>by
  have hn:l[n]? =some (l[n]'(by omega)):=aI0 (by omega);rw[QU hn,QG hn,aD0,KO (by omega)];cases BV l[n]<;>simp
theorem QV {l:List Nd}:∀{n j p:Nat},n<=l.length->(Gi l n)[j]? =some p->IR l p=j
 | 0,j,p,_,h=>by simp[Gi]at h
 | n+1,j,p,hn,h=>by
  have hx:l[n]? =some (l[n]'(by omega)):=aI0 (by omega);rw[QU hx]at h;have hl:=KO (l:=l) (n:=n) (by omega)
  by_cases hj:j<(Gi l n).length
  ·rw[bC0 hj]at h;exact QV (by omega) h
  ·rw[bE0 (by omega)]at h
   split at h
   ·have:j-(Gi l n).length=0:=by
     rcases eM0 (j-(Gi l n).length)with h0 | h0
     ·exact h0
     ·rw[eG0 (by simp;omega)]at h;simp at h
    rw[this]at h;simp at h;subst h;omega
   ·simp at h
theorem CN_ (l:List Nd) (n:Nat):(Gi l n).Pairwise (· < ·):=(List.pairwise_lt_range).filter _
def Fi (l:List Nd) (ah p:Nat):Nat:=ah+IR l p+1
def VB (l:List Nd) (ah:Nat) (p:Nat×Nat):Nat×Nat:=(Fi l ah p.1,Fi l ah p.2)
def nd (l:List Nd) (p:Nat):Nd:=l.getD p ⟨0,⟨#[]⟩,0⟩
theorem rV {l:List Nd} {p:Nat} {x:Nd} (h:l[p]? =some x):nd l p=x:=by unfold nd;rw[bK0,h];rfl
def WT : Nat->List RT->List (Nat×Nat)
 | _,[]=>[]
 | ah,t::ts=>(Zq t 0).map (VB (Ad t) ah)++WT (ah+(Cq (Ad t)).length) ts
def We : Nat->List RT->List Nat
 | _,[]=>[]
 | ah,t::ts=>(SL t 0).map (Fi (Ad t) ah)++We (ah+(Cq (Ad t)).length) ts
def sI : Nat->List RT->List Nat
 | _,[]=>[]
 | ah,t::ts=>(NO t 0).map (Fi (Ad t) ah)++sI (ah+(Cq (Ad t)).length) ts
def BY (ts:List RT):List Nd:=ts.flatMap fun t=>Cq (Ad t)
def NN (sy:Nd->Sym) (ts:List RT):List Sym:=(BY ts).map sy
theorem Rk (ts:List RT) (t:RT):BY (ts++[t])=BY ts++Cq (Ad t):=by simp[BY]
theorem XI (t:RT):∀(ts:List RT) (ah:Nat),WT ah (ts++[t])=WT ah ts++(Zq t 0).map (VB (Ad t) (ah+(BY ts).length))
 | [],ah=>by simp[WT,BY]
 | u::ts,ah=>by
  rw[List.cons_append,WT,WT,XI t ts,aS0,cS0];simp[BY]
theorem YQ (t:RT):∀(ts:List RT) (ah:Nat),We ah (ts++[t])=We ah ts++(SL t 0).map (Fi (Ad t) (ah+(BY ts).length))
 | [],ah=>by simp[We,BY]
 | u::ts,ah=>by
  rw[List.cons_append,We,We,YQ t ts,aS0,cS0];simp[BY]
theorem Yt (t:RT):∀(ts:List RT) (ah:Nat),sI ah (ts++[t])=sI ah ts++(NO t 0).map (Fi (Ad t) (ah+(BY ts).length))
 | [],ah=>by simp[sI,BY]
 | u::ts,ah=>by
  rw[List.cons_append,sI,sI,Yt t ts,aS0,cS0];simp[BY]
def PD (S:List Sym) (p:Nat×Nat):Arc:=⟨(p.1:Int),S.getD (p.2-1) ⟨false,0⟩,(p.2:Int)⟩
def FV (sy:Nd->Sym) (ts:List RT):List Arc:=(WT 0 ts++(We 0 ts).map fun q=>(0,q)).map (PD (NN sy ts))
def LN (sy:Nd->Sym) (ah:Nat) (t:RT) (q:Nat):List Arc :=
 (if Sv t 0 q then [⟨0,sy (nd (Ad t) q),(Fi (Ad t) ah q:Int)⟩]else []) ++
  (Gi (Ad t) (Ad t).length).flatMap fun p=>if Qd t 0 p q then [⟨(Fi (Ad t) ah p:Int),sy (nd (Ad t) q),(Fi (Ad t) ah q:Int)⟩]else []
def FJ (sy:Nd->Sym):Nat->List RT->List Arc
 | _,[]=>[]
 | ah,t::ts=>(Gi (Ad t) (Ad t).length).flatMap (LN sy ah t)++FJ sy (ah+(Cq (Ad t)).length) ts
theorem Sy (sy:Nd->Sym) (t:RT):∀(ts:List RT) (ah:Nat),FJ sy ah (ts++[t])=FJ sy ah ts++(Gi (Ad t) (Ad t).length).flatMap (LN sy (ah+(BY ts).length) t)
 | [],ah=>by simp[FJ,BY]
 | u::ts,ah=>by
  rw[List.cons_append,FJ,FJ,Sy sy t ts,aS0,cS0];simp[BY]
theorem OU {l:List Nd} {q:Nat} (h:∃x,l[q]? =some x/\BV x=true):Lf l 0 q:=fun y _ hy=>by
 obtain⟨x,hx,hk⟩:=h;rw[eE0,hx]at hy;simp only[aA0]at hy;subst hy;exact BF.1 hk
theorem Yi (sy:Nd->Sym) (S:List Sym) (z:Arc):∀(ts:List RT) (ah:Nat),(∀t∈ts,ED t=true)->S.drop ah=NN sy ts ->
  (z∈(WT ah ts++(We ah ts).map fun q=>(0,q)).map (PD S)↔z∈FJ sy ah ts)
 | [],ah,_,_=>by simp[WT,We,FJ]
 | t::ts,ah,qG,hS=>by
  have hS1:NN sy (t::ts)=(Cq (Ad t)).map sy++NN sy ts:=by simp[NN,BY]
  rw[hS1]at hS
  have hS2:S.drop (ah+(Cq (Ad t)).length)=NN sy ts:=by
   rw[<-eQ0,hS,dQ0 (by simp)];rw[show (Cq (Ad t)).length=((Cq (Ad t)).map sy).length by simp,bU0,List.nil_append]
  have ih:=Yi sy S z ts (ah+(Cq (Ad t)).length) (fun u hu=>qG u (aF0 _ hu)) hS2;obtain⟨l,hl⟩:∃l,l=Ad t:=⟨_,rfl⟩
  have look:∀{q:Nat} {x:Nd},l[q]? =some x->BV x=true->S.getD (Fi l ah q-1) ⟨false,0⟩=sy x:=by
   intro q x hx hk;have h1:=Hc_ hx hk
   have h2:(S.drop ah)[IR l q]? =some (sy x):=by
    have qV:=(aB0.1 h1).1;rw[hS,<-hl,bC0 (by simpa using qV),bH0,h1];rfl
   rw[cQ0]at h2;unfold Fi;rw[bK0,Nat.add_sub_cancel,h2];rfl
  have jL:=qG t aH0;rw[<-hl]at ih;rw[WT,We,FJ,<-hl];simp only[bD0,aG0]at ih |-
  have here:(z∈((Zq t 0).map (VB l ah)).map (PD S)\/z∈(((SL t 0).map (Fi l ah)).map fun q=>(0,q)).map (PD S))↔z∈(Gi l l.length).flatMap (LN sy ah t):=by
   simp only[bP0,IX]
   constructor
   ·rintro (h | h)
    ·simp only[aT0]at h;obtain⟨_,⟨⟨p,q⟩,cQ,rfl⟩,rfl⟩:=h;obtain⟨⟨x,hx,fP⟩,⟨y,hy,fM⟩⟩:=Nu t 0 p q cQ;rw[eE0,<-hl]at hx hy;refine⟨q,⟨y,hy,BF.2 fM⟩,?_⟩;unfold LN;rw[aG0,bP0,<-hl]
     right
     refine⟨p,IX.2 ⟨x,hx,BF.2 fP⟩,?_⟩;rw[if_pos ((lG t 0 p q jL (hl▸OU ⟨x,hx,BF.2 fP⟩) (hl▸OU ⟨y,hy,BF.2 fM⟩)).1 cQ)];simp only[PD,VB,look hy (BF.2 fM),rV hy,aE0]
    ·simp only[aT0]at h;obtain⟨_,⟨_,⟨q,hq,rfl⟩,rfl⟩,rfl⟩:=h;obtain⟨y,hy,fM⟩:=Na t 0 q hq;rw[eE0,<-hl]at hy;refine⟨q,⟨y,hy,BF.2 fM⟩,?_⟩;unfold LN;rw[aG0,<-hl]
     left
     rw[if_pos ((Su t 0 q jL (hl▸OU ⟨y,hy,BF.2 fM⟩)).1 hq)];simp only[PD,look hy (BF.2 fM),rV hy,aE0];rfl
   ·rintro⟨q,⟨y,hy,fM⟩,h⟩;unfold LN at h;rw[aG0,bP0,<-hl,rV hy]at h
    rcases h with h | ⟨p,hp,h⟩
    ·split at h
     ·rename_i hb
      right
      simp only[aT0];refine⟨_,⟨_,⟨q,(Su t 0 q jL (hl▸OU ⟨y,hy,fM⟩)).2 hb,rfl⟩,rfl⟩,?_⟩;simp only[aE0]at h;rw[h];simp only[PD,look hy fM];rfl
     ·simp at h
    ·split at h
     ·rename_i hb
      left
      obtain⟨x,hx,fP⟩:=IX.1 hp;simp only[aT0];refine⟨_,⟨(p,q),(lG t 0 p q jL (hl▸OU ⟨x,hx,fP⟩) (hl▸OU ⟨y,hy,fM⟩)).2 hb,rfl⟩,?_⟩;simp only[aE0]at h;rw[h];simp only[PD,VB,look hy fM]
     ·simp at h
  rw[<-here,<-ih]
  constructor
  ·rintro ((h | h) | h | h)
   ·exact .inl (.inl h)
   ·exact .inr (.inl h)
   ·exact .inl (.inr h)
   ·exact .inr (.inr h)
  ·rintro ((h | h) | h | h)
   ·exact .inl (.inl h)
   ·exact .inr (.inl h)
   ·exact .inl (.inr h)
   ·exact .inr (.inr h)
theorem IA (x y:Arc):CW x y=AY_ HL (AY_ NQ HL) (x.fr,x.sy,x.to) (y.fr,y.sy,y.to):=rfl
theorem Di : OrdC CW:=by
 have h:=iF Fl_ (iF GL_ Fl_);refine⟨fun x y=> ?_,fun x y=> ?_,fun x y z=> ?_⟩
 ·rw[IA,h.eq0];cases x;cases y;simp only[_root_.Prod.mk.injEq,Arc.mk.injEq]
 ·rw[IA,IA];exact h.anti _ _
 ·rw[IA,IA,IA];exact h.trans _ _ _
theorem EF_ (sy:Nd->Sym) (ts:List RT) (qG:∀t∈ts,ED t=true):Cy (fun x y=>CW x y==0) (JL CW (FV sy ts))=(FJ sy 0 ts).foldl (DM CW) []:=by
 rw[DP_ Di];obtain⟨h1,h2⟩:=EM Di (DG Di (FV sy ts));obtain⟨h3,h4⟩:=EM Di (DG Di (FJ sy 0 ts));refine NR Di h1 h3 fun z=> ?_
 rw[h2,h4,(Fc _ _).mem_iff,(Fc _ _).mem_iff];exact Yi sy (NN sy ts) z ts 0 qG (by simp)
def FG : Nat->List RT->List Nat
 | _,[]=>[]
 | ah,t::ts=>((Gi (Ad t) (Ad t).length).filter (Nc t 0)).map (Fi (Ad t) ah)++FG (ah+(Cq (Ad t)).length) ts
theorem Up (t:RT):∀(ts:List RT) (ah:Nat),FG ah (ts++[t])=FG ah ts++((Gi (Ad t) (Ad t).length).filter (Nc t 0)).map (Fi (Ad t) (ah+(BY ts).length))
 | [],ah=>by simp[FG,BY]
 | u::ts,ah=>by
  rw[List.cons_append,FG,FG,Up t ts,aS0,cS0];simp[BY]
theorem YK : ∀(ts:List RT) (ah:Nat),(∀t∈ts,ED t=true)->(sI ah ts).Perm (FG ah ts)
 | [],ah,_=>by simp[sI,FG]
 | t::ts,ah,qG=>by
  rw[sI,FG];refine List.Perm.append (List.Perm.map _ ?_) (YK ts _ fun u hu=>qG u (aF0 _ hu));refine(List.perm_ext_iff_of_nodup (Ys t 0) (((CN_ _ _).imp fun h=>Nat.ne_of_lt h).filter _)).2 fun q=> ?_
  have jL:=qG t aH0;rw[cG0,IX]
  constructor
  ·intro h;obtain⟨y,hy,fM⟩:=Rp t 0 q h;rw[eE0]at hy;have hq:=(⟨y,hy,BF.2 fM⟩:∃x,(Ad t)[q]? =some x/\BV x=true);exact⟨hq,(RU t 0 q jL (OU hq)).1 h⟩
  ·rintro⟨hq,h⟩;exact(RU t 0 q jL (OU hq)).2 h
theorem GT_ {l:List Nd} {ah p q:Nat} (hp:p∈Gi l l.length) (h:p<q):Fi l ah p<Fi l ah q:=by
 obtain⟨x,hx,hk⟩:=IX.1 hp;have:=eO hx hk h;unfold Fi;omega
theorem Wa : ∀(ts:List RT) (ah:Nat),(FG ah ts).Pairwise (· < ·)/\∀q∈FG ah ts,ah<q/\q<=ah+(BY ts).length
 | [],ah=>by simp[FG]
 | t::ts,ah=>by
  obtain⟨h1,h2⟩:=Wa ts (ah+(Cq (Ad t)).length)
  have hb:∀q∈((Gi (Ad t) (Ad t).length).filter (Nc t 0)).map (Fi (Ad t) ah),ah<q/\q<=ah+(Cq (Ad t)).length:=by
   intro q hq;obtain⟨p,hp,rfl⟩:=aT0.1 hq;obtain⟨x,hx,hk⟩:=IX.1 (cG0.1 hp).1;have h3:=eO hx hk (aB0.1 hx).1;rw[Hi]at h3;unfold Fi;omega
  have hl:(BY (t::ts)).length=(Cq (Ad t)).length+(BY ts).length:=by simp[BY]
  rw[FG];refine⟨List.pairwise_append.2 ⟨?_,h1,?_⟩,?_⟩
  ·rw[dK0];refine List.Pairwise.imp_of_mem ?_ ((CN_ _ _).filter _);intro a b ha _ hab;exact GT_ (cG0.1 ha).1 hab
  ·intro a ha b qM;have:=hb a ha;have:=h2 b qM;omega
  ·intro q hq
   rcases aG0.1 hq with hq | hq
   ·have:=hb q hq;omega
   ·have:=h2 q hq;omega
theorem Cx_ {l l':List Int} (hp:l.Perm l') (hs:l'.Pairwise (· < ·)):l.mergeSort (fun x y=>decide (x<=y))=l':=by
 have tr:∀a b c:Int,decide (a<=b)=true->decide (b<=c)=true->decide (a<=c)=true:=fun a b c h1 h2=>by simp only[decide_eq_true_eq]at *;omega
 have to:∀a b:Int,(decide (a<=b)||decide (b<=a))=true:=fun a b=>by simp only[dB0,decide_eq_true_eq];omega
 refine List.Perm.eq_of_pairwise (le:=fun a b=>decide (a<=b)=true) (fun a b _ _ h1 h2=> ?_) (List.pairwise_mergeSort tr to l) (hs.imp fun h=>by simp only[decide_eq_true_eq];omega) ((dW0 l _).trans hp);simp only[decide_eq_true_eq]at h1 h2;omega
def aM (n:Nat):Int:=(n:Int)
def Hp (ts:List RT):List Int:=(if Ep ts then [0]else [])++(FG 0 ts).map aM
theorem DV_ (ts:List RT) (qG:∀t∈ts,ED t=true):((sI 0 ts).map aM++(if Ep ts then [0]else [])).mergeSort (fun x y=>decide (x<=y))=Hp ts:=by
 refine Cx_ ?_ ?_
 ·unfold Hp;exact List.perm_append_comm.trans (List.Perm.append_left _ ((YK ts 0 qG).map aM))
 ·obtain⟨h1,h2⟩:=Wa ts 0
  have hm:((FG 0 ts).map aM).Pairwise (· < ·):=by
   rw[dK0];exact h1.imp fun h=>by unfold aM;omega
  unfold Hp
  split
  ·refine cH0.2 ⟨fun q hq=> ?_,hm⟩;obtain⟨p,hp,rfl⟩:=aT0.1 hq;have:=h2 p hp;unfold aM;omega
  ·exact hm
end Go.Proofs.Wy
end
section
namespace Go.Dm
variable [DMode]
open Go.Shelf Go.Proofs Go.RowKit
section
variable {P : Program} {B : Base} {s : DS} {a : Act} {w : World} {loc : Nat -> Loc}
theorem Rel.newTyped {id n k bs:Nat} {cs:List DVal} {us:List Value} {ty:TypeId} {dst:Option Nat} (R:Rel B s a w loc) (qP:Cd B s<=n) (vG:AJ cs<=n) (qT:∀i,dst=some i->i<B.nt)
  (vV:rdV (cu s loc) (hm s loc B.M0) w.heap cs us) (qS:∀u∈us,u.oneCell'=true) (hk:cs.length=k) (wI:bs<=150000000000000) :
  Rel B ⟨putS s.slots dst (.rx id n k 0 0),upE s.own id n (.row ty k bs [cs])⟩ (a.put dst (.pointer (some ⟨w.heap.size,0,none⟩))) (w.alloc (.cells us.toArray ty)) (CS loc id ⟨[w.heap.size],.slice (some ⟨w.heap.size,0,none⟩) 1 1⟩):=by
 have hw:=Upd.alloc' (Aa s.own loc) w (.cells us.toArray ty)
 have hL:∀b,b∈(⟨[w.heap.size],.slice (some ⟨w.heap.size,0,none⟩) 1 1⟩:Loc).blks->b<(w.alloc (.cells us.toArray ty)).heap.size/\((∃e∈s.own,e.id=id/\b∈(loc id).blks)\/w.heap.size<=b):=by
  intro b hb;simp only[aE0]at hb;subst hb;exact⟨by simp,.inr (Nat.le_refl _)⟩
 have W:=R.weakUp (obj:= .row ty k bs [cs]) qP hw hL (.inl (Nat.le_refl _));have pX:=AA _ _ vV;refine R.up qP qT hw (fun b hb _=>by simp only[World.alloc,bS0];rw[if_neg (by omega)]) hL (.inl (Nat.le_refl _)) ?_ ?_
 ·refine⟨by simpa using wI,.inr ⟨w.heap.size,us.toArray,1,rfl,rfl,heap_alloc_new w _,by simp,by unfold maxLen;omega,by simp;omega,?_⟩⟩
  have:=Vk (cur:=Ac (upE s.own id n (.row ty k bs [cs])) (CS loc id ⟨[w.heap.size],.slice (some ⟨w.heap.size,0,none⟩) 1 1⟩)) (M:=Aa (upE s.own id n (.row ty k bs [cs])) (CS loc id ⟨[w.heap.size],.slice (some ⟨w.heap.size,0,none⟩) 1 1⟩)++B.M0) (H:=(w.alloc (.cells us.toArray ty)).heap) k [cs] [us] [] rfl (by
   intro i c u hc hu
   cases i with
   | zero =>
    simp only[bA0,aA0]at hc hu;subst hc;subst hu;exact⟨hk,AP W cs us vG vV,qS⟩
   | succ i=>simp at hc)
  simpa using this
 ·simp only[rd];intro l hl;rw[DD]at hl;simp only[aA0]at hl;subst hl;exact⟨_,rfl,by simp⟩
theorem OL {id i k bs:Nat} {t ty:TypeId} {Fx:String} {z:List DVal} {Q:Exit->DS->Prop} (hi:i<B.nt) (hz:tZero P t=some z) (hp:z.all (Fy [])=true) (hk:z.length=k) (wI:bs<=150000000000000)
  (h:∀r,Cd B s<=r->Q .normal ⟨putS s.slots (some i) (.rx i r k 0 0),upE s.own i r (.row t k bs [z])⟩):DW P B (.region id #[⟨some i,.alloc t,ty,Fx, #[],none⟩] false) Q s:=by
 intro a w loc R;refine wpIn_region ?_;rw[eJ0]
 show wpOpsIn _ _ _ _ _ [0] _ _
 simp only[wpOpsIn];have hw:Region.wanted (⟨some i,.alloc t,ty,Fx, #[],none⟩:Oper) (yielded #[⟨some i,.alloc t,ty,Fx, #[],none⟩] a.tmps)=true:=by simp[Region.wanted]
 simp only[cR0,bA0];rw[if_pos hw];obtain⟨zv,yG,rfl⟩:=Gr (w:=w) hz;have vV:rdV (cu s loc) (hm s loc B.M0) w.heap (zv.cells.toList.map Cb) zv.cells.toList:=BB _
 have vG:AJ (zv.cells.toList.map Cb)=0:=by
  have h1:∀v,mx (Cb v)=0:=by
   intro v;unfold Cb
   split<;>(try split)<;>simp[mx]
  generalize zv.cells.toList=l
  induction l with
  | nil=>simp[AJ]
  | cons v l ih=>simp only[List.map_cons,AJ,h1,ih];rfl
 have qS:=Gx R.st (zv.cells.toList.map Cb) zv.cells.toList (aZ0.2 fun d hd=>QW (aZ0.1 hp d hd)) vV;have R':=R.newTyped (id:=i) (n:=Cd B s) (k:=k) (bs:=bs) (ty:=t) (dst:=some i) (Nat.le_refl _) (by omega) (fun j hj=>by simp only[aA0]at hj;omega) vV qS hk wI
 have qD:(execOp a.eval ⟨some i,.alloc t,ty,Fx, #[],none⟩).run P w= .ok (.value (.pointer (some ⟨w.heap.size,0,none⟩))) (w.alloc (.cells zv.cells.toList.toArray t)):=by
  simp[execOp,Instr.alloc,yG,newVar,newRow]
 exact Ej (fun c hc=>by cases hc) qD ⟨_,_,h _ (Nat.le_refl _),R'⟩
end
section
variable {P : Program} {ρ : Ren}
theorem Ua {T n:Nat} (hd:P.depth≠0) (hs:P.cellsOf T≠0) (hn:1<=n):liesAt P P.depth T n 0 T 1=true:=by
 obtain⟨d,hd⟩:∃d,P.depth=d+1:=⟨P.depth-1,by omega⟩;have h1:sameLayout P (d+1) T T=true:=by simp[sameLayout]
 rw[hd];unfold liesAt;rw[hd];unfold rowAt;simp[hs,hn,h1]
theorem aS (w:World) (g n:Nat):Upd [g] w (w.drew.freeze ⟨g,0,none⟩ n):=by
 unfold World.freeze
 split
 ·exact Upd.drew _ w
 ·refine⟨rfl,rfl,rfl,fun _=>Nat.le_succ _,by simp,fun b hb qF=> ?_⟩;simp only[aE0]at qF;simp only[cE0];rw[if_neg (fun h=>qF h.symm)];rfl
set_option maxRecDepth 100000 in
theorem GO (L:Lays.n169 P ρ) (X:Builder.Extra P ρ) (b g cap:Nat) (p:Value) (cs cur:Array Value) (l:List UInt8) (w:World) (h0:l≠[]) (hb:w.heap[b]? =some (.cells cs (ρ.t 72) (0,0))) (qC:cs[1]? =some (.slice (some ⟨g,0,none⟩) l.length cap))
  (hg:w.heap[g]? =some (.cells cur (ρ.t 5) (0,0))) (hnc:l.length<=cap) (hcm:cap<=maxLen) (yY:cur.size=cap) (htake:cur.toList.take l.length=Lib.byteCells l) :
  Calls P (ρ.f 169) #[.pointer (some ⟨b,0,none⟩)] w fun e w'=>e= .returned (.string ⟨l.toArray⟩)/\Upd [g] w w'/\w'=w.drew.freeze ⟨g,0,none⟩ l.length:=by
 have fC:l.length≠0:=by simpa using h0
 have c1:w.drew.cell? ⟨b,1,none⟩=some (.slice (some ⟨g,0,none⟩) l.length cap):=by
  have:w.drew.heap[b]? =some (.cells cs (ρ.t 72) (0,0)):=hb;rw[Lib.cell_of_heap this];exact qC
 have hSD:(Builtin.unsafeSliceData_ #[(ρ.t 37)] (ρ.t 127) #[.slice (some ⟨g,0,none⟩) l.length cap]).run P w.drew= .ok (.pointer (some ⟨g,0,none⟩)) w.drew :=
  Lib.run_unsafeSliceData_row _ _ _ _ _ _ (by omega)
 have hUS:(Builtin.unsafeString_ #[(ρ.t 127),(ρ.t 3)] (ρ.t 9) #[.pointer (some ⟨g,0,none⟩),.int .i64 l.length]).run P w.drew= .ok (.string ⟨l.toArray⟩) (w.drew.freeze ⟨g,0,none⟩ l.length):=by
  refine Lib.run_unsafeString_row w.drew (ρ.t 127) (ρ.t 3) (ρ.t 9) (ρ.t 5) L.t127 X.cellsByte g cur.size (by have hg':w.drew.heap[g]? =some (.cells cur (ρ.t 5) (0,0)):=hg;simp[World.shape?,hg']) l h0 (by omega) (by unfold maxLen at hcm;omega) ?_;intro j x hx;have hg':w.drew.heap[g]? =some (.cells cur (ρ.t 5) (0,0)):=hg;have hadd:(⟨g,0,none⟩:Addr).add j=⟨g,j,none⟩:=by unfold Addr.add;split<;>simp_all
  rw[hadd,Lib.cell_of_heap hg'];have hj:j<l.length:=(aB0.1 hx).1;have h2:(Lib.byteCells l)[j]? =some (.int .u8 x.toNat):=by simp[Lib.byteCells,hx]
  rw[<-htake,bT0 hj]at h2;simpa using h2
 have mixed:=L.mixed;have t72:=L.t72;have a72:=L.a72;have z72:=L.z72;have v72:=L.v72;have u72:=run_underlying L.t72;have t70:=L.t70;have a70:=L.a70;have z70:=L.z70;have v70:=L.v70;have u70:=run_underlying L.t70;have t37:=L.t37;have a37:=L.a37;have z37:=L.z37;have v37:=L.v37;have u37:=run_underlying L.t37;have t127:=L.t127;have a127:=L.a127;have z127:=L.z127;have v127:=L.v127;have u127:=run_underlying L.t127
 have t3:=L.t3;have a3:=L.a3;have z3:=L.z3;have v3:=L.v3;have u3:=run_underlying L.t3;have t9:=L.t9;have a9:=L.a9;have z9:=L.z9;have v9:=L.v9;have u9:=run_underlying L.t9;have t5:=X.t5;have a5:=X.a5;have z5:=X.z5;have v5:=X.v5;have u5:=run_underlying X.t5
 go_enter L.f169,Body.n169_ntmps ρ
 go_wp2
 go_region_o
 all_goals (go_wp2;go_ret;exact⟨rfl,aS w g l.length,rfl⟩)
theorem Iy {cur:ES} {M:List Nat} {H:Array Obj} {d0 d1:DVal} {arr:Array Value} (h:Dt cur M H 2 [[d0,d1]] arr 0):∃v0 v1 rest,arr=(v0::v1::rest).toArray/\rd cur M H d0 v0/\rd cur M H d1 v1:=by
 obtain⟨rows,r1,r2,r3,r4⟩:=Fv 2 _ arr 0 h
 match rows,r1 with
 | [us],_ =>
  obtain⟨g1,g2,g3⟩:=r3 0 _ _ rfl rfl;simp only[rdV]at g2;obtain⟨v0,r,rfl,h0,v1,r',rfl,h1,rfl⟩:=g2;have e0:=(r4 0 v0 (by simp)).1;have e1:=(r4 1 v1 (by simp)).1;obtain⟨l⟩:=arr
  match l,e0,e1 with
  | x::y::rest,e0,e1 =>
   simp at e0 e1;subst e0;subst e1;exact⟨x,y,rest,rfl,h0,h1⟩
theorem Wv {cur:ES} {M:List Nat} {H:Array Obj} {d0 d1:DVal} {v0 v1:Value} {rest:List Value} (h0:rd cur M H d0 v0) (h1:rd cur M H d1 v1) (o0:v0.oneCell'=true) (o1:v1.oneCell'=true):Dt cur M H 2 [[d0,d1]] (v0::v1::rest).toArray 0:=by
 have:=Vk (cur:=cur) (M:=M) (H:=H) 2 [[d0,d1]] [[v0,v1]] rest rfl (by
  intro i c u hc hu
  cases i with
  | zero =>
   simp only[bA0,aA0]at hc hu;subst hc;subst hu;exact⟨rfl,⟨v0,_,rfl,h0,v1,_,rfl,h1,rfl⟩,by simp[o0,o1]⟩
  | succ i=>simp at hc)
 simpa using this
theorem Py {g T:Nat} (hd:P.depth≠0) (hs:P.cellsOf T=2) (hE:Enters P g) (bs:Nat)
  (wE:∀(b n:Nat) (w:World),w.cell? ⟨b,0,none⟩=some (.pointer none)->w.shape? b=some (T,n)->0<n->liesAt P P.depth T (n/P.cellsOf T) 0 T 1=true->w.frozen? ⟨b,0,none⟩=false ->
   Calls P g #[.pointer (some ⟨b,0,none⟩)] w fun e w'=>e= .returned (.tuple #[])/\w'=w.setCell ⟨b,0,none⟩ (.pointer (some ⟨b,0,none⟩))) :
  Bj P (.func g) [.rx 0 0 2 0 0] [⟨0,0,.row T 2 bs [[.nilp,.nilsl]]⟩] (.tup []) [⟨0,0,.row T 2 bs [[.rx 0 0 2 0 0,.nilsl]]⟩]:=by
 refine⟨by simp,hE,fun M w loc vs S wS=> ?_⟩;have hk:=S.ok _ (aE0.2 rfl);obtain⟨wI,hk⟩:=hk
 rcases hk with ⟨h,_⟩ | ⟨b,arr,cap,h1,h2,h3,h4,h5,h6,h7⟩
 ·simp at h
 ·obtain⟨v0,v1,rest,rfl,g0,g1⟩:=Iy h7;simp only[rd]at g0 g1;subst g0;subst g1;have qE:Ac [(⟨0,0,.row T 2 bs [[.nilp,.nilsl]]⟩:Ent)] loc 0 0=some (loc 0):=by simp[Ac,Ah]
  simp only[rdV,rd]at wS;obtain⟨pv,r,wS,hp,rfl⟩:=wS;obtain⟨b',qM,rfl⟩:=hp _ qE;simp only at h1 h2;rw[h1]at qM;simp only[bG0,and_true]at qM;subst qM;have zV:vs= #[.pointer (some ⟨b,0,none⟩)]:=by apply Array.ext';simpa using wS
  subst zV;have qI:2<=(Array.size (Value.pointer none::Value.slice none 0 0::rest).toArray):=by simp
  refine⟨hE,(wE b (rest.length+2) w (by rw[Lib.cell_of_heap h3];rfl) (by simp[World.shape?,h3]) (by omega) (Ua hd (by omega) (by rw[hs];omega)) (Lib.frozen_of_heap h3 0)).mono ?_⟩;rintro e w' ⟨rfl,rfl⟩;refine⟨_,rfl,loc,?_,?_,?_,?_,?_⟩
  ·have vP:=setCell_eq_setRow w b 0 _ _ _ (.pointer (some ⟨b,0,none⟩)) h3;rw[vP];refine⟨S.nd,S.bl,S.ap,fun q hq=>by have:=S.lt q hq;simpa using this,fun e he=> ?_⟩;simp only[aE0]at he;subst he;refine⟨wI,.inr ⟨b,_,cap,h1,h2,setRow_heap w b _ _ _ (0,0) h3,h4,h5,by simpa using h6,?_⟩⟩
   have:=Wv (cur:=Ac [(⟨0,0,.row T 2 bs [[.rx 0 0 2 0 0,.nilsl]]⟩:Ent)] loc) (M:=Aa [(⟨0,0,.row T 2 bs [[.rx 0 0 2 0 0,.nilsl]]⟩:Ent)] loc++M) (H:=(w.setRow b ((Value.pointer none::Value.slice none 0 0::rest).toArray.setIfInBounds 0 (.pointer (some ⟨b,0,none⟩)))).heap)
    (d0:= .rx 0 0 2 0 0) (d1:= .nilsl) (v0:= .pointer (some ⟨b,0,none⟩)) (v1:= .slice none 0 0) (rest:=rest) (by
     simp only[rd];intro l hl;have jH:Ac [(⟨0,0,.row T 2 bs [[.rx 0 0 2 0 0,.nilsl]]⟩:Ent)] loc 0 0=some (loc 0):=by simp[Ac,Ah]
     rw[jH]at hl;simp only[aA0]at hl;subst hl
     exact⟨b,h1,by simp⟩) (by simp[rd]) rfl rfl
   simpa using this
  ·refine⟨rfl,rfl,rfl,fun _=>Nat.le_refl _,by simp[World.setCell],fun q hq qF=> ?_⟩
   have hqb:b≠q:=by
    intro h;subst h;exact qF (by simp[Aa,h1])
   simp[World.setCell,cE0,hqb]
  ·intro q hq;exact .inl hq
  ·intro e he _;simp only[aE0]at he;subst he;exact qE
  ·simp[rd,rdV]
theorem Px {g T:Nat} (hE:Enters P g) (bs:Nat) (q:DVal) (rest:List Ent) (hr:∀e∈rest,e.r=0)
  (wE:∀(b:Nat) (w:World),w.cell? ⟨b,0,none⟩=some (.pointer (some ⟨b,0,none⟩))->Calls P g #[.pointer (some ⟨b,0,none⟩)] w fun e w'=>e= .returned (.tuple #[])/\w'=w) :
  Bj P (.func g) [.rx 0 0 2 0 0] (⟨0,0,.row T 2 bs [[.rx 0 0 2 0 0,q]]⟩::rest) (.tup []) (⟨0,0,.row T 2 bs [[.rx 0 0 2 0 0,q]]⟩::rest):=by
 refine⟨fun e he=>by rcases aK0.1 he with rfl | he<;>simp_all,hE,fun M w loc vs S wS=> ?_⟩;have hk:=S.ok _ aH0;obtain⟨wI,hk⟩:=hk
 rcases hk with ⟨h,_⟩ | ⟨b,arr,cap,h1,h2,h3,h4,h5,h6,h7⟩
 ·simp at h
 ·obtain⟨v0,v1,rs,rfl,g0,g1⟩:=Iy h7;simp only[rd]at g0;have qE:Ac ((⟨0,0,.row T 2 bs [[.rx 0 0 2 0 0,q]]⟩:Ent)::rest) loc 0 0=some (loc 0):=by simp[Ac,Ah]
  obtain⟨b0,qR,rfl⟩:=g0 _ qE;simp only[rdV,rd]at wS;obtain⟨pv,r,wS,hp,rfl⟩:=wS;obtain⟨b',qM,rfl⟩:=hp _ qE;simp only at h1 h2;rw[h1]at qM qR;simp only[bG0,and_true]at qM qR;subst qM;subst qR;have zV:vs= #[.pointer (some ⟨b,0,none⟩)]:=by apply Array.ext';simpa using wS
  subst zV;refine⟨hE,(wE b w (by rw[Lib.cell_of_heap h3];rfl)).mono ?_⟩;rintro e w' ⟨rfl,rfl⟩;refine⟨_,rfl,loc,S,Upd.refl _ _,fun q hq=> .inl hq,fun e he _=>Ay S.nd he,by simp[rd,rdV]⟩
theorem Lt (L:Lays.n169 P ρ) (X:Builder.Extra P ρ) (hE:Enters P (ρ.f 169)) (bs:Nat) (x:ByteArray) (hx:x.size≠0) :
  Bj P (.func (ρ.f 169)) [.rx 0 0 2 0 0] [⟨0,0,.row (ρ.t 72) 2 bs [[.rx 0 0 2 0 0,.osl 1 0]]⟩,⟨1,0,.row (ρ.t 5) 1 1 (AZ x)⟩] (.str x) []:=by
 refine⟨by simp,hE,fun M w loc vs S wS=> ?_⟩;have hk:=S.ok _ aH0;have zT:=S.ok _ (aF0 _ aH0);obtain⟨wI,hk⟩:=hk;obtain⟨hbs2,zT⟩:=zT
 rcases hk with ⟨h,_⟩ | ⟨b,arr,cap,h1,h2,h3,h4,h5,h6,h7⟩
 ·simp at h
 rcases zT with ⟨h,_⟩ | ⟨g,cur,cap2,k1,k2,k3,k4,k5,k6,k7⟩
 ·have:=congrArg List.length h;rw[Bb]at this;exact absurd this hx
 ·obtain⟨v0,v1,rest,rfl,g0,g1⟩:=Iy h7;simp only[rd]at g0 g1;have qE:Ac [(⟨0,0,.row (ρ.t 72) 2 bs [[.rx 0 0 2 0 0,.osl 1 0]]⟩:Ent),⟨1,0,.row (ρ.t 5) 1 1 (AZ x)⟩] loc 0 0=some (loc 0):=by simp[Ac,Ah]
  have dK:Ac [(⟨0,0,.row (ρ.t 72) 2 bs [[.rx 0 0 2 0 0,.osl 1 0]]⟩:Ent),⟨1,0,.row (ρ.t 5) 1 1 (AZ x)⟩] loc 1 0=some (loc 1):=by simp[Ac,Ah]
  have fT:=g1 _ dK;simp only at k1 k2;rw[k2,Bb]at fT;subst fT;simp only[rdV,rd]at wS;obtain⟨pv,r,wS,hp,rfl⟩:=wS;obtain⟨b',qM,rfl⟩:=hp _ qE;simp only at h1 h2;rw[h1]at qM;simp only[bG0,and_true]at qM;subst qM;have zV:vs= #[.pointer (some ⟨b,0,none⟩)]:=by apply Array.ext';simpa using wS
  subst zV;have hxl:x.data.toList.length=x.size:=rfl;obtain⟨rows,r1,r2,r3,r4⟩:=Fv 1 _ cur 0 k7
  have vI:rows.flatten=Lib.byteCells x.data.toList:=by
   have:∀(bl:List UInt8) (rows:List (List Value)),rows.length=bl.length->(∀(i:Nat) (cs:List DVal) (us:List Value),(bl.map fun b=>[DVal.int .u8 (b.toNat:Int)])[i]? =some cs->rows[i]? =some us->cs.length=1/\rdV (Ac [(⟨0,0,.row (ρ.t 72) 2 bs [[.rx 0 0 2 0 0,.osl 1 0]]⟩:Ent),⟨1,0,.row (ρ.t 5) 1 1 (AZ x)⟩] loc) (Aa [(⟨0,0,.row (ρ.t 72) 2 bs [[.rx 0 0 2 0 0,.osl 1 0]]⟩:Ent),⟨1,0,.row (ρ.t 5) 1 1 (AZ x)⟩] loc++M) w.heap cs us/\∀u∈us,u.oneCell'=true)->rows.flatten=Lib.byteCells bl:=by
    intro bl
    induction bl with
    | nil=>intro rows hl _;rw[bN0 hl];rfl
    | cons y bl ih =>
     intro rows hl h
     match rows,hl with
     | us::rows,hl =>
      obtain⟨_,h1,_⟩:=h 0 _ _ rfl rfl;simp only[rdV,rd]at h1;obtain⟨v,r,rfl,⟨rfl,_⟩,rfl⟩:=h1;have:=ih rows (by simpa using hl) fun i cs us hc hu=>h (i+1) cs us (by simpa using hc) (by simpa using hu)
      simp[this,Lib.byteCells]
   exact this x.data.toList rows (by rw[r1,Bb];rfl) r3
  rw[Bb]at k4 r2;have hcsz:cur.size=cap2:=by omega
  have ht:=HT r2 r4 (by omega);rw[vI,eT0]at ht;refine⟨hE,(GO L X b g cap2 v0 _ cur x.data.toList w (fun h=>hx (by rw[<-hxl,h];rfl)) h3 rfl k3 k4 k5 hcsz ht).mono ?_⟩;rintro e w' ⟨rfl,hu,_⟩;refine⟨_,rfl,loc,⟨by simp,by simp[Aa],by simp[Aa],fun q hq=> ?_,by simp⟩,?_,by simp[Aa],by simp,?_⟩
  ·have:=S.lt q (aN0 _ (by simpa[Aa]using hq));exact cB0 this hu.size
  ·refine⟨hu.os,hu.tape,hu.output,hu.drawn,hu.size,fun q hq qF=>hu.blk q hq fun hm=>qF ?_⟩;simp only[aE0]at hm;subst hm;simp[Aa,k1]
  ·simp only[rd];exact⟨trivial,by omega⟩
theorem KB (L:Lays.n169 P ρ) (X:Builder.Extra P ρ) (hE:Enters P (ρ.f 169)) (bs:Nat) (x:ByteArray) (hx:x.size≠0) :
  Bj P (.func (ρ.f 169)) [.rx 0 0 2 0 0] [⟨0,0,.row (ρ.t 72) 2 bs [[.rx 0 0 2 0 0,.osl 1 0]]⟩,⟨1,0,.row (ρ.t 5) 1 1 (AZ x)⟩] (.str x) [⟨0,0,.row (ρ.t 72) 2 bs [[.rx 0 0 2 0 0,.sl 1 1 (AZ x)]]⟩]:=by
 refine⟨by simp,hE,fun M w loc vs S wS=> ?_⟩;have hk:=S.ok _ aH0;have zT:=S.ok _ (aF0 _ aH0);obtain⟨wI,hk⟩:=hk;obtain⟨hbs2,zT⟩:=zT
 rcases hk with ⟨h,_⟩ | ⟨b,arr,cap,h1,h2,h3,h4,h5,h6,h7⟩
 ·simp at h
 rcases zT with ⟨h,_⟩ | ⟨g,cur,cap2,k1,k2,k3,k4,k5,k6,k7⟩
 ·have:=congrArg List.length h;rw[Bb]at this;exact absurd this hx
 ·obtain⟨v0,v1,rest,rfl,g0,g1⟩:=Iy h7;simp only[rd]at g0 g1;have qE:Ac [(⟨0,0,.row (ρ.t 72) 2 bs [[.rx 0 0 2 0 0,.osl 1 0]]⟩:Ent),⟨1,0,.row (ρ.t 5) 1 1 (AZ x)⟩] loc 0 0=some (loc 0):=by simp[Ac,Ah]
  have dK:Ac [(⟨0,0,.row (ρ.t 72) 2 bs [[.rx 0 0 2 0 0,.osl 1 0]]⟩:Ent),⟨1,0,.row (ρ.t 5) 1 1 (AZ x)⟩] loc 1 0=some (loc 1):=by simp[Ac,Ah]
  have fT:=g1 _ dK;simp only at k1 k2;rw[k2,Bb]at fT;subst fT;simp only[rdV,rd]at wS;obtain⟨pv,r,wS,hp,rfl⟩:=wS;obtain⟨b',qM,rfl⟩:=hp _ qE;simp only at h1 h2;rw[h1]at qM;simp only[bG0,and_true]at qM;subst qM;have zV:vs= #[.pointer (some ⟨b,0,none⟩)]:=by apply Array.ext';simpa using wS
  subst zV;have hxl:x.data.toList.length=x.size:=rfl;obtain⟨rows,r1,r2,r3,r4⟩:=Fv 1 _ cur 0 k7
  have vI:rows.flatten=Lib.byteCells x.data.toList:=by
   have:∀(bl:List UInt8) (rows:List (List Value)),rows.length=bl.length->(∀(i:Nat) (cs:List DVal) (us:List Value),(bl.map fun b=>[DVal.int .u8 (b.toNat:Int)])[i]? =some cs->rows[i]? =some us->cs.length=1/\rdV (Ac [(⟨0,0,.row (ρ.t 72) 2 bs [[.rx 0 0 2 0 0,.osl 1 0]]⟩:Ent),⟨1,0,.row (ρ.t 5) 1 1 (AZ x)⟩] loc) (Aa [(⟨0,0,.row (ρ.t 72) 2 bs [[.rx 0 0 2 0 0,.osl 1 0]]⟩:Ent),⟨1,0,.row (ρ.t 5) 1 1 (AZ x)⟩] loc++M) w.heap cs us/\∀u∈us,u.oneCell'=true)->rows.flatten=Lib.byteCells bl:=by
    intro bl
    induction bl with
    | nil=>intro rows hl _;rw[bN0 hl];rfl
    | cons y bl ih =>
     intro rows hl h
     match rows,hl with
     | us::rows,hl =>
      obtain⟨_,h1,_⟩:=h 0 _ _ rfl rfl;simp only[rdV,rd]at h1;obtain⟨v,r,rfl,⟨rfl,_⟩,rfl⟩:=h1;have:=ih rows (by simpa using hl) fun i cs us hc hu=>h (i+1) cs us (by simpa using hc) (by simpa using hu)
      simp[this,Lib.byteCells]
   exact this x.data.toList rows (by rw[r1,Bb];rfl) r3
  rw[Bb]at k4 r2;have hcsz:cur.size=cap2:=by omega
  have ht:=HT r2 r4 (by omega);rw[vI,eT0]at ht;refine⟨hE,(GO L X b g cap2 v0 _ cur x.data.toList w (fun h=>hx (by rw[<-hxl,h];rfl)) h3 rfl k3 k4 k5 hcsz ht).mono ?_⟩;rintro e w' ⟨rfl,hu,hw⟩;have kN:=g0 _ qE;obtain⟨b2,wX,rfl⟩:=kN;rw[h1]at wX;simp only[bG0,and_true]at wX;subst wX;have kP:=S.bl;have hap:=S.ap;simp only[Aa,cP0,List.flatMap_nil,h1,k1,bR0,List.cons_append,List.nil_append,cV0,aE0]at kP;have hbg:b≠g:=kP.1
  have hbM:b∉M:=hap b (by simp[Aa,h1]);have hgM:g∉M:=hap g (by simp[Aa,k1]);have fN:=(aC0.1 h3).1;have hglt:=(aC0.1 k3).1;have hH:Aa [(⟨0,0,.row (ρ.t 72) 2 bs [[.rx 0 0 2 0 0,.sl 1 1 (AZ x)]]⟩:Ent)] loc=[b]:=by simp[Aa,h1]
  have hhb:w'.heap[b]? =some (.cells (Value.pointer (some ⟨b,0*2+0,none⟩):: .slice (some ⟨g,0,none⟩) x.size cap2::rest).toArray (ρ.t 72) (0,0)):=by rw[hu.blk b fN (by simpa using hbg)];exact h3
  have hhg:∃fz,w'.heap[g]? =some (.cells cur (ρ.t 5) fz):=by
   rw[hw];unfold World.freeze;rw[if_neg (by rw[hxl];exact hx)];have:w.drew.heap[g]? =some (.cells cur (ρ.t 5) (0,0)):=k3;simp only[cE0,if_true,this];exact⟨_,rfl⟩
  have W:Weak (Ac [(⟨0,0,.row (ρ.t 72) 2 bs [[.rx 0 0 2 0 0,.osl 1 0]]⟩:Ent),⟨1,0,.row (ρ.t 5) 1 1 (AZ x)⟩] loc) (Ac [(⟨0,0,.row (ρ.t 72) 2 bs [[.rx 0 0 2 0 0,.sl 1 1 (AZ x)]]⟩:Ent)] loc) (Aa [(⟨0,0,.row (ρ.t 72) 2 bs [[.rx 0 0 2 0 0,.osl 1 0]]⟩:Ent),⟨1,0,.row (ρ.t 5) 1 1 (AZ x)⟩] loc++M) ([b]++M) w.heap w'.heap 0:=by
   refine⟨fun id r l hr _=>absurd hr (Nat.not_lt_zero _),fun q o hq _ ho=> ?_,fun q o hq _ _ hm=>hq ?_⟩
   ·rw[hu.blk q (aC0.1 ho).1 (fun hm=>hq ?_)]
    ·exact ho
    ·simp only[aE0]at hm;subst hm;simp[Aa,k1]
   ·rcases aG0.1 hm with hm | hm
    ·simp only[aE0]at hm;subst hm;simp[Aa,h1]
    ·exact aN0 _ hm
  refine⟨_,rfl,loc,⟨by simp,by rw[hH];simp,fun q hq=> ?_,fun q hq=> ?_,?_⟩,?_,fun q hq=> ?_,?_,?_⟩
  ·rw[hH]at hq;simp only[aE0]at hq;subst hq;exact hbM
  ·rw[hH]at hq;refine cB0 (S.lt q ?_) hu.size
   rcases aG0.1 hq with hq | hq
   ·simp only[aE0]at hq;subst hq;simp[Aa,h1]
   ·exact aN0 _ hq
  ·intro e he;simp only[aE0]at he;subst he;rw[hH];refine⟨by simpa using wI,.inr ⟨b,_,cap,h1,by simpa using h2,hhb,by simpa using h4,h5,h6,Wv ?_ ?_ rfl rfl⟩⟩
   ·simp only[rd];intro l hl;have:Ac [(⟨0,0,.row (ρ.t 72) 2 bs [[.rx 0 0 2 0 0,.sl 1 1 (AZ x)]]⟩:Ent)] loc 0 0=some (loc 0):=by simp[Ac,Ah]
    rw[this]at hl;simp only[aA0]at hl;subst hl;exact⟨b,h1,rfl⟩
   ·simp only[rd];obtain⟨fz,hfz⟩:=hhg;rw[Bb]
    exact⟨_,_,rfl,by simpa[Bb]using k4,k5,by simpa[Bb]using hbs2,.inr ⟨g,0,cur,_,fz,rfl,fun hm=>by
     rcases aG0.1 hm with hm | hm
     ·simp only[aE0]at hm;exact hbg hm.symm
     ·exact hgM hm,hfz,Cu W 1 _ cur 0 (by rw[Gj];exact Nat.le_refl _) k7⟩⟩
  ·refine⟨hu.os,hu.tape,hu.output,hu.drawn,hu.size,fun q hq qF=>hu.blk q hq fun hm=>qF ?_⟩;simp only[aE0]at hm;subst hm;simp[Aa,k1]
  ·rw[hH]at hq;simp only[aE0]at hq;subst hq;exact .inl (by simp[Aa,h1])
  ·intro e he _;simp only[aE0]at he;subst he;exact qE
  ·simp only[rd];exact⟨trivial,by omega⟩
end
end Go.Dm
end
