/- Parts of a proof, laid together: BO0, EnBl, Lays, LayTs, EnY, EnSt, WB0, WJ0, WJ1, WJ2, WJ3, RT, WBp, WB3, EnSc, WB4, WB5, WB6, WB7, BN0, WB8, WB9, WB10, WB11, WB12, WB13. -/
import Derived.Shelf.Strings.BuilderF
import Derived.Shelf.SlSortCmp.NoneTotal
import Derived.Shelf.SlGeneric
import Derived.Ground.SlsfProg
import Derived.Shelf.SortM.Plain
import Derived.Shelf.SortM.SortNone
import Derived.Shelf.Sort.Plain
import Derived.Shelf.Small.Strs
import Derived.Shelf.SlIter.Nil
import Derived.Shelf.SlIter.Sorted
import Derived.Ground.SlgmProg
import Derived.Ground.GgzProg
import Derived.Shelf.Spec.SlicesGrow
import Derived.Ground.Names8Prog
import Derived.Test.YtchgnpnbcjflcaaGreatChecked
import Derived.Lib.Builder
import Derived.WalkKit
import Derived.BigCall
import Derived.Scope
import Derived.Test.YtchgnpnbcjflcaaGreatqDe4
import Derived.Test.YtchgnpnbcjflcaaGreatqDe5
set_option linter.unusedSimpArgs false
set_option maxHeartbeats 8000000
set_option linter.unusedVariables false
set_option linter.unusedSectionVars false
section
namespace Go.Proofs.Wy
open Go Go.Dm Tryz
variable [DMode]
theorem DP {x:Nd}:CC x=true↔x.k=2\/x.k=3:=by unfold CC;simp
def LB (l:List Nd) (p:Nat):Nat:=((l.take p).filter CC).length
def Dt (l:List Nd):List Nd:=l.filter CC
theorem RU (l:List Nd):LB l 0=0:=by simp[LB]
theorem Lg (l:List Nd):LB l l.length=(Dt l).length:=by simp[LB,Dt]
theorem RV {l:List Nd} {p:Nat} {x:Nd} (h:l[p]? =some x):LB l (p+1)=LB l p+(if CC x=true then 1 else 0):=by
 unfold LB;rw[bF0,h,dT0];cases hx:CC x<;>simp[hx]
theorem RW (l:List Nd) {p q:Nat} (h:p<=q):LB l p<=LB l q:=by
 unfold LB;obtain⟨d,rfl⟩:∃d,q=p+d:=⟨q-p,by omega⟩;rw[List.take_add,dT0,aD0];omega
theorem uR {l:List Nd} {p q:Nat} {x:Nd} (h:l[p]? =some x) (hx:CC x=true) (hq:p<q):LB l p<LB l q:=by
 have h1:=RV h;rw[if_pos hx]at h1;have:=RW l (show p+1<=q from hq);omega
theorem VJ {l:List Nd}:∀{n:Nat},n<=l.length->(Cz l n).length=LB l n
 | 0,_=>by simp[Cz,LB]
 | n+1,h=>by
  have hn:l[n]? =some (l[n]'(by omega)):=aH0 (by omega);rw[Mp hn,RV hn,aD0,VJ (by omega)];cases CC l[n]<;>simp
theorem Nm (l:List Nd):GM l=(Dt l).length:=by unfold GM;rw[VJ (Nat.le_refl _),Lg]
def Io_ (l:List Nd) (i:Nat):Bool:=match l[i]? with | some x=>CC x | none=>false
def UN (l:List Nd) (n:Nat):List Nat:=(List.range n).filter (Io_ l)
theorem Ho_ (l:List Nd):UN l 0=[]:=rfl
theorem ZH {l:List Nd} {n:Nat} {x:Nd} (h:l[n]? =some x):UN l (n+1)=UN l n++(if CC x=true then [n]else []):=by
 unfold UN;rw[dF0,dT0];have:Io_ l n=CC x:=by unfold Io_;rw[h]
 cases hx:CC x<;>simp[this,hx]
theorem In_ {l:List Nd} {i:Nat}:Io_ l i=true↔∃x,l[i]? =some x/\CC x=true:=by
 unfold Io_;cases l[i]? <;>simp
theorem XT {l:List Nd} {i:Nat}:i∈UN l l.length↔∃x,l[i]? =some x/\CC x=true:=by
 unfold UN;rw[cP0,cD0,In_];exact⟨fun h=>h.2,fun h=>⟨(aB0.1 h.choose_spec.1).1,h⟩⟩
theorem Xy {l:List Nd}:∀{n:Nat},n<=l.length->(UN l n).length=LB l n
 | 0,_=>by simp[UN,LB]
 | n+1,h=>by
  have hn:l[n]? =some (l[n]'(by omega)):=aH0 (by omega);rw[ZH hn,RV hn,aD0,Xy (by omega)];cases CC l[n]<;>simp
theorem Hp_ (l:List Nd) (n:Nat):(UN l n).Pairwise (· < ·):=(List.pairwise_lt_range).filter _
def Oz (l:List Nd) (ah p:Nat):Nat:=ah+LB l p+1
def EJ_ (l:List Nd) (ah:Nat) (p:Nat×Nat):Nat×Nat:=(Oz l ah p.1,Oz l ah p.2)
def nd (l:List Nd) (p:Nat):Nd:=l.getD p ⟨0,⟨#[]⟩,0⟩
def xE : Nat->List RT->List (Nat×Nat)
 | _,[]=>[]
 | ah,t::ts=>(arT t 0).map (EJ_ (flat t) ah)++xE (ah+(Dt (flat t)).length) ts
def tY : Nat->List RT->List Nat
 | _,[]=>[]
 | ah,t::ts=>(tX t 0).map (Oz (flat t) ah)++tY (ah+(Dt (flat t)).length) ts
def laN : Nat->List RT->List Nat
 | _,[]=>[]
 | ah,t::ts=>(Qm t 0).map (Oz (flat t) ah)++laN (ah+(Dt (flat t)).length) ts
def CY (ts:List RT):List Nd:=ts.flatMap fun t=>Dt (flat t)
def QH (sy:Nd->Sym) (ts:List RT):List Sym:=(CY ts).map sy
theorem aM (ts:List RT) (t:RT):CY (ts++[t])=CY ts++Dt (flat t):=by simp[CY]
theorem ZE (t:RT):∀(ts:List RT) (ah:Nat),xE ah (ts++[t])=xE ah ts++(arT t 0).map (EJ_ (flat t) (ah+(CY ts).length))
 | [],ah=>by simp[xE,CY]
 | u::ts,ah=>by
  rw[List.cons_append,xE,xE,ZE t ts,aQ0,dJ0];simp[CY]
theorem iB (t:RT):∀(ts:List RT) (ah:Nat),tY ah (ts++[t])=tY ah ts++(tX t 0).map (Oz (flat t) (ah+(CY ts).length))
 | [],ah=>by simp[tY,CY]
 | u::ts,ah=>by
  rw[List.cons_append,tY,tY,iB t ts,aQ0,dJ0];simp[CY]
theorem aU (t:RT):∀(ts:List RT) (ah:Nat),laN ah (ts++[t])=laN ah ts++(Qm t 0).map (Oz (flat t) (ah+(CY ts).length))
 | [],ah=>by simp[laN,CY]
 | u::ts,ah=>by
  rw[List.cons_append,laN,laN,aU t ts,aQ0,dJ0];simp[CY]
def Jt_ (S:List Sym) (p:Nat×Nat):Arc:=⟨(p.1:Int),S.getD (p.2-1) ⟨false,0⟩,(p.2:Int)⟩
def HA (sy:Nd->Sym) (ts:List RT):List Arc:=(xE 0 ts++(tY 0 ts).map fun q=>(0,q)).map (Jt_ (QH sy ts))
theorem LS_ {l:List Nd} {q:Nat} (h:∃x,l[q]? =some x/\CC x=true):Lf l 0 q:=fun y _ hy=>by
 obtain⟨x,hx,hk⟩:=h;rw[eT0,hx]at hy;simp only[aA0]at hy;subst hy;exact DP.1 hk
theorem IH (x y:Arc):Ho x y=Ff_ Fy (Ff_ JY Fy) (x.fr,x.sy,x.to) (y.fr,y.sy,y.to):=rfl
theorem HJ : OrdC Ho:=by
 have h:=Sq Ev_ (Sq Ht_ Ev_);refine⟨fun x y=> ?_,fun x y=> ?_,fun x y z=> ?_⟩
 ·rw[IH,h.eq0];cases x;cases y;simp only[_root_.Prod.mk.injEq,Arc.mk.injEq]
 ·rw[IH,IH];exact h.anti _ _
 ·rw[IH,IH,IH];exact h.trans _ _ _
def MD : Nat->List RT->List Nat
 | _,[]=>[]
 | ah,t::ts=>((UN (flat t) (flat t).length).filter (enT t 0)).map (Oz (flat t) ah)++MD (ah+(Dt (flat t)).length) ts
theorem eW : ∀(ts:List RT) (ah:Nat),(∀t∈ts,FX t=true)->(laN ah ts).Perm (MD ah ts)
 | [],ah,_=>by simp[laN,MD]
 | t::ts,ah,qY=>by
  rw[laN,MD];refine List.Perm.append (List.Perm.map _ ?_) (eW ts _ fun u hu=>qY u (aC0 _ hu));refine(List.perm_ext_iff_of_nodup (aT t 0) (((Hp_ _ _).imp fun h=>Nat.ne_of_lt h).filter _)).2 fun q=> ?_
  have nP:=qY t aE0;rw[cP0,XT]
  constructor
  ·intro h;obtain⟨y,hy,hyk⟩:=SL t 0 q h;rw[eT0]at hy;have hq:=(⟨y,hy,DP.2 hyk⟩:∃x,(flat t)[q]? =some x/\CC x=true);exact⟨hq,(Ax_ t 0 q nP (LS_ hq)).1 h⟩
  ·rintro⟨hq,h⟩;exact(Ax_ t 0 q nP (LS_ hq)).2 h
theorem Mx_ {l:List Nd} {ah p q:Nat} (hp:p∈UN l l.length) (h:p<q):Oz l ah p<Oz l ah q:=by
 obtain⟨x,hx,hk⟩:=XT.1 hp;have:=uR hx hk h;unfold Oz;omega
theorem Yh : ∀(ts:List RT) (ah:Nat),(MD ah ts).Pairwise (· < ·)/\∀q∈MD ah ts,ah<q/\q<=ah+(CY ts).length
 | [],ah=>by simp[MD]
 | t::ts,ah=>by
  obtain⟨h1,h2⟩:=Yh ts (ah+(Dt (flat t)).length)
  have hb:∀q∈((UN (flat t) (flat t).length).filter (enT t 0)).map (Oz (flat t) ah),ah<q/\q<=ah+(Dt (flat t)).length:=by
   intro q hq;obtain⟨p,hp,rfl⟩:=aR0.1 hq;obtain⟨x,hx,hk⟩:=XT.1 (cP0.1 hp).1;have h3:=uR hx hk (aB0.1 hx).1;rw[Lg]at h3;unfold Oz;omega
  have hl:(CY (t::ts)).length=(Dt (flat t)).length+(CY ts).length:=by simp[CY]
  rw[MD];refine⟨List.pairwise_append.2 ⟨?_,h1,?_⟩,?_⟩
  ·rw[dM0];refine List.Pairwise.imp_of_mem ?_ ((Hp_ _ _).filter _);intro a b ha _ mH;exact Mx_ (cP0.1 ha).1 mH
  ·intro a ha b qD;have:=hb a ha;have:=h2 b qD;omega
  ·intro q hq
   rcases aI0.1 hq with hq | hq
   ·have:=hb q hq;omega
   ·have:=h2 q hq;omega
theorem GX_ {l l':List Int} (hp:l.Perm l') (hs:l'.Pairwise (· < ·)):l.mergeSort (fun x y=>decide (x<=y))=l':=by
 have tr:∀a b c:Int,decide (a<=b)=true->decide (b<=c)=true->decide (a<=c)=true:=fun a b c h1 h2=>by simp only[decide_eq_true_eq]at *;omega
 have to:∀a b:Int,(decide (a<=b)||decide (b<=a))=true:=fun a b=>by simp only[cY0,decide_eq_true_eq];omega
 refine List.Perm.eq_of_pairwise (le:=fun a b=>decide (a<=b)=true) (fun a b _ _ h1 h2=> ?_) (List.pairwise_mergeSort tr to l) (hs.imp fun h=>by simp only[decide_eq_true_eq];omega) ((dX0 l _).trans hp);simp only[decide_eq_true_eq]at h1 h2;omega
def toI (n:Nat):Int:=(n:Int)
def KI (ts:List RT):List Int:=(if HO ts then [0]else [])++(MD 0 ts).map toI
theorem IH_ (ts:List RT) (qY:∀t∈ts,FX t=true):((laN 0 ts).map toI++(if HO ts then [0]else [])).mergeSort (fun x y=>decide (x<=y))=KI ts:=by
 refine GX_ ?_ ?_
 ·unfold KI;exact List.perm_append_comm.trans (List.Perm.append_left _ ((eW ts 0 qY).map toI))
 ·obtain⟨h1,h2⟩:=Yh ts 0
  have hm:((MD 0 ts).map toI).Pairwise (· < ·):=by
   rw[dM0];exact h1.imp fun h=>by unfold toI;omega
  unfold KI
  split
  ·refine cK0.2 ⟨fun q hq=> ?_,hm⟩;obtain⟨p,hp,rfl⟩:=aR0.1 hq;have:=h2 p hp;unfold toI;omega
  ·exact hm
end Go.Proofs.Wy
end
section
namespace Go.Dm
variable [DMode]
open Go.Shelf Go.Proofs Go.RowKit
section
variable {P : Program} {B : Base} {s : DS} {a : Act} {w : World} {loc : Nat -> Loc}
theorem Rel.newTyped {id n k bs:Nat} {cs:List DVal} {us:List Value} {ty:TypeId} {dst:Option Nat} (R:Rel B s a w loc) (qF:Co B s<=n) (vF:AR cs<=n) (qI:∀i,dst=some i->i<B.nt)
  (vH:AI (cu s loc) (hm s loc B.M0) w.heap cs us) (qP:∀u∈us,u.oneCell'=true) (hk:cs.length=k) (wW:bs<=150000000000000) :
  Rel B ⟨BI s.slots dst (.rx id n k 0 0),upE s.own id n (.row ty k bs [cs])⟩ (a.put dst (.pointer (some ⟨w.heap.size,0,none⟩))) (w.alloc (.cells us.toArray ty)) (Dc loc id ⟨[w.heap.size],.slice (some ⟨w.heap.size,0,none⟩) 1 1⟩):=by
 have hw:=Upd.alloc' (Ab s.own loc) w (.cells us.toArray ty)
 have hL:∀b,b∈(⟨[w.heap.size],.slice (some ⟨w.heap.size,0,none⟩) 1 1⟩:Loc).blks->b<(w.alloc (.cells us.toArray ty)).heap.size/\((∃e∈s.own,e.id=id/\b∈(loc id).blks)\/w.heap.size<=b):=by
  intro b hb;simp only[aG0]at hb;subst hb;exact⟨by simp,.inr (Nat.le_refl _)⟩
 have W:=R.weakUp (obj:= .row ty k bs [cs]) qF hw hL (.inl (Nat.le_refl _));have jT:=AJ _ _ vH;refine R.up qF qI hw (fun b hb _=>by simp only[World.alloc,bI0];rw[if_neg (by omega)]) hL (.inl (Nat.le_refl _)) ?_ ?_
 ·refine⟨by simpa using wW,.inr ⟨w.heap.size,us.toArray,1,rfl,rfl,heap_alloc_new w _,by simp,by unfold maxLen;omega,by simp;omega,?_⟩⟩
  have:=Xs (cur:=Ae (upE s.own id n (.row ty k bs [cs])) (Dc loc id ⟨[w.heap.size],.slice (some ⟨w.heap.size,0,none⟩) 1 1⟩)) (M:=Ab (upE s.own id n (.row ty k bs [cs])) (Dc loc id ⟨[w.heap.size],.slice (some ⟨w.heap.size,0,none⟩) 1 1⟩)++B.M0) (H:=(w.alloc (.cells us.toArray ty)).heap) k [cs] [us] [] rfl (by
   intro i c u hc hu
   cases i with
   | zero =>
    simp only[bB0,aA0]at hc hu;subst hc;subst hu;exact⟨hk,Bd W cs us vF vH,qP⟩
   | succ i=>simp at hc)
  simpa using this
 ·simp only[rd];intro l hl;rw[DL]at hl;simp only[aA0]at hl;subst hl;exact⟨_,rfl,by simp⟩
theorem Ly {id i k bs:Nat} {t ty:TypeId} {pos:String} {z:List DVal} {Q:Exit->DS->Prop} (hi:i<B.nt) (hz:tZero P t=some z) (hp:z.all (EX [])=true) (hk:z.length=k) (wW:bs<=150000000000000)
  (h:∀r,Co B s<=r->Q .normal ⟨BI s.slots (some i) (.rx i r k 0 0),upE s.own i r (.row t k bs [z])⟩):DW P B (.region id #[⟨some i,.alloc t,ty,pos, #[],none⟩] false) Q s:=by
 intro a w loc R;refine wpIn_region ?_;rw[List.range_eq_range']
 show wpOpsIn _ _ _ _ _ [0] _ _
 simp only[wpOpsIn];have hw:Region.wanted (⟨some i,.alloc t,ty,pos, #[],none⟩:Oper) (yielded #[⟨some i,.alloc t,ty,pos, #[],none⟩] a.tmps)=true:=by simp[Region.wanted]
 simp only[dP0,bB0];rw[if_pos hw];obtain⟨zv,kK,rfl⟩:=HY (w:=w) hz;have vH:AI (cu s loc) (hm s loc B.M0) w.heap (zv.cells.toList.map Cm) zv.cells.toList:=BM _
 have vF:AR (zv.cells.toList.map Cm)=0:=by
  have h1:∀v,mx (Cm v)=0:=by
   intro v;unfold Cm
   split<;>(try split)<;>simp[mx]
  generalize zv.cells.toList=l
  induction l with
  | nil=>simp[AR]
  | cons v l ih=>simp only[List.map_cons,AR,h1,ih];rfl
 have qP:=GL R.st (zv.cells.toList.map Cm) zv.cells.toList (aV0.2 fun d hd=>Sr (aV0.1 hp d hd)) vH;have R':=R.newTyped (id:=i) (n:=Co B s) (k:=k) (bs:=bs) (ty:=t) (dst:=some i) (Nat.le_refl _) (by omega) (fun j hj=>by simp only[aA0]at hj;omega) vH qP hk wW
 have qB:(execOp a.eval ⟨some i,.alloc t,ty,pos, #[],none⟩).run P w= .ok (.value (.pointer (some ⟨w.heap.size,0,none⟩))) (w.alloc (.cells zv.cells.toList.toArray t)):=by
  simp[execOp,Instr.alloc,kK,newVar,newRow]
 exact Fg (fun c hc=>by cases hc) qB ⟨_,_,h _ (Nat.le_refl _),R'⟩
end
section
variable {P : Program} {ρ : Ren}
theorem VQ {T n:Nat} (hd:P.depth≠0) (hs:P.cellsOf T≠0) (hn:1<=n):liesAt P P.depth T n 0 T 1=true:=by
 obtain⟨d,hd⟩:∃d,P.depth=d+1:=⟨P.depth-1,by omega⟩;have h1:sameLayout P (d+1) T T=true:=by simp[sameLayout]
 rw[hd];unfold liesAt;rw[hd];unfold rowAt;simp[hs,hn,h1]
theorem uD (w:World) (g n:Nat):Upd [g] w (w.drew.freeze ⟨g,0,none⟩ n):=by
 unfold World.freeze
 split
 ·exact Upd.drew _ w
 ·refine⟨rfl,rfl,rfl,fun _=>Nat.le_succ _,by simp,fun b hb qC=> ?_⟩;simp only[aG0]at qC;simp only[cJ0];rw[if_neg (fun h=>qC h.symm)];rfl
set_option maxRecDepth 100000 in
theorem Hb (L:Lays.n169 P ρ) (X:Builder.Extra P ρ) (b g cap:Nat) (p:Value) (cs cur:Array Value) (l:List UInt8) (w:World) (h0:l≠[]) (hb:w.heap[b]? =some (.cells cs (ρ.t 72) (0,0))) (wQ:cs[1]? =some (.slice (some ⟨g,0,none⟩) l.length cap))
  (hg:w.heap[g]? =some (.cells cur (ρ.t 5) (0,0))) (hnc:l.length<=cap) (hcm:cap<=maxLen) (zS:cur.size=cap) (htake:cur.toList.take l.length=Lib.byteCells l) :
  Calls P (ρ.f 169) #[.pointer (some ⟨b,0,none⟩)] w fun e w'=>e= .returned (.string ⟨l.toArray⟩)/\Upd [g] w w'/\w'=w.drew.freeze ⟨g,0,none⟩ l.length:=by
 have bQ:l.length≠0:=by simpa using h0
 have c1:w.drew.cell? ⟨b,1,none⟩=some (.slice (some ⟨g,0,none⟩) l.length cap):=by
  have:w.drew.heap[b]? =some (.cells cs (ρ.t 72) (0,0)):=hb;rw[Lib.cell_of_heap this];exact wQ
 have hSD:(Builtin.unsafeSliceData_ #[(ρ.t 37)] (ρ.t 127) #[.slice (some ⟨g,0,none⟩) l.length cap]).run P w.drew= .ok (.pointer (some ⟨g,0,none⟩)) w.drew :=
  Lib.run_unsafeSliceData_row _ _ _ _ _ _ (by omega)
 have hUS:(Builtin.unsafeString_ #[(ρ.t 127),(ρ.t 3)] (ρ.t 9) #[.pointer (some ⟨g,0,none⟩),.int .i64 l.length]).run P w.drew= .ok (.string ⟨l.toArray⟩) (w.drew.freeze ⟨g,0,none⟩ l.length):=by
  refine Lib.run_unsafeString_row w.drew (ρ.t 127) (ρ.t 3) (ρ.t 9) (ρ.t 5) L.t127 X.cellsByte g cur.size (by have hg':w.drew.heap[g]? =some (.cells cur (ρ.t 5) (0,0)):=hg;simp[World.shape?,hg']) l h0 (by omega) (by unfold maxLen at hcm;omega) ?_;intro j x hx;have hg':w.drew.heap[g]? =some (.cells cur (ρ.t 5) (0,0)):=hg;have hadd:(⟨g,0,none⟩:Addr).add j=⟨g,j,none⟩:=by unfold Addr.add;split<;>simp_all
  rw[hadd,Lib.cell_of_heap hg'];have hj:j<l.length:=(aB0.1 hx).1;have h2:(Lib.byteCells l)[j]? =some (.int .u8 x.toNat):=by simp[Lib.byteCells,hx]
  rw[<-htake,bX0 hj]at h2;simpa using h2
 have mixed:=L.mixed;have t72:=L.t72;have a72:=L.a72;have z72:=L.z72;have v72:=L.v72;have u72:=run_underlying L.t72;have t70:=L.t70;have a70:=L.a70;have z70:=L.z70;have v70:=L.v70;have u70:=run_underlying L.t70;have t37:=L.t37;have a37:=L.a37;have z37:=L.z37;have v37:=L.v37;have u37:=run_underlying L.t37;have t127:=L.t127;have a127:=L.a127;have z127:=L.z127;have v127:=L.v127;have u127:=run_underlying L.t127
 have t3:=L.t3;have a3:=L.a3;have z3:=L.z3;have v3:=L.v3;have u3:=run_underlying L.t3;have t9:=L.t9;have a9:=L.a9;have z9:=L.z9;have v9:=L.v9;have u9:=run_underlying L.t9;have t5:=X.t5;have a5:=X.a5;have z5:=X.z5;have v5:=X.v5;have u5:=run_underlying X.t5
 go_enter L.f169,Body.n169_ntmps ρ
 go_wp2
 go_region_o
 all_goals (go_wp2;go_ret;exact⟨rfl,uD w g l.length,rfl⟩)
theorem IF {cur:Fb} {M:List Nat} {H:Array Obj} {d0 d1:DVal} {arr:Array Value} (h:EB cur M H 2 [[d0,d1]] arr 0):∃v0 v1 rest,arr=(v0::v1::rest).toArray/\rd cur M H d0 v0/\rd cur M H d1 v1:=by
 obtain⟨rows,r1,r2,r3,r4⟩:=FG 2 _ arr 0 h
 match rows,r1 with
 | [us],_ =>
  obtain⟨g1,g2,g3⟩:=r3 0 _ _ rfl rfl;simp only[AI]at g2;obtain⟨v0,r,rfl,h0,v1,r',rfl,h1,rfl⟩:=g2;have e0:=(r4 0 v0 (by simp)).1;have e1:=(r4 1 v1 (by simp)).1;obtain⟨l⟩:=arr
  match l,e0,e1 with
  | x::y::rest,e0,e1 =>
   simp at e0 e1;subst e0;subst e1;exact⟨x,y,rest,rfl,h0,h1⟩
theorem Yu {cur:Fb} {M:List Nat} {H:Array Obj} {d0 d1:DVal} {v0 v1:Value} {rest:List Value} (h0:rd cur M H d0 v0) (h1:rd cur M H d1 v1) (o0:v0.oneCell'=true) (o1:v1.oneCell'=true):EB cur M H 2 [[d0,d1]] (v0::v1::rest).toArray 0:=by
 have:=Xs (cur:=cur) (M:=M) (H:=H) 2 [[d0,d1]] [[v0,v1]] rest rfl (by
  intro i c u hc hu
  cases i with
  | zero =>
   simp only[bB0,aA0]at hc hu;subst hc;subst hu;exact⟨rfl,⟨v0,_,rfl,h0,v1,_,rfl,h1,rfl⟩,by simp[o0,o1]⟩
  | succ i=>simp at hc)
 simpa using this
theorem Qs {g T:Nat} (hd:P.depth≠0) (hs:P.cellsOf T=2) (hE:Enters P g) (bs:Nat)
  (vK:∀(b n:Nat) (w:World),w.cell? ⟨b,0,none⟩=some (.pointer none)->w.shape? b=some (T,n)->0<n->liesAt P P.depth T (n/P.cellsOf T) 0 T 1=true->w.frozen? ⟨b,0,none⟩=false ->
   Calls P g #[.pointer (some ⟨b,0,none⟩)] w fun e w'=>e= .returned (.tuple #[])/\w'=w.setCell ⟨b,0,none⟩ (.pointer (some ⟨b,0,none⟩))) :
  AS P (.func g) [.rx 0 0 2 0 0] [⟨0,0,.row T 2 bs [[.nilp,.nilsl]]⟩] (.tup []) [⟨0,0,.row T 2 bs [[.rx 0 0 2 0 0,.nilsl]]⟩]:=by
 refine⟨by simp,hE,fun M w loc vs S vU=> ?_⟩;have hk:=S.ok _ (aG0.2 rfl);obtain⟨wW,hk⟩:=hk
 rcases hk with ⟨h,_⟩ | ⟨b,arr,cap,h1,h2,h3,h4,h5,h6,h7⟩
 ·simp at h
 ·obtain⟨v0,v1,rest,rfl,g0,g1⟩:=IF h7;simp only[rd]at g0 g1;subst g0;subst g1;have qE:Ae [(⟨0,0,.row T 2 bs [[.nilp,.nilsl]]⟩:Ent)] loc 0 0=some (loc 0):=by simp[Ae,Ar]
  simp only[AI,rd]at vU;obtain⟨pv,r,vU,hp,rfl⟩:=vU;obtain⟨b',qD,rfl⟩:=hp _ qE;simp only at h1 h2;rw[h1]at qD;simp only[bG0,and_true]at qD;subst qD;have vD:vs= #[.pointer (some ⟨b,0,none⟩)]:=by apply Array.ext';simpa using vU
  subst vD;have qH:2<=(Array.size (Value.pointer none::Value.slice none 0 0::rest).toArray):=by simp
  refine⟨hE,(vK b (rest.length+2) w (by rw[Lib.cell_of_heap h3];rfl) (by simp[World.shape?,h3]) (by omega) (VQ hd (by omega) (by rw[hs];omega)) (Lib.frozen_of_heap h3 0)).mono ?_⟩;rintro e w' ⟨rfl,rfl⟩;refine⟨_,rfl,loc,?_,?_,?_,?_,?_⟩
  ·have vR:=setCell_eq_setRow w b 0 _ _ _ (.pointer (some ⟨b,0,none⟩)) h3;rw[vR];refine⟨S.nd,S.bl,S.ap,fun q hq=>by have:=S.lt q hq;simpa using this,fun e he=> ?_⟩;simp only[aG0]at he;subst he;refine⟨wW,.inr ⟨b,_,cap,h1,h2,setRow_heap w b _ _ _ (0,0) h3,h4,h5,by simpa using h6,?_⟩⟩
   have:=Yu (cur:=Ae [(⟨0,0,.row T 2 bs [[.rx 0 0 2 0 0,.nilsl]]⟩:Ent)] loc) (M:=Ab [(⟨0,0,.row T 2 bs [[.rx 0 0 2 0 0,.nilsl]]⟩:Ent)] loc++M) (H:=(w.setRow b ((Value.pointer none::Value.slice none 0 0::rest).toArray.setIfInBounds 0 (.pointer (some ⟨b,0,none⟩)))).heap)
    (d0:= .rx 0 0 2 0 0) (d1:= .nilsl) (v0:= .pointer (some ⟨b,0,none⟩)) (v1:= .slice none 0 0) (rest:=rest) (by
     simp only[rd];intro l hl;have cM:Ae [(⟨0,0,.row T 2 bs [[.rx 0 0 2 0 0,.nilsl]]⟩:Ent)] loc 0 0=some (loc 0):=by simp[Ae,Ar]
     rw[cM]at hl;simp only[aA0]at hl;subst hl
     exact⟨b,h1,by simp⟩) (by simp[rd]) rfl rfl
   simpa using this
  ·refine⟨rfl,rfl,rfl,fun _=>Nat.le_refl _,by simp[World.setCell],fun q hq qC=> ?_⟩
   have hqb:b≠q:=by
    intro h;subst h;exact qC (by simp[Ab,h1])
   simp[World.setCell,cJ0,hqb]
  ·intro q hq;exact .inl hq
  ·intro e he _;simp only[aG0]at he;subst he;exact qE
  ·simp[rd,AI]
theorem Qr {g T:Nat} (hE:Enters P g) (bs:Nat) (q:DVal) (rest:List Ent) (hr:∀e∈rest,e.r=0)
  (vK:∀(b:Nat) (w:World),w.cell? ⟨b,0,none⟩=some (.pointer (some ⟨b,0,none⟩))->Calls P g #[.pointer (some ⟨b,0,none⟩)] w fun e w'=>e= .returned (.tuple #[])/\w'=w) :
  AS P (.func g) [.rx 0 0 2 0 0] (⟨0,0,.row T 2 bs [[.rx 0 0 2 0 0,q]]⟩::rest) (.tup []) (⟨0,0,.row T 2 bs [[.rx 0 0 2 0 0,q]]⟩::rest):=by
 refine⟨fun e he=>by rcases aJ0.1 he with rfl | he<;>simp_all,hE,fun M w loc vs S vU=> ?_⟩;have hk:=S.ok _ aE0;obtain⟨wW,hk⟩:=hk
 rcases hk with ⟨h,_⟩ | ⟨b,arr,cap,h1,h2,h3,h4,h5,h6,h7⟩
 ·simp at h
 ·obtain⟨v0,v1,rs,rfl,g0,g1⟩:=IF h7;simp only[rd]at g0;have qE:Ae ((⟨0,0,.row T 2 bs [[.rx 0 0 2 0 0,q]]⟩:Ent)::rest) loc 0 0=some (loc 0):=by simp[Ae,Ar]
  obtain⟨b0,qR,rfl⟩:=g0 _ qE;simp only[AI,rd]at vU;obtain⟨pv,r,vU,hp,rfl⟩:=vU;obtain⟨b',qD,rfl⟩:=hp _ qE;simp only at h1 h2;rw[h1]at qD qR;simp only[bG0,and_true]at qD qR;subst qD;subst qR;have vD:vs= #[.pointer (some ⟨b,0,none⟩)]:=by apply Array.ext';simpa using vU
  subst vD;refine⟨hE,(vK b w (by rw[Lib.cell_of_heap h3];rfl)).mono ?_⟩;rintro e w' ⟨rfl,rfl⟩;refine⟨_,rfl,loc,S,Upd.refl _ _,fun q hq=> .inl hq,fun e he _=>AV S.nd he,by simp[rd,AI]⟩
theorem LJ (L:Lays.n169 P ρ) (X:Builder.Extra P ρ) (hE:Enters P (ρ.f 169)) (bs:Nat) (x:ByteArray) (hx:x.size≠0) :
  AS P (.func (ρ.f 169)) [.rx 0 0 2 0 0] [⟨0,0,.row (ρ.t 72) 2 bs [[.rx 0 0 2 0 0,.osl 1 0]]⟩,⟨1,0,.row (ρ.t 5) 1 1 (Ba x)⟩] (.str x) []:=by
 refine⟨by simp,hE,fun M w loc vs S vU=> ?_⟩;have hk:=S.ok _ aE0;have yI:=S.ok _ (aC0 _ aE0);obtain⟨wW,hk⟩:=hk;obtain⟨hbs2,yI⟩:=yI
 rcases hk with ⟨h,_⟩ | ⟨b,arr,cap,h1,h2,h3,h4,h5,h6,h7⟩
 ·simp at h
 rcases yI with ⟨h,_⟩ | ⟨g,cur,cap2,k1,k2,k3,k4,k5,k6,k7⟩
 ·have:=congrArg List.length h;rw[Bf]at this;exact absurd this hx
 ·obtain⟨v0,v1,rest,rfl,g0,g1⟩:=IF h7;simp only[rd]at g0 g1;have qE:Ae [(⟨0,0,.row (ρ.t 72) 2 bs [[.rx 0 0 2 0 0,.osl 1 0]]⟩:Ent),⟨1,0,.row (ρ.t 5) 1 1 (Ba x)⟩] loc 0 0=some (loc 0):=by simp[Ae,Ar]
  have mM:Ae [(⟨0,0,.row (ρ.t 72) 2 bs [[.rx 0 0 2 0 0,.osl 1 0]]⟩:Ent),⟨1,0,.row (ρ.t 5) 1 1 (Ba x)⟩] loc 1 0=some (loc 1):=by simp[Ae,Ar]
  have gY:=g1 _ mM;simp only at k1 k2;rw[k2,Bf]at gY;subst gY;simp only[AI,rd]at vU;obtain⟨pv,r,vU,hp,rfl⟩:=vU;obtain⟨b',qD,rfl⟩:=hp _ qE;simp only at h1 h2;rw[h1]at qD;simp only[bG0,and_true]at qD;subst qD;have vD:vs= #[.pointer (some ⟨b,0,none⟩)]:=by apply Array.ext';simpa using vU
  subst vD;have hxl:x.data.toList.length=x.size:=rfl;obtain⟨rows,r1,r2,r3,r4⟩:=FG 1 _ cur 0 k7
  have zN:rows.flatten=Lib.byteCells x.data.toList:=by
   have:∀(bl:List UInt8) (rows:List (List Value)),rows.length=bl.length->(∀(i:Nat) (cs:List DVal) (us:List Value),(bl.map fun b=>[DVal.int .u8 (b.toNat:Int)])[i]? =some cs->rows[i]? =some us->cs.length=1/\AI (Ae [(⟨0,0,.row (ρ.t 72) 2 bs [[.rx 0 0 2 0 0,.osl 1 0]]⟩:Ent),⟨1,0,.row (ρ.t 5) 1 1 (Ba x)⟩] loc) (Ab [(⟨0,0,.row (ρ.t 72) 2 bs [[.rx 0 0 2 0 0,.osl 1 0]]⟩:Ent),⟨1,0,.row (ρ.t 5) 1 1 (Ba x)⟩] loc++M) w.heap cs us/\∀u∈us,u.oneCell'=true)->rows.flatten=Lib.byteCells bl:=by
    intro bl
    induction bl with
    | nil=>intro rows hl _;rw[bO0 hl];rfl
    | cons y bl ih =>
     intro rows hl h
     match rows,hl with
     | us::rows,hl =>
      obtain⟨_,h1,_⟩:=h 0 _ _ rfl rfl;simp only[AI,rd]at h1;obtain⟨v,r,rfl,⟨rfl,_⟩,rfl⟩:=h1;have:=ih rows (by simpa using hl) fun i cs us hc hu=>h (i+1) cs us (by simpa using hc) (by simpa using hu)
      simp[this,Lib.byteCells]
   exact this x.data.toList rows (by rw[r1,Bf];rfl) r3
  rw[Bf]at k4 r2;have hcsz:cur.size=cap2:=by omega
  have ht:=HX r2 r4 (by omega);rw[zN,Nat.mul_one]at ht;refine⟨hE,(Hb L X b g cap2 v0 _ cur x.data.toList w (fun h=>hx (by rw[<-hxl,h];rfl)) h3 rfl k3 k4 k5 hcsz ht).mono ?_⟩;rintro e w' ⟨rfl,hu,_⟩;refine⟨_,rfl,loc,⟨by simp,by simp[Ab],by simp[Ab],fun q hq=> ?_,by simp⟩,?_,by simp[Ab],by simp,?_⟩
  ·have:=S.lt q (aP0 _ (by simpa[Ab]using hq));exact bY0 this hu.size
  ·refine⟨hu.os,hu.tape,hu.output,hu.drawn,hu.size,fun q hq qC=>hu.blk q hq fun hm=>qC ?_⟩;simp only[aG0]at hm;subst hm;simp[Ab,k1]
  ·simp only[rd];exact⟨trivial,by omega⟩
theorem KP (L:Lays.n169 P ρ) (X:Builder.Extra P ρ) (hE:Enters P (ρ.f 169)) (bs:Nat) (x:ByteArray) (hx:x.size≠0) :
  AS P (.func (ρ.f 169)) [.rx 0 0 2 0 0] [⟨0,0,.row (ρ.t 72) 2 bs [[.rx 0 0 2 0 0,.osl 1 0]]⟩,⟨1,0,.row (ρ.t 5) 1 1 (Ba x)⟩] (.str x) [⟨0,0,.row (ρ.t 72) 2 bs [[.rx 0 0 2 0 0,.sl 1 1 (Ba x)]]⟩]:=by
 refine⟨by simp,hE,fun M w loc vs S vU=> ?_⟩;have hk:=S.ok _ aE0;have yI:=S.ok _ (aC0 _ aE0);obtain⟨wW,hk⟩:=hk;obtain⟨hbs2,yI⟩:=yI
 rcases hk with ⟨h,_⟩ | ⟨b,arr,cap,h1,h2,h3,h4,h5,h6,h7⟩
 ·simp at h
 rcases yI with ⟨h,_⟩ | ⟨g,cur,cap2,k1,k2,k3,k4,k5,k6,k7⟩
 ·have:=congrArg List.length h;rw[Bf]at this;exact absurd this hx
 ·obtain⟨v0,v1,rest,rfl,g0,g1⟩:=IF h7;simp only[rd]at g0 g1;have qE:Ae [(⟨0,0,.row (ρ.t 72) 2 bs [[.rx 0 0 2 0 0,.osl 1 0]]⟩:Ent),⟨1,0,.row (ρ.t 5) 1 1 (Ba x)⟩] loc 0 0=some (loc 0):=by simp[Ae,Ar]
  have mM:Ae [(⟨0,0,.row (ρ.t 72) 2 bs [[.rx 0 0 2 0 0,.osl 1 0]]⟩:Ent),⟨1,0,.row (ρ.t 5) 1 1 (Ba x)⟩] loc 1 0=some (loc 1):=by simp[Ae,Ar]
  have gY:=g1 _ mM;simp only at k1 k2;rw[k2,Bf]at gY;subst gY;simp only[AI,rd]at vU;obtain⟨pv,r,vU,hp,rfl⟩:=vU;obtain⟨b',qD,rfl⟩:=hp _ qE;simp only at h1 h2;rw[h1]at qD;simp only[bG0,and_true]at qD;subst qD;have vD:vs= #[.pointer (some ⟨b,0,none⟩)]:=by apply Array.ext';simpa using vU
  subst vD;have hxl:x.data.toList.length=x.size:=rfl;obtain⟨rows,r1,r2,r3,r4⟩:=FG 1 _ cur 0 k7
  have zN:rows.flatten=Lib.byteCells x.data.toList:=by
   have:∀(bl:List UInt8) (rows:List (List Value)),rows.length=bl.length->(∀(i:Nat) (cs:List DVal) (us:List Value),(bl.map fun b=>[DVal.int .u8 (b.toNat:Int)])[i]? =some cs->rows[i]? =some us->cs.length=1/\AI (Ae [(⟨0,0,.row (ρ.t 72) 2 bs [[.rx 0 0 2 0 0,.osl 1 0]]⟩:Ent),⟨1,0,.row (ρ.t 5) 1 1 (Ba x)⟩] loc) (Ab [(⟨0,0,.row (ρ.t 72) 2 bs [[.rx 0 0 2 0 0,.osl 1 0]]⟩:Ent),⟨1,0,.row (ρ.t 5) 1 1 (Ba x)⟩] loc++M) w.heap cs us/\∀u∈us,u.oneCell'=true)->rows.flatten=Lib.byteCells bl:=by
    intro bl
    induction bl with
    | nil=>intro rows hl _;rw[bO0 hl];rfl
    | cons y bl ih =>
     intro rows hl h
     match rows,hl with
     | us::rows,hl =>
      obtain⟨_,h1,_⟩:=h 0 _ _ rfl rfl;simp only[AI,rd]at h1;obtain⟨v,r,rfl,⟨rfl,_⟩,rfl⟩:=h1;have:=ih rows (by simpa using hl) fun i cs us hc hu=>h (i+1) cs us (by simpa using hc) (by simpa using hu)
      simp[this,Lib.byteCells]
   exact this x.data.toList rows (by rw[r1,Bf];rfl) r3
  rw[Bf]at k4 r2;have hcsz:cur.size=cap2:=by omega
  have ht:=HX r2 r4 (by omega);rw[zN,Nat.mul_one]at ht;refine⟨hE,(Hb L X b g cap2 v0 _ cur x.data.toList w (fun h=>hx (by rw[<-hxl,h];rfl)) h3 rfl k3 k4 k5 hcsz ht).mono ?_⟩;rintro e w' ⟨rfl,hu,hw⟩;have kO:=g0 _ qE;obtain⟨b2,wB,rfl⟩:=kO;rw[h1]at wB;simp only[bG0,and_true]at wB;subst wB;have gN:=S.bl;have hap:=S.ap;simp only[Ab,cO0,List.flatMap_nil,h1,k1,bR0,List.cons_append,List.nil_append,cS0,aG0]at gN
  have hbg:b≠g:=gN.1;have hbM:b∉M:=hap b (by simp[Ab,h1]);have hgM:g∉M:=hap g (by simp[Ab,k1]);have fS:=(aF0.1 h3).1;have hglt:=(aF0.1 k3).1;have hH:Ab [(⟨0,0,.row (ρ.t 72) 2 bs [[.rx 0 0 2 0 0,.sl 1 1 (Ba x)]]⟩:Ent)] loc=[b]:=by simp[Ab,h1]
  have hhb:w'.heap[b]? =some (.cells (Value.pointer (some ⟨b,0*2+0,none⟩):: .slice (some ⟨g,0,none⟩) x.size cap2::rest).toArray (ρ.t 72) (0,0)):=by rw[hu.blk b fS (by simpa using hbg)];exact h3
  have hhg:∃fz,w'.heap[g]? =some (.cells cur (ρ.t 5) fz):=by
   rw[hw];unfold World.freeze;rw[if_neg (by rw[hxl];exact hx)];have:w.drew.heap[g]? =some (.cells cur (ρ.t 5) (0,0)):=k3;simp only[cJ0,if_true,this];exact⟨_,rfl⟩
  have W:Weak (Ae [(⟨0,0,.row (ρ.t 72) 2 bs [[.rx 0 0 2 0 0,.osl 1 0]]⟩:Ent),⟨1,0,.row (ρ.t 5) 1 1 (Ba x)⟩] loc) (Ae [(⟨0,0,.row (ρ.t 72) 2 bs [[.rx 0 0 2 0 0,.sl 1 1 (Ba x)]]⟩:Ent)] loc) (Ab [(⟨0,0,.row (ρ.t 72) 2 bs [[.rx 0 0 2 0 0,.osl 1 0]]⟩:Ent),⟨1,0,.row (ρ.t 5) 1 1 (Ba x)⟩] loc++M) ([b]++M) w.heap w'.heap 0:=by
   refine⟨fun id r l hr _=>absurd hr (dU0 _),fun q o hq _ ho=> ?_,fun q o hq _ _ hm=>hq ?_⟩
   ·rw[hu.blk q (aF0.1 ho).1 (fun hm=>hq ?_)]
    ·exact ho
    ·simp only[aG0]at hm;subst hm;simp[Ab,k1]
   ·rcases aI0.1 hm with hm | hm
    ·simp only[aG0]at hm;subst hm;simp[Ab,h1]
    ·exact aP0 _ hm
  refine⟨_,rfl,loc,⟨by simp,by rw[hH];simp,fun q hq=> ?_,fun q hq=> ?_,?_⟩,?_,fun q hq=> ?_,?_,?_⟩
  ·rw[hH]at hq;simp only[aG0]at hq;subst hq;exact hbM
  ·rw[hH]at hq;refine bY0 (S.lt q ?_) hu.size
   rcases aI0.1 hq with hq | hq
   ·simp only[aG0]at hq;subst hq;simp[Ab,h1]
   ·exact aP0 _ hq
  ·intro e he;simp only[aG0]at he;subst he;rw[hH];refine⟨by simpa using wW,.inr ⟨b,_,cap,h1,by simpa using h2,hhb,by simpa using h4,h5,h6,Yu ?_ ?_ rfl rfl⟩⟩
   ·simp only[rd];intro l hl;have:Ae [(⟨0,0,.row (ρ.t 72) 2 bs [[.rx 0 0 2 0 0,.sl 1 1 (Ba x)]]⟩:Ent)] loc 0 0=some (loc 0):=by simp[Ae,Ar]
    rw[this]at hl;simp only[aA0]at hl;subst hl;exact⟨b,h1,rfl⟩
   ·simp only[rd];obtain⟨fz,hfz⟩:=hhg;rw[Bf]
    exact⟨_,_,rfl,by simpa[Bf]using k4,k5,by simpa[Bf]using hbs2,.inr ⟨g,0,cur,_,fz,rfl,fun hm=>by
     rcases aI0.1 hm with hm | hm
     ·simp only[aG0]at hm;exact hbg hm.symm
     ·exact hgM hm,hfz,Cx W 1 _ cur 0 (by rw[Gv];exact Nat.le_refl _) k7⟩⟩
  ·refine⟨hu.os,hu.tape,hu.output,hu.drawn,hu.size,fun q hq qC=>hu.blk q hq fun hm=>qC ?_⟩;simp only[aG0]at hm;subst hm;simp[Ab,k1]
  ·rw[hH]at hq;simp only[aG0]at hq;subst hq;exact .inl (by simp[Ab,h1])
  ·intro e he _;simp only[aG0]at he;subst he;exact qE
  ·simp only[rd];exact⟨trivial,by omega⟩
end
end Go.Dm
end
section

/-
  DERIVED: THE SHELF's CONTRACTS AT THIS DUMP, IN PLAIN WORDS (tools/lay-plain.mjs out of 'YtchgnpnbcjflcaaGreatLay.lean', which tools/lay-shelf.mjs wrote): THE SAME DECLARATIONS UNDER THE SAME NAMES: 'import', 'namespace', 'open', 'def', 'theorem' AND NOTHING ELSE: no command of the shelf's: FOR A HAND-IN. Each laying: the table of numbers ('.._ren') and one theorem, a field a fact of the dump's own or the kernel's comparison; each contract: ONE APPLICATION.
-/
namespace Go.Proofs
open Go.Shelf
def Tryz.sortStr_ren : Go.Shelf.Ren:=⟨fun | 6=>258 | 8=>187 | 9=>317 | 19=>274 | 20=>275 | 21=>339 | 22=>340 | 23=>341 | 24=>342 | 25=>343 | 26=>344 | 27=>345 | 28=>346 | 29=>347 | 36=>353 | 31=>325 | 32=>326 | 37=>354 | 38=>355 | 39=>335 | 41=>357 | n=>n,fun | 27=>46 | 29=>9 | 3=>3 | 32=>256 | 26=>46 | 0=>0 | 44=>314 | 46=>316 | 4=>4 | 36=>308 | 35=>307 | 41=>243 | 5=>5 | 9=>9 | 53=>353 | 57=>357 | 63=>372 | 64=>328 | n=>n,fun | n=>n⟩
theorem Tryz.sortStr : Go.Proofs.SlLaysM.n6 Tryz.prog Tryz.sortStr_ren:={
 mixed:=by kernel_rfl
 f6:=⟨Tryz.f258.name,by decide,Tryz.func258.trans (congrArg some (by kernel_rfl))⟩
 f8:=Tryz.func187.trans (congrArg some (by kernel_rfl))
 f9:=⟨Tryz.f317.name,by decide,Tryz.func317.trans (congrArg some (by kernel_rfl))⟩
 f19:=Tryz.func274.trans (congrArg some (by kernel_rfl))
 f20:=Tryz.func275.trans (congrArg some (by kernel_rfl))
 f21:=⟨Tryz.f339.name,by decide,Tryz.func339.trans (congrArg some (by kernel_rfl))⟩
 f22:=⟨Tryz.f340.name,by decide,Tryz.func340.trans (congrArg some (by kernel_rfl))⟩
 f23:=⟨Tryz.f341.name,by decide,Tryz.func341.trans (congrArg some (by kernel_rfl))⟩
 f24:=⟨Tryz.f342.name,by decide,Tryz.func342.trans (congrArg some (by kernel_rfl))⟩
 f25:=⟨Tryz.f343.name,by decide,Tryz.func343.trans (congrArg some (by kernel_rfl))⟩
 f26:=⟨Tryz.f344.name,by decide,Tryz.func344.trans (congrArg some (by kernel_rfl))⟩
 f27:=⟨Tryz.f345.name,by decide,Tryz.func345.trans (congrArg some (by kernel_rfl))⟩
 f28:=⟨Tryz.f346.name,by decide,Tryz.func346.trans (congrArg some (by kernel_rfl))⟩
 f29:=⟨Tryz.f347.name,by decide,Tryz.func347.trans (congrArg some (by kernel_rfl))⟩
 f31:=Tryz.func325.trans (congrArg some (by kernel_rfl))
 f32:=Tryz.func326.trans (congrArg some (by kernel_rfl))
 f36:=⟨Tryz.f353.name,by decide,Tryz.func353.trans (congrArg some (by kernel_rfl))⟩
 f37:=⟨Tryz.f354.name,by decide,Tryz.func354.trans (congrArg some (by kernel_rfl))⟩
 f38:=⟨Tryz.f355.name,by decide,Tryz.func355.trans (congrArg some (by kernel_rfl))⟩
 f39:=⟨Tryz.f335.name,by decide,Tryz.func335.trans (congrArg some (by kernel_rfl))⟩
 f41:=⟨Tryz.f357.name,by decide,Tryz.func357.trans (congrArg some (by kernel_rfl))⟩
 t0:=Tryz.underlying0
 a0:=Tryz.isAgg0
 z0:=Tryz.sizeOf0
 v0:=Tryz.zeroValue0
 t3:=Tryz.underlying3
 a3:=Tryz.isAgg3
 z3:=Tryz.sizeOf3
 v3:=Tryz.zeroValue3
 t4:=Tryz.underlying4
 a4:=Tryz.isAgg4
 z4:=Tryz.sizeOf4
 v4:=Tryz.zeroValue4
 t5:=Tryz.underlying5
 a5:=Tryz.isAgg5
 z5:=Tryz.sizeOf5
 v5:=Tryz.zeroValue5
 t9:=Tryz.underlying9
 a9:=Tryz.isAgg9
 z9:=Tryz.sizeOf9
 v9:=Tryz.zeroValue9
 t26:=Tryz.underlying46
 a26:=Tryz.isAgg46
 z26:=Tryz.sizeOf46
 v26:=Tryz.zeroValue46
 t27:=Tryz.underlying46
 a27:=Tryz.isAgg46
 z27:=Tryz.sizeOf46
 v27:=Tryz.zeroValue46
 t29:=Tryz.underlying9
 a29:=Tryz.isAgg9
 z29:=Tryz.sizeOf9
 v29:=Tryz.zeroValue9
 t32:=Tryz.underlying256
 a32:=Tryz.isAgg256
 z32:=Tryz.sizeOf256
 v32:=Tryz.zeroValue256
 t35:=Tryz.underlying307
 a35:=Tryz.isAgg307
 z35:=Tryz.sizeOf307
 v35:=Tryz.zeroValue307
 t36:=Tryz.underlying308
 a36:=Tryz.isAgg308
 z36:=Tryz.sizeOf308
 v36:=Tryz.zeroValue308
 t41:=Tryz.underlying243
 a41:=Tryz.isAgg243
 z41:=Tryz.sizeOf243
 v41:=Tryz.zeroValue243
 t44:=Tryz.underlying314
 a44:=Tryz.isAgg314
 z44:=Tryz.sizeOf314
 v44:=Tryz.zeroValue314
 t46:=Tryz.underlying316
 a46:=Tryz.isAgg316
 z46:=Tryz.sizeOf316
 v46:=Tryz.zeroValue316
 t53:=Tryz.underlying353
 a53:=Tryz.isAgg353
 z53:=Tryz.sizeOf353
 v53:=Tryz.zeroValue353
 t57:=Tryz.underlying357
 a57:=Tryz.isAgg357
 z57:=Tryz.sizeOf357
 v57:=Tryz.zeroValue357
 t63:=Tryz.underlying372
 a63:=Tryz.isAgg372
 z63:=Tryz.sizeOf372
 v63:=Tryz.zeroValue372
 t64:=Tryz.underlying328
 a64:=Tryz.isAgg328
 z64:=Tryz.sizeOf328
 v64:=Tryz.zeroValue328 }
def Tryz.bldString_ren : Go.Shelf.Ren:=⟨fun | 169=>306 | n=>n,fun | 70=>335 | 9=>9 | 0=>0 | 72=>338 | 37=>336 | 127=>363 | 3=>3 | 5=>5 | n=>n,fun | n=>n⟩
theorem Tryz.bldString : Go.Proofs.Lays.n169 Tryz.prog Tryz.bldString_ren:={
 mixed:=by kernel_rfl
 f169:=Tryz.func306.trans (congrArg some (by kernel_rfl))
 t0:=Tryz.underlying0
 a0:=Tryz.isAgg0
 z0:=Tryz.sizeOf0
 v0:=Tryz.zeroValue0
 t3:=Tryz.underlying3
 a3:=Tryz.isAgg3
 z3:=Tryz.sizeOf3
 v3:=Tryz.zeroValue3
 t9:=Tryz.underlying9
 a9:=Tryz.isAgg9
 z9:=Tryz.sizeOf9
 v9:=Tryz.zeroValue9
 t37:=Tryz.underlying336
 a37:=Tryz.isAgg336
 z37:=Tryz.sizeOf336
 v37:=Tryz.zeroValue336
 t70:=Tryz.underlying335
 a70:=Tryz.isAgg335
 z70:=Tryz.sizeOf335
 v70:=Tryz.zeroValue335
 t72:=Tryz.underlying338
 a72:=Tryz.isAgg338
 z72:=Tryz.sizeOf338
 v72:=Tryz.zeroValue338
 t127:=Tryz.underlying363
 a127:=Tryz.isAgg363
 z127:=Tryz.sizeOf363
 v127:=Tryz.zeroValue363 }
def Tryz.sortFArc_ren : Go.Shelf.Ren:=⟨fun | 6=>108 | 15=>187 | 14=>186 | 28=>274 | 29=>275 | 20=>266 | 21=>267 | 22=>268 | 23=>269 | 24=>270 | 25=>271 | 26=>272 | 27=>273 | 46=>324 | 47=>325 | 48=>326 | 49=>327 | 50=>328 | 57=>349 | n=>n,fun | 22=>37 | 24=>97 | 25=>172 | 3=>3 | 39=>256 | 0=>0 | 53=>314 | 55=>316 | 4=>4 | 46=>308 | 45=>307 | 50=>243 | 5=>5 | 9=>9 | 66=>353 | 70=>357 | 76=>372 | 77=>328 | n=>n,fun | n=>n⟩
theorem Tryz.sortFArc : Go.Proofs.SlLaysF0.n6 Tryz.prog Tryz.sortFArc_ren:={
 mixed:=by kernel_rfl
 f6:=⟨Tryz.f108.name,by decide,Tryz.func108.trans (congrArg some (by kernel_rfl))⟩
 f14:=⟨Tryz.f186.name,by decide,Tryz.func186.trans (congrArg some (by kernel_rfl))⟩
 f15:=Tryz.func187.trans (congrArg some (by kernel_rfl))
 f20:=⟨Tryz.f266.name,by decide,Tryz.func266.trans (congrArg some (by kernel_rfl))⟩
 f21:=⟨Tryz.f267.name,by decide,Tryz.func267.trans (congrArg some (by kernel_rfl))⟩
 f22:=⟨Tryz.f268.name,by decide,Tryz.func268.trans (congrArg some (by kernel_rfl))⟩
 f23:=⟨Tryz.f269.name,by decide,Tryz.func269.trans (congrArg some (by kernel_rfl))⟩
 f24:=⟨Tryz.f270.name,by decide,Tryz.func270.trans (congrArg some (by kernel_rfl))⟩
 f25:=⟨Tryz.f271.name,by decide,Tryz.func271.trans (congrArg some (by kernel_rfl))⟩
 f26:=⟨Tryz.f272.name,by decide,Tryz.func272.trans (congrArg some (by kernel_rfl))⟩
 f27:=⟨Tryz.f273.name,by decide,Tryz.func273.trans (congrArg some (by kernel_rfl))⟩
 f28:=Tryz.func274.trans (congrArg some (by kernel_rfl))
 f29:=Tryz.func275.trans (congrArg some (by kernel_rfl))
 f46:=⟨Tryz.f324.name,by decide,Tryz.func324.trans (congrArg some (by kernel_rfl))⟩
 f47:=Tryz.func325.trans (congrArg some (by kernel_rfl))
 f48:=Tryz.func326.trans (congrArg some (by kernel_rfl))
 f49:=⟨Tryz.f327.name,by decide,Tryz.func327.trans (congrArg some (by kernel_rfl))⟩
 f50:=⟨Tryz.f328.name,by decide,Tryz.func328.trans (congrArg some (by kernel_rfl))⟩
 f57:=⟨Tryz.f349.name,by decide,Tryz.func349.trans (congrArg some (by kernel_rfl))⟩
 t0:=Tryz.underlying0
 a0:=Tryz.isAgg0
 z0:=Tryz.sizeOf0
 v0:=Tryz.zeroValue0
 t3:=Tryz.underlying3
 a3:=Tryz.isAgg3
 z3:=Tryz.sizeOf3
 v3:=Tryz.zeroValue3
 t4:=Tryz.underlying4
 a4:=Tryz.isAgg4
 z4:=Tryz.sizeOf4
 v4:=Tryz.zeroValue4
 t5:=Tryz.underlying5
 a5:=Tryz.isAgg5
 z5:=Tryz.sizeOf5
 v5:=Tryz.zeroValue5
 t9:=Tryz.underlying9
 a9:=Tryz.isAgg9
 z9:=Tryz.sizeOf9
 v9:=Tryz.zeroValue9
 t22:=Tryz.underlying37
 a22:=Tryz.isAgg37
 z22:=Tryz.sizeOf37
 v22:=Tryz.zeroValue37
 t25:=Tryz.underlying172
 a25:=Tryz.isAgg172
 z25:=Tryz.sizeOf172
 v25:=Tryz.zeroValue172
 t39:=Tryz.underlying256
 a39:=Tryz.isAgg256
 z39:=Tryz.sizeOf256
 v39:=Tryz.zeroValue256
 t45:=Tryz.underlying307
 a45:=Tryz.isAgg307
 z45:=Tryz.sizeOf307
 v45:=Tryz.zeroValue307
 t46:=Tryz.underlying308
 a46:=Tryz.isAgg308
 z46:=Tryz.sizeOf308
 v46:=Tryz.zeroValue308
 t50:=Tryz.underlying243
 a50:=Tryz.isAgg243
 z50:=Tryz.sizeOf243
 v50:=Tryz.zeroValue243
 t53:=Tryz.underlying314
 a53:=Tryz.isAgg314
 z53:=Tryz.sizeOf314
 v53:=Tryz.zeroValue314
 t55:=Tryz.underlying316
 a55:=Tryz.isAgg316
 z55:=Tryz.sizeOf316
 v55:=Tryz.zeroValue316
 t66:=Tryz.underlying353
 a66:=Tryz.isAgg353
 z66:=Tryz.sizeOf353
 v66:=Tryz.zeroValue353
 t70:=Tryz.underlying357
 a70:=Tryz.isAgg357
 z70:=Tryz.sizeOf357
 v70:=Tryz.zeroValue357
 t76:=Tryz.underlying372
 a76:=Tryz.isAgg372
 z76:=Tryz.sizeOf372
 v76:=Tryz.zeroValue372
 t77:=Tryz.underlying328
 a77:=Tryz.isAgg328
 z77:=Tryz.sizeOf328
 v77:=Tryz.zeroValue328 }
def Tryz.sortProd_ren : Go.Shelf.Ren:=⟨fun | 6=>122 | 15=>187 | 14=>195 | 28=>274 | 29=>275 | 20=>286 | 21=>287 | 22=>288 | 23=>289 | 24=>290 | 25=>291 | 26=>292 | 27=>293 | 46=>332 | 47=>325 | 48=>326 | 49=>333 | 50=>334 | 57=>351 | n=>n,fun | 22=>27 | 24=>92 | 25=>187 | 3=>3 | 39=>256 | 0=>0 | 53=>314 | 55=>316 | 4=>4 | 46=>308 | 45=>307 | 50=>243 | 5=>5 | 9=>9 | 66=>353 | 70=>357 | 76=>372 | 77=>328 | n=>n,fun | n=>n⟩
theorem Tryz.sortProd : Go.Proofs.SlLaysF0.n6 Tryz.prog Tryz.sortProd_ren:={
 mixed:=by kernel_rfl
 f6:=⟨Tryz.f122.name,by decide,Tryz.func122.trans (congrArg some (by kernel_rfl))⟩
 f14:=⟨Tryz.f195.name,by decide,Tryz.func195.trans (congrArg some (by kernel_rfl))⟩
 f15:=Tryz.func187.trans (congrArg some (by kernel_rfl))
 f20:=⟨Tryz.f286.name,by decide,Tryz.func286.trans (congrArg some (by kernel_rfl))⟩
 f21:=⟨Tryz.f287.name,by decide,Tryz.func287.trans (congrArg some (by kernel_rfl))⟩
 f22:=⟨Tryz.f288.name,by decide,Tryz.func288.trans (congrArg some (by kernel_rfl))⟩
 f23:=⟨Tryz.f289.name,by decide,Tryz.func289.trans (congrArg some (by kernel_rfl))⟩
 f24:=⟨Tryz.f290.name,by decide,Tryz.func290.trans (congrArg some (by kernel_rfl))⟩
 f25:=⟨Tryz.f291.name,by decide,Tryz.func291.trans (congrArg some (by kernel_rfl))⟩
 f26:=⟨Tryz.f292.name,by decide,Tryz.func292.trans (congrArg some (by kernel_rfl))⟩
 f27:=⟨Tryz.f293.name,by decide,Tryz.func293.trans (congrArg some (by kernel_rfl))⟩
 f28:=Tryz.func274.trans (congrArg some (by kernel_rfl))
 f29:=Tryz.func275.trans (congrArg some (by kernel_rfl))
 f46:=⟨Tryz.f332.name,by decide,Tryz.func332.trans (congrArg some (by kernel_rfl))⟩
 f47:=Tryz.func325.trans (congrArg some (by kernel_rfl))
 f48:=Tryz.func326.trans (congrArg some (by kernel_rfl))
 f49:=⟨Tryz.f333.name,by decide,Tryz.func333.trans (congrArg some (by kernel_rfl))⟩
 f50:=⟨Tryz.f334.name,by decide,Tryz.func334.trans (congrArg some (by kernel_rfl))⟩
 f57:=⟨Tryz.f351.name,by decide,Tryz.func351.trans (congrArg some (by kernel_rfl))⟩
 t0:=Tryz.underlying0
 a0:=Tryz.isAgg0
 z0:=Tryz.sizeOf0
 v0:=Tryz.zeroValue0
 t3:=Tryz.underlying3
 a3:=Tryz.isAgg3
 z3:=Tryz.sizeOf3
 v3:=Tryz.zeroValue3
 t4:=Tryz.underlying4
 a4:=Tryz.isAgg4
 z4:=Tryz.sizeOf4
 v4:=Tryz.zeroValue4
 t5:=Tryz.underlying5
 a5:=Tryz.isAgg5
 z5:=Tryz.sizeOf5
 v5:=Tryz.zeroValue5
 t9:=Tryz.underlying9
 a9:=Tryz.isAgg9
 z9:=Tryz.sizeOf9
 v9:=Tryz.zeroValue9
 t22:=Tryz.underlying27
 a22:=Tryz.isAgg27
 z22:=Tryz.sizeOf27
 v22:=Tryz.zeroValue27
 t25:=Tryz.underlying187
 a25:=Tryz.isAgg187
 z25:=Tryz.sizeOf187
 v25:=Tryz.zeroValue187
 t39:=Tryz.underlying256
 a39:=Tryz.isAgg256
 z39:=Tryz.sizeOf256
 v39:=Tryz.zeroValue256
 t45:=Tryz.underlying307
 a45:=Tryz.isAgg307
 z45:=Tryz.sizeOf307
 v45:=Tryz.zeroValue307
 t46:=Tryz.underlying308
 a46:=Tryz.isAgg308
 z46:=Tryz.sizeOf308
 v46:=Tryz.zeroValue308
 t50:=Tryz.underlying243
 a50:=Tryz.isAgg243
 z50:=Tryz.sizeOf243
 v50:=Tryz.zeroValue243
 t53:=Tryz.underlying314
 a53:=Tryz.isAgg314
 z53:=Tryz.sizeOf314
 v53:=Tryz.zeroValue314
 t55:=Tryz.underlying316
 a55:=Tryz.isAgg316
 z55:=Tryz.sizeOf316
 v55:=Tryz.zeroValue316
 t66:=Tryz.underlying353
 a66:=Tryz.isAgg353
 z66:=Tryz.sizeOf353
 v66:=Tryz.zeroValue353
 t70:=Tryz.underlying357
 a70:=Tryz.isAgg357
 z70:=Tryz.sizeOf357
 v70:=Tryz.zeroValue357
 t76:=Tryz.underlying372
 a76:=Tryz.isAgg372
 z76:=Tryz.sizeOf372
 v76:=Tryz.zeroValue372
 t77:=Tryz.underlying328
 a77:=Tryz.isAgg328
 z77:=Tryz.sizeOf328
 v77:=Tryz.zeroValue328 }
def Tryz.sortInt_ren : Go.Shelf.Ren:=⟨fun | 189=>110 | 125=>187 | 257=>191 | 128=>274 | 129=>275 | 294=>277 | 295=>278 | 296=>279 | 297=>280 | 298=>281 | 299=>282 | 216=>283 | 300=>284 | 301=>285 | 328=>329 | 329=>325 | 330=>326 | 331=>330 | 332=>331 | 215=>276 | 343=>350 | n=>n,fun | 28=>36 | 3=>3 | 46=>256 | 0=>0 | 51=>314 | 53=>316 | 4=>4 | 183=>308 | 182=>307 | 131=>243 | 5=>5 | 9=>9 | 218=>353 | 222=>357 | 228=>372 | 229=>328 | n=>n,fun | n=>n⟩
theorem Tryz.sortInt : Go.Proofs.Lays.n189 Tryz.prog Tryz.sortInt_ren:={
 mixed:=by kernel_rfl
 f125:=Tryz.func187.trans (congrArg some (by kernel_rfl))
 f128:=Tryz.func274.trans (congrArg some (by kernel_rfl))
 f129:=Tryz.func275.trans (congrArg some (by kernel_rfl))
 f189:=Tryz.func110.trans (congrArg some (by kernel_rfl))
 f215:=Tryz.func276.trans (congrArg some (by kernel_rfl))
 f216:=Tryz.func283.trans (congrArg some (by kernel_rfl))
 f257:=Tryz.func191.trans (congrArg some (by kernel_rfl))
 f294:=Tryz.func277.trans (congrArg some (by kernel_rfl))
 f295:=Tryz.func278.trans (congrArg some (by kernel_rfl))
 f296:=Tryz.func279.trans (congrArg some (by kernel_rfl))
 f297:=Tryz.func280.trans (congrArg some (by kernel_rfl))
 f298:=Tryz.func281.trans (congrArg some (by kernel_rfl))
 f299:=Tryz.func282.trans (congrArg some (by kernel_rfl))
 f300:=Tryz.func284.trans (congrArg some (by kernel_rfl))
 f301:=Tryz.func285.trans (congrArg some (by kernel_rfl))
 f328:=Tryz.func329.trans (congrArg some (by kernel_rfl))
 f329:=Tryz.func325.trans (congrArg some (by kernel_rfl))
 f330:=Tryz.func326.trans (congrArg some (by kernel_rfl))
 f331:=Tryz.func330.trans (congrArg some (by kernel_rfl))
 f332:=Tryz.func331.trans (congrArg some (by kernel_rfl))
 f343:=Tryz.func350.trans (congrArg some (by kernel_rfl))
 t0:=Tryz.underlying0
 a0:=Tryz.isAgg0
 z0:=Tryz.sizeOf0
 v0:=Tryz.zeroValue0
 t3:=Tryz.underlying3
 a3:=Tryz.isAgg3
 z3:=Tryz.sizeOf3
 v3:=Tryz.zeroValue3
 t4:=Tryz.underlying4
 a4:=Tryz.isAgg4
 z4:=Tryz.sizeOf4
 v4:=Tryz.zeroValue4
 t5:=Tryz.underlying5
 a5:=Tryz.isAgg5
 z5:=Tryz.sizeOf5
 v5:=Tryz.zeroValue5
 t9:=Tryz.underlying9
 a9:=Tryz.isAgg9
 z9:=Tryz.sizeOf9
 v9:=Tryz.zeroValue9
 t28:=Tryz.underlying36
 a28:=Tryz.isAgg36
 z28:=Tryz.sizeOf36
 v28:=Tryz.zeroValue36
 t46:=Tryz.underlying256
 a46:=Tryz.isAgg256
 z46:=Tryz.sizeOf256
 v46:=Tryz.zeroValue256
 t51:=Tryz.underlying314
 a51:=Tryz.isAgg314
 z51:=Tryz.sizeOf314
 v51:=Tryz.zeroValue314
 t53:=Tryz.underlying316
 a53:=Tryz.isAgg316
 z53:=Tryz.sizeOf316
 v53:=Tryz.zeroValue316
 t131:=Tryz.underlying243
 a131:=Tryz.isAgg243
 z131:=Tryz.sizeOf243
 v131:=Tryz.zeroValue243
 t182:=Tryz.underlying307
 a182:=Tryz.isAgg307
 z182:=Tryz.sizeOf307
 v182:=Tryz.zeroValue307
 t183:=Tryz.underlying308
 a183:=Tryz.isAgg308
 z183:=Tryz.sizeOf308
 v183:=Tryz.zeroValue308
 t218:=Tryz.underlying353
 a218:=Tryz.isAgg353
 z218:=Tryz.sizeOf353
 v218:=Tryz.zeroValue353
 t222:=Tryz.underlying357
 a222:=Tryz.isAgg357
 z222:=Tryz.sizeOf357
 v222:=Tryz.zeroValue357
 t228:=Tryz.underlying372
 a228:=Tryz.isAgg372
 z228:=Tryz.sizeOf372
 v228:=Tryz.zeroValue372
 t229:=Tryz.underlying328
 a229:=Tryz.isAgg328
 z229:=Tryz.sizeOf328
 v229:=Tryz.zeroValue328 }
def Tryz.keysM_ren : Go.Shelf.Ren:=⟨fun | 7=>175 | 10=>259 | n=>n,fun | 23=>241 | 26=>9 | 3=>3 | 28=>239 | 0=>0 | 27=>238 | 33=>290 | 4=>4 | n=>n,fun | n=>n⟩
theorem Tryz.keysM : Go.Proofs.SlLaysZ.n7 Tryz.prog Tryz.keysM_ren:={
 mixed:=by kernel_rfl
 f7:=⟨Tryz.f175.name,by decide,Tryz.func175.trans (congrArg some (by kernel_rfl))⟩
 f10:=⟨Tryz.f259.name,by decide,Tryz.func259.trans (congrArg some (by kernel_rfl))⟩
 t0:=Tryz.underlying0
 a0:=Tryz.isAgg0
 z0:=Tryz.sizeOf0
 v0:=Tryz.zeroValue0
 t4:=Tryz.underlying4
 a4:=Tryz.isAgg4
 z4:=Tryz.sizeOf4
 v4:=Tryz.zeroValue4
 t23:=Tryz.underlying241
 a23:=Tryz.isAgg241
 z23:=Tryz.sizeOf241
 v23:=Tryz.zeroValue241
 t26:=Tryz.underlying9
 a26:=Tryz.isAgg9
 z26:=Tryz.sizeOf9
 v26:=Tryz.zeroValue9
 t27:=Tryz.underlying238
 a27:=Tryz.isAgg238
 z27:=Tryz.sizeOf238
 v27:=Tryz.zeroValue238
 t28:=Tryz.underlying239
 a28:=Tryz.isAgg239
 z28:=Tryz.sizeOf239
 v28:=Tryz.zeroValue239
 t33:=Tryz.underlying290
 a33:=Tryz.isAgg290
 z33:=Tryz.sizeOf290
 v33:=Tryz.zeroValue290 }
def Tryz.sortedM_ren : Go.Shelf.Ren:=⟨fun | 6=>174 | 8=>257 | 9=>258 | 11=>316 | 13=>187 | 12=>317 | 23=>274 | 24=>275 | 14=>339 | 15=>340 | 16=>341 | 17=>342 | 18=>343 | 19=>344 | 20=>345 | 21=>346 | 22=>347 | 25=>353 | 26=>325 | 27=>326 | 28=>354 | 29=>355 | 30=>335 | 31=>357 | n=>n,fun | 26=>9 | 28=>239 | 24=>46 | 0=>0 | 3=>3 | 37=>256 | 48=>314 | 50=>316 | 4=>4 | 40=>308 | 39=>307 | 45=>243 | 5=>5 | 9=>9 | 51=>353 | 55=>357 | 57=>372 | 58=>328 | 33=>290 | n=>n,fun | n=>n⟩
theorem Tryz.sortedM : Go.Proofs.SlLaysZ.n6 Tryz.prog Tryz.sortedM_ren:={
 mixed:=by kernel_rfl
 f6:=⟨Tryz.f174.name,by decide,Tryz.func174.trans (congrArg some (by kernel_rfl))⟩
 f8:=⟨Tryz.f257.name,by decide,Tryz.func257.trans (congrArg some (by kernel_rfl))⟩
 f11:=⟨Tryz.f316.name,by decide,Tryz.func316.trans (congrArg some (by kernel_rfl))⟩
 t0:=Tryz.underlying0
 a0:=Tryz.isAgg0
 z0:=Tryz.sizeOf0
 v0:=Tryz.zeroValue0
 t24:=Tryz.underlying46
 a24:=Tryz.isAgg46
 z24:=Tryz.sizeOf46
 v24:=Tryz.zeroValue46
 t26:=Tryz.underlying9
 a26:=Tryz.isAgg9
 z26:=Tryz.sizeOf9
 v26:=Tryz.zeroValue9
 t28:=Tryz.underlying239
 a28:=Tryz.isAgg239
 z28:=Tryz.sizeOf239
 v28:=Tryz.zeroValue239
 i26:=by kernel_rfl }
def Tryz.growI_ren : Go.Shelf.Ren:=⟨fun | 4=>265 | n=>n,fun | 22=>36 | 25=>3 | 3=>3 | 4=>4 | 9=>9 | 20=>20 | 0=>0 | n=>n,fun | n=>n⟩
theorem Tryz.growI : Go.Proofs.Lays8.n4 Tryz.prog Tryz.growI_ren:={
 mixed:=by kernel_rfl
 f4:=⟨Tryz.f265.name,by decide,Tryz.func265.trans (congrArg some (by kernel_rfl))⟩
 t0:=Tryz.underlying0
 a0:=Tryz.isAgg0
 z0:=Tryz.sizeOf0
 v0:=Tryz.zeroValue0
 t3:=Tryz.underlying3
 a3:=Tryz.isAgg3
 z3:=Tryz.sizeOf3
 v3:=Tryz.zeroValue3
 t4:=Tryz.underlying4
 a4:=Tryz.isAgg4
 z4:=Tryz.sizeOf4
 v4:=Tryz.zeroValue4
 t9:=Tryz.underlying9
 a9:=Tryz.isAgg9
 z9:=Tryz.sizeOf9
 v9:=Tryz.zeroValue9
 t20:=Tryz.underlying20
 a20:=Tryz.isAgg20
 z20:=Tryz.sizeOf20
 v20:=Tryz.zeroValue20
 t22:=Tryz.underlying36
 a22:=Tryz.isAgg36
 z22:=Tryz.sizeOf36
 v22:=Tryz.zeroValue36 }
end Go.Proofs
end
section


end
section
namespace Go.Dm
variable [DMode]
open Go.Shelf Go.Sort Go.Proofs
theorem GC_ {w w':World} (h: @Upd JW [] w w'):∃q os,w'=grow (w.drewN q) os:=by
 refine⟨w'.drawn-w.drawn,w'.heap.extract w.heap.size w'.heap.size,?_⟩;obtain⟨heap,tape,drawn,os,output⟩:=w';obtain⟨h1,h2,h3,h4,h5,h6⟩:=h;simp only at h1 h2 h3 h4 h5 h6 |-
 replace h4:=h4 rfl
 subst h1;subst h2;subst h3
 have e1:w.heap++heap.extract w.heap.size heap.size=heap:=by
  apply Array.ext_getElem?
  intro i
  by_cases hi:i<w.heap.size
  ·rw[dR0 hi,<-h6 i hi (by simp)]
  ·rw[Array.getElem?_append_right (by omega),Array.getElem?_extract]
   by_cases hi2:i<heap.size
   ·rw[if_pos (by omega)]
    congr 1
    omega
   ·rw[if_neg (by omega),Array.getElem?_eq_none (by omega)]
 have e2:w.drawn+(drawn-w.drawn)=drawn:=by omega
 simp[grow,World.drewN,e1,e2]
section
variable {P : Program} {ρ : Ren} {g : FuncId} {et k cap b : Nat} {cs : List DVal} {cs' : Array Value} {cf : List DVal -> List DVal -> Int} {es es' : List (List DVal)} {cu0 : Fb} {M1 : List Nat} {w : World} {arr : Array Value}
theorem Je {α:Type} [Inhabited α] (enc:α->List Value) (p3:w.heap[b]? =some (.cells arr et (0,0))) (m:Nat) (os:Array Obj) (dk:Array α) :
  (sortWorldK enc k w b 0 m dk os).heap[b]? =some (.cells (putCells id 0 (flatK enc k dk) arr) et (0,0))/\(∀q,q<w.heap.size->q≠b->(sortWorldK enc k w b 0 m dk os).heap[q]? =w.heap[q]?)/\w.heap.size<=(sortWorldK enc k w b 0 m dk os).heap.size /\
   (sortWorldK enc k w b 0 m dk os).os=w.os/\(sortWorldK enc k w b 0 m dk os).tape=w.tape/\(sortWorldK enc k w b 0 m dk os).output=w.output/\w.drawn<=(sortWorldK enc k w b 0 m dk os).drawn:=by
 have hblk:b<w.heap.size:=(aF0.1 p3).1;refine⟨?_,fun q hq hqb=> ?_,?_,rfl,rfl,rfl,Nat.le_add_right _ _⟩
 ·simp only[sortWorldK,grow,putRowK,putRow,mapBlock,ahead];rw[dR0 (by simpa using hblk),cJ0];simp[p3,onCells]
 ·simp only[sortWorldK,grow,putRowK,putRow,mapBlock,ahead];rw[dR0 (by simpa using hq),cJ0];rw[if_neg (fun h=>hqb h.symm)];rfl
 ·simp[sortWorldK,grow,putRowK,putRow,mapBlock,ahead]
theorem ZD {α:Type} [Inhabited α] {enc:α->List Value} (qU:∀x,(enc x).length=k) {dk:Array α} {i p:Nat} (hi:i<dk.size) (hp:p<k) (qH:dk.size*k<=arr.size) :
  (putCells id 0 (flatK enc k dk) arr)[i*k+p]? =(enc dk[i]!)[p]? :=by
 have wC:=DH (k:=k) hi;have qV:i*k+p<arr.size:=by omega
 have hdiv:(i*k+p)/k=i:=by
  rw[Nat.mul_comm,Nat.mul_add_div (by omega),Nat.div_eq_of_lt hp];omega
 have hmod:(i*k+p)%k=p:=by rw[Nat.mul_comm,Nat.mul_add_mod];exact eM0 hp
 have hlf:i*k+p<dk.size*k:=by omega
 have fN:p<(enc dk[i]!).length:=by rw[qU];exact hp
 simp only[putCells,bS0,Array.getElem?_mapIdx,bM0 qV,dN0,cH0,true_and,size_flatK,hlf,if_true,eT0,id];rw[get_flatK _ _ _ _ hlf,hdiv,hmod,getElem!_pos (enc dk[i]!) p fN,aH0 fN]
theorem Eg_ {α:Type} [Inhabited α] (L:SlLaysF0.n6 P ρ) (dt:α->List DVal) (enc:α->List Value) (d:Array α) (rD:tAgg P (ρ.t 24)=some true) (dQ:tCells P (ρ.t 24)=some k) (zS:AR cs=0) (rG:∀x∈es,AR x=0)
  (jP:∀x,dt x∈es) (hdk:∀x,(dt x).length=k) (vT:∀x,AI cu0 M1 w.heap (dt x) (enc x)) (qP:∀x,∀u∈enc x,u.oneCell'=true) (cA:d.size=es.length)
  (hd:∀i (hi:i<es.length),dt d[i]! =es[i]/\∀(q:Nat) (v:Value),(enc d[i]!)[q]? =some v->arr[i*k+q]? =some v)
  (p3:w.heap[b]? =some (.cells arr et (0,0))) (kB:es.length*k<=arr.size) (hbM:b∈M1) (cC:∀q∈M1,q<w.heap.size) (pO:AI cu0 M1 w.heap cs cs'.toList) (qV:es.length<4611686018427387904)
  (hg:Enters P g) (hcmp:∀x∈es,∀y∈es,@Ad JW P g (.agg x:: .agg y::cs) (.int .i64 (cf x y)))
  (hirr:∀x∈es,¬cf x x<0) (htr:∀x∈es,∀y∈es,∀z∈es,cf x y<0->cf y z<0->cf x z<0) (qX:∀x∈es,∀y∈es,∀z∈es,¬cf x y<0->¬cf y z<0->¬cf x z<0)
  (bN:∀l:List (List DVal),l.Perm es->l.Pairwise (fun x y=>¬cf y x<0)->l=es') :
  Calls P (ρ.f 6) #[.slice (some ⟨b,0,none⟩) es.length cap,.func (.func g) #[] cs'] w fun e w'=>e= .returned (.tuple #[])/\es'.length=es.length/\Upd [b] w w' /\
   ∃arr',w'.heap[b]? =some (.cells arr' et (0,0))/\arr'.size=arr.size/\∀cur M2,(∀q∈M2,q∈M1)->EB cur M2 w'.heap k es' arr' 0:=by
 have qU:∀x:α,(enc x).length=k:=fun x=>by
  have:=AJ _ _ (vT x);have:=hdk x;omega
 have hO:SWO (ltOf fun x y:α=>cf (dt x) (dt y)):=by
  refine⟨fun x=> ?_,fun x y z h1 h2=> ?_,fun x y z h1 h2=> ?_⟩
  ·simp only[ltOf,decide_eq_false_iff_not];exact hirr _ (jP x)
  ·simp only[ltOf,decide_eq_true_eq]at *;exact htr _ (jP x) _ (jP y) _ (jP z) h1 h2
  ·simp only[ltOf,decide_eq_false_iff_not]at *;exact qX _ (jP x) _ (jP y) _ (jP z) h1 h2
 have hH:HoldsK enc k w b 0 d:=by
  intro j hj;rw[size_flatK,cA]at hj
  have zQ:0<k:=by
   rcases Nat.eq_zero_or_pos k with h | h
   ·subst h;simp at hj
   ·exact h
  have hi:j/k<es.length:=by rw[Nat.div_lt_iff_lt_mul zQ];exact hj
  have hq:j%k<k:=Nat.mod_lt _ zQ;rw[get_flatK _ _ _ _ (by rw[cA];exact hj)];have yE:j%k<(enc d[j/k]!).length:=by rw[qU];exact hq
  have vL:=(hd _ hi).2 (j%k) _ (aH0 yE);rw[Nat.mul_comm,Nat.div_add_mod]at vL;rw[getElem!_pos (enc d[j/k]!) _ yE];exact⟨by simp only[World.cell?,p3,bS0,id];exact vL,by simp[World.frozen?,p3]⟩
 have hblk:b<w.heap.size:=(aF0.1 p3).1
 have Wk:∀m os (dk:Array α) (cur:Fb) (M2:List Nat),(∀q∈M2,q∈M1)->Weak cu0 cur M1 M2 w.heap (sortWorldK enc k w b 0 m dk os).heap 0:=by
  intro m os dk cur M2 hM2;have hW:=Je (et:=et) (arr:=arr) (k:=k) enc p3 m os dk;exact⟨fun _ _ _ h=>by omega,fun q o hq (_:Hi o=true) ho=>by rw[hW.2.1 q (aF0.1 ho).1 (fun h=>hq (h▸hbM))];exact ho,fun q o hq (_:Hi o=true) _ hm=>hq (hM2 q hm)⟩
 have hC:CmpLays P g cs' enc k (fun x y:α=>cf (dt x) (dt y)) b 0 d.size w:=by
  intro m os dk _ x y;have hD:=hcmp _ (jP x) _ (jP y);have hW:=Je (et:=et) (arr:=arr) (k:=k) enc p3 m os dk;have hx:=Bd (Wk m os dk (fun _ _=>none) M1 (fun _ h=>h)) _ _ (dO0 (rG _ (jP x))) (vT x);have hy:=Bd (Wk m os dk (fun _ _=>none) M1 (fun _ h=>h)) _ _ (dO0 (rG _ (jP y))) (vT y);have hc:=Bd (Wk m os dk (fun _ _=>none) M1 (fun _ h=>h)) _ _ (dO0 zS) pO;obtain⟨X,hX⟩:∃X,X=(enc x).toArray:=⟨_,rfl⟩;obtain⟨Y,hY⟩:∃Y,Y=(enc y).toArray:=⟨_,rfl⟩
  simp only[<-hX,<-hY]
  generalize sortWorldK enc k w b 0 m dk os=V at hW hx hy hc |-
  have key:=hD.2.2 (fun _ _=>none) M1 V (#[.agg X,.agg Y]++cs') (fun q hq=>bY0 (cC q hq) hW.2.2.1);refine(key ?_).mono ?_
  ·have e1:(#[Value.agg X,Value.agg Y]++cs').toList=Value.agg X::Value.agg Y::cs'.toList:=by simp
   rw[e1];simp only[AI];refine⟨_,_,rfl,?_,_,_,rfl,?_,hc⟩
   ·simp only[rd];exact⟨_,rfl,by rw[hX];exact hx⟩
   ·simp only[rd];exact⟨_,rfl,by rw[hY];exact hy⟩
  ·rintro e w' ⟨v,rfl,hu,hv⟩;simp only[rd]at hv;exact⟨by rw[hv.1],GC_ hu⟩
 have qB:=AnyQ.slices_SortFunc L k (Lc rD) (CW dQ) enc qU qP (fun x y:α=>cf (dt x) (dt y)) hO g cs' b 0 cap d w hg hC hH hblk (by omega);rw[cA]at qB;refine qB.mono ?_;rintro e w' ⟨rfl,d',n,os,hP,hS,rfl⟩;obtain⟨gD,_,jC⟩:=hP;rw[cA]at gD;have e1:d'.extract 0 es.length=d':=by rw[<-gD];exact Array.extract_size
 have e2:d.extract 0 es.length=d:=by rw[<-cA];exact Array.extract_size
 rw[e1,e2]at jC
 have hdes:d.toList.map dt=es:=by
  apply List.ext_getElem
  ·simp[cA]
  ·intro i h1 h2;have:=(hd i h2).1;rw[getElem!_pos d i (by omega)]at this;simpa using this
 have rM:d'.toList.map dt=es':=by
  refine bN _ ?_ ?_
  ·have:=jC.map dt
   rwa[hdes]at this
  ·rw[dM0,List.pairwise_iff_getElem];intro i j hi hj yK;have yZ:i<d'.size:=by simpa using hi
   have cP:j<d'.size:=by simpa using hj
   have:=hS i j (cH0 _) yK (by omega);rw[getElem!_pos d' j cP,getElem!_pos d' i yZ]at this;simpa[ltOf]using this
 have bE:es'.length=es.length:=by rw[<-rM];simp[gD]
 obtain⟨q1,q2,q3,q4,q5,q6,q7⟩:=Je (et:=et) (arr:=arr) (k:=k) enc p3 n os d';refine⟨rfl,bE,⟨q4,q5,q6,fun _=>q7,q3,fun q hq hn=>q2 q hq (fun h=>hn (by simp[h]))⟩,_,q1,by simp[putCells],fun cur M2 hM2=> ?_⟩;refine FW _ _ _ _ fun i cs0 hi=> ?_
 have yO:i<es'.length:=(aB0.1 hi).1;have hid:i<d'.size:=by omega
 have hcs0:cs0=dt d'[i]! :=by
  rw[<-rM,bN0]at hi;rw[getElem!_pos d' i hid];simp[hid]at hi;exact hi.symm
 subst hcs0;refine⟨hdk _,?_⟩;have hv:=Bd (Wk n os d' cur M2 hM2) _ _ (dO0 (rG _ (jP _))) (vT d'[i]!);have h0:=GG _ _ [] [] hv (qP _);refine CH _ _ _ _ _ (fun p hp=> ?_) h0;have qN:p<k:=by rw[hdk]at hp;exact hp
 rw[bS0,ZD qU hid qN (by rw[gD];exact kB)];simp
end
theorem Vx {P:Program} {ρ:Ren} (L:SlLaysF0.n6 P ρ) {f g:FuncId} {et k bs:Nat} {cs:List DVal} {cf:List DVal->List DVal->Int} {es es':List (List DVal)} (hf:ρ.f 6=f) (zW:Enters P f) (rD:tAgg P (ρ.t 24)=some true) (dQ:tCells P (ρ.t 24)=some k)
  (mC:0<bs) (zS:AR cs=0) (rG:∀x∈es,AR x=0) (hg:Enters P g) (hcmp:∀x∈es,∀y∈es,@Ad JW P g (.agg x:: .agg y::cs) (.int .i64 (cf x y)))
  (hirr:∀x∈es,¬cf x x<0) (htr:∀x∈es,∀y∈es,∀z∈es,cf x y<0->cf y z<0->cf x z<0) (qX:∀x∈es,∀y∈es,∀z∈es,¬cf x y<0->¬cf y z<0->¬cf x z<0)
  (bN:∀l:List (List DVal),l.Perm es->l.Pairwise (fun x y=>¬cf y x<0)->l=es') :
  AS P (.func f) [.osl 0 0,.fn (.func g) [] cs] [⟨0,0,.row et k bs es⟩] (.tup []) [⟨0,0,.row et k bs es'⟩]:=by
 refine⟨by simp,zW,fun M w loc vs S hr=> ?_⟩;refine⟨zW,?_⟩;simp only[AI]at hr;obtain⟨v0,r0,vU,h0,v1,r1,rfl,h1,rfl⟩:=hr;simp only[rd]at h0 h1;obtain⟨us',cs',rfl,vH,pO⟩:=h1;simp only[AI]at vH;have hus':us'= #[]:=by cases us';simpa using vH
 subst hus';have jR:Ae [(⟨0,0,.row et k bs es⟩:Ent)] loc 0 0=some (loc 0):=rfl;have kO:=h0 _ jR;have vD:vs= #[v0,.func (.func g) #[] cs']:=by cases vs;simpa using vU
 subst vD;subst hf;have qT:Ab [(⟨0,0,.row et k bs es⟩:Ent)] loc=(loc 0).blks:=by simp[Ab]
 have bF:Ab [(⟨0,0,.row et k bs es'⟩:Ent)] loc=(loc 0).blks:=by simp[Ab]
 have kZ:∀cur M h,rd cur M h (.tup []) (.tuple #[]):=fun _ _ _=>by simp only[rd];exact⟨#[],rfl,by simp[AI]⟩
 have hk:=S.ok ⟨0,0,.row et k bs es⟩ (by simp)
 by_cases qC:es=[]
 ·subst qC;have hes':es'=[]:=(bN [] (List.Perm.refl _) List.Pairwise.nil).symm;subst hes'
  obtain⟨a,cap,hh⟩:∃a cap,(loc 0).hdr= .slice a 0 cap:=by
   obtain⟨_,⟨_,_,h2⟩ | ⟨b,arr,cap,_,h2,_⟩⟩:=hk
   ·exact⟨_,_,h2⟩
   ·exact⟨_,_,h2⟩
  rw[hh]at kO;subst kO;refine(AnyF.slices_SortFunc_none { L with } a cap (.func (.func g) #[] cs') w).mono ?_;rintro e w' ⟨rfl,rfl⟩;exact⟨_,rfl,loc,S,Upd.refl _ _,fun b hb=> .inl hb,fun e he _=>AV S.nd he,kZ _ _ _⟩
 ·obtain⟨b,arr,cap,p1,p2,p3,p4,p5,p6,p7⟩:∃b arr cap,(loc 0).blks=[b]/\(loc 0).hdr= .slice (some ⟨b,0,none⟩) es.length cap/\w.heap[b]? =some (.cells arr et (0,0))/\es.length<=cap/\cap<=maxLen/\cap*k=arr.size/\EB (Ae [(⟨0,0,.row et k bs es⟩:Ent)] loc) (Ab [(⟨0,0,.row et k bs es⟩:Ent)] loc++M) w.heap k es arr 0:=by
   obtain⟨_,⟨h,_⟩ | h⟩:=hk
   ·exact absurd h qC
   ·exact h
  have wW:=hk.1;rw[p2]at kO;subst kO;obtain⟨cu0,hcu0⟩:∃c,c=Ae [(⟨0,0,.row et k bs es⟩:Ent)] loc:=⟨_,rfl⟩;obtain⟨M1,hM1⟩:∃m,m=Ab [(⟨0,0,.row et k bs es⟩:Ent)] loc++M:=⟨_,rfl⟩;rw[<-hcu0,<-hM1]at p7 pO;have hbM:b∈M1:=by rw[hM1,qT,p1];simp
  have cC:∀q∈M1,q<w.heap.size:=by rw[hM1];exact S.lt
  have kB:es.length*k<=arr.size:=by rw[<-p6];exact aS0 _ p4
  have kW:0<es.length:=List.length_pos_iff.2 qC
  have hel:∀i:Fin es.length,∃us:List Value,AI cu0 M1 w.heap es[i.1] us/\(∀u∈us,u.oneCell'=true)/\∀(q:Nat) (v:Value),us[q]? =some v->arr[i.1*k+q]? =some v:=by
   intro i;obtain⟨q1,q2⟩:=Ec k es arr 0 i.1 es[i.1] p7 (aH0 i.2);obtain⟨us,g1,g2,g3⟩:=FI _ _ _ q2;refine⟨us,g2,fun u hu=> ?_,fun q v hq=> ?_⟩
   ·obtain⟨j,hj,rfl⟩:=bK0 hu;exact(g3 j _ (aH0 hj)).2
   ·have:=(g3 q v hq).1;simpa using this
  haveI:Inhabited (Fin es.length):=⟨⟨0,kW⟩⟩
  have qV:es.length<4611686018427387904:=by
   have h1:es.length*1<=es.length*bs:=cE0 _ mC;have h2:es.length*bs<=150000000000000:=wW;omega
  have hd:∀i (hi:i<es.length),(Array.ofFn (fun i:Fin es.length=>i))[i]! =⟨i,hi⟩:=by
   intro i hi;rw[getElem!_pos _ i (by simpa using hi)];simp
  refine(Eg_ (et:=et) (α:=Fin es.length) L (fun i=>es[i.1]) (fun i=>(hel i).choose) (Array.ofFn fun i=>i) rD dQ zS rG (fun i=>dG0 _) (fun i=>(Ec k es arr 0 i.1 es[i.1] p7 (aH0 i.2)).1) (fun i=>(hel i).choose_spec.1) (fun i=>(hel i).choose_spec.2.1) (by simp)
   (fun i hi=>by rw[hd i hi];exact⟨rfl,(hel ⟨i,hi⟩).choose_spec.2.2⟩) p3 kB hbM cC pO qV hg hcmp hirr htr qX bN).mono ?_
  rintro e w' ⟨rfl,bE,hu,arr',r1,r2,r3⟩;have hM2:Ab [(⟨0,0,.row et k bs es'⟩:Ent)] loc++M=M1:=by rw[hM1,qT,bF]
  refine⟨_,rfl,loc,⟨by simp,by rw[bF,p1];simp,fun q hq=>S.ap q (by rw[qT];rwa[bF]at hq),fun q hq=> ?_,?_⟩,by rw[qT,p1];exact hu,fun q hq=> .inl (by rw[qT];rwa[bF]at hq),?_,kZ _ _ _⟩
  ·rw[hM2]at hq;exact bY0 (cC q hq) hu.size
  ·intro e he;simp only[aG0]at he;subst he;rw[hM2];exact⟨by rw[bE];exact wW,.inr ⟨b,arr',cap,p1,by rw[bE];exact p2,r1,by omega,p5,by omega,r3 _ _ fun _ h=>h⟩⟩
  ·intro e he _;simp only[aG0]at he;subst he;exact jR
end Go.Dm
end
section
namespace Go.Dm
variable [DMode]
open Go.Shelf Go.Sort Go.Proofs Go.RowKit
def DZ (l:List ByteArray):List ByteArray:=((l.map fun s=>s.data.toList).mergeSort fun x y=>decide (x<=y)).map fun x=>⟨x.toArray⟩
theorem Gs (l:List ByteArray):(DZ l).length=l.length:=by simp[DZ]
theorem VC {α:Type} [Inhabited α] (enc:α->Value) {w:World} {b et:Nat} {arr:Array Value} (p3:w.heap[b]? =some (.cells arr et (0,0))) (m:Nat) (os:Array Obj) (dk:Array α) :
  (grow (putRow enc (Sort.ahead w m) b 0 dk) os).heap[b]? =some (.cells (putCells enc 0 dk arr) et (0,0))/\(∀q,q<w.heap.size->q≠b->(grow (putRow enc (Sort.ahead w m) b 0 dk) os).heap[q]? =w.heap[q]?)/\w.heap.size<=(grow (putRow enc (Sort.ahead w m) b 0 dk) os).heap.size /\
   (grow (putRow enc (Sort.ahead w m) b 0 dk) os).os=w.os/\(grow (putRow enc (Sort.ahead w m) b 0 dk) os).tape=w.tape/\(grow (putRow enc (Sort.ahead w m) b 0 dk) os).output=w.output/\w.drawn<=(grow (putRow enc (Sort.ahead w m) b 0 dk) os).drawn:=by
 have hblk:b<w.heap.size:=(aF0.1 p3).1;refine⟨?_,fun q hq hqb=> ?_,?_,rfl,rfl,rfl,Nat.le_add_right _ _⟩
 ·simp only[grow,putRow,mapBlock,Sort.ahead];rw[dR0 (by simpa using hblk),cJ0];simp[p3,onCells]
 ·simp only[grow,putRow,mapBlock,Sort.ahead];rw[dR0 (by simpa using hq),cJ0];rw[if_neg (fun h=>hqb h.symm)]
 ·simp[grow,putRow,mapBlock,Sort.ahead]
def Ge (s:ByteArray):List DVal:=[.str s]
theorem Xe {P:Program} {ρ:Ren} (L:SlLaysM.n6 P ρ) {f:FuncId} {et bs:Nat} (hf:ρ.f 6=f) (zW:Enters P f) (mC:0<bs) (l:List ByteArray) :
  AS P (.func f) [.osl 0 0] [⟨0,0,.row et 1 bs (l.map Ge)⟩] (.tup []) [⟨0,0,.row et 1 bs ((DZ l).map Ge)⟩]:=by
 refine⟨by simp,zW,fun M w loc vs S hr=> ?_⟩;refine⟨zW,?_⟩;simp only[AI]at hr;obtain⟨v0,r0,vU,h0,rfl⟩:=hr;simp only[rd]at h0;have jR:∀l:List ByteArray,Ae [(⟨0,0,.row et 1 bs (l.map Ge)⟩:Ent)] loc 0 0=some (loc 0):=fun _=>rfl
 have kO:=h0 _ (jR l);have vD:vs= #[v0]:=by cases vs;simpa using vU
 subst vD;subst hf;have qT:∀l:List ByteArray,Ab [(⟨0,0,.row et 1 bs (l.map Ge)⟩:Ent)] loc=(loc 0).blks:=fun _=>by simp[Ab]
 have kZ:∀cur M h,rd cur M h (.tup []) (.tuple #[]):=fun _ _ _=>by simp only[rd];exact⟨#[],rfl,by simp[AI]⟩
 have hk:=S.ok ⟨0,0,.row et 1 bs (l.map Ge)⟩ (by simp)
 by_cases qC:l=[]
 ·subst qC
  obtain⟨a,cap,hh⟩:∃a cap,(loc 0).hdr= .slice a 0 cap:=by
   obtain⟨_,⟨_,_,h2⟩ | ⟨b,arr,cap,_,h2,_⟩⟩:=hk
   ·exact⟨_,_,h2⟩
   ·exact⟨_,_,h2⟩
  rw[hh]at kO;subst kO;refine(AnyM.slices_Sort_string_none L a cap w).mono ?_;rintro e w' ⟨rfl,rfl⟩;have e0:DZ []=[]:=by simp[DZ]
  rw[e0];exact⟨_,rfl,loc,S,Upd.refl _ _,fun b hb=> .inl hb,fun e he _=>AV S.nd he,kZ _ _ _⟩
 ·obtain⟨b,arr,cap,p1,p2,p3,p4,p5,p6,p7⟩:∃b arr cap,(loc 0).blks=[b]/\(loc 0).hdr= .slice (some ⟨b,0,none⟩) (l.map Ge).length cap/\w.heap[b]? =some (.cells arr et (0,0))/\(l.map Ge).length<=cap/\cap<=maxLen/\cap*1=arr.size/\EB (Ae [(⟨0,0,.row et 1 bs (l.map Ge)⟩:Ent)] loc) (Ab [(⟨0,0,.row et 1 bs (l.map Ge)⟩:Ent)] loc++M) w.heap 1 (l.map Ge) arr 0:=by
   obtain⟨_,⟨h,_⟩ | h⟩:=hk
   ·exact absurd (List.map_eq_nil_iff.1 h) qC
   ·exact h
  have wW:(l.map Ge).length*bs<=150000000000000:=hk.1;rw[p2]at kO;subst kO;rw[aL0]at p2 p4 wW
  have gS:∀s∈l,s.size<=maxLen/\True:=by
   intro s hs;obtain⟨i,hi,rfl⟩:=bK0 hs;obtain⟨q1,q2⟩:=Ec 1 _ arr 0 i [.str l[i]] p7 (by simp[Ge,hi]);obtain⟨us,g1,g2,g3⟩:=FI _ _ _ q2;simp only[AI,rd]at g2;obtain⟨v,_,_,⟨_,h⟩,_⟩:=g2;exact⟨h,trivial⟩
  have vL:∀i (hi:i<l.length),arr[i]? =some (.string l[i]):=by
   intro i hi;obtain⟨q1,q2⟩:=Ec 1 _ arr 0 i [.str l[i]] p7 (by simp[Ge,hi]);obtain⟨us,g1,g2,g3⟩:=FI _ _ _ q2;simp only[AI,rd]at g2;obtain⟨v,r,rfl,⟨rfl,_⟩,_⟩:=g2;have:=(g3 0 _ rfl).1;simpa using this
  obtain⟨ss,jM⟩:∃ss,ss=l.map fun s=>s.data.toList:=⟨_,rfl⟩
  have yV:ss.length=l.length:=by rw[jM,aL0]
  have hH:Holds encStr w b 0 ss.toArray:=by
   intro j hj;simp only[dL0,yV]at hj;refine⟨?_,Lib.frozen_of_heap p3 _⟩;rw[bS0,Lib.cell_of_heap p3,vL j hj];rw[getElem!_pos _ j (by simpa[yV]using hj)];simp[jM,encStr]
  have qV:ss.length<4611686018427387904:=by
   rw[yV];have h1:l.length*1<=l.length*bs:=cE0 _ mC;omega
  have gN:b<w.heap.size:=(aF0.1 p3).1;have key:=AnyM.slices_Sort_string L b 0 cap ss w hH gN qV;rw[yV]at key;simp only[aL0];refine key.mono ?_;rintro e w' ⟨rfl,n,os,rfl⟩;obtain⟨q1,q2,q3,q4,q5,q6,q7⟩:=VC encStr (et:=et) (arr:=arr) p3 n os (ss.mergeSort fun x y=>decide (x<=y)).toArray;have nQ:DZ l=(ss.mergeSort fun x y=>decide (x<=y)).map fun x=>⟨x.toArray⟩:=by rw[jM];rfl
  have kJ:(ss.mergeSort fun x y=>decide (x<=y)).length=l.length:=by simp[yV]
  refine⟨_,rfl,loc,⟨by simp,by rw[qT,p1];simp,fun q hq=>S.ap q (by rw[qT];rwa[qT]at hq),fun q hq=> ?_,?_⟩,?_,fun q hq=> .inl (by rw[qT];rwa[qT]at hq),?_,kZ _ _ _⟩
  ·refine bY0 (S.lt q ?_) q3;rw[qT]at hq |-;exact hq
  ·intro e he;simp only[aG0]at he;subst he;refine⟨by simpa[Gs]using wW,.inr ⟨b,_,cap,p1,by simpa[Gs]using p2,q1,by simpa[Gs]using p4,p5,by simpa[putCells]using p6,?_⟩⟩;refine FW _ _ _ _ fun i cs0 hi=> ?_
   have yO:i<l.length:=by
    have:=(aB0.1 hi).1;simpa[Gs]using this
   rw[nQ]at hi;have him:i<(ss.mergeSort fun x y=>decide (x<=y)).length:=by omega
   simp only[cC0,bN0,aH0 him,dN0,Function.comp_apply,aA0]at hi;subst hi;refine⟨rfl,?_⟩;have qO:(ss.mergeSort fun x y=>decide (x<=y))[i]∈ss:=(dX0 ss _).mem_iff.1 (dG0 him)
   have qH:(⟨((ss.mergeSort fun x y=>decide (x<=y))[i]).toArray⟩:ByteArray).size<=maxLen:=by
    generalize (ss.mergeSort fun x y=>decide (x<=y))[i]=y at qO |-
    rw[jM]at qO;obtain⟨s,hs,nQ⟩:=aR0.1 qO;have:=(gS s hs).1;rw[<-nQ];exact this
   have h0:=GG (cur:=Ae [(⟨0,0,.row et 1 bs ((DZ l).map Ge)⟩:Ent)] loc) (M:=Ab [(⟨0,0,.row et 1 bs ((DZ l).map Ge)⟩:Ent)] loc++M) (H:=(grow (putRow encStr (Sort.ahead w n) b 0 (ss.mergeSort fun x y=>decide (x<=y)).toArray) os).heap) [.str ⟨((ss.mergeSort fun x y=>decide (x<=y))[i]).toArray⟩] [.string ⟨((ss.mergeSort fun x y=>decide (x<=y))[i]).toArray⟩] [] [] (by simp only[AI,rd];exact⟨_,_,rfl,⟨rfl,qH⟩,rfl⟩) (by simp[Value.oneCell'])
   refine CH _ _ _ _ _ (fun p hp=> ?_) h0;have wV:p=0:=by simp[Ge]at hp;omega
   subst wV;have hia:i<arr.size:=by omega
   simp only[putCells,Array.getElem?_mapIdx];rw[show 0+i*1+0=i by omega,bM0 hia];simp[him,encStr,kJ,yO,yV]
  ·rw[qT,p1];exact⟨q4,q5,q6,fun _=>q7,q3,fun q hq hn=>q2 q hq (fun h=>hn (by simp[h]))⟩
  ·intro e he _;simp only[aG0]at he;subst he;rfl
end Go.Dm
end
section
namespace Go.Proofs.Wy
open Go Go.Dm Go.RowKit Go.Proofs Tryz
variable [DMode]
set_option maxRecDepth 100000
theorem JN (b n:Nat) (w:World) (h0:w.cell? ⟨b,0,none⟩=some (.pointer none)) (hsh:w.shape? b=some (338,n)) (hn:0<n) (hl:liesAt prog Tryz.prog.depth 338 (n/Tryz.prog.cellsOf 338) 0 338 1=true) (hfz:w.frozen? ⟨b,0,none⟩=false) :
  Calls prog 336 #[.pointer (some ⟨b,0,none⟩)] w fun e w'=>e= .returned (.tuple #[])/\w'=w.setCell ⟨b,0,none⟩ (.pointer (some ⟨b,0,none⟩)):=by
 obtain⟨j,hj,rV⟩:∃j,Tryz.prog.info? 338=some j/\j.size=2:=bC0.1 (show (Tryz.prog.info? 338).map (·.size)=some 2 by kernel_rfl)
 go_enter func336,ntmps336
 go_wp2
 rw[Lib.run_to_unsafe w ⟨b,0,none⟩ underlying335 underlying376 hj (by rw[rV];decide) hsh hn];simp only[Result.andThen];rw[Oper.upon_value]
 go_wp2
 rw[run_callFunc_extern func352 (by kernel_rfl) (by kernel_rfl) (by kernel_rfl) (e:=Extern.AbiNoEscape.same) (by kernel_rfl)];rw[Lib.run_noEscape];simp only[Result.andThen];rw[Oper.upon_value]
 go_wp2
 rw[Lib.run_from_unsafe w ⟨b,0,none⟩ underlying376 underlying335 hj hsh hl];simp only[Result.andThen];rw[Oper.upon_value]
 go_wp2
 go_end0
 exact⟨rfl,rfl⟩
theorem TF (b:Nat) (w:World) (h0:w.cell? ⟨b,0,none⟩=some (.pointer (some ⟨b,0,none⟩))) :
  Calls prog 336 #[.pointer (some ⟨b,0,none⟩)] w fun e w'=>e= .returned (.tuple #[])/\w'=w:=by
 obtain⟨j,hj,rV⟩:∃j,Tryz.prog.info? 338=some j/\j.size=2:=bC0.1 (show (Tryz.prog.info? 338).map (·.size)=some 2 by kernel_rfl)
 go_enter func336,ntmps336
 go_wp2
 rw[Lib.run_neq_ptr_same w _ underlying335 hj]
 go_wp2
 go_end0
 exact⟨rfl,rfl⟩
attribute [local irreducible] DW Bi Bk
theorem Qv : AS prog (.func 336) [.rx 0 0 2 0 0] [⟨0,0,.row 338 2 32 [[.nilp,.nilsl]]⟩] (.tup []) [⟨0,0,.row 338 2 32 [[.rx 0 0 2 0 0,.nilsl]]⟩] :=
 Qs (by show ¬_;exact of_decide_eq_true (by kernel_rfl)) (by kernel_rfl) call336 32 JN
theorem TQ (x:ByteArray):AS prog (.func 336) [.rx 0 0 2 0 0] [⟨0,0,.row 338 2 32 [[.rx 0 0 2 0 0,.osl 1 0]]⟩,⟨1,0,.row 5 1 1 (Ba x)⟩] (.tup [])
  [⟨0,0,.row 338 2 32 [[.rx 0 0 2 0 0,.osl 1 0]]⟩,⟨1,0,.row 5 1 1 (Ba x)⟩] :=
 Qr call336 32 (.osl 1 0) _ (by simp) TF
def Ob : Ann:=⟨[7],[]⟩
theorem JD (x:ByteArray) (hx:x.size<=150000000000000) :
  AS prog (.func 305) [.rx 0 0 2 0 0,.str x] [⟨0,0,.row 338 2 32 [[.nilp,.nilsl]]⟩] (.tup [.int .i64 x.size,.nilifc])
   [⟨0,0,.row 338 2 32 [[.rx 0 0 2 0 0,.osl 1 1]]⟩,⟨1,1,.row 5 1 1 (Ba x)⟩]:=by
 refine Bj [] [(0,0,0),(14,1,1)] Ob func305 call305 ntmps305 mxd (Aq @Ob.eq_1 results305) rfl (fun qJ B qX qQ=> ?_);simp only[Am]
 (repeat (first | refine AE fun K hK=> ?_ | (refine Bv Ob mxd (by kernel_rfl) ?_;simp[Ob,qX,hx];try simp (disch:=omega) only[Af]) | refine An ?_ | (refine AW ?_ ?_ ?_;(· (simp[qX,hx];done));(try (rotate_left;(· (intro hc;(try simp[qX,hx]at hc);done))))) | (refine AH ?_;simp[results305,qX,hx]) | ((first | refine Ay ?_ | refine Ax ?_);simp[qX,hx]) | (intro hc;(try simp[qX,hx]at hc);(try (exfalso;omega))) | (refine AK [(0,0)] [] (Qv) ?_ ?_;(· (simp[qX,hx];done));(intro _;try simp[qX,hx])) | (refine⟨?_,?_⟩; · omega) | omega | apply_assumption -exfalso -symm | (exfalso;omega)))
def Jy : Ann:=⟨[7],[]⟩
theorem CF (y x:ByteArray) (hx:y.size+x.size<=150000000000000) :
  AS prog (.func 305) [.rx 0 0 2 0 0,.str x] [⟨0,0,.row 338 2 32 [[.rx 0 0 2 0 0,.osl 1 0]]⟩,⟨1,0,.row 5 1 1 (Ba y)⟩] (.tup [.int .i64 x.size,.nilifc])
   [⟨0,0,.row 338 2 32 [[.rx 0 0 2 0 0,.osl 1 1]]⟩,⟨1,1,.row 5 1 1 (Ba (y++x))⟩]:=by
 refine Bj [] [(0,0,0),(1,1,1)] Jy func305 call305 ntmps305 mxd (Aq @Jy.eq_1 results305) rfl (fun qJ B qX qQ=> ?_);simp only[Am];rw[AM_]
 (repeat (first | refine AE fun K hK=> ?_ | (refine Bv Jy mxd (by kernel_rfl) ?_;simp[Jy,qX,hx,Bf];try simp (disch:=omega) only[Af]) | refine An ?_ | (refine AW ?_ ?_ ?_;(· (simp[qX,hx,Bf];done));(try (rotate_left;(· (intro hc;(try simp[qX,hx,Bf]at hc);done))))) | (refine AH ?_;simp[results305,qX,hx,Bf]) | ((first | refine Ay ?_ | refine Ax ?_);simp[qX,hx,Bf]) | (intro hc;(try simp[qX,hx,Bf]at hc);(try (exfalso;omega))) | (refine AK [(0,0),(1,1)] [] (TQ y) ?_ ?_;(· (simp[qX,hx,Bf];done));(intro _;try simp[qX,hx,Bf])) | (refine⟨?_,?_⟩; · omega) | omega | apply_assumption -exfalso -symm | (exfalso;omega)))
theorem iX : Builder.Extra prog Tryz.bldString_ren where
 sizeBuilder:=by kernel_rfl
 liesBuilder:=by kernel_rfl
 t5:=underlying5
 a5:=Tryz.isAgg5
 z5:=Tryz.sizeOf5
 v5:=Tryz.zeroValue5
 infoByte:=by kernel_rfl
 cellsByte:=by kernel_rfl
 sizeByte:=by kernel_rfl
 neB5:=by decide
theorem FU (x:ByteArray) (hx:x.size≠0):AS prog (.func 306) [.rx 0 0 2 0 0] [⟨0,0,.row 338 2 32 [[.rx 0 0 2 0 0,.osl 1 0]]⟩,⟨1,0,.row 5 1 1 (Ba x)⟩] (.str x) [] :=
 LJ Tryz.bldString iX call306 32 x hx
theorem RI (l:List ByteArray):AS prog (.func 258) [.osl 0 0] [⟨0,0,.row 9 1 16 (l.map Bh)⟩] (.tup []) [⟨0,0,.row 9 1 16 ((DZ l).map Bh)⟩] :=
 Xe Tryz.sortStr (by rfl) call258 (by decide) l
end Go.Proofs.Wy
end
section
namespace Go.Proofs.Wy
open Go Go.Dm Go.RowKit Go.Proofs Tryz
variable [DMode]
set_option maxRecDepth 1000000
def YH (w w':World) (b:Nat) (rest:List Value):Prop:=∃(g:Nat) (cs:Array Value),Upd [b] w w'/\w.heap.size<=g/\cs.size<=maxLen /\
 w'.heap[b]? =some (.cells (.pointer (some ⟨b,0,none⟩):: .slice (some ⟨g,0,none⟩) 0 cs.size::rest).toArray 338 (0,0))/\w'.heap[g]? =some (.cells cs 5 (0,0))
theorem grown_of {b:Nat} {w:World} {cs:Array Value} {rest:List Value} (cE:w.heap[b]? =some (.cells (.pointer (some ⟨b,0,none⟩):: .slice none 0 0::rest).toArray 338 (0,0))) (hm:cs.size<=maxLen) :
  YH w ((w.setCell ⟨b,1,none⟩ (.slice (some ⟨w.heap.size,0,none⟩) 0 cs.size)).alloc (.cells cs 5)).drew.drew.drew b rest:=by
 have qV:b<w.heap.size:=(aF0.1 cE).1;refine⟨w.heap.size,cs,⟨rfl,rfl,rfl,?_,?_,?_⟩,Nat.le_refl _,hm,?_,?_⟩
 ·simp[World.drew,World.alloc,World.setCell];omega
 ·simp[World.drew,World.alloc,World.setCell]
 ·intro q hq hn;simp only[aG0]at hn;simp only[World.drew,World.alloc,World.setCell];rw[bI0,if_neg (by simp;omega),cJ0,if_neg (fun h=>hn h.symm)]
 ·simp only[World.drew,World.alloc,World.setCell];rw[bI0,if_neg (by simp;omega),cJ0,if_pos rfl,cE];simp
 ·simp only[World.drew,World.alloc,World.setCell];rw[bI0,if_pos (by simp)]
theorem Am_ (b n:Nat) (rest:List Value) (w:World) (cE:w.heap[b]? =some (.cells (.pointer (some ⟨b,0,none⟩):: .slice none 0 0::rest).toArray 338 (0,0))) (hn:n<=140737488355328) :
  Calls prog 356 #[.pointer (some ⟨b,0,none⟩),.int .i64 n] w fun e w'=>e= .returned (.tuple #[])/\YH w w' b rest:=by
 have mixed:=mxd;obtain⟨cs,qB,wY,gS⟩:=Lib.run_makeNoZero (P:=prog) w.drew #[3] 336 5 underlying336 n (by omega)
 have hw:IntKind.i64.wrap (IntKind.i64.wrap 0+(n:Int))=n:=by
  rw[Af (n:=0) (by omega) (by omega),wq];omega
 have qV:b<w.heap.size:=(aF0.1 cE).1
 have fR:(callFunc 358 #[.int .i64 (IntKind.i64.wrap (IntKind.i64.wrap 0+(n:Int)))]).run prog w.drew= .ok (.value (.slice (some ⟨w.drew.heap.size,0,none⟩) n cs.size)) (w.drew.drew.drew.alloc (.cells cs 5)):=by
  rw[hw,run_callFunc_extern func358 (by kernel_rfl) (by kernel_rfl) (by kernel_rfl) (e:=Extern.BytealgMakeNoZero.makeNoZero #[3] #[336]) (by kernel_rfl),qB];rfl
 have c1:w.drew.cell? ⟨b,1,none⟩=some (.slice none 0 0):=by
  have h1:w.drew.heap[b]? =_:=cE;rw[Lib.cell_of_heap h1];rfl
 have h2:(w.alloc (.cells cs 5)).heap[b]? =some (.cells (.pointer (some ⟨b,0,none⟩):: .slice none 0 0::rest).toArray 338 (0,0)):=(Lib.alloc_old w _ b qV).trans cE;have c2:(w.alloc (.cells cs 5)).cell? ⟨b,1,none⟩=some (.slice none 0 0):=by rw[Lib.cell_of_heap h2];rfl
 have f2:(w.alloc (.cells cs 5)).frozen? ⟨b,1,none⟩=false:=Lib.frozen_of_heap h2 1
 have hcopy:∀W:World,(Builtin.copy_ #[336,336] 3 #[.slice (some ⟨w.heap.size,0,none⟩) 0 cs.size,.slice none 0 0]).run prog W= .ok (goInt 0) W :=
  fun W=>run_copy_none W 336 336 3 5 _ _ 0 cs.size 0 0 underlying336 (by kernel_rfl) rfl
 clear hw
 go_enter func356,ntmps356
 go_wp2
 go_region_o
 all_goals (go_wp2;go_end0;exact⟨rfl,grown_of cE (gS (by unfold maxLen;omega))⟩)
theorem Bg_ (b n:Nat) (rest:List Value) (w:World) (cE:w.heap[b]? =some (.cells (.pointer none:: .slice none 0 0::rest).toArray 338 (0,0))) (cY:1<=n) (hn:n<=140737488355328) :
  Calls prog 348 #[.pointer (some ⟨b,0,none⟩),.int .i64 n] w fun e w'=>e= .returned (.tuple #[])/\YH w w' b rest:=by
 have mixed:=mxd;have qV:b<w.heap.size:=(aF0.1 cE).1
 have hbk1:(w.setCell ⟨b,0,none⟩ (.pointer (some ⟨b,0,none⟩))).heap[b]? =some (.cells (.pointer (some ⟨b,0,none⟩):: .slice none 0 0::rest).toArray 338 (0,0)):=by
  simp[World.setCell,cJ0,cE]
 have c1:(w.setCell ⟨b,0,none⟩ (.pointer (some ⟨b,0,none⟩))).drew.cell? ⟨b,1,none⟩=some (.slice none 0 0):=by
  have h1:(w.setCell ⟨b,0,none⟩ (.pointer (some ⟨b,0,none⟩))).drew.heap[b]? =_:=hbk1;rw[Lib.cell_of_heap h1];rfl
 have hU:Upd [b] w (w.setCell ⟨b,0,none⟩ (.pointer (some ⟨b,0,none⟩))).drew:=⟨rfl,rfl,rfl,fun _=>Nat.le_succ _,by simp[World.setCell,World.drew],fun q hq qC=>by
  simp only[aG0]at qC;simp only[World.setCell,World.drew]
  rw[cJ0,if_neg (fun h=>qC h.symm)]⟩
 have hsh:w.shape? b=some (338,rest.length+2):=by simp[World.shape?,cE]
 have cM:Tryz.prog.cellsOf 338=2:=by kernel_rfl
 have pT:=VQ (P:=prog) (T:=338) (n:=(rest.length+2)/Tryz.prog.cellsOf 338) (by show ¬_;exact of_decide_eq_true (by kernel_rfl)) (by rw[cM];decide) (by rw[cM];omega);have vK:=JN b (rest.length+2) w (by rw[Lib.cell_of_heap cE];rfl) hsh (by omega) pT (Lib.frozen_of_heap cE 0);have hg:=Am_ b n rest (w.setCell ⟨b,0,none⟩ (.pointer (some ⟨b,0,none⟩))).drew hbk1 hn
 go_enter func348,ntmps348
 go_wp2_with (refine vK.mono ?_;rintro e w' ⟨rfl,rfl⟩)
 go_region_o
 all_goals go_wp2_with (refine hg.mono ?_;rintro e w' ⟨rfl,h1⟩)
 all_goals (go_end0;obtain⟨g,cs,u,h2,h3,h4,h5⟩:=h1;exact⟨rfl,g,cs,hU.trans u (fun x hx=> .inl hx),by simpa[World.setCell,World.drew]using h2,h3,h4,h5⟩)
end Go.Proofs.Wy
end
section
namespace Go.Proofs.Wy
open Go Go.Dm Go.RowKit Go.Proofs Tryz
variable [DMode]
set_option maxRecDepth 100000
theorem KF (n:Nat) (cY:1<=n) (hn:n<=140737488355328):AS prog (.func 348) [.rx 0 0 2 0 0,.int .i64 n] [⟨0,0,.row 338 2 32 [[.nilp,.nilsl]]⟩] (.tup [])
  [⟨0,0,.row 338 2 32 [[.rx 0 0 2 0 0,.osl 1 1]]⟩,⟨1,1,.row 5 1 1 []⟩]:=by
 refine⟨by simp,call348,fun M w loc vs S vU=> ?_⟩;have hk:=S.ok _ (aG0.2 rfl);obtain⟨wW,hk⟩:=hk
 rcases hk with ⟨h,_⟩ | ⟨b,arr,cap,h1,h2,h3,h4,h5,h6,h7⟩
 ·simp at h
 ·obtain⟨v0,v1,rest,rfl,g0,g1⟩:=IF h7;simp only[rd]at g0 g1;subst g0;subst g1;have qE:Ae [(⟨0,0,.row 338 2 32 [[.nilp,.nilsl]]⟩:Ent)] loc 0 0=some (loc 0):=by simp[Ae,Ar]
  simp only[AI,rd]at vU;obtain⟨pv,r,vU,hp,v2,r2,rfl,⟨rfl,_⟩,rfl⟩:=vU;obtain⟨b',qD,rfl⟩:=hp _ qE;simp only at h1 h2;rw[h1]at qD;simp only[bG0,and_true]at qD;subst qD;have vD:vs= #[.pointer (some ⟨b,0,none⟩),.int .i64 n]:=by apply Array.ext';simpa using vU
  subst vD;refine⟨call348,(Bg_ b n rest w h3 cY hn).mono ?_⟩;rintro e w' ⟨rfl,g,cs,hu,hg,hm,hb,hgc⟩;have hgl:g<w'.heap.size:=(aF0.1 hgc).1;have gN:b<w.heap.size:=(aF0.1 h3).1
  let L1:Dm.Loc:=⟨[g],.slice (some ⟨g,0,none⟩) 0 cs.size⟩
  let loc':Nat->Dm.Loc:=fun i=>if i=1 then L1 else loc i
  have e0:loc' 0=loc 0:=rfl;have e1:loc' 1=L1:=rfl
  let own':List Ent:=[⟨0,0,.row 338 2 32 [[.rx 0 0 2 0 0,.osl 1 1]]⟩,⟨1,1,.row 5 1 1 []⟩]
  have qT:Ab own' loc'=[b,g]:=by simp[own',Ab,e0,e1,h1,L1]
  have jK:Ab [(⟨0,0,.row 338 2 32 [[.nilp,.nilsl]]⟩:Ent)] loc=[b]:=by simp[Ab,h1]
  have yW:Ae own' loc' 0 0=some (loc 0):=by simp[own',Ae,Ar,e0]
  have hc1:Ae own' loc' 1 1=some L1:=by simp[own',Ae,Ar,e1]
  refine⟨_,rfl,loc',⟨by simp,?_,?_,?_,?_⟩,?_,?_,?_,by simp[rd,AI]⟩
  ·show (Ab own' loc').Nodup
   rw[qT];simp;omega
  ·show ∀q∈Ab own' loc',q∉M
   rw[qT];intro q hq
   rcases aJ0.1 hq with rfl | hq
   ·exact S.ap q (by rw[jK];simp)
   ·simp only[aG0]at hq;subst hq;intro hM;have:=S.lt q (aP0 _ hM);omega
  ·show ∀q∈Ab own' loc'++M,q<w'.heap.size
   rw[qT];intro q hq
   rcases aI0.1 hq with hq | hq
   ·rcases aJ0.1 hq with rfl | hq
    ·exact bY0 gN hu.size
    ·simp only[aG0]at hq;subst hq;exact hgl
   ·exact bY0 (S.lt q (aP0 _ hq)) hu.size
  ·intro e he
   rcases aJ0.1 he with rfl | he
   ·refine⟨wW,.inr ⟨b,_,cap,h1,h2,hb,h4,h5,by simpa using h6,?_⟩⟩;refine Yu ?_ ?_ rfl rfl
    ·simp only[rd];intro l hl;have wI:Ae own' loc' 0 0=some l:=hl;rw[yW]at wI;simp only[aA0]at wI;subst wI;exact⟨b,h1,by simp⟩
    ·simp only[rd];intro l hl;have wI:Ae own' loc' 1 1=some l:=hl;rw[hc1]at wI;simp only[aA0]at wI;subst wI;rfl
   ·simp only[aG0]at he;subst he;exact⟨by simp,.inr ⟨g,cs,cs.size,rfl,rfl,hgc,by simp,hm,by simp,by simp[EB]⟩⟩
  ·rw[jK];exact hu
  ·show ∀q∈Ab own' loc',_
   rw[qT,jK];intro q hq
   rcases aJ0.1 hq with rfl | hq
   ·exact .inl (by simp)
   ·simp only[aG0]at hq;subst hq;exact .inr hg
  ·intro e he hr
   rcases aJ0.1 he with rfl | he
   ·rw[qE];rfl
   ·simp only[aG0]at he;subst he;simp at hr
end Go.Proofs.Wy
end
section
namespace Go.Proofs.Wy
open Go Go.Dm Go.RowKit Go.Proofs Tryz
variable [DMode]
attribute [local irreducible] DW Bi Bk
set_option maxRecDepth 100000
def Dz (sep:ByteArray) (T y:ByteArray):ByteArray:=T++sep++y
def Gb : List ByteArray->ByteArray->ByteArray
 | [],_=>⟨#[]⟩
 | x::r,sep=>r.foldl (Dz sep) x
theorem My (sep T y:ByteArray):(Dz sep T y).size=T.size+sep.size+y.size:=by simp[Dz,aO0]
theorem GV (sep:ByteArray) (hs:sep.size<=3):∀(r:List ByteArray) (x:ByteArray),(∀y∈r,y.size<=67108864)->(r.foldl (Dz sep) x).size<=x.size+67108867*r.length/\x.size<=(r.foldl (Dz sep) x).size
 | [],x,_=>by simp
 | y::r,x,h=>by
  obtain⟨h1,h2⟩:=GV sep hs r (Dz sep x y) fun z hz=>h z (aC0 _ hz)
  have h3:=h y aE0;rw[My]at h1 h2;rw[cQ0,List.length_cons];omega
theorem Tf {β α:Type} {f:β->α->β} {b:β} {l:List α} {k:Nat} {x:α} (hx:l[k]? =some x):(l.take (k+1)).foldl f b=f ((l.take k).foldl f b) x:=by
 obtain⟨h,rfl⟩:=aB0.1 hx;rw[List.take_succ_eq_append_getElem h,cF0];rfl
theorem MW (x:ByteArray):(⟨#[]⟩:ByteArray)++x=x:=by
 apply ID
 simp[ByteArray.data_append]
theorem Jd_ : Ba ⟨#[]⟩=[]:=rfl
def IJ : Ann:=⟨[57,61,70,72,74],[⟨18,[8],[],[]⟩]⟩
theorem Fj_ (xs:List ByteArray) (sep:ByteArray) (hs:sep.size<=3) (hl:xs.length<=1572864) (hx:∀x∈xs,1<=x.size/\x.size<=67108864):Ad prog 322 [.sl 1 16 (xs.map Bh),.str sep] (.str (Gb xs sep)):=by
 refine Ac [] IJ func322 call322 ntmps322 mxd (Aq @IJ.eq_1 results322) rfl (fun qJ B qX qQ=> ?_);clear qJ;simp only[Am];have Bc:(⟨#[]⟩:ByteArray).size=0:=rfl
 match xs,hl,hx with
 | [],hl,hx =>
  exact Au Aa Aa (Ez @Bc @Gb.eq_1 @Gb.eq_2)
 | [x],hl,hx =>
  exact Au Aa Aa (EU @Bc @Gb.eq_1 @Gb.eq_2 @Bh.eq_1)
 | x0::x1::r,hl,hx =>
  obtain⟨xs,mT⟩:∃xs,xs=x0::x1::r:=⟨_,rfl⟩;have hJ:Gb (x0::x1::r) sep=(xs.drop 1).foldl (Dz sep) x0:=by rw[mT];rfl
  have h0:xs[0]? =some x0:=by rw[mT];rfl
  have h2:2<=xs.length:=by rw[mT];simp
  obtain⟨J,hJJ⟩:∃J,J=Gb (x0::x1::r) sep:=⟨_,rfl⟩;rw[<-hJJ];rw[<-mT]at hl hx |-;rw[<-hJJ]at hJ;clear hJJ mT;have wN:0<xs.length:=by omega
  have vP:xs[0]'wN=x0:=(aB0.1 h0).2;have c0:¬(xs.length:Int)=0:=by omega
  have c1:¬(xs.length:Int)=1:=by omega
  have c0b:((xs.length:Int)==0)=false:=by simpa using c0
  have c1b:((xs.length:Int)==1)=false:=by simpa using c1
  have w1:IntKind.i64.wrap ((xs.length:Int)-1)=(xs.length:Int)-1:=wq
  obtain⟨m0,fH,pR,qL⟩:∃m0:Int,0<=m0/\m0<=4718592/\(if 0<sep.size then m0=(sep.size:Int)*((xs.length:Int)-1)else m0=0):=by
   by_cases h:0<sep.size
   ·refine⟨(sep.size:Int)*((xs.length:Int)-1),?_,?_,by rw[if_pos h]⟩
    ·exact Int.mul_nonneg (by omega) (by omega)
    ·have:(sep.size:Int)*((xs.length:Int)-1)<=3*1572864:=Int.mul_le_mul (by omega) (by omega) (by omega) (by omega);omega
   ·exact⟨0,by omega,by omega,by rw[if_neg h]⟩
  have hys:(xs.drop 1).length=xs.length-1:=by rw[bW0]
  have hyx:∀y∈xs.drop 1,y.size<=67108864:=fun y hy=>(hx y (List.mem_of_mem_drop hy)).2
  have t2:List.take (xs.length-1) (xs.map Bh).tail=(xs.drop 1).map Bh:=by rw[<-List.drop_one,<-List.map_drop];exact cL0 (by simp)
  have hx0:=hx x0 (by rw[<-vP];exact dG0 wN);have wR:=CF ⟨#[]⟩ x0 (by rw[Bc];omega);rw[MW,Jd_]at wR;obtain⟨ys,hysd⟩:∃ys,ys=xs.drop 1:=⟨_,rfl⟩;rw[<-hysd]at hJ hys hyx t2;clear hysd;have jS:∀n:Nat,(n:Int)<=9223372036854775807->IntKind.i64.wrap (n:Int)=n:=fun n h=>Af (by omega) h
  by_cases nE:0<sep.size
  ·rw[if_pos nE]at qL;have w2:IntKind.i64.wrap ((sep.size:Int)*((xs.length:Int)-1))=m0:=by rw[<-qL];exact wq
   have w3:IntKind.i64.wrap m0=m0:=wq
   have kU:¬IntKind.i64.wrap ((9223372036854775807:Int).tdiv ((xs.length:Int)-1))<=(sep.size:Int):=by
    rw[Int.tdiv_eq_ediv_of_nonneg (by omega)];have h4:(4:Int)<=9223372036854775807/((xs.length:Int)-1):=Int.le_ediv_of_mul_le (by omega) (by omega);have h5:(9223372036854775807:Int)/((xs.length:Int)-1)<=9223372036854775807:=Int.ediv_le_self _ (by omega);rw[Af (by omega) h5];omega
   have hnz:¬(xs.length:Int)-1=0:=by omega
   have hsi:(0:Int)<(sep.size:Int):=by omega
   (refine AM Aa Aa (Be_ @Bc c0 c1 c0b c1b w1 w2 w3 kU hnz nE hsi) ?_;intros;refine Aj ?_)
   refine Ak (X:={p:Nat×Nat//p.1<=xs.length/\p.2<=4718592+67108864*p.1/\(0<p.1->1<=p.2)}) (fun p=>⟨[(0,.sl 1 16 (xs.map Bh)),(1,.str sep),(5,.int .i64 p.1.2),(39,.sl 1 16 (xs.map Bh)),(40,.int .i64 xs.length),(41,.int .i64 p.1.1)],[]⟩) (fun p=>xs.length-p.1.1) ⟨(0,m0.toNat),by simp only;refine⟨by omega,by omega,by omega⟩⟩ (Sub.lit (by simp;try omega)) ?_;rintro⟨⟨k,m⟩,hk,hmb,pR⟩;simp only at hk hmb pR |-
   by_cases qV:k<xs.length
   ·obtain⟨x,hxk,hxk',vN⟩:=Aw qV;obtain⟨y1,y2⟩:=hx x vN;have q1:IntKind.i64.wrap (9223372036854775807-(m:Int))=9223372036854775807-(m:Int):=wq;have q2:¬(9223372036854775807-(m:Int)<(x.size:Int)):=by omega
    have q3:IntKind.i64.wrap ((m:Int)+(x.size:Int))=(m:Int)+(x.size:Int):=wq
    (refine AM Aa Aa (JB @Bh.eq_1 qV hxk hxk' q1 q2 q3) ?_;intros;refine Aj ?_)
    refine Al.mk ⟨(k+1,m+x.size),show k+1<=xs.length/\m+x.size<=4718592+67108864*(k+1)/\(0<k+1->1<=m+x.size) from ⟨by omega,by omega,by omega⟩⟩ (Sub.lit (by simp)) (by simp;omega)
    skip
   ·have qZ:k=xs.length:=by omega
    subst qZ;have hg:=KF m (pR (by omega)) (by omega)
    (repeat (first | (refine Ly (bs:=32) (k:=2) (z:=[.nilp,.nilsl]) (by simp[qX]) (by simp) (by rfl) rfl (by decide) (fun _ _=> ?_);simp[qX,Bh,h0,vP,wN,t2,Bc]) | refine AE fun K hK=> ?_ | (refine Bv IJ mxd (by kernel_rfl) ?_;simp[IJ,qX,Bh,h0,vP,wN,t2,Bc];try simp (disch:=omega) only[Af]) | refine An ?_ | (refine AW ?_ ?_ ?_;(· (simp[qX,Bh,h0,vP,wN,t2,Bc];done));(try (rotate_left;(· (intro hc;(try simp[qX,Bh,h0,vP,wN,t2,Bc]at hc);done))))) | (refine AH ?_;simp[results322,qX,Bh,h0,vP,wN,t2,Bc]) | ((first | refine Ay ?_ | refine Ax ?_);simp[qX,Bh,h0,vP,wN,t2,Bc]) | (intro hc;(try simp[qX,Bh,h0,vP,wN,t2,Bc]at hc);(try (exfalso;omega))) | (refine AK [(8,0)] [(50,1)] (hg) ?_ ?_;(· (simp[qX,Bh,h0,vP,wN,t2,Bc];done));(intro _;try simp[qX,Bh,h0,vP,wN,t2,Bc])) | (refine AK [(8,0),(50,1)] [] (wR) ?_ ?_;(· (simp[qX,Bh,h0,vP,wN,t2,Bc];done));(intro _;try simp[qX,Bh,h0,vP,wN,t2,Bc])) | (refine⟨?_,?_⟩; · omega) | omega | apply_assumption -exfalso -symm | (exfalso;omega)))
    refine Ak (X:={k:Nat//k<=ys.length}) (fun k=>⟨[(1,.str sep),(8,.rx 8 1 2 0 0),(63,.sl 1 16 (ys.map Bh)),(64,.int .i64 ys.length),(65,.int .i64 k.1)],[⟨8,1,.row 338 2 32 [[.rx 8 1 2 0 0,.osl 50 1]]⟩,⟨50,1,.row 5 1 1 (Ba ((ys.take k.1).foldl (Dz sep) x0))⟩]⟩) (fun k=>ys.length-k.1) ⟨0,by omega⟩ (Sub.lit (by simp[t2,hys])) ?_;rintro⟨k,hk⟩;simp only
    by_cases qV:k<ys.length
    ·obtain⟨y,hy,zM,bS⟩:=Aw qV;obtain⟨j1,j2⟩:=GV sep hs (ys.take k) x0 fun z hz=>hyx z (cG0 hz)
     rw[bE0]at j1;have dW:=Tf (f:=Dz sep) (b:=x0) hy;have hy9:=hyx y bS;obtain⟨T,hT⟩:∃T,T=(ys.take k).foldl (Dz sep) x0:=⟨_,rfl⟩;rw[<-hT]at j1 j2 dW |-;have e1:=CF T sep (by omega);have e2:=CF (T++sep) y (by rw[aO0];omega);rw[show T++sep++y=Dz sep T y from rfl,<-dW]at e2
     (refine AM Aa (Aq (Ee [(8,0),(50,1)] [] e1) (Ee [(8,0),(50,1)] [] e2)) (EU @Bh.eq_1 qV hy zM) ?_;intros;refine Aj ?_)
     refine Al.mk ⟨k+1,by omega⟩ (Sub.lit (by simp)) (by simp;omega)
     skip
    ·have qZ:k=ys.length:=by omega
     subst qZ;rw[aY0,<-hJ];obtain⟨j1,j2⟩:=GV sep hs ys x0 hyx;rw[<-hJ]at j1 j2;have e1:=FU J (by omega);exact Au Aa (AA (Ee [(8,0),(50,1)] [] e1)) Aa
  ·rw[if_neg nE]at qL
   (refine AM Aa Aa (JB @Bc c0 c1 c0b c1b w1 nE) ?_;intros;refine Aj ?_)
   refine Ak (X:={p:Nat×Nat//p.1<=xs.length/\p.2<=4718592+67108864*p.1/\(0<p.1->1<=p.2)}) (fun p=>⟨[(0,.sl 1 16 (xs.map Bh)),(1,.str sep),(5,.int .i64 p.1.2),(39,.sl 1 16 (xs.map Bh)),(40,.int .i64 xs.length),(41,.int .i64 p.1.1)],[]⟩) (fun p=>xs.length-p.1.1) ⟨(0,m0.toNat),by simp only;refine⟨by omega,by omega,by omega⟩⟩ (Sub.lit (by simp;try omega)) ?_;rintro⟨⟨k,m⟩,hk,hmb,pR⟩;simp only at hk hmb pR |-
   by_cases qV:k<xs.length
   ·obtain⟨x,hxk,hxk',vN⟩:=Aw qV;obtain⟨y1,y2⟩:=hx x vN;have q1:IntKind.i64.wrap (9223372036854775807-(m:Int))=9223372036854775807-(m:Int):=wq;have q2:¬(9223372036854775807-(m:Int)<(x.size:Int)):=by omega
    have q3:IntKind.i64.wrap ((m:Int)+(x.size:Int))=(m:Int)+(x.size:Int):=wq
    (refine AM Aa Aa (JB @Bh.eq_1 qV hxk hxk' q1 q2 q3) ?_;intros;refine Aj ?_)
    refine Al.mk ⟨(k+1,m+x.size),show k+1<=xs.length/\m+x.size<=4718592+67108864*(k+1)/\(0<k+1->1<=m+x.size) from ⟨by omega,by omega,by omega⟩⟩ (Sub.lit (by simp)) (by simp;omega)
    skip
   ·have qZ:k=xs.length:=by omega
    subst qZ;have hg:=KF m (pR (by omega)) (by omega)
    (repeat (first | (refine Ly (bs:=32) (k:=2) (z:=[.nilp,.nilsl]) (by simp[qX]) (by simp) (by rfl) rfl (by decide) (fun _ _=> ?_);simp[qX,Bh,h0,vP,wN,t2,Bc]) | refine AE fun K hK=> ?_ | (refine Bv IJ mxd (by kernel_rfl) ?_;simp[IJ,qX,Bh,h0,vP,wN,t2,Bc];try simp (disch:=omega) only[Af]) | refine An ?_ | (refine AW ?_ ?_ ?_;(· (simp[qX,Bh,h0,vP,wN,t2,Bc];done));(try (rotate_left;(· (intro hc;(try simp[qX,Bh,h0,vP,wN,t2,Bc]at hc);done))))) | (refine AH ?_;simp[results322,qX,Bh,h0,vP,wN,t2,Bc]) | ((first | refine Ay ?_ | refine Ax ?_);simp[qX,Bh,h0,vP,wN,t2,Bc]) | (intro hc;(try simp[qX,Bh,h0,vP,wN,t2,Bc]at hc);(try (exfalso;omega))) | (refine AK [(8,0)] [(50,1)] (hg) ?_ ?_;(· (simp[qX,Bh,h0,vP,wN,t2,Bc];done));(intro _;try simp[qX,Bh,h0,vP,wN,t2,Bc])) | (refine AK [(8,0),(50,1)] [] (wR) ?_ ?_;(· (simp[qX,Bh,h0,vP,wN,t2,Bc];done));(intro _;try simp[qX,Bh,h0,vP,wN,t2,Bc])) | (refine⟨?_,?_⟩; · omega) | omega | apply_assumption -exfalso -symm | (exfalso;omega)))
    refine Ak (X:={k:Nat//k<=ys.length}) (fun k=>⟨[(1,.str sep),(8,.rx 8 1 2 0 0),(63,.sl 1 16 (ys.map Bh)),(64,.int .i64 ys.length),(65,.int .i64 k.1)],[⟨8,1,.row 338 2 32 [[.rx 8 1 2 0 0,.osl 50 1]]⟩,⟨50,1,.row 5 1 1 (Ba ((ys.take k.1).foldl (Dz sep) x0))⟩]⟩) (fun k=>ys.length-k.1) ⟨0,by omega⟩ (Sub.lit (by simp[t2,hys])) ?_;rintro⟨k,hk⟩;simp only
    by_cases qV:k<ys.length
    ·obtain⟨y,hy,zM,bS⟩:=Aw qV;obtain⟨j1,j2⟩:=GV sep hs (ys.take k) x0 fun z hz=>hyx z (cG0 hz)
     rw[bE0]at j1;have dW:=Tf (f:=Dz sep) (b:=x0) hy;have hy9:=hyx y bS;obtain⟨T,hT⟩:∃T,T=(ys.take k).foldl (Dz sep) x0:=⟨_,rfl⟩;rw[<-hT]at j1 j2 dW |-;have e1:=CF T sep (by omega);have e2:=CF (T++sep) y (by rw[aO0];omega);rw[show T++sep++y=Dz sep T y from rfl,<-dW]at e2
     (refine AM Aa (Aq (Ee [(8,0),(50,1)] [] e1) (Ee [(8,0),(50,1)] [] e2)) (EU @Bh.eq_1 qV hy zM) ?_;intros;refine Aj ?_)
     refine Al.mk ⟨k+1,by omega⟩ (Sub.lit (by simp)) (by simp;omega)
     skip
    ·have qZ:k=ys.length:=by omega
     subst qZ;rw[aY0,<-hJ];obtain⟨j1,j2⟩:=GV sep hs ys x0 hyx;rw[<-hJ]at j1 j2;have e1:=FU J (by omega);exact Au Aa (AA (Ee [(8,0),(50,1)] [] e1)) Aa
end Go.Proofs.Wy
end
section
namespace Go.Proofs.Wy
open Go Go.Dm Tryz
variable [DMode]
def uN (k:Int):ByteArray:=if k=6 then ⟨#[42]⟩else if k=7 then ⟨#[43]⟩else if k=8 then ⟨#[63]⟩else ⟨#[]⟩
def NT (k:Int):ByteArray:=if k=5 then ⟨#[32,124,32]⟩else if k=4 then ⟨#[32]⟩else ⟨#[]⟩
def Hr_ (pk k:Int):Bool:=decide (k=5)||(decide (k=4)&& !decide (pk=5))
def Kp (pk k:Int) (s:ByteArray):ByteArray:=if Hr_ pk k then ⟨#[40]⟩++s++⟨#[41]⟩else s
mutual
def Dd : RT->ByteArray
 | .mk x ks=>if x.k=1 then ⟨#[37]⟩else if x.k=2\/x.k=3 then x.s else Gb (DC x.k ks) (NT x.k)++uN x.k
def DC (pk:Int):List RT->List ByteArray
 | []=>[]
 | t::ts=>Kp pk t.x.k (Dd t)::DC pk ts
end
theorem QF (x:Nd) (ks:List RT):Dd (.mk x ks)=if x.k=1 then ⟨#[37]⟩else if x.k=2\/x.k=3 then x.s else Gb (DC x.k ks) (NT x.k)++uN x.k:=by rw[Dd]
theorem Gr (pk:Int) (t:RT) (ts:List RT):DC pk (t::ts)=Kp pk t.x.k (Dd t)::DC pk ts:=by rw[DC]
theorem MQ (pk:Int):DC pk []=[]:=by rw[DC]
theorem DE (pk:Int):∀ts:List RT,DC pk ts=ts.map fun t=>Kp pk t.x.k (Dd t)
 | []=>MQ pk
 | t::ts=>by rw[Gr,DE pk ts];rfl
theorem uM (a:UInt8):(⟨#[a]⟩:ByteArray).size=1:=rfl
theorem IE (k:Int):(NT k).size<=3:=by unfold NT;split<;>(try split)<;>decide
theorem Zh (k:Int):(uN k).size<=1:=by
 unfold uN
 repeat' split
 all_goals decide
theorem Lh (pk k:Int) (s:ByteArray):s.size<=(Kp pk k s).size/\(Kp pk k s).size<=s.size+2:=by
 unfold Kp
 split
 ·rw[aO0,aO0,uM,uM];omega
 ·omega
theorem Mx (sep:ByteArray) (hs:sep.size<=3):∀(r:List ByteArray) (x:ByteArray),(r.foldl (Dz sep) x).size<=x.size+(r.map fun y=>y.size+3).sum/\x.size<=(r.foldl (Dz sep) x).size
 | [],x=>by simp
 | y::r,x=>by
  obtain⟨h1,h2⟩:=Mx sep hs r (Dz sep x y);rw[My]at h1 h2;rw[cQ0,List.map_cons,cZ0];omega
theorem Jq (xs:List ByteArray) (sep:ByteArray) (hs:sep.size<=3):(Gb xs sep).size<=(xs.map fun y=>y.size+3).sum:=by
 cases xs with
 | nil=>simp[Gb];decide
 | cons x r =>
  have:=(Mx sep hs r x).1
  show (r.foldl (Dz sep) x).size<=_
  rw[List.map_cons,cZ0];omega
theorem VO {x:Nd} (h:Ei x=true) (hk:x.k=2\/x.k=3):1<=x.s.size:=by
 have hn:∀s,Cb s=true->1<=s.size:=fun s hs=>by unfold Cb at hs;simp only[aM0,decide_eq_true_eq]at hs;exact hs.1.1
 unfold Ei at h
 rcases hk with hk | hk
 ·rw[if_neg (by omega),if_pos hk]at h;simp only[aM0]at h;exact hn _ h.2.1
 ·rw[if_neg (by omega),if_neg (by omega),if_pos hk]at h;simp only[aM0]at h;exact hn _ h.2.1
theorem OU {x:Nd} (h:Ei x=true) (h1:¬x.k=1) (h2:¬(x.k=2\/x.k=3)):1<=x.n:=by
 unfold Ei at h;rw[if_neg h1,if_neg (fun e=>h2 (.inl e)),if_neg (fun e=>h2 (.inr e))]at h
 repeat' split at h
 all_goals simp only[aM0,decide_eq_true_eq,aU0]at h
 all_goals omega
mutual
theorem HW : ∀(t:RT),FX t=true->1<=(Dd t).size/\(Dd t).size+5<=24*(flat t).length
 | .mk x ks,h=>by
  obtain⟨h1,h2,h3⟩:=CI h;rw[QF,Be,List.length_cons]
  split
  ·rw[uM];omega
  ·rename_i k1
   split
   ·rename_i k2;have:=VO h1 k2;have:=OT h1;omega
   ·rename_i k2;have hn:=OU h1 k1 k2;obtain⟨s1,s2⟩:=KY x.k ks h3;have hj:=Jq (DC x.k ks) (NT x.k) (IE _);have hg:=Zh x.k;rw[aO0];refine⟨?_,by omega⟩
    cases ks with
    | nil=>simp at h2;omega
    | cons t ts =>
     have:=s2 (Kp x.k t.x.k (Dd t)) (by rw[Gr];exact aE0);have h4:=(Mx (NT x.k) (IE _) (DC x.k ts) (Kp x.k t.x.k (Dd t))).2;rw[Gr]
     show 1<=((DC x.k ts).foldl (Dz (NT x.k)) (Kp x.k t.x.k (Dd t))).size+_
     omega
theorem KY : ∀(pk:Int) (ts:List RT),Gu ts=true->((DC pk ts).map fun y=>y.size+3).sum<=24*(Ao ts).length/\∀y∈DC pk ts,1<=y.size
 | pk,[],_=>by simp[MQ]
 | pk,t::ts,h=>by
  obtain⟨h1,h2⟩:=Cy h;obtain⟨a1,a2⟩:=HW t h1;obtain⟨b1,b2⟩:=KY pk ts h2;obtain⟨c1,c2⟩:=Lh pk t.x.k (Dd t);rw[Gr,AG,List.map_cons,cZ0,aD0];refine⟨by omega,fun y hy=> ?_⟩
  rcases aJ0.1 hy with rfl | hy
  ·omega
  ·exact b2 y hy
end
abbrev Str (l:List ByteArray):Prop:=l.Pairwise fun a b=>CV a b=true
theorem RF : ∀{a b:List ByteArray},Str a->Str b->(∀x,x∈a↔x∈b)->a=b
 | [],[],_,_,_=>rfl
 | [],y::b,_,_,h=>by have:=(h y).2 aE0;simp at this
 | x::a,[],_,_,h=>by have:=(h x).1 aE0;simp at this
 | x::a,y::b,ha,hb,h=>by
  obtain⟨ha1,mI⟩:=cK0.1 ha;obtain⟨wQ,wB⟩:=cK0.1 hb
  have bT:x=y:=by
   rcases aJ0.1 ((h x).1 aE0)with h1 | h1
   ·exact h1
   ·rcases aJ0.1 ((h y).2 aE0)with h2 | h2
    ·exact h2.symm
    ·have:=RL (wQ x h1);rw[ha1 y h2]at this;simp at this
  subst bT;rw[RF mI wB fun z=> ?_]
  constructor
  ·intro hz
   rcases aJ0.1 ((h z).1 (aC0 _ hz))with h1 | h1
   ·subst h1;have:=ha1 z hz;rw[Fl]at this;simp at this
   ·exact h1
  ·intro hz
   rcases aJ0.1 ((h z).2 (aC0 _ hz))with h1 | h1
   ·subst h1;have:=wQ z hz;rw[Fl]at this;simp at this
   ·exact h1
theorem LV_ : ∀a b:List UInt8,Op.bytesLess a b=true↔a<b
 | [],[]=>by simp[Op.bytesLess]
 | [],_::_=>by simp[Op.bytesLess]
 | _::_,[]=>by simp[Op.bytesLess]
 | x::a,y::b=>by
  rw[List.cons_lt_cons_iff];simp only[Op.bytesLess,cY0,aM0,decide_eq_true_eq,beq_iff_eq,LV_ a b]
theorem Vw (l:List ByteArray) (x:ByteArray):x∈DZ l↔x∈l:=by
 unfold DZ;simp only[aR0,(dX0 _ _).mem_iff]
 constructor
 ·rintro⟨y,⟨z,hz,rfl⟩,rfl⟩;exact hz
 ·intro h;exact⟨_,⟨x,h,rfl⟩,rfl⟩
theorem MX (l:List ByteArray):(DZ l).Pairwise fun a b=>CV b a=false:=by
 unfold DZ;rw[dM0]
 have h:=List.pairwise_mergeSort (le:=fun x y:List UInt8=>decide (x<=y)) (by
  intro a b c h1 h2;simp only[decide_eq_true_eq]at *
  exact List.le_trans h1 h2) (by
  intro a b;simp only[cY0,decide_eq_true_eq]
  exact List.le_total a b) (l.map fun s=>s.data.toList)
 refine h.imp ?_;intro a b mH;simp only[decide_eq_true_eq]at mH
 have:¬Op.bytesLess b a=true:=fun h=>by
  rw[LV_]at h;exact(List.not_lt.2 mH) h
 simpa[CV]using this
def eqT (a b:ByteArray):Bool:=a==b
theorem TK : ∀{l:List ByteArray} {p:ByteArray},(p::l).Pairwise (fun a b=>CV b a=false)->Str (Ci eqT p l)/\(∀x∈Ci eqT p l,CV p x=true)/\∀x,(x=p\/x∈Ci eqT p l)↔(x=p\/x∈l)
 | [],p,_=>⟨.nil,by simp[Ci],by simp[Ci]⟩
 | y::l,p,h=>by
  obtain⟨h1,h2⟩:=cK0.1 h;obtain⟨g1,g2,g3⟩:=TK h2;unfold Ci
  by_cases hyp:y=p
  ·subst hyp;rw[if_pos (by simp[eqT])];refine⟨g1,g2,fun x=> ?_⟩;rw[g3 x];simp only[aJ0]
   constructor
   ·rintro (h | h)
    ·exact .inl h
    ·exact .inr (.inr h)
   ·rintro (h | h | h)
    ·exact .inl h
    ·exact .inl h
    ·exact .inr h
  ·rw[if_neg (by simp[eqT,hyp])]
   have hpy:CV p y=true:=by
    cases hc:CV p y
    ·exact absurd (Lb hc (h1 y aE0)).symm hyp
    ·rfl
   refine⟨cK0.2 ⟨g2,g1⟩,fun x hx=> ?_,fun x=> ?_⟩
   ·rcases aJ0.1 hx with rfl | hx
    ·exact hpy
    ·exact Kd hpy (g2 x hx)
   ·simp only[aJ0];rw[g3 x]
def Fc (l:List ByteArray):List ByteArray:=BA eqT (DZ l)
theorem HU (l:List ByteArray):Str (Fc l)/\∀x,x∈Fc l↔x∈l:=by
 unfold Fc;have h:=MX l;have hm:=Vw l
 cases hs:DZ l with
 | nil =>
  rw[hs]at hm;exact⟨.nil,by simpa[BA]using hm⟩
 | cons p t =>
  rw[hs]at h hm;obtain⟨g1,g2,g3⟩:=TK h;refine⟨cK0.2 ⟨g2,g1⟩,fun x=> ?_⟩;simp only[BA,aJ0];rw[g3 x,<-hm x];simp
theorem Hx {α:Type} (e:α->α->Bool):∀(l:List α) (p:α),(Ci e p l).length<=l.length
 | [],_=>by simp[Ci]
 | y::l,p=>by
  unfold Ci
  split
  ·have:=Hx e l y;simp;omega
  ·have:=Hx e l y;simp;omega
theorem HV (l:List ByteArray):(Fc l).length<=l.length:=by
 unfold Fc;have h:=Gs l
 cases hs:DZ l with
 | nil=>simp[BA]
 | cons p t =>
  rw[hs]at h;have:=Hx eqT t p;simp only[BA,List.length_cons]at h |-;omega
theorem Bq_ {l a:List ByteArray} (ha:Str a) (h:∀x,x∈a↔x∈l):a=Fc l:=by
 obtain⟨g1,g2⟩:=HU l;exact RF ha g1 fun x=>by rw[h x,g2 x]
end Go.Proofs.Wy
end
section
namespace Go.Proofs.Wy
open Go Go.Dm Tryz
variable [DMode]
attribute [local irreducible] DW Bi Bk
set_option maxRecDepth 100000

end Go.Proofs.Wy
end
section
namespace Go
section
variable {F : Fence} {n : Nat} {P : Program} {Q : Exit -> Act -> World -> Prop} {a : Act} {w : World}
theorem stepR_scope {b:Frame} {k:List Item} {cs:List Frame} {c:Code}:step P (lone (b.atR a (.code (.scope c)::k)) cs w)= .next (lone (b.atR a (.code c:: .inScope c::k)) cs w) :=
 step_lone_go (by simp[stepG,stepG.exec,Frame.atR])
theorem stepR_inScope {b:Frame} {k:List Item} {cs:List Frame} {c:Code}:step P (lone (b.atR a (.inScope c::k)) cs w)= .next (lone (b.atR a k) cs w) :=
 step_lone_go (by simp[stepG,stepG.exec,Frame.atR])
theorem wpIn_scope_straight {c:Code} (h:c.wpIn F n P (Exit.noGoto Q) a w):(Code.scope c).wpIn F n P Q a w:=by
 intro b k cs cH hb hr;have h0:(lone (b.atR a (.code (.scope c)::k)) cs w).fenced P F:=fenced_calm hb hr rfl;obtain⟨e,a₁,w₁,hq,gQ⟩:=h b (.inScope c::k) cs cH hb hr
 cases e with
 | normal=>exact⟨.normal,a₁,w₁,hq,.head h0 stepR_scope (StepsIn.trans gQ (.one (fenced_calm hb hr rfl) stepR_inScope))⟩
 | exit id =>
  have hx:exitTo id (.inScope c::k)=exitTo id k:=by simp[exitTo]
  exact⟨_,a₁,w₁,hq,fun k' hk=> .head h0 stepR_scope (gQ.1 k' (by rw[hx];exact hk)),
   fun wL hk=>let ⟨k₁,h1,h2⟩:=gQ.2 wL (by rw[hx];exact hk);⟨k₁,h1,.head h0 stepR_scope h2⟩⟩
 | goto l=>exact hq.elim
 | ret=>exact⟨_,a₁,w₁,hq,.of_steps (.one h0 stepR_scope) gQ⟩
 | panic ch=>exact⟨_,a₁,w₁,hq,.of_steps (.one h0 stepR_scope) gQ⟩
 | outgrown=>exact⟨_,a₁,w₁,hq,.of_steps (.one h0 stepR_scope) gQ⟩
end
end Go
namespace Go.Dm
variable [DMode]
def JO_ (Q:Exit->DS->Prop):Exit->DS->Prop
 | .goto _,_=>False
 | e,s=>Q e s
theorem Uu {P:Program} {B:Base} {Q:Exit->DS->Prop} {s:DS} {c:Code} (h:DW P B c (JO_ Q) s):DW P B (.scope c) Q s:=by
 intro a w loc R;refine wpIn_scope_straight (wpIn_mono (h a w loc R) ?_);rintro e a' w' ⟨s',loc',hq,R'⟩
 cases e<;>first
  | exact hq.elim
  | exact⟨s',loc',hq,R'⟩
attribute [simp] JO_
end Go.Dm
end
section
namespace Go.Proofs.Wy
open Go Go.Dm Tryz
variable [DMode]
attribute [local irreducible] DW Bi Bk
set_option maxRecDepth 100000
def CR_ : Ann:=⟨[],[]⟩
theorem eU (g1 g2 g3 g4:FuncId) (c1 c2 c3 c4:List DVal) (e1 e2 e3 e4:Int) (h1:Ad prog g1 c1 (.int .i64 e1)) (h2:e1=0->Ad prog g2 c2 (.int .i64 e2)) (h3:e1=0->e2=0->Ad prog g3 c3 (.int .i64 e3)) (h4:e1=0->e2=0->e3=0->Ad prog g4 c4 (.int .i64 e4)) :
  Ad prog 59 [.sl 1 8 [[.fn (.func g1) [] c1],[.fn (.func g2) [] c2],[.fn (.func g3) [] c3],[.fn (.func g4) [] c4]]] (.int .i64 (if e1=0 then (if e2=0 then (if e3=0 then e4 else e3)else e2)else e1)):=by
 refine Ac [] CR_ func59 call59 ntmps59 mxd (Aq @CR_.eq_1 results59) rfl (fun qJ B qX qQ=> ?_);simp only[Am];clear qJ;obtain⟨R,hR⟩:∃R,R=(if e1=0 then (if e2=0 then (if e3=0 then e4 else e3)else e2)else e1):=⟨_,rfl⟩;rw[<-hR]
 (refine AM Aa Aa Aa ?_;intros;refine Aj ?_)
 refine Ak (X:={k:Nat//k<=4/\(1<=k->e1=0)/\(2<=k->e2=0)/\(3<=k->e3=0)/\(4<=k->e4=0)}) (fun x=>⟨[(6,.sl 1 8 [[.fn (.func g1) [] c1],[.fn (.func g2) [] c2],[.fn (.func g3) [] c3],[.fn (.func g4) [] c4]]),(7,.int .i64 4),(8,.int .i64 x.1)],[]⟩) (fun x=>4-x.1) ⟨0,by simp⟩ (Sub.lit (by simp)) ?_;rintro⟨k,hk,q1,q2,q3,q4⟩
 match k,hk,q1,q2,q3,q4 with
 | 0,_,_,_,_,_ =>
  by_cases h:e1=0
  ·subst h
   (refine AM (AA h1) Aa Aa ?_;intros;refine Aj ?_)
   exact Al.mk ⟨1,by omega,by simp,by omega,by omega,by omega⟩ (Sub.lit (by simp)) (by simp)
   skip
  ·have jN:R=e1:=by rw[hR];simp[h]
   subst jN;exact Au (AA h1) Aa (AA h)
 | 1,_,q1,_,_,_ =>
  have q1:=q1 (by omega);have k2:=h2 q1;clear h2 h3 h4;subst q1
  by_cases h:e2=0
  ·subst h
   (refine AM (AA k2) Aa Aa ?_;intros;refine Aj ?_)
   exact Al.mk ⟨2,by omega,by simp,by simp,by omega,by omega⟩ (Sub.lit (by simp)) (by simp)
   skip
  ·have jN:R=e2:=by rw[hR];simp[h]
   subst jN;exact Au (AA k2) Aa (AA h)
 | 2,_,q1,q2,_,_ =>
  have q1:=q1 (by omega);have q2:=q2 (by omega);have k3:=h3 q1 q2;clear h2 h3 h4;subst q1;subst q2
  by_cases h:e3=0
  ·subst h
   (refine AM (AA k3) Aa Aa ?_;intros;refine Aj ?_)
   exact Al.mk ⟨3,by omega,by simp,by simp,by simp,by omega⟩ (Sub.lit (by simp)) (by simp)
   skip
  ·have jN:R=e3:=by rw[hR];simp[h]
   subst jN;exact Au (AA k3) Aa (AA h)
 | 3,_,q1,q2,q3,_ =>
  have q1:=q1 (by omega);have q2:=q2 (by omega);have q3:=q3 (by omega);have k4:=h4 q1 q2 q3;clear h2 h3 h4;subst q1;subst q2;subst q3
  by_cases h:e4=0
  ·subst h
   (refine AM (AA k4) Aa Aa ?_;intros;refine Aj ?_)
   exact Al.mk ⟨4,by omega,by simp,by simp,by simp,by simp⟩ (Sub.lit (by simp)) (by simp)
   skip
  ·have jN:R=e4:=by rw[hR];simp
   subst jN;exact Au (AA k4) Aa (AA h)
 | 4,_,q1,q2,q3,q4 =>
  clear h2 h3 h4;have q1:=q1 (by omega);have q2:=q2 (by omega);have q3:=q3 (by omega);have q4:=q4 (by omega);subst q1;subst q2;subst q3;subst q4;have jN:R=0:=by rw[hR];simp
  subst jN;exact Au Aa Aa Aa


def Ef (l:List ByteArray):List DVal:=l.map DVal.str
theorem DF (x:ByteArray) (l:List ByteArray):Ef (x::l)= .str x::Ef l:=rfl
theorem Ea_ (l:List ByteArray):(Ef l).length=l.length:=by simp[Ef]
theorem Jn : ∀{l:List ByteArray} {s:ByteArray},¬s∈l->AQ (Ef l) (.str s)=none
 | [],_,_=>rfl
 | x::l,s,h=>by
  have h1:(s==x)=false:=by simp;intro e;exact h (by simp[e])
  have h2:=Jn (l:=l) (s:=s) fun hm=>h (aC0 _ hm)
  simp[DF,AQ,BH,Du,eqC,h1,h2]
theorem SH : ∀{l:List ByteArray} {s:ByteArray},s∈l->∃j,AQ (Ef l) (.str s)=some j/\j<l.length
 | [],_,h=>by simp at h
 | x::l,s,h=>by
  by_cases h1:s=x
  ·subst h1;exact⟨0,by simp[DF,AQ,BH,Du,eqC],by simp⟩
  ·obtain⟨j,h2,h3⟩:=SH (l:=l) (s:=s) (by simpa[h1]using h);have h1b:(s==x)=false:=by simpa using h1
   exact⟨j+1,by simp[DF,AQ,BH,Du,eqC,h1b,h2],by simp;omega⟩
theorem Ck_ (l:List ByteArray):(Ef l).all (Ck prog 9)=true:=by
 induction l with
 | nil=>rfl
 | cons p l ih=>rw[DF,dB0,ih];simp
@[simp] theorem NI_ (l:List ByteArray):AR (Ef l)=0:=by
 induction l with
 | nil=>rfl
 | cons a l ih=>rw[DF];simp[AR,mx,ih]
def LN_ (n:Nat):List DVal:=(List.range n).map fun i:Nat=>DVal.int .i64 ((i:Int)+1)
@[simp] theorem Nh_ (n:Nat):AR (LN_ n)=0:=by
 unfold LN_
 induction List.range n with
 | nil=>rfl
 | cons a l ih=>simp[AR,mx,ih]
end Go.Proofs.Wy
end
section
namespace Go.Proofs.Wy
open Go Go.Dm Tryz
variable [DMode]
def Iu (out:List ByteArray) (s:ByteArray):List ByteArray:=if s∈out then out else out++[s]
def AB (g:List Rul):List ByteArray:=(g.map (·.h)).foldl Iu []
theorem Fv_ {out:List ByteArray} {s x:ByteArray}:x∈Iu out s↔x∈out\/x=s:=by
 unfold Iu
 split
 ·rename_i h;exact⟨.inl,fun hh=>by rcases hh with hh | rfl;exact hh;exact h⟩
 ·simp
theorem VY : ∀(l out:List ByteArray) (x:ByteArray),x∈l.foldl Iu out↔x∈out\/x∈l
 | [],out,x=>by simp
 | s::l,out,x=>by rw[cQ0,VY l,Fv_];simp[or_assoc]
theorem PO : ∀(l out:List ByteArray),out.Nodup->(l.foldl Iu out).Nodup
 | [],out,h=>h
 | s::l,out,h=>by
  rw[cQ0];refine PO l _ ?_;unfold Iu
  split
  ·exact h
  ·rename_i hs;exact bV0.2 ⟨h,by simp,by rintro a ha b hb rfl;simp at hb;subst hb;exact hs ha⟩
theorem VZ : ∀(l out:List ByteArray),(l.foldl Iu out).length<=out.length+l.length
 | [],out=>by simp
 | s::l,out=>by
  rw[cQ0];have:=VZ l (Iu out s);have:(Iu out s).length<=out.length+1:=by unfold Iu;split<;>simp
  simp;omega
theorem Ta {g:List Rul} {x:ByteArray}:x∈AB g↔∃r∈g,r.h=x:=by
 unfold AB;rw[VY];simp
theorem Nx (g:List Rul):(AB g).Nodup:=PO _ _ (by simp)
theorem Jr (g:List Rul):(AB g).length<=g.length:=by have:=VZ (g.map (·.h)) [];unfold AB;simpa using this
theorem PN {g:List Rul} {i:Nat} {r:Rul} (h:g[i]? =some r):AB (g.take (i+1))=Iu (AB (g.take i)) r.h:=by
 unfold AB;rw[bF0,h,bA0,cF0];rfl
def Cv (k:Int) (l:List Nd):List ByteArray:=(l.filter fun x=>decide (x.k=k)).map (·.s)
def AX (k:Int) (g:List Rul):List ByteArray:=g.flatMap fun r=>Cv k r.b
theorem PH {k:Int} {l:List Nd} {i:Nat} {x:Nd} (h:l[i]? =some x):Cv k (l.take (i+1))=Cv k (l.take i)++(if x.k=k then [x.s]else []):=by
 unfold Cv;rw[bF0,h,dT0,bA0]
 by_cases hx:x.k=k<;>simp[hx]
theorem PI {k:Int} {g:List Rul} {i:Nat} {r:Rul} (h:g[i]? =some r):AX k (g.take (i+1))=AX k (g.take i)++Cv k r.b:=by
 unfold AX;rw[bF0,h,List.flatMap_append];simp
theorem xU (k:Int) (l:List Nd):(Cv k l).length<=l.length:=by
 unfold Cv;rw[aL0];exact cU0 _ _
def Mz (l:List ByteArray) (s:ByteArray):Nat:=l.findIdx fun x=>s==x
theorem KA {l:List ByteArray} {s:ByteArray} (h:s∈l):Mz l s<l.length:=List.findIdx_lt_length_of_exists ⟨s,h,by simp⟩
theorem SI : ∀{l:List ByteArray} {s:ByteArray},s∈l->AQ (Ef l) (.str s)=some (Mz l s)
 | [],_,h=>by simp at h
 | x::l,s,h=>by
  unfold Mz;rw[List.findIdx_cons]
  by_cases h1:s=x
  ·subst h1;simp[DF,AQ,BH,Du,eqC]
  ·have h2:=SI (l:=l) (s:=s) (by simpa[h1]using h);have h1b:(s==x)=false:=by simpa using h1
   simp[DF,AQ,BH,Du,eqC,h1b,h2,Mz]
structure CM where
 K:List ByteArray
 V:List Int
def TV (m:CM) (s:ByteArray):CM:=if s∈m.K then ⟨m.K,m.V.set (Mz m.K s) (IntKind.i64.wrap (m.V.getD (Mz m.K s) 0+1))⟩else ⟨m.K++[s],m.V++[1]⟩
def Qt (es:List ByteArray):CM:=es.foldl TV ⟨[],[]⟩
theorem FT_ (es:List ByteArray) (s:ByteArray):Qt (es++[s])=TV (Qt es) s:=by unfold Qt;rw[cF0];rfl
structure CMok (m:CM) (es:List ByteArray):Prop where
 len:m.K.length=m.V.length
 mem:∀s,s∈m.K↔s∈es
 nd:m.K.Nodup
 le:m.K.length<=es.length
theorem CMok.step {m:CM} {es:List ByteArray} (h:CMok m es) (s:ByteArray):CMok (TV m s) (es++[s]):=by
 unfold TV
 split
 ·rename_i hs;refine⟨by simp[h.len],fun x=> ?_,h.nd,by have:=h.le;simp;omega⟩;rw[h.mem x,aI0];exact⟨.inl,fun hh=>by rcases hh with hh | hh;exact hh;simp at hh;subst hh;exact(h.mem x).1 hs⟩
 ·rename_i hs;refine⟨by simp[h.len],fun x=>by simp[h.mem x],?_,by have:=h.le;simp;omega⟩;exact bV0.2 ⟨h.nd,by simp,by rintro a ha b hb rfl;simp at hb;subst hb;exact hs ha⟩
theorem AH_ (es:List ByteArray):CMok (Qt es) es:=by
 have key:∀(l:List ByteArray) (m:CM) (es:List ByteArray),CMok m es->CMok (l.foldl TV m) (es++l):=by
  intro l
  induction l with
  | nil=>intro m es h;simpa using h
  | cons s l ih =>
   intro m es h;have:=ih (TV m s) (es++[s]) (h.step s);simpa using this
 have:=key es ⟨[],[]⟩ [] ⟨rfl,by simp,by simp,by simp⟩;simpa[Qt]using this
def AC (g:List Rul):List ByteArray:=Fc (AX 3 g)
def CX (g:List Rul):List ByteArray:=(Fc (AX 2 g)).filter fun s=> !decide (s∈AB g)
theorem HV_ {g:List Rul} {K:List ByteArray} (hn:K.Nodup) (hm:∀s,s∈K↔s∈AX 2 g/\¬s∈AB g):K.length=(CX g).length:=by
 refine List.Perm.length_eq ((List.perm_ext_iff_of_nodup hn ?_).2 fun s=> ?_)
 ·unfold CX;exact List.Pairwise.filter _ ((HU _).1.imp fun {a b} h e=>by subst e;rw[Fl]at h;simp at h)
 ·unfold CX;rw[hm s,cP0,(HU _).2];simp
abbrev GT := List (ByteArray×RT)
def AZ (gt:GT):List Rul:=gt.map fun p=>⟨p.1,flat p.2⟩
def OkG (gt:GT):Prop:=∀p∈gt,DD 2 p.1=true/\FX p.2=true
def Fi (g:List Rul):Bool:=g.all fun r=>DD 2 r.h&&Dr r.b
theorem YS : ∀{g:List Rul},Fi g=true->∃gt,g=AZ gt/\OkG gt
 | [],_=>⟨[],rfl,by intro p hp;simp at hp⟩
 | r::g,h=>by
  unfold Fi at h;rw[dB0,aM0,aM0]at h;obtain⟨gt,rfl,hg⟩:=YS (g:=g) h.2;obtain⟨t,ht,hb⟩:=Mf h.1.2;refine⟨(r.h,t)::gt,by cases r;simp only at hb;subst hb;rfl,fun p hp=> ?_⟩
  rcases aJ0.1 hp with rfl | hp
  ·exact⟨h.1.1,ht⟩
  ·exact hg p hp
theorem eJ {gt:GT} (h:OkG gt):Fi (AZ gt)=true:=by
 unfold Fi AZ;rw[List.all_map,aV0];intro p hp;obtain⟨h1,h2⟩:=h p hp;simp[h1,Fj h2]
def CS (g:List Rul):Nat:=(g.map fun r=>GM r.b).sum
def Gd (gt:GT):Bool:=gt.any fun p=>decide (16<JR p.2)
def JE (p:ByteArray×RT):ByteArray:=p.1++⟨#[32,61,32]⟩++Dd p.2++⟨#[32,59,10]⟩
def Cj (gt:GT):ByteArray:=gt.foldl (fun s p=>s++JE p) ⟨#[]⟩
theorem GA {gt:GT} {i:Nat} {p:ByteArray×RT} (h:gt[i]? =some p):Cj (gt.take (i+1))=Cj (gt.take i)++JE p:=by
 unfold Cj;rw[bF0,h,cF0];rfl
theorem LN (gt:GT) (i:Nat):(Cj (gt.take i)).size<=(Cj gt).size:=by
 have key:∀(l:GT) (s:ByteArray),s.size<=(l.foldl (fun s p=>s++JE p) s).size:=by
  intro l
  induction l with
  | nil=>intro s;simp
  | cons p l ih=>intro s;rw[cQ0];have:=ih (s++JE p);rw[aO0]at this;omega
 unfold Cj
 conv=>rhs;rw[<-List.take_append_drop i gt,cF0]
 exact key _ _
def NK (gt:GT):Int :=
 if 16<(AB (AZ gt)).length+(CX (AZ gt)).length then 181
 else if 16<(AC (AZ gt)).length then 182
 else if 64<CS (AZ gt)then 183
 else if Gd gt then 171
 else if 0<(CX (AZ gt)).length then 184
 else if 2048<(Cj gt).size then 174
 else 0
mutual
theorem WR : ∀(t:RT),FX t=true->(flat t).length<=(Dd t).size
 | .mk x ks,h=>by
  obtain⟨h1,h2,h3⟩:=CI h;rw[QF,Be,List.length_cons]
  by_cases k1:x.k=1
  ·rw[if_pos k1]
   have:x.n=0:=by
    unfold Ei at h1;rw[if_pos k1]at h1;simp only[aM0,decide_eq_true_eq]at h1;exact h1.2
   have zP:ks=[]:=bO0 (by omega);subst zP;rw[Ao];decide
  ·rw[if_neg k1]
   by_cases k2:x.k=2\/x.k=3
   ·rw[if_pos k2];have:=VO h1 k2
    have hn:x.n=0:=by
     unfold Ei at h1
     rcases k2 with k2 | k2
     ·rw[if_neg (by omega),if_pos k2]at h1;simp only[aM0,decide_eq_true_eq]at h1;exact h1.1
     ·rw[if_neg (by omega),if_neg (by omega),if_pos k2]at h1;simp only[aM0,decide_eq_true_eq]at h1;exact h1.1
    have zP:ks=[]:=bO0 (by omega);subst zP;rw[Ao];simp;omega
   ·rw[if_neg k2,aO0];have hj:=Br_ x.k ks h3;have hn:=OU h1 k1 k2
    rcases OV h1 with k | k | k | k | k | k | k | k
    ·exact absurd k k1
    ·exact absurd (.inl k) k2
    ·exact absurd (.inr k) k2
    ·have hb:1<=(NT x.k).size:=by unfold NT;rw[k];decide
     have h5:2<=x.n:=by unfold Ei at h1;simp[k]at h1;exact h1.2
     have:=XY (NT x.k) (DC x.k ks) (by rw[DE,aL0];omega);rw[DE,aL0,<-DE]at this;have h6:1*(ks.length-1)<=(NT x.k).size*(ks.length-1):=aS0 _ hb;omega
    ·have hb:1<=(NT x.k).size:=by unfold NT;rw[k];decide
     have h5:2<=x.n:=by unfold Ei at h1;simp[k]at h1;exact h1.2
     have:=XY (NT x.k) (DC x.k ks) (by rw[DE,aL0];omega);rw[DE,aL0,<-DE]at this;have h6:1*(ks.length-1)<=(NT x.k).size*(ks.length-1):=aS0 _ hb;omega
    all_goals
     have hs:(uN x.k).size=1:=by unfold uN;rw[k];decide
     have:=XY (NT x.k) (DC x.k ks) (by rw[DE,aL0];omega);omega
theorem Br_ : ∀(pk:Int) (ts:List RT),Gu ts=true->(Ao ts).length<=((DC pk ts).map (·.size)).sum
 | pk,[],_=>by simp[Ao]
 | pk,t::ts,h=>by
  obtain⟨h1,h2⟩:=Cy h;have a:=WR t h1;have b:=Br_ pk ts h2;have c:=(Lh pk t.x.k (Dd t)).1;rw[Gr,AG,List.map_cons,cZ0,aD0];omega
theorem XY (sep:ByteArray):∀(xs:List ByteArray),1<=xs.length->(xs.map (·.size)).sum+sep.size*(xs.length-1)<=(Gb xs sep).size
 | [],h=>by simp at h
 | x::r,_=>by
  have key:∀(r:List ByteArray) (x:ByteArray),x.size+(r.map (·.size)).sum+sep.size*r.length<=(r.foldl (Dz sep) x).size:=by
   intro r
   induction r with
   | nil=>intro x;simp
   | cons y r ih =>
    intro x;have:=ih (Dz sep x y);rw[My]at this;rw[cQ0,List.map_cons,cZ0,List.length_cons,Nat.mul_add];omega
  have:=key r x
  show _<=(r.foldl (Dz sep) x).size
  simp only[List.map_cons,cZ0,List.length_cons,Nat.add_sub_cancel];omega
end
theorem Zm {gt:GT} {p:ByteArray×RT} (h:p∈gt):(Dd p.2).size<=(Cj gt).size:=by
 obtain⟨i,hi,rfl⟩:=bK0 h;have h1:=GA (aH0 hi);have h2:=LN gt (i+1);rw[h1,aO0]at h2;unfold JE at h2;simp only[aO0]at h2;omega
end Go.Proofs.Wy
end
section
namespace Go.Proofs.Wy
open Go Go.Dm Tryz
variable [DMode]
attribute [local irreducible] DW Bi Bk
set_option maxRecDepth 100000


theorem Np_ : (⟨#[32,59,10]⟩:ByteArray).size=3:=rfl
theorem Nq_ : (⟨#[32]⟩:ByteArray).size=1:=rfl
structure SmallG (g:Edges):Prop where
 n1:g.nodes.length<=32
 n2:∀n∈g.nodes,n.size<=16
 e1:g.edges.length<=256
 e2:∀e∈g.edges,e.fr.size<=16/\e.lb.size<=16/\e.to.size<=16

def WC : Ann:=⟨[],[]⟩
def HB : Ann:=⟨[5],[]⟩
theorem Qa (l:List ByteArray):Ad prog 100 [Bg l] (Bg l):=by
 match l with
 | [] =>
  refine Ux [] ?_ ?_
  ·refine Ac [7] WC func100 call100 ntmps100 mxd (Aq @WC.eq_1 results100) rfl (fun qJ B qX qQ=> ?_) (hd:=(by simp[mx,Bx]));simp only[Am,List.nil_append,Bg,List.map_cons];exact Au Aa Aa Aa
  ·refine Ac [7,5] HB func100 call100 ntmps100 mxd (Aq @HB.eq_1 results100) rfl (fun qJ B qX qQ=> ?_) (hd:=(by simp[mx,Bx]));simp only[Am,List.nil_append,Bg,List.map_cons];exact Au Aa Aa Aa
 | s::l =>
  refine Ac [7,5] HB func100 call100 ntmps100 mxd (Aq @HB.eq_1 results100) rfl (fun qJ B qX qQ=> ?_) (hd:=(by simp[mx,Bx]));have qH:(s::l).length*16<=150000000000000:=by have:=qJ.1;simp only[EI,aL0]at this;exact this.1
  clear qJ;have z2:(s::l).length<=9223372036854775807:=by omega
  simp only[List.length_cons]at qH z2;simp only[Am,List.nil_append,Bg,List.map_cons];exact Au Aa Aa (Aq qH z2)
def FK (l:List Int):List DVal:=l.map fun n=> .int .i64 n
theorem Fm_ (l:List Int) (j:Nat) (n:Int):(FK l).set j (.int .i64 n)=FK (l.set j n):=by simp[FK,eU0]
theorem Fn_ (l:List Int) (n:Int):FK l++[.int .i64 n]=FK (l++[n]):=by simp[FK]
@[simp] theorem NM_ (l:List Int):AR (FK l)=0:=by
 unfold FK
 induction l with
 | nil=>rfl
 | cons a l ih=>simp[AR,mx,ih]
structure Cnt (K:List ByteArray) (V:List Int) (es:List ByteArray):Prop where
 len:K.length=V.length
 mem:∀s,s∈K↔s∈es
 val:∀v∈V,1<=v/\v<=es.length
theorem Eb_ (l:List ByteArray) (s:ByteArray):Ef l++[.str s]=Ef (l++[s]):=by simp[Ef]
theorem Cnt.step {K:List ByteArray} {V:List Int} {es:List ByteArray} (h:Cnt K V es) (s:ByteArray) :
  (∃j d,AQ (Ef K) (.str s)=some j/\(FK V)[j]? =some (.int .i64 d)/\1<=d/\d<=es.length/\Cnt K (V.set j (d+1)) (es++[s])) \/
  (AQ (Ef K) (.str s)=none/\Cnt (K++[s]) (V++[1]) (es++[s])):=by
 by_cases hs:s∈K
 ·obtain⟨j,h1,h2⟩:=SH hs;have h3:j<V.length:=by rw[<-h.len];exact h2
  have hv:=h.val V[j] (dG0 h3);refine .inl ⟨j,V[j],h1,by simp[FK,h3],hv.1,hv.2,by simp[h.len],fun x=> ?_,fun v gG=> ?_⟩
  ·rw[h.mem x,aI0]
   constructor
   ·exact .inl
   ·rintro (hx | hx)
    ·exact hx
    ·simp only[aG0]at hx;subst hx;exact(h.mem x).1 hs
  ·rcases List.mem_or_eq_of_mem_set gG with h4 | rfl
   ·have:=h.val v h4;simp;omega
   ·simp;omega
 ·refine .inr ⟨Jn hs,by simp[h.len],fun x=>by simp[h.mem x],fun v hv=> ?_⟩
  rcases aI0.1 hv with h4 | h4
  ·have:=h.val v h4;simp;omega
  ·simp only[aG0]at h4;subst h4;simp;omega
end Go.Proofs.Wy
end
