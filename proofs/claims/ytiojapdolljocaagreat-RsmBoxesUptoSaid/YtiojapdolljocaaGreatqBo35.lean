/- Parts of a proof, laid together: QE1, EnU, PB, PU, PS. -/
import Derived.SizedLaws
import Derived.ProofKit
import Derived.OpenShut
import Derived.Carry
import Derived.Test.YtiojapdolljocaaGreatRows
import Derived.Test.YtiojapdolljocaaGreatqBo14
import Derived.Test.YtiojapdolljocaaGreatqBo15
import Derived.Test.YtiojapdolljocaaGreatqBo18
import Derived.Test.YtiojapdolljocaaGreatqBo34
set_option linter.unusedSimpArgs false
set_option maxHeartbeats 8000000
set_option linter.unusedVariables false
set_option linter.unusedSectionVars false
section
namespace Go.Proofs.Wy
open Go Go.Dm Tryz
attribute [local irreducible] DW Bm Bq
set_option maxRecDepth 100000
theorem CN_ (gt:GT) (h:OkgT gt) (hs:EE (AY gt)) (s:Sym) (hk:sA (Av (AY gt)) (AC (AY gt)) s=true) :
  ∃D,Ae prog 9 [Ca (Av (AY gt)) (AC (AY gt)) (Cu gt),.agg (Bf s)] D/\Ae prog 13 [D] (.int .i64 (DF s (Dc (Cu gt))).length):=by
 have yM:=iP h;have dC:=QG gt;have hhd:=h.hd;have h80:=Vh h;have mU:=tI gt;have qE:=PP h;have zG:=uS yM (by omega);have e3:=rQ (Av (AY gt)) (AC (AY gt)) (Cu gt) yM (by omega) zG (by omega) s hk;have yC:=fun x (hx:x∈Dc (Cu gt))=>Uz yM hx
 have hnd:=iN s _ (Cu gt) rfl yM mU;have mI:=QA (s:=s) yC;obtain⟨q1,q2,q3⟩:=xW (l:=DF s (Dc (Cu gt))) fun c hc=>by have:=mI c hc;omega
 have e5:=At_ (AV (Cu gt)) (Rl (DF s (Dc (Cu gt)))) (by omega);rw[q3 hnd]at e5;exact⟨_,e3,e5⟩
theorem BF_ {A:List Auto} {k:Nat} {a:Auto} (h:A[k]? =some a):(Dc (A.take (k+1))).length=(Dc (A.take k)).length+a.arcs.length:=by
 rw[BD h,Jw,aB0,aO0]
theorem oY {A:List Auto} {k:Nat} {a:Auto} (h:A[k]? =some a):AV (A.take (k+1))=AV (A.take k)+a.st.toNat:=by
 rw[BD h,RL]
def UG : Ann:=⟨[],[⟨10,[12],[],[]⟩,⟨11,[14],[],[]⟩]⟩
theorem Tu (gt:GT) (h:OkgT gt) (hs:EE (AY gt)) (p1:Ae prog 49 [AB (AY gt)] (.int .i64 0)) (p2:Ae prog 28 [AB (AY gt)] (.int .i64 0)) :
  Ae prog 4 [AB (AY gt)] (.bool true):=by
 have hgl:=Fi gt;have yL:=h.le;have gP:=EQ (k:=3) hs;have hhd:=h.hd;have hlb:=h.lb;have yM:=iP h;have dC:=QG gt;have h80:=Vh h;have hoc:=uT gt;have hkn:=fun x (hx:x∈Dc (Cu gt))=>Ew_ h hx
 have e1:=Py gt h hs p1 p2;have e2:=eM (AY gt) (by omega) (by omega) (by omega) p1;have e3:=Ro (Av (AY gt)) (AC (AY gt)) (Cu gt);have e4:=Pu (Av (AY gt)) (AC (AY gt)) (Cu gt);have e5:=QZ (Av (AY gt)) (AC (AY gt)) (Cu gt);have e6:=Lp (Av (AY gt)) (AC (AY gt)) (Cu gt) yM (by omega);have e7:=Po (AY gt) hs (by omega);have em:=CN_ gt h hs;have qR:=fun s=>Kd (AY gt) s (by omega)
 have wM:=fun s=>Xf h s
 have hba:=fun i s (hi:(Av (AY gt))[i]? =some s)=>iR (gt:=gt) hi
 have qK:=fun n=>Tn (Av (AY gt)) (AC (AY gt)) (Cu gt) n
 have bP:=fun n=>rE (Av (AY gt)) (AC (AY gt)) (Cu gt) yM (by omega) n
 have hau:=fun k a f=>tH (Av (AY gt)) (AC (AY gt)) (Cu gt) k a f
 have vI:(Dc (Cu gt)).length<=1073741888*16:=by
  have:=QJ yM 0;unfold Dc;omega
 have hzt:=fun k=>tP (Cu gt) k
 have qI:=WY (A:=Dc (Cu gt)) hkn
 have hz0:∀b,HN b 0 (Dc (Cu gt))=0:=fun b=>tD b fun x hx=>by
  have:=hkn x hx;unfold sA at this;simp only[aN0,decide_eq_true_eq]at this;exact this.1
 have jA:=fun b k=>Dk_ b k (Dc (Cu gt))
 obtain⟨A,hA⟩:∃A,A=Cu gt:=⟨_,rfl⟩;obtain⟨H,hH⟩:∃H,H=Av (AY gt):=⟨_,rfl⟩;obtain⟨L,hL⟩:∃L,L=AC (AY gt):=⟨_,rfl⟩;obtain⟨g,hg⟩:∃g,g=AY gt:=⟨_,rfl⟩;obtain⟨Z,hZ⟩:∃Z,Z=Dc A:=⟨_,rfl⟩;rw[<-hA]at e1 e3 e4 e5 e6 yM dC h80 hoc vI qI;simp only[<-hA]at em qK bP hau hzt hba hz0 jA;rw[<-hZ]at e6 vI qI;simp only[<-hZ]at em hzt hz0 jA;rw[<-hH]at e1 e2 e3 e4 e5 e6 dC hhd hoc qI;simp only[<-hH]at em wM hba qK bP hau;rw[<-hL]at e1 e2 e3 e4 e5 e6 hlb qI
 simp only[<-hL]at em wM qK bP hau;rw[<-hg]at e1 e2 e7 hoc hgl |-;simp only[<-hg]at qR wM hba;clear hkn hH hL p1 p2 gP hs;unfold Ca at e1 e3 e4 e5 e6;unfold Ca at em qK bP hau;have hs0:AV ([]:List Auto)=0:=rfl;have ha0:Dc ([]:List Auto)=[]:=rfl;have hocG:(BX g:Int)<=80:=by omega
 have hwh:IntKind.i64.wrap ((H.length:Int)+(BX g:Int))=(AV A:Int):=by rw[wq];omega
 refine Ac [] UG func4 call4 ntmps4 mxd (Ar @UG.eq_1 results4) rfl (fun qJ B qX qQ=> ?_);clear qJ;simp only[Ak]
 (refine AX (GE e1 e2 e3) Ab Ab ?_;intros;refine Am ?_)
 refine Al (X:={k:Nat//k<=H.length}) (fun k=>⟨[(0,AB g),(3,.ref [ES H L,tA (Cr 0 A),.int .i64 (AV A)]),(5,ES H L),(6,.int .i64 0),(7,.int .i64 (AV (A.take k.1))),(8,.int .i64 (Dc (A.take k.1)).length),(9,.int .i64 (HN false k.1 Z)),(10,Bu H),(11,.int .i64 k.1)],[]⟩) (fun k=>H.length-k.1) ⟨0,by omega⟩ (Sub.lit (by simp[hz0,hs0,ha0])) ?_;rintro⟨k,wH⟩;simp only
 by_cases qV:k<H.length
 ·obtain⟨s,hx,qA,vN⟩:=Ax qV;have cI:=hba k s hx;obtain⟨a,ha⟩:∃a,a=Xe (syG g) (QY gt s):=⟨_,rfl⟩;have b1:=qR s;have b2:=wM s;rw[<-ha]at cI b2;have ham:=yM a (bU0 cI);have hos:=Pj ham.ok;have b3:=hau k a _ ham (Ph cI);have b4:=NE a;have b5:=qK k;rw[Uy (Cb_ cI)]at b5;have b6:=bP (AV (A.take k):Nat);rw[Uy (Cx_ cI (by omega))]at b6;obtain⟨D,b7,b8⟩:=em ⟨false,k⟩ (by unfold sA;simp;omega);have dE:=MO false k Z
  have mY:=oY cI;have ha1:=BF_ cI;have kZ:=oX A (k+1);have ha2:=hzt (k+1);have cC:=jA false (k+1);obtain⟨S,hS⟩:∃S,S=AV (A.take k):=⟨_,rfl⟩;obtain⟨T,hT⟩:∃T,T=(Dc (A.take k)).length:=⟨_,rfl⟩;obtain⟨C,hC⟩:∃C,C=HN false k Z:=⟨_,rfl⟩;obtain⟨E,hE⟩:∃E,E=(DF ⟨false,k⟩ Z).length:=⟨_,rfl⟩;rw[<-hS]at b5 b6 mY |-;rw[<-hT]at ha1 |-;rw[<-hC]at dE |-;rw[<-hE]at b8 dE;have dO:IntKind.i64.wrap ((k:Int)+1)=(k:Int)+1:=wq;have hws:IntKind.i64.wrap ((S:Int)+a.st)=(AV (A.take (k+1)):Int):=by rw[wq,mY];omega
  have hwa:IntKind.i64.wrap ((T:Int)+(a.arcs.length:Int))=((Dc (A.take (k+1))).length:Int):=by rw[wq,ha1];omega
  have hwc:IntKind.i64.wrap ((C:Int)+(E:Int))=(HN false (k+1) Z:Int):=by rw[wq,dE];omega
  simp only[FQ]at b2 b3 b4;simp only[Bf]at b7
  (refine AX (Mi b1 b2 b3 b4 b5 b6 b7 b8) Ab (YF @AE.eq_1 @FQ.eq_1 qV hx qA dO hws hwa hwc) ?_;intros;refine Am ?_)
  refine An.mk ⟨k+1,by omega⟩ (Sub.lit (by simp)) (by simp;omega)
  skip
 ·have qZ:k=H.length:=by omega
  subst qZ;have hAt:A.take H.length=A:=cE0 (by omega);rw[hAt,<-hZ]
  (refine AX (AJ e4) Ab Ab ?_;intros;refine Am ?_)
  refine Al (X:={k:Nat//k<=L.length}) (fun k=>⟨[(0,AB g),(3,.ref [ES H L,tA (Cr 0 A),.int .i64 (AV A)]),(6,.int .i64 0),(7,.int .i64 (AV A)),(8,.int .i64 Z.length),(9,.int .i64 ((HN false H.length Z+HN true k.1 Z:Nat):Int)),(10,Bu H),(16,Bu L),(17,.int .i64 k.1)],[]⟩) (fun k=>L.length-k.1) ⟨0,by omega⟩ (Sub.lit (by simp[hz0])) ?_;rintro⟨k,wH⟩;simp only
  by_cases qV:k<L.length
  ·obtain⟨D,b7,b8⟩:=em ⟨true,k⟩ (by unfold sA;simp;omega);have dE:=MO true k Z;have cC:=jA true (k+1);have hc3:=jA false H.length;obtain⟨C,hC⟩:∃C,C=HN false H.length Z+HN true k Z:=⟨_,rfl⟩;obtain⟨E,hE⟩:∃E,E=(DF ⟨true,k⟩ Z).length:=⟨_,rfl⟩;rw[<-hC];rw[<-hE]at b8 dE;have dO:IntKind.i64.wrap ((k:Int)+1)=(k:Int)+1:=wq;have hwc:IntKind.i64.wrap ((C:Int)+(E:Int))=((HN false H.length Z+HN true (k+1) Z:Nat):Int):=by rw[wq];omega
   simp only[Bf]at b7
   (refine AX (Ar b7 b8) Ab (GE qV dO hwc) ?_;intros;refine Am ?_)
   refine An.mk ⟨k+1,by omega⟩ (Sub.lit (by simp)) (by simp;omega)
   skip
  ·have qZ:k=L.length:=by omega
   subst qZ;rw[qI];exact Aw (GE e5 e6 e7) Ab (AJ hwh)
theorem Re (g:List Rul) (hs:EE g) (hl:g.length*40<=140737488355328):Ae prog 4 [AB g] (.bool true):=by
 obtain⟨c,p1,p2,p3⟩:=Fy_ g hs
 by_cases hc:c=0
 ·obtain⟨gt,rfl,h⟩:=p3 hc;subst hc;exact Tu gt h hs p1 p2
 ·have e1:=Rq g c hs hl hc p1 p2;refine Ac [] UG func4 call4 ntmps4 mxd (Ar @UG.eq_1 results4) rfl (fun qJ B qX qQ=> ?_);clear qJ;simp only[Ak];exact Aw (AJ e1) Ab Ab
end Go.Proofs.Wy
end
section
namespace Go.Dm
variable [DMode]
inductive Sh where
 | b
 | i (k:IntKind)
 | s
 | sl (k bs:Nat) (c:List Sh)
mutual
def Rz (L:Nat):Sh->DVal->Prop
 | .b,d=>∃b,d= .bool b
 | .i k,d=>∃n,d= .int k n
 | .s,d=>∃x:ByteArray,d= .str x/\x.size<=L
 | .sl k bs c,d=>∃es,d= .sl k bs es/\es.length*bs<=L/\∀e∈es,EW L c e
def EW (L:Nat):List Sh->List DVal->Prop
 | [],ds=>ds=[]
 | x::r,ds=>∃d t,ds=d::t/\Rz L x d/\EW L r t
end
theorem NB {L:Nat}:∀{a b:List Sh} {x y:List DVal},EW L a x->EW L b y->EW L (a++b) (x++y)
 | [],b,x,y,h,k=>by simp only[EW]at h;subst h;exact k
 | a::r,b,x,y,h,k=>by
  simp only[EW]at h;obtain⟨d,t,rfl,h1,h2⟩:=h;simp only[List.cons_append,EW];exact⟨d,t++y,rfl,h1,NB h2 k⟩
def shF (g:TypeId->Option (List Sh)) (cells:TypeId->Nat):List Field->Nat->Option (List Sh×Nat)
 | [],off=>some ([],off)
 | f::r,off=>if f.offset=off then
  (match g f.type,shF g cells r (off+cells f.type)with
  | some c,some (l,e)=>some (c++l,e)
  | _,_=>none)else none
def Dy (P:Program):Nat->TypeId->Option (List Sh)
 | 0,_=>none
 | n+1,t=>match P.underlying t with
  | some .bool=>some [.b]
  | some (.int k)=>some [.i k]
  | some .string=>some [.s]
  | some (.slice e)=>if 0<P.cellsOf e then (Dy P n e).map fun c=>[.sl (P.cellsOf e) (P.bytesOf e) c]else none
  | some (.struct fs)=>match shF (Dy P n) P.cellsOf fs.toList 0 with
   | some (l,e)=>if e=P.cellsOf t then some l else none
   | none=>none
  | _=>none
theorem ME {α β:Type} {f:α->Option β}:∀{l:List α} {r:List β},l.mapM f=some r->r.length=l.length/\∀(i:Nat) (x:α),l[i]? =some x->∃y,r[i]? =some y/\f x=some y
 | [],r,h=>by simp at h;subst h;simp
 | a::l,r,h=>by
  rw[List.mapM_cons]at h
  cases hf:f a with
  | none=>rw[hf]at h;simp at h
  | some y =>
   rw[hf]at h
   cases hm:l.mapM f with
   | none=>rw[hm]at h;simp at h
   | some r' =>
    rw[hm]at h;simp at h;subst h;obtain⟨h1,h2⟩:=ME hm;refine⟨by simp[h1],fun i x hx=> ?_⟩
    cases i with
    | zero=>simp only[aZ0,aA0]at hx;subst hx;exact⟨y,rfl,hf⟩
    | succ i=>simp only[bJ0]at hx |-;exact h2 i x hx
theorem aZ {cur:Er} {M:List Nat} {h:Array Obj}:∀{a:List DVal} {x:List Value},Au cur M h a x->a.length=x.length
 | [],x,h1=>by simp only[Au]at h1;subst h1;rfl
 | d::a,x,h1=>by
  simp only[Au]at h1;obtain⟨v,r,rfl,h3,h4⟩:=h1;simp[aZ h4]
theorem Pd {cur:Er} {M:List Nat} {h:Array Obj} {arr:Array Value}:∀{a:List DVal} {x:List Value} {o:Nat},Au cur M h a x->(∀v∈x,v.oneCell'=true)->(∀(j:Nat) v,x[j]? =some v->arr[o+j]? =some v)->Dz cur M h a arr o
 | [],x,o,h1,_,_=>by simp[Dz]
 | d::a,x,o,h1,h2,h3=>by
  simp only[Au]at h1;obtain⟨v,r,rfl,h4,h5⟩:=h1;simp only[Dz];refine⟨⟨v,by simpa using h3 0 v rfl,h2 v (by simp),h4⟩,Pd h5 (fun u hu=>h2 u (by simp[hu])) fun j u hu=> ?_⟩;have:=h3 (j+1) u (by simpa using hu);rw[<-this];congr 1;omega
theorem aR {L:Nat} {cur:Er} {M:List Nat} {h:Array Obj} {arr:Array Value} {k:Nat} {c:List Sh}:∀(len off:Nat),(∀i,i<len->∃ds,ds.length=k/\Dz cur M h ds arr (off+i*k)/\EW L c ds) ->
  ∃es,es.length=len/\Em cur M h k es arr off/\∀e∈es,EW L c e
 | 0,off,_=>⟨[],rfl,by simp[Em],by simp⟩
 | len+1,off,hh=>by
  obtain⟨ds,h1,h2,h3⟩:=hh 0 (by omega)
  obtain⟨es,h4,h5,h6⟩:=aR len (off+k) (fun i hi=>by
   obtain⟨ds,h1,h2,h3⟩:=hh (i+1) (by omega);refine⟨ds,h1,?_,h3⟩;have:off+k+i*k=off+(i+1)*k:=by rw[bR0];omega
   rw[this];exact h2)
  refine⟨ds::es,by simp[h4],?_,?_⟩
  ·simp only[Em];exact⟨h1,by simpa using h2,h5⟩
  ·intro e he
   rcases aJ0.1 he with rfl | he
   ·exact h3
   ·exact h6 e he
theorem sG {k:IntKind} {n:Int} (h:(Lit.int k n).wf=true):Kx k n:=by
 cases k<;>simpa[Lit.wf,IntKind.min,IntKind.max,IntKind.signed,IntKind.bits,Kx]using h
theorem Vl {g:TypeId->Option (List Sh)} {cells:TypeId->Nat}:∀{fs:List Field} {off e:Nat} {l:List Sh},shF g cells fs off=some (l,e)->off<=e
 | [],off,e,l,h=>by simp only[shF,aA0,aS0]at h;omega
 | f::r,off,e,l,h=>by
  simp only[shF]at h
  split at h
  ·split at h
   ·rename_i c l' e' h1 h2;simp only[aA0,aS0]at h;have:=Vl h2;omega
   ·simp at h
  ·simp at h
section
variable {H : Type} {enc : TypeId × Value -> H} {P : Program} {w : World} {cur : Er}
def BM_ (L:Nat) (P:Program) (cur:Er) (w:World) (cs:List Value) (shs:List Sh):Prop :=
 ∃ds,Au cur [] w.heap ds cs/\(∀v∈cs,v.oneCell'=true)/\EW L shs ds
theorem SB {L fuel n:Nat} (ih:∀{t:TypeId} {cs:List Value} {d:DataW H} {ps:List MemPlace} {shs:List Sh},DataW.trod enc P w 0 (fun _=>true) true fuel t cs=some (d,ps)->Dy P n t=some shs->(∀x∈d.weights P t,x<=L)->BM_ L P cur w cs shs)
  (cs:List Value):∀(fs:List Field) (off e:Nat) (l:List Sh) (xs:List (DataW H×List MemPlace)),
   fs.mapM (fun f=>DataW.trod enc P w 0 (fun _=>true) true fuel f.type ((cs.drop f.offset).take (P.cellsOf f.type)))=some xs->shF (Dy P n) P.cellsOf fs off=some (l,e) ->
   (∀x∈DataW.weightsEach P (fs.map (·.type)) (xs.map (·.1)),x<=L)->BM_ L P cur w ((cs.drop off).take (e-off)) l
 | [],off,e,l,xs,h1,h2,h3=>by
  simp only[shF,aA0,aS0]at h2;obtain⟨rfl,rfl⟩:=h2;exact⟨[],by simp[Au],by simp,by simp[EW]⟩
 | f::fs,off,e,l,xs,h1,h2,h3=>by
  rw[List.mapM_cons]at h1;simp only[shF]at h2
  split at h2
  ·rename_i hoff
   split at h2
   ·rename_i c l' e' h4 h5;simp only[aA0,aS0]at h2;obtain⟨rfl,rfl⟩:=h2;have hm:=Vl h5
    cases hf:DataW.trod enc P w 0 (fun _=>true) true fuel f.type ((cs.drop f.offset).take (P.cellsOf f.type))with
    | none=>rw[hf]at h1;simp at h1
    | some x =>
     rw[hf]at h1
     cases hr:fs.mapM (fun f=>DataW.trod enc P w 0 (fun _=>true) true fuel f.type ((cs.drop f.offset).take (P.cellsOf f.type)))with
     | none=>rw[hr]at h1;simp at h1
     | some xr =>
      rw[hr]at h1;simp at h1;subst h1;simp only[List.map_cons,DataW.weightsEach,aI0]at h3;obtain⟨d1,a1,a2,a3⟩:=ih hf h4 (fun y hy=>h3 y (.inl hy));obtain⟨d2,b1,b2,b3⟩:=SB ih cs fs (off+P.cellsOf f.type) e' l' xr hr h5 (fun y hy=>h3 y (.inr hy))
      have kK:(cs.drop off).take (e'-off)=(cs.drop f.offset).take (P.cellsOf f.type)++(cs.drop (off+P.cellsOf f.type)).take (e'-(off+P.cellsOf f.type)):=by
       rw[hoff,<-List.drop_drop,show e'-off=P.cellsOf f.type+(e'-(off+P.cellsOf f.type)) by omega,List.take_add]
      rw[kK];exact⟨d1++d2,BW _ _ _ _ a1 b1,fun v hv=>(aI0.1 hv).elim (a2 v) (b2 v),NB a3 b3⟩
   ·simp at h2
  ·simp at h2
theorem Im {e:TypeId}:∀{l:List (DataW H)} {d:DataW H},d∈l->∀x∈d.weights P e,x∈DataW.weightsAll P e l
 | a::l,d,hd,x,hx=>by
  simp only[DataW.weightsAll,aI0]
  rcases aJ0.1 hd with rfl | hd
  ·exact .inl hx
  ·exact .inr (Im hd x hx)
theorem SK {a:Addr} {n:Nat} {cs:List Value} (h:w.cells? 0 a n=some cs):cs.length=n/\∀(j:Nat) v,cs[j]? =some v->w.cell? (a.add j)=some v:=by
 unfold World.cells? at h;rw[if_pos (dB0 _)]at h;obtain⟨h1,h2⟩:=ME h;rw[List.length_range]at h1;refine⟨h1,fun j v hv=> ?_⟩;have hj:j<n:=by rw[<-h1];exact(aG0.1 hv).1
 obtain⟨y,hy,zM⟩:=h2 j j (by rw[List.getElem?_range hj]);rw[hv]at hy;rw[zM,hy]
theorem Yo (b o n:Nat):(⟨b,o,none⟩:Addr).add n=⟨b,o+n,none⟩:=by
 unfold Addr.add
 split
 ·rename_i h;subst h;rfl
 ·rfl
theorem Tj {L:Nat} (hL:L<=140737488355328):∀{fuel n:Nat} {t:TypeId} {cs:List Value} {d:DataW H} {ps:List MemPlace} {shs:List Sh},DataW.trod enc P w 0 (fun _=>true) true fuel t cs=some (d,ps)->Dy P n t=some shs ->
  (∀x∈d.weights P t,x<=L)->BM_ L P cur w cs shs
 | 0,n,t,cs,d,ps,shs,h,hs,hw=>by simp[DataW.trod]at h
 | fuel+1,0,t,cs,d,ps,shs,h,hs,hw=>by simp[Dy]at hs
 | fuel+1,n+1,t,cs,d,ps,shs,h,hs,hw=>by
  unfold DataW.trod at h
  split at h
  ·rename_i b hu;simp only[Dy,hu,aA0]at hs;subst hs;exact⟨[.bool b],by simp[Au,rd],by simp[Value.oneCell'],by simp[EW,Rz]⟩
  ·rename_i k k' n' hu;simp only[Dy,hu,aA0]at hs;subst hs
   split at h
   ·rename_i hk;obtain⟨rfl,hk⟩:=hk;exact⟨[.int k' n'],by simp[Au,rd,sG hk],by simp[Value.oneCell'],by simp[EW,Rz]⟩
   ·simp at h
  ·rename_i hu;simp[Dy,hu]at hs
  ·rename_i x hu;simp only[Dy,hu,aA0]at hs;subst hs
   split at h
   ·rename_i hk;simp only[aA0,aS0]at h;obtain⟨rfl,_⟩:=h;have qF:=hw x.data.toList.length (by simp[DataW.weights]);exact⟨[.str x],by simp[Au,rd,hk],by simp[Value.oneCell'],by simp only[EW,Rz];exact⟨_,_,rfl,⟨x,rfl,by rw[bI0]at qF;exact qF⟩,rfl⟩⟩
   ·simp at h
  ·rename_i hu;simp[Dy,hu]at hs
  ·rename_i hu;simp[Dy,hu]at hs
  ·rename_i e hu;simp only[Dy,hu]at hs
   split at hs
   rotate_left
   ·simp at hs
   rename_i zU;rw[bA0]at hs;obtain⟨c,hc,rfl⟩:=hs;exact⟨[.sl (P.cellsOf e) (P.bytesOf e) []],by simp only[Au,rd];exact⟨_,_,rfl,⟨none,0,rfl,Nat.le_refl _,dB0 _,by simp,.inl ⟨trivial,fun _=>rfl⟩⟩,rfl⟩,by simp[Value.oneCell'],by simp[EW,Rz]⟩
  ·rename_i e a len cap hu;simp only[Dy,hu]at hs
   split at hs
   rotate_left
   ·simp at hs
   rename_i zU;rw[bA0]at hs;obtain⟨c,hc,rfl⟩:=hs;simp only at h
   split at h
   ·rename_i hb;obtain⟨_,qR,wM⟩:=hb
    cases hm:(List.range len).mapM (fun i=>(w.cells? 0 (a.add (i*P.cellsOf e)) (P.cellsOf e)).bind (DataW.trod enc P w 0 (fun _=>true) true fuel e))with
    | none=>rw[hm]at h;simp at h
    | some elems =>
     rw[hm]at h;simp only[Option.bind_some,if_true,bA0]at h;obtain⟨rest,hr,h⟩:=h;simp only[aS0]at h;obtain⟨rfl,rfl⟩:=h;simp only[DataW.weights,hu,aJ0,aI0,aO0]at hw;obtain⟨m1,m2⟩:=ME hm;rw[List.length_range]at m1;have qF:=hw _ (.inl rfl);have qU:len*P.bytesOf e<=L:=Nat.le_trans (aY0 _ (by omega)) qF
     have hel:∀i,i<len->∃cs ds,w.cells? 0 (a.add (i*P.cellsOf e)) (P.cellsOf e)=some cs/\Au cur [] w.heap ds cs/\(∀v∈cs,v.oneCell'=true)/\EW L c ds:=by
      intro i hi;obtain⟨y,hy,zM⟩:=m2 i i (by rw[List.getElem?_range hi]);rw[Option.bind_eq_some_iff]at zM;obtain⟨cs,kY,zM⟩:=zM;obtain⟨d',p'⟩:=y;have qY:d'∈elems.map (·.1):=aR0.2 ⟨_,bU0 hy,rfl⟩;obtain⟨ds,b1,b2,b3⟩:=Tj hL zM hc (fun x hx=>hw x (.inr (.inl (Im qY x hx))));exact⟨cs,ds,kY,b1,b2,b3⟩
     by_cases h0:len=0
     ·subst h0;exact⟨[.sl (P.cellsOf e) (P.bytesOf e) []],by simp only[Au,rd];exact⟨_,_,rfl,⟨some a,cap,rfl,dB0 _,wM,by simp,.inl ⟨trivial,fun hh=>by simp at hh⟩⟩,rfl⟩,by simp[Value.oneCell'],by simp[EW,Rz]⟩
     ·obtain⟨blk,off,spot⟩:=a;obtain⟨cs0,ds0,hcs0,_,_,_⟩:=hel 0 (by omega);obtain⟨l1,l2⟩:=SK hcs0;obtain⟨v,hv⟩:∃v,cs0[0]? =some v:=⟨_,aD0 (by omega)⟩;have yN:w.cell? ⟨blk,off,spot⟩=some v:=by simpa[Addr.add]using l2 0 v hv
      obtain⟨arr,ty,fz,hblk,hspot⟩:∃arr ty fz,w.heap[blk]? =some (.cells arr ty fz)/\spot=none:=by
       simp only[World.cell?]at yN
       split at yN
       ·rename_i arr ty fz hb
        split at yN
        ·simp at yN
        ·rename_i kK;exact⟨arr,ty,fz,hb,by simpa using kK⟩
       ·simp at yN
      subst hspot
      obtain⟨es,e1,e2,e3⟩:=aR (cur:=cur) (M:=[]) (h:=w.heap) (arr:=arr) (k:=P.cellsOf e) (c:=c) len off (fun i hi=>by
       obtain⟨cs,ds,kY,b1,b2,b3⟩:=hel i hi;obtain⟨l1,l2⟩:=SK kY;refine⟨ds,by rw[aZ b1,l1],Pd b1 b2 fun j u hu=> ?_,b3⟩;have:=l2 j u hu;rw[Yo,Yo]at this
       simpa[World.cell?,hblk]using this)
      refine⟨[.sl (P.cellsOf e) (P.bytesOf e) es],?_,by simp[Value.oneCell'],by simp only[EW,Rz];exact⟨_,_,rfl,⟨es,rfl,by rw[e1];exact qU,e3⟩,rfl⟩⟩;simp only[Au,rd];exact⟨_,_,rfl,⟨_,_,by rw[e1],by omega,wM,by rw[e1];omega,.inr ⟨blk,off,arr,ty,fz,rfl,by simp,hblk,e2⟩⟩,rfl⟩
   ·simp at h
  ·rename_i fs hu;simp only[Dy,hu]at hs
   split at hs
   ·rename_i l e hf
    split at hs
    ·rename_i he;simp only[aA0]at hs;subst hs;subst he
     split at h
     ·rename_i qU;simp only[bA0]at h;obtain⟨xs,dY,h⟩:=h;simp only[aS0]at h;obtain⟨rfl,rfl⟩:=h;simp only[DataW.weights,hu]at hw;have:=SB (cur:=cur) (fun h1 h2 h3=>Tj hL h1 h2 h3) _ fs.toList 0 (P.cellsOf t) l xs dY hf hw;simpa[<-qU]using this
     ·simp at h
    ·simp at hs
   ·simp at hs
  all_goals first | (simp at h;done) | (rename_i hu;simp[Dy,hu]at hs;done)
def PK (P:Program) (t:TypeId):Bool:=match P.underlying t with | some (.struct _)=>true | _=>false
theorem Ev_ {L base n:Nat} (hL:L<=140737488355328) {t:TypeId} {v:Value} {d:DataW H} {ps:List MemPlace} {shs:List Sh} (hv:Value.okWide P w .any base t v) (h:DataW.Trod enc P w 0 (fun _=>true) true t v d ps) (hs:Dy P n t=some shs)
  (hw:∀x∈d.weights P t,x<=L):∃ds,EW L shs ds/\if PK P t then rd cur [] w.heap (.agg ds) v else Au cur [] w.heap ds [v]:=by
 obtain⟨fuel,h⟩:=h;obtain⟨ds,h1,h2,h3⟩:=Tj (cur:=cur) hL h hs hw;refine⟨ds,h3,?_⟩;unfold PK
 split
 ·rename_i fs hu;simp only[if_true];simp only[Value.okWide,hu]at hv;obtain⟨cs,rfl,_,_⟩:=hv;simp only[rd];exact⟨cs,rfl,h1⟩
 ·rename_i hu
  have dH:v.cells= #[v]:=by
   cases n with
   | zero=>simp[Dy]at hs
   | succ n =>
    cases v<;>first | rfl | skip
    rename_i cs;unfold Dy at hs;unfold Value.okWide at hv
    cases zX:P.underlying t with
    | none=>simp[zX]at hs
    | some ty =>
     rw[zX]at hs hv;cases ty<;>simp[Cell.okWide,Cell.ok,zX]at hs hv;exact absurd zX (hu _)
  rw[dH]at h1;simpa using h1
def JF (L:Nat) (P:Program):List TypeId->List (List Sh)->List DVal->Prop
 | [],[],a=>a=[]
 | t::ts,x::xs,a=>∃ds r,EW L x ds/\a=(if PK P t then .agg ds else ds.headD .any)::r/\JF L P ts xs r
 | _,_,_=>False
theorem Xk {L base n:Nat} (hL:L<=140737488355328):∀{ts:List TypeId} {vs:List Value} {ds:List (DataW H)} {ps:List MemPlace} {shs:List (List Sh)},(∀(j:Nat) t v,ts[j]? =some t->vs[j]? =some v->Value.okWide P w .any base t v) ->
  DataW.TrodAll enc P w 0 (fun _=>true) true ts vs ds ps->ts.map (Dy P n)=shs.map some->(∀x∈DataW.weightsEach P ts ds,x<=L)->∃das,Au cur [] w.heap das vs/\JF L P ts shs das
 | [],vs,ds,ps,shs,hv,hA,hs,hw=>by
  obtain⟨rfl,rfl,rfl⟩:=ChangeShapes.trodAll_nil hA
  cases shs with
  | nil=>exact⟨[],by simp[Au],by simp[JF]⟩
  | cons a b=>simp at hs
 | t::ts,vs,ds,ps,shs,hv,hA,hs,hw=>by
  obtain⟨v,vr,d,dr,p,q,rfl,rfl,rfl,h0,hr⟩:=ChangeShapes.trodAll_cons hA
  cases shs with
  | nil=>simp at hs
  | cons x xs =>
   simp only[List.map_cons,bG0]at hs;simp only[DataW.weightsEach,aI0]at hw;obtain⟨das,a1,a2⟩:=Xk hL (fun j t v h1 h2=>hv (j+1) t v (by simpa using h1) (by simpa using h2)) hr hs.2 (fun y hy=>hw y (.inr hy));obtain⟨dd,b1,b2⟩:=Ev_ (cur:=cur) hL (hv 0 t v rfl rfl) h0 hs.1 (fun y hy=>hw y (.inl hy));refine⟨(if PK P t then .agg dd else dd.headD .any)::das,?_,by simp only[JF];exact⟨dd,das,b1,rfl,a2⟩⟩;simp only[Au]
   refine⟨v,vr,rfl,?_,a1⟩
   split
   ·rename_i h;rw[if_pos h]at b2;exact b2
   ·rename_i h;rw[if_neg h]at b2
    cases dd with
    | nil=>simp[Au]at b2
    | cons d0 dr =>
     simp only[Au]at b2;obtain⟨u,r,hu,fS,_⟩:=b2;simp only[bG0]at hu;rw[hu.1];simpa using fS
theorem Dv_ {L base n:Nat} {ts:List TypeId} {vs:List Value} {ds:List (DataW H)} {ps:List MemPlace} {shs:List (List Sh)} (h1:∀(j:Nat) t v,ts[j]? =some t->vs[j]? =some v->Value.okWide P w .any base t v)
 (h2:DataW.TrodAll enc P w 0 (fun _=>true) true ts vs ds ps) (h3:ts.map (Dy P n)=shs.map some) (h4:∀x∈DataW.weightsEach P ts ds,x<=L) (hL:L<=140737488355328:=by omega):∃das,Au cur [] w.heap das vs/\JF L P ts shs das:=Xk hL h1 h2 h3 h4
theorem Upd.below {a b:World} (h:Upd [] a b):RowKit.Below a.heap.size a b:=⟨h.os,h.tape,h.output,h.size,fun k hk=>h.blk k hk (by simp)⟩
theorem JQ (hl:laidOutB P=true) {W W':World} {sp:Nat->Bool}:∀{ts:List TypeId} {vs:List Value} {ds:List (DataW H)} {ps:List MemPlace},(∀t∈ts,P.readableRec t=true/\t<P.types.size) ->
  DataW.TrodAll enc P W 0 (fun _=>true) true ts vs ds ps->(∀p∈ps,W.sameAt W' p)->(∀p∈ps,sp p.block=true)->DataW.TrodAll enc P W' 0 sp true ts vs ds ps
 | [],vs,ds,ps,ht,hA,h1,h2=>by
  obtain⟨rfl,rfl,rfl⟩:=ChangeShapes.trodAll_nil hA;rfl
 | t::ts,vs,ds,ps,ht,hA,h1,h2=>by
  obtain⟨v,vr,d,dr,p,q,rfl,rfl,rfl,h0,hr⟩:=ChangeShapes.trodAll_cons hA;obtain⟨k1,k2⟩:=ht t (by simp);exact⟨p,q,WideElems.Trod_stays hl k1 k2 h0 (fun x hx=>h1 x (by simp[hx])) (fun x hx=>h2 x (by simp[hx])),JQ hl (fun t h=>ht t (by simp[h])) hr (fun x hx=>h1 x (by simp[hx])) (fun x hx=>h2 x (by simp[hx])),rfl⟩
theorem Av_ {fn:Func} {s:ChangeSpec} {fresh handsOn:Bool} {tb:TypeId} {W W':World} {args:Array Value} {ds gs:List (DataW H)} {before:List MemPlace} (hl:laidOutB P=true)
  (qI:∀t∈fn.params.toList,P.readableRec t=true/\t<P.types.size) (hr:fn.resultTypes= #[tb]) (hub:P.underlying tb=some .bool) (bO:s.vars=[])
  (hs:s.fn H (ds++gs)={ results:=[.lit (.bool true)],args:=ds }) (hW:DataW.Whole enc P fn.params.toList s.vars false W args.toList ds gs before) (hu:Upd [] W W') :
  s.post enc P fn false fresh handsOn false W args (.bool true) W':=by
 have hW':=hW;obtain⟨p,q,hA,hV,rfl,hfz,hnd⟩:=hW;have qV:∀x∈p,x.block<W.heap.size:=fun x hx=>hW'.lt x (by simp[hx])
 have hb:=hu.below;refine⟨ds,gs,p++q,[],p,[],hW',?_,?_,?_,hb.frame _,fun h=>by cases h⟩
 ·rw[hs,hr];exact ChangeShapes.trodAll_mk1 (RowKit.shut_bool hub true)
 ·rw[hs];exact JQ hl qI hA (fun x hx=>hb.same (qV x hx)) (fun x hx=>by simpa using qV x hx)
 ·rw[hs,bO];rfl
theorem Ub {f:FuncId} {fn:Func} {s:ChangeSpec} {fresh handsOn:Bool} {tb:TypeId} {W:World} {args:Array Value} {das:List DVal} {ds gs:List (DataW H)} {before:List MemPlace} (hl:laidOutB P=true)
  (qI:∀t∈fn.params.toList,P.readableRec t=true/\t<P.types.size) (hr:fn.resultTypes= #[tb]) (hub:P.underlying tb=some .bool) (bO:s.vars=[])
  (hs:s.fn H (ds++gs)={ results:=[.lit (.bool true)],args:=ds }) (hW:DataW.Whole enc P fn.params.toList s.vars false W args.toList ds gs before)
  (wT:Au (fun _ _=>none) [] W.heap das args.toList) (hd:Ae P f das (.bool true)) :
  Calls P f args W fun e W'=>∃v,e= .returned v/\s.post enc P fn false fresh handsOn false W args v W':=by
 refine(hd.2.2 _ [] W args (by simp) wT).mono fun e W' ⟨v,he,hu,hv⟩=>⟨.bool true,?_,Av_ hl qI hr hub bO hs hW hu⟩
 simp only[rd]at hv;rw[he,hv]
end
theorem Mo {α:Type} {f:α->List DVal}:∀{es:List (List DVal)},(∀e∈es,∃x,e=f x)->∃l:List α,es=l.map f
 | [],_=>⟨[],rfl⟩
 | e::es,h=>by
  obtain⟨x,rfl⟩:=h e (by simp);obtain⟨l,rfl⟩:=Mo (es:=es) (f:=f) (fun e he=>h e (by simp[he]));exact⟨x::l,rfl⟩
end Go.Dm
end
section
namespace Go.Proofs.Wy
open Go Go.Dm Tryz
variable [DMode]
open Go.ChangeShapes Go.WideShapes Go.ChangeAt Go.RowKit
theorem own : ownKnob Tryz.prog.godebug=none:=by kernel_rfl
theorem CQ_ : laidOutB prog=true:=by kernel_rfl
end Go.Proofs.Wy
end
section
namespace Go.Proofs.Wy
open Go Go.Dm Tryz YtiojapdolljocaaGreat
variable [DMode]
mutual
def ES_ (C:Nat):Sh->Bool
 | .b=>true
 | .i _=>true
 | .s=>true
 | .sl _ bs c=>decide (bs<=C)&&GL C c
def GL (C:Nat):List Sh->Bool
 | []=>true
 | x::r=>ES_ C x&&GL C r
end
theorem KX {C:Nat}:∀{a b:List Sh},GL C (a++b)=(GL C a&&GL C b)
 | [],b=>by simp[GL]
 | x::a,b=>by simp[GL,KX (a:=a),Bool.and_assoc]
section
variable {H : Type}
theorem Bo_ (d:DataW H):1<=Rows.uptoBulk d:=by
 cases d with
 | lit l=>cases l<;>simp only[Rows.uptoBulk]<;>omega
 | _=>simp only[Rows.uptoBulk]<;>omega
theorem QD : ∀l:List (DataW H),l.length<=Rows.uptoBulkAll l
 | []=>by simp
 | d::r=>by
  have:=Bo_ d;have:=QD r;simp only[Rows.uptoBulkAll,List.length_cons];omega
theorem Hw {P:Program} {C:Nat} (hC:1<=C):∀(n:Nat) (t:TypeId) (shs:List Sh) (d:DataW H),Dy P n t=some shs->GL C shs=true->∀x∈d.weights P t,x<=Rows.uptoBulk d*C
 | 0,t,shs,d,h,hl=>by simp[Dy]at h
 | n+1,t,shs,d,h,hl=>by
  intro x hx
  have all:∀(e:TypeId) (c:List Sh),Dy P n e=some c->GL C c=true->∀(l:List (DataW H)),∀x∈DataW.weightsAll P e l,x<=Rows.uptoBulkAll l*C:=by
   intro e c he hc l
   induction l with
   | nil=>intro x hx;simp[DataW.weightsAll]at hx
   | cons d r ih =>
    intro x hx;simp only[DataW.weightsAll,aI0]at hx;simp only[Rows.uptoBulkAll,bR0]
    rcases hx with hx | hx
    ·have:=Hw hC n e c d he hc x hx;omega
    ·have:=ih x hx;omega
  have each:∀(fs:List Field) (off e:Nat) (l:List Sh),shF (Dy P n) P.cellsOf fs off=some (l,e)->GL C l=true->∀(parts:List (DataW H)),∀x∈DataW.weightsEach P (fs.map (·.type)) parts,x<=Rows.uptoBulkAll parts*C:=by
   intro fs
   induction fs with
   | nil=>intro off e l _ _ parts x hx;simp[DataW.weightsEach]at hx
   | cons f fs ih =>
    intro off e l hf hc parts x hx
    cases parts with
    | nil=>simp[DataW.weightsEach]at hx
    | cons d r =>
     simp only[shF]at hf
     split at hf
     ·split at hf
      ·rename_i c l' e' h4 h5;simp only[aA0,aS0]at hf;obtain⟨rfl,rfl⟩:=hf;rw[KX,aN0]at hc;simp only[List.map_cons,DataW.weightsEach,aI0]at hx;simp only[Rows.uptoBulkAll,bR0]
       rcases hx with hx | hx
       ·have:=Hw hC n f.type c d h4 hc.1 x hx;omega
       ·have:=ih _ _ _ h5 hc.2 r x hx;omega
      ·simp at hf
     ·simp at hf
  cases d with
  | lit l =>
   cases l<;>simp only[DataW.weights,aE0,List.not_mem_nil]at hx;subst hx;simp only[Rows.uptoBulk];exact Nat.le_trans (Nat.le_succ _) (Nat.le_mul_of_pos_right _ hC)
  | nil=>simp[DataW.weights]at hx
  | held a=>simp[DataW.weights]at hx
  | iface a b=>simp[DataW.weights]at hx
  | ptr d =>
   simp only[DataW.weights]at hx
   split at hx
   ·rename_i hu;simp[Dy,hu]at h
   ·simp at hx
  | map es =>
   simp only[DataW.weights]at hx
   split at hx
   ·rename_i hu;simp[Dy,hu]at h
   ·simp at hx
  | slice elems spare =>
   simp only[DataW.weights]at hx
   split at hx
   ·rename_i e hu;simp only[Dy,hu]at h
    split at h
    rotate_left
    ·simp at h
    rw[bA0]at h;obtain⟨c,hc,rfl⟩:=h;simp only[GL,ES_,eD0,aN0,decide_eq_true_eq]at hl;simp only[Rows.uptoBulk,bR0];simp only[aJ0,aI0]at hx
    rcases hx with rfl | hx | hx
    ·have h1:=QD elems;have h2:=QD spare;rw[bR0];have g1:=Nat.mul_le_mul h1 hl.1;have g2:=Nat.mul_le_mul h2 hl.1;omega
    ·have:=all e c hc hl.2 elems x hx;omega
    ·have:=all e c hc hl.2 spare x hx;omega
   ·simp at hx
  | agg parts =>
   simp only[DataW.weights]at hx
   split at hx
   ·rename_i fs hu;simp only[Dy,hu]at h
    split at h
    ·rename_i l e hf
     split at h
     ·simp only[aA0]at h;subst h;simp only[Rows.uptoBulk,bR0];have:=each fs.toList 0 e l hf hl parts x hx;omega
     ·simp at h
    ·simp at h
   ·rename_i hu;simp[Dy,hu]at h
   ·simp at hx
theorem GF {P:Program} {C n:Nat} (hC:1<=C):∀{ts:List TypeId} {shs:List (List Sh)} (ds:List (DataW H)),ts.map (Dy P n)=shs.map some->shs.all (GL C)=true->∀x∈DataW.weightsEach P ts ds,x<=Rows.uptoBulkAll ds*C
 | [],shs,ds,h,hl=>by intro x hx;simp[DataW.weightsEach]at hx
 | t::ts,shs,ds,h,hl=>by
  intro x hx
  cases ds with
  | nil=>simp[DataW.weightsEach]at hx
  | cons d r =>
   cases shs with
   | nil=>simp at h
   | cons s ss =>
    simp only[List.map_cons,bG0]at h;simp only[dA0,aN0]at hl;simp only[DataW.weightsEach,aI0]at hx;simp only[Rows.uptoBulkAll,bR0]
    rcases hx with hx | hx
    ·have:=Hw hC n t s d h.1 hl.1 x hx;omega
    ·have:=GF hC r h.2 hl.2 x hx;omega
theorem uX {P:Program} {C n:Nat} (hC:1<=C) {ts:List TypeId} {shs:List (List Sh)} {ds:List (DataW H)} (hk:Rows.uptoSmall H ds=true) (h:ts.map (Dy P n)=shs.map some) (hl:shs.all (GL C)=true):∀x∈DataW.weightsEach P ts ds,x<=1048576*C:=by
 intro x hx;have h1:=GF hC ds h hl x hx;simp only[Rows.uptoSmall,decide_eq_true_eq]at hk;exact Nat.le_trans h1 (aY0 _ hk)
end
end Go.Proofs.Wy
end
section
namespace Go.Proofs.Wy
open Go Go.Dm Tryz
open Go.ChangeShapes Go.WideShapes Go.ChangeAt Go.RowKit
def Ts : List Sh:=[.i .i64,.s,.i .i64]
def Oe : List Sh:=[.s,.sl 3 32 Ts]
theorem sK {L:Nat} {ds:List DVal} (h:EW L Ts ds):∃x:Nd,ds=BM x:=by
 simp only[Ts,EW,Rz]at h;obtain⟨_,_,rfl,⟨k,rfl⟩,_,_,rfl,⟨s,rfl,_⟩,_,_,rfl,⟨n,rfl⟩,rfl⟩:=h;exact⟨⟨k,s,n⟩,rfl⟩
theorem ZB {L:Nat} {ds:List DVal} (h:EW L [.sl 2 40 Oe] ds):∃g:List Rul,ds=[AB g]/\g.length*40<=L/\∀r∈g,r.b.length*32<=L:=by
 simp only[EW,Rz]at h;obtain⟨_,_,rfl,⟨es,rfl,hz,he⟩,rfl⟩:=h
 have hq:∀e∈es,∃x:{r:Rul//r.b.length*32<=L},e=BB x.1:=by
  intro e h;have h:=he e h;simp only[Oe,EW,Rz]at h;obtain⟨_,_,rfl,⟨s,rfl,_⟩,_,_,rfl,⟨es,rfl,hz,he⟩,rfl⟩:=h;obtain⟨l,rfl⟩:=Mo (fun e h=>sK (he e h));exact⟨⟨⟨s,l⟩,by simpa using hz⟩,rfl⟩
 obtain⟨l,rfl⟩:=Mo (f:=fun x:{r:Rul//r.b.length*32<=L}=>BB x.1) hq;refine⟨l.map (·.1),by simp[Function.comp_def],by simpa using hz,fun r hr=> ?_⟩;obtain⟨x,_,rfl⟩:=aR0.1 hr;exact x.2
theorem Cb {a b:Bool} (h1:a=true) (h2:b=true):(a&&b)=true:=by rw[h1,h2];rfl
end Go.Proofs.Wy
end
