/- Parts of a proof, laid together: EnU, PB, PU, PS, PV. -/
import Derived.SizedLaws
import Derived.ProofKit
import Derived.OpenShut
import Derived.Carry
import Derived.Test.YtbpmiknobocjoaaGreatRows
import Derived.Test.YtbpmiknobocjoaaGreatqAp16
import Derived.Test.YtbpmiknobocjoaaGreatqAp17
import Derived.Test.YtbpmiknobocjoaaGreatqAp18
set_option linter.unusedSimpArgs false
set_option maxHeartbeats 8000000
set_option linter.unusedVariables false
set_option linter.unusedSectionVars false
section
namespace Go.Dm
variable [DMode]
inductive Sh where
 | b
 | i (k:IntKind)
 | s
 | sl (k bs:Nat) (c:List Sh)
mutual
def SG (L:Nat):Sh->DVal->Prop
 | .b,d=>∃b,d= .bool b
 | .i k,d=>∃n,d= .int k n
 | .s,d=>∃x:ByteArray,d= .str x/\x.size<=L
 | .sl k bs c,d=>∃es,d= .sl k bs es/\es.length*bs<=L/\∀e∈es,EV L c e
def EV (L:Nat):List Sh->List DVal->Prop
 | [],ds=>ds=[]
 | x::r,ds=>∃d t,ds=d::t/\SG L x d/\EV L r t
end
theorem Pj {L:Nat}:∀{a b:List Sh} {x y:List DVal},EV L a x->EV L b y->EV L (a++b) (x++y)
 | [],b,x,y,h,k=>by simp only[EV]at h;subst h;exact k
 | a::r,b,x,y,h,k=>by
  simp only[EV]at h;obtain⟨d,t,rfl,h1,h2⟩:=h;simp only[List.cons_append,EV];exact⟨d,t++y,rfl,h1,Pj h2 k⟩
def shF (g:TypeId->Option (List Sh)) (cells:TypeId->Nat):List Field->Nat->Option (List Sh×Nat)
 | [],off=>some ([],off)
 | f::r,off=>if f.offset=off then
  (match g f.type,shF g cells r (off+cells f.type)with
  | some c,some (l,e)=>some (c++l,e)
  | _,_=>none)else none
def DR (P:Program):Nat->TypeId->Option (List Sh)
 | 0,_=>none
 | n+1,t=>match P.underlying t with
  | some .bool=>some [.b]
  | some (.int k)=>some [.i k]
  | some .string=>some [.s]
  | some (.slice e)=>if 0<P.cellsOf e then (DR P n e).map fun c=>[.sl (P.cellsOf e) (P.bytesOf e) c]else none
  | some (.struct fs)=>match shF (DR P n) P.cellsOf fs.toList 0 with
   | some (l,e)=>if e=P.cellsOf t then some l else none
   | none=>none
  | _=>none
theorem Oo {α β:Type} {f:α->Option β}:∀{l:List α} {r:List β},l.mapM f=some r->r.length=l.length/\∀(i:Nat) (x:α),l[i]? =some x->∃y,r[i]? =some y/\f x=some y
 | [],r,h=>by simp at h;subst h;simp
 | a::l,r,h=>by
  rw[List.mapM_cons]at h
  cases hf:f a with
  | none=>rw[hf]at h;simp at h
  | some y =>
   rw[hf]at h
   cases hm:l.mapM f with
   | none=>rw[hm]at h;simp at h
   | some r' =>
    rw[hm]at h;simp at h;subst h;obtain⟨h1,h2⟩:=Oo hm;refine⟨by simp[h1],fun i x hx=> ?_⟩
    cases i with
    | zero=>simp only[bA0,aA0]at hx;subst hx;exact⟨y,rfl,hf⟩
    | succ i=>simp only[bL0]at hx |-;exact h2 i x hx
theorem rF {cur:ES} {M:List Nat} {h:Array Obj}:∀{a:List DVal} {x:List Value},rdV cur M h a x->a.length=x.length
 | [],x,h1=>by simp only[rdV]at h1;subst h1;rfl
 | d::a,x,h1=>by
  simp only[rdV]at h1;obtain⟨v,r,rfl,h3,h4⟩:=h1;simp[rF h4]
theorem QO {cur:ES} {M:List Nat} {h:Array Obj} {arr:Array Value}:∀{a:List DVal} {x:List Value} {o:Nat},rdV cur M h a x->(∀v∈x,v.oneCell'=true)->(∀(j:Nat) v,x[j]? =some v->arr[o+j]? =some v)->rdC cur M h a arr o
 | [],x,o,h1,_,_=>by simp[rdC]
 | d::a,x,o,h1,h2,h3=>by
  simp only[rdV]at h1;obtain⟨v,r,rfl,h4,h5⟩:=h1;simp only[rdC];refine⟨⟨v,by simpa using h3 0 v rfl,h2 v (by simp),h4⟩,QO h5 (fun u hu=>h2 u (by simp[hu])) fun j u hu=> ?_⟩;have:=h3 (j+1) u (by simpa using hu);rw[<-this];congr 1;omega
theorem oY {L:Nat} {cur:ES} {M:List Nat} {h:Array Obj} {arr:Array Value} {k:Nat} {c:List Sh}:∀(len off:Nat),(∀i,i<len->∃ds,ds.length=k/\rdC cur M h ds arr (off+i*k)/\EV L c ds) ->
  ∃es,es.length=len/\Dt cur M h k es arr off/\∀e∈es,EV L c e
 | 0,off,_=>⟨[],rfl,by simp[Dt],by simp⟩
 | len+1,off,hh=>by
  obtain⟨ds,h1,h2,h3⟩:=hh 0 (by omega)
  obtain⟨es,h4,h5,h6⟩:=oY len (off+k) (fun i hi=>by
   obtain⟨ds,h1,h2,h3⟩:=hh (i+1) (by omega);refine⟨ds,h1,?_,h3⟩;have:off+k+i*k=off+(i+1)*k:=by rw[bV0];omega
   rw[this];exact h2)
  refine⟨ds::es,by simp[h4],?_,?_⟩
  ·simp only[Dt];exact⟨h1,by simpa using h2,h5⟩
  ·intro e he
   rcases aK0.1 he with rfl | he
   ·exact h3
   ·exact h6 e he
theorem Bh_ {k:IntKind} {n:Int} (h:(Lit.int k n).wf=true):KV k n:=by
 cases k<;>simpa[Lit.wf,IntKind.min,IntKind.max,IntKind.signed,IntKind.bits,KV]using h
theorem Xk {g:TypeId->Option (List Sh)} {cells:TypeId->Nat}:∀{fs:List Field} {off e:Nat} {l:List Sh},shF g cells fs off=some (l,e)->off<=e
 | [],off,e,l,h=>by simp only[shF,aA0,aV0]at h;omega
 | f::r,off,e,l,h=>by
  simp only[shF]at h
  split at h
  ·split at h
   ·rename_i c l' e' h1 h2;simp only[aA0,aV0]at h;have:=Xk h2;omega
   ·simp at h
  ·simp at h
section
variable {H : Type} {enc : TypeId × Value -> H} {P : Program} {w : World} {cur : ES}
def ER_ (L:Nat) (P:Program) (cur:ES) (w:World) (cs:List Value) (shs:List Sh):Prop :=
 ∃ds,rdV cur [] w.heap ds cs/\(∀v∈cs,v.oneCell'=true)/\EV L shs ds
theorem Uq {L fuel n:Nat} (ih:∀{t:TypeId} {cs:List Value} {d:DataW H} {ps:List MemPlace} {shs:List Sh},DataW.trod enc P w 0 (fun _=>true) true fuel t cs=some (d,ps)->DR P n t=some shs->(∀x∈d.weights P t,x<=L)->ER_ L P cur w cs shs)
  (cs:List Value):∀(fs:List Field) (off e:Nat) (l:List Sh) (xs:List (DataW H×List MemPlace)),
   fs.mapM (fun f=>DataW.trod enc P w 0 (fun _=>true) true fuel f.type ((cs.drop f.offset).take (P.cellsOf f.type)))=some xs->shF (DR P n) P.cellsOf fs off=some (l,e) ->
   (∀x∈DataW.weightsEach P (fs.map (·.type)) (xs.map (·.1)),x<=L)->ER_ L P cur w ((cs.drop off).take (e-off)) l
 | [],off,e,l,xs,h1,h2,h3=>by
  simp only[shF,aA0,aV0]at h2;obtain⟨rfl,rfl⟩:=h2;exact⟨[],by simp[rdV],by simp,by simp[EV]⟩
 | f::fs,off,e,l,xs,h1,h2,h3=>by
  rw[List.mapM_cons]at h1;simp only[shF]at h2
  split at h2
  ·rename_i hoff
   split at h2
   ·rename_i c l' e' h4 h5;simp only[aA0,aV0]at h2;obtain⟨rfl,rfl⟩:=h2;have hm:=Xk h5
    cases hf:DataW.trod enc P w 0 (fun _=>true) true fuel f.type ((cs.drop f.offset).take (P.cellsOf f.type))with
    | none=>rw[hf]at h1;simp at h1
    | some x =>
     rw[hf]at h1
     cases hr:fs.mapM (fun f=>DataW.trod enc P w 0 (fun _=>true) true fuel f.type ((cs.drop f.offset).take (P.cellsOf f.type)))with
     | none=>rw[hr]at h1;simp at h1
     | some xr =>
      rw[hr]at h1;simp at h1;subst h1;simp only[List.map_cons,DataW.weightsEach,aG0]at h3;obtain⟨d1,a1,a2,a3⟩:=ih hf h4 (fun y hy=>h3 y (.inl hy));obtain⟨d2,b1,b2,b3⟩:=Uq ih cs fs (off+P.cellsOf f.type) e' l' xr hr h5 (fun y hy=>h3 y (.inr hy))
      have jC:(cs.drop off).take (e'-off)=(cs.drop f.offset).take (P.cellsOf f.type)++(cs.drop (off+P.cellsOf f.type)).take (e'-(off+P.cellsOf f.type)):=by
       rw[hoff,<-eQ0,show e'-off=P.cellsOf f.type+(e'-(off+P.cellsOf f.type)) by omega,List.take_add]
      rw[jC];exact⟨d1++d2,Cf _ _ _ _ a1 b1,fun v hv=>(aG0.1 hv).elim (a2 v) (b2 v),Pj a3 b3⟩
   ·simp at h2
  ·simp at h2
theorem JG {e:TypeId}:∀{l:List (DataW H)} {d:DataW H},d∈l->∀x∈d.weights P e,x∈DataW.weightsAll P e l
 | a::l,d,hd,x,hx=>by
  simp only[DataW.weightsAll,aG0]
  rcases aK0.1 hd with rfl | hd
  ·exact .inl hx
  ·exact .inr (JG hd x hx)
theorem Uy {a:Addr} {n:Nat} {cs:List Value} (h:w.cells? 0 a n=some cs):cs.length=n/\∀(j:Nat) v,cs[j]? =some v->w.cell? (a.add j)=some v:=by
 unfold World.cells? at h;rw[if_pos (dC0 _)]at h;obtain⟨h1,h2⟩:=Oo h;rw[List.length_range]at h1;refine⟨h1,fun j v hv=> ?_⟩;have hj:j<n:=by rw[<-h1];exact(aB0.1 hv).1
 obtain⟨y,hy,yX⟩:=h2 j j (by rw[List.getElem?_range hj]);rw[hv]at hy;rw[yX,hy]
theorem aA (b o n:Nat):(⟨b,o,none⟩:Addr).add n=⟨b,o+n,none⟩:=by
 unfold Addr.add
 split
 ·rename_i h;subst h;rfl
 ·rfl
theorem UW {L:Nat} (hL:L<=140737488355328):∀{fuel n:Nat} {t:TypeId} {cs:List Value} {d:DataW H} {ps:List MemPlace} {shs:List Sh},DataW.trod enc P w 0 (fun _=>true) true fuel t cs=some (d,ps)->DR P n t=some shs ->
  (∀x∈d.weights P t,x<=L)->ER_ L P cur w cs shs
 | 0,n,t,cs,d,ps,shs,h,hs,hw=>by simp[DataW.trod]at h
 | fuel+1,0,t,cs,d,ps,shs,h,hs,hw=>by simp[DR]at hs
 | fuel+1,n+1,t,cs,d,ps,shs,h,hs,hw=>by
  unfold DataW.trod at h
  split at h
  ·rename_i b hu;simp only[DR,hu,aA0]at hs;subst hs;exact⟨[.bool b],by simp[rdV,rd],by simp[Value.oneCell'],by simp[EV,SG]⟩
  ·rename_i k k' n' hu;simp only[DR,hu,aA0]at hs;subst hs
   split at h
   ·rename_i hk;obtain⟨rfl,hk⟩:=hk;exact⟨[.int k' n'],by simp[rdV,rd,Bh_ hk],by simp[Value.oneCell'],by simp[EV,SG]⟩
   ·simp at h
  ·rename_i hu;simp[DR,hu]at hs
  ·rename_i x hu;simp only[DR,hu,aA0]at hs;subst hs
   split at h
   ·rename_i hk;simp only[aA0,aV0]at h;obtain⟨rfl,_⟩:=h;have qI:=hw x.data.toList.length (by simp[DataW.weights]);exact⟨[.str x],by simp[rdV,rd,hk],by simp[Value.oneCell'],by simp only[EV,SG];exact⟨_,_,rfl,⟨x,rfl,by rw[bI0]at qI;exact qI⟩,rfl⟩⟩
   ·simp at h
  ·rename_i hu;simp[DR,hu]at hs
  ·rename_i hu;simp[DR,hu]at hs
  ·rename_i e hu;simp only[DR,hu]at hs
   split at hs
   rotate_left
   ·simp at hs
   rename_i zD;rw[bB0]at hs;obtain⟨c,hc,rfl⟩:=hs;exact⟨[.sl (P.cellsOf e) (P.bytesOf e) []],by simp only[rdV,rd];exact⟨_,_,rfl,⟨none,0,rfl,Nat.le_refl _,dC0 _,by simp,.inl ⟨trivial,fun _=>rfl⟩⟩,rfl⟩,by simp[Value.oneCell'],by simp[EV,SG]⟩
  ·rename_i e a len cap hu;simp only[DR,hu]at hs
   split at hs
   rotate_left
   ·simp at hs
   rename_i zD;rw[bB0]at hs;obtain⟨c,hc,rfl⟩:=hs;simp only at h
   split at h
   ·rename_i hb;obtain⟨_,qC,wX⟩:=hb
    cases hm:(List.range len).mapM (fun i=>(w.cells? 0 (a.add (i*P.cellsOf e)) (P.cellsOf e)).bind (DataW.trod enc P w 0 (fun _=>true) true fuel e))with
    | none=>rw[hm]at h;simp at h
    | some elems =>
     rw[hm]at h;simp only[Option.bind_some,if_true,bB0]at h;obtain⟨rest,hr,h⟩:=h;simp only[aV0]at h;obtain⟨rfl,rfl⟩:=h;simp only[DataW.weights,hu,aK0,aG0,aJ0]at hw;obtain⟨m1,m2⟩:=Oo hm;rw[List.length_range]at m1;have qI:=hw _ (.inl rfl);have qU:len*P.bytesOf e<=L:=Nat.le_trans (aW0 _ (by omega)) qI
     have hel:∀i,i<len->∃cs ds,w.cells? 0 (a.add (i*P.cellsOf e)) (P.cellsOf e)=some cs/\rdV cur [] w.heap ds cs/\(∀v∈cs,v.oneCell'=true)/\EV L c ds:=by
      intro i hi;obtain⟨y,hy,yX⟩:=m2 i i (by rw[List.getElem?_range hi]);rw[Option.bind_eq_some_iff]at yX;obtain⟨cs,yY,yX⟩:=yX;obtain⟨d',p'⟩:=y;have qY:d'∈elems.map (·.1):=aT0.2 ⟨_,bJ0 hy,rfl⟩;obtain⟨ds,b1,b2,b3⟩:=UW hL yX hc (fun x hx=>hw x (.inr (.inl (JG qY x hx))));exact⟨cs,ds,yY,b1,b2,b3⟩
     by_cases h0:len=0
     ·subst h0;exact⟨[.sl (P.cellsOf e) (P.bytesOf e) []],by simp only[rdV,rd];exact⟨_,_,rfl,⟨some a,cap,rfl,dC0 _,wX,by simp,.inl ⟨trivial,fun hh=>by simp at hh⟩⟩,rfl⟩,by simp[Value.oneCell'],by simp[EV,SG]⟩
     ·obtain⟨blk,off,spot⟩:=a;obtain⟨cs0,ds0,hcs0,_,_,_⟩:=hel 0 (by omega);obtain⟨l1,l2⟩:=Uy hcs0;obtain⟨v,hv⟩:∃v,cs0[0]? =some v:=⟨_,aI0 (by omega)⟩;have yA:w.cell? ⟨blk,off,spot⟩=some v:=by simpa[Addr.add]using l2 0 v hv
      obtain⟨arr,ty,fz,hblk,hspot⟩:∃arr ty fz,w.heap[blk]? =some (.cells arr ty fz)/\spot=none:=by
       simp only[World.cell?]at yA
       split at yA
       ·rename_i arr ty fz hb
        split at yA
        ·simp at yA
        ·rename_i jC;exact⟨arr,ty,fz,hb,by simpa using jC⟩
       ·simp at yA
      subst hspot
      obtain⟨es,e1,e2,e3⟩:=oY (cur:=cur) (M:=[]) (h:=w.heap) (arr:=arr) (k:=P.cellsOf e) (c:=c) len off (fun i hi=>by
       obtain⟨cs,ds,yY,b1,b2,b3⟩:=hel i hi;obtain⟨l1,l2⟩:=Uy yY;refine⟨ds,by rw[rF b1,l1],QO b1 b2 fun j u hu=> ?_,b3⟩;have:=l2 j u hu;rw[aA,aA]at this
       simpa[World.cell?,hblk]using this)
      refine⟨[.sl (P.cellsOf e) (P.bytesOf e) es],?_,by simp[Value.oneCell'],by simp only[EV,SG];exact⟨_,_,rfl,⟨es,rfl,by rw[e1];exact qU,e3⟩,rfl⟩⟩;simp only[rdV,rd];exact⟨_,_,rfl,⟨_,_,by rw[e1],by omega,wX,by rw[e1];omega,.inr ⟨blk,off,arr,ty,fz,rfl,by simp,hblk,e2⟩⟩,rfl⟩
   ·simp at h
  ·rename_i fs hu;simp only[DR,hu]at hs
   split at hs
   ·rename_i l e hf
    split at hs
    ·rename_i he;simp only[aA0]at hs;subst hs;subst he
     split at h
     ·rename_i qU;simp only[bB0]at h;obtain⟨xs,mY,h⟩:=h;simp only[aV0]at h;obtain⟨rfl,rfl⟩:=h;simp only[DataW.weights,hu]at hw;have:=Uq (cur:=cur) (fun h1 h2 h3=>UW hL h1 h2 h3) _ fs.toList 0 (P.cellsOf t) l xs mY hf hw;simpa[<-qU]using this
     ·simp at h
    ·simp at hs
   ·simp at hs
  all_goals first | (simp at h;done) | (rename_i hu;simp[DR,hu]at hs;done)
def Ow (P:Program) (t:TypeId):Bool:=match P.underlying t with | some (.struct _)=>true | _=>false
theorem Hr_ {L base n:Nat} (hL:L<=140737488355328) {t:TypeId} {v:Value} {d:DataW H} {ps:List MemPlace} {shs:List Sh} (hv:Value.okWide P w .any base t v) (h:DataW.Trod enc P w 0 (fun _=>true) true t v d ps) (hs:DR P n t=some shs)
  (hw:∀x∈d.weights P t,x<=L):∃ds,EV L shs ds/\if Ow P t then rd cur [] w.heap (.agg ds) v else rdV cur [] w.heap ds [v]:=by
 obtain⟨fuel,h⟩:=h;obtain⟨ds,h1,h2,h3⟩:=UW (cur:=cur) hL h hs hw;refine⟨ds,h3,?_⟩;unfold Ow
 split
 ·rename_i fs hu;simp only[if_true];simp only[Value.okWide,hu]at hv;obtain⟨cs,rfl,_,_⟩:=hv;simp only[rd];exact⟨cs,rfl,h1⟩
 ·rename_i hu
  have mB:v.cells= #[v]:=by
   cases n with
   | zero=>simp[DR]at hs
   | succ n =>
    cases v<;>first | rfl | skip
    rename_i cs;unfold DR at hs;unfold Value.okWide at hv
    cases vO:P.underlying t with
    | none=>simp[vO]at hs
    | some ty =>
     rw[vO]at hs hv;cases ty<;>simp[Cell.okWide,Cell.ok,vO]at hs hv;exact absurd vO (hu _)
  rw[mB]at h1;simpa using h1
def Ll (L:Nat) (P:Program):List TypeId->List (List Sh)->List DVal->Prop
 | [],[],a=>a=[]
 | t::ts,x::xs,a=>∃ds r,EV L x ds/\a=(if Ow P t then .agg ds else ds.headD .any)::r/\Ll L P ts xs r
 | _,_,_=>False
theorem Zn {L base n:Nat} (hL:L<=140737488355328):∀{ts:List TypeId} {vs:List Value} {ds:List (DataW H)} {ps:List MemPlace} {shs:List (List Sh)},(∀(j:Nat) t v,ts[j]? =some t->vs[j]? =some v->Value.okWide P w .any base t v) ->
  DataW.TrodAll enc P w 0 (fun _=>true) true ts vs ds ps->ts.map (DR P n)=shs.map some->(∀x∈DataW.weightsEach P ts ds,x<=L)->∃das,rdV cur [] w.heap das vs/\Ll L P ts shs das
 | [],vs,ds,ps,shs,hv,hA,hs,hw=>by
  obtain⟨rfl,rfl,rfl⟩:=ChangeShapes.trodAll_nil hA
  cases shs with
  | nil=>exact⟨[],by simp[rdV],by simp[Ll]⟩
  | cons a b=>simp at hs
 | t::ts,vs,ds,ps,shs,hv,hA,hs,hw=>by
  obtain⟨v,vr,d,dr,p,q,rfl,rfl,rfl,h0,hr⟩:=ChangeShapes.trodAll_cons hA
  cases shs with
  | nil=>simp at hs
  | cons x xs =>
   simp only[List.map_cons,bG0]at hs;simp only[DataW.weightsEach,aG0]at hw;obtain⟨das,a1,a2⟩:=Zn hL (fun j t v h1 h2=>hv (j+1) t v (by simpa using h1) (by simpa using h2)) hr hs.2 (fun y hy=>hw y (.inr hy));obtain⟨dd,b1,b2⟩:=Hr_ (cur:=cur) hL (hv 0 t v rfl rfl) h0 hs.1 (fun y hy=>hw y (.inl hy));refine⟨(if Ow P t then .agg dd else dd.headD .any)::das,?_,by simp only[Ll];exact⟨dd,das,b1,rfl,a2⟩⟩;simp only[rdV]
   refine⟨v,vr,rfl,?_,a1⟩
   split
   ·rename_i h;rw[if_pos h]at b2;exact b2
   ·rename_i h;rw[if_neg h]at b2
    cases dd with
    | nil=>simp[rdV]at b2
    | cons d0 dr =>
     simp only[rdV]at b2;obtain⟨u,r,hu,kK,_⟩:=b2;simp only[bG0]at hu;rw[hu.1];simpa using kK
theorem Gj_ {L base n:Nat} {ts:List TypeId} {vs:List Value} {ds:List (DataW H)} {ps:List MemPlace} {shs:List (List Sh)} (h1:∀(j:Nat) t v,ts[j]? =some t->vs[j]? =some v->Value.okWide P w .any base t v)
 (h2:DataW.TrodAll enc P w 0 (fun _=>true) true ts vs ds ps) (h3:ts.map (DR P n)=shs.map some) (h4:∀x∈DataW.weightsEach P ts ds,x<=L) (hL:L<=140737488355328:=by omega):∃das,rdV cur [] w.heap das vs/\Ll L P ts shs das:=Zn hL h1 h2 h3 h4
theorem Upd.below {a b:World} (h:Upd [] a b):RowKit.Below a.heap.size a b:=⟨h.os,h.tape,h.output,h.size,fun k hk=>h.blk k hk (by simp)⟩
theorem Lv (hl:laidOutB P=true) {W W':World} {sp:Nat->Bool}:∀{ts:List TypeId} {vs:List Value} {ds:List (DataW H)} {ps:List MemPlace},(∀t∈ts,P.readableRec t=true/\t<P.types.size) ->
  DataW.TrodAll enc P W 0 (fun _=>true) true ts vs ds ps->(∀p∈ps,W.sameAt W' p)->(∀p∈ps,sp p.block=true)->DataW.TrodAll enc P W' 0 sp true ts vs ds ps
 | [],vs,ds,ps,ht,hA,h1,h2=>by
  obtain⟨rfl,rfl,rfl⟩:=ChangeShapes.trodAll_nil hA;rfl
 | t::ts,vs,ds,ps,ht,hA,h1,h2=>by
  obtain⟨v,vr,d,dr,p,q,rfl,rfl,rfl,h0,hr⟩:=ChangeShapes.trodAll_cons hA;obtain⟨k1,k2⟩:=ht t (by simp);exact⟨p,q,WideElems.Trod_stays hl k1 k2 h0 (fun x hx=>h1 x (by simp[hx])) (fun x hx=>h2 x (by simp[hx])),Lv hl (fun t h=>ht t (by simp[h])) hr (fun x hx=>h1 x (by simp[hx])) (fun x hx=>h2 x (by simp[hx])),rfl⟩
theorem Dx_ {fn:Func} {s:ChangeSpec} {fresh handsOn:Bool} {tb:TypeId} {W W':World} {args:Array Value} {ds gs:List (DataW H)} {before:List MemPlace} (hl:laidOutB P=true)
  (wZ:∀t∈fn.params.toList,P.readableRec t=true/\t<P.types.size) (hr:fn.resultTypes= #[tb]) (hub:P.underlying tb=some .bool) (cA:s.vars=[])
  (hs:s.fn H (ds++gs)={ results:=[.lit (.bool true)],args:=ds }) (hW:DataW.Whole enc P fn.params.toList s.vars false W args.toList ds gs before) (hu:Upd [] W W') :
  s.post enc P fn false fresh handsOn false W args (.bool true) W':=by
 have hW':=hW;obtain⟨p,q,hA,hV,rfl,hfz,hnd⟩:=hW;have qV:∀x∈p,x.block<W.heap.size:=fun x hx=>hW'.lt x (by simp[hx])
 have hb:=hu.below;refine⟨ds,gs,p++q,[],p,[],hW',?_,?_,?_,hb.frame _,fun h=>by cases h⟩
 ·rw[hs,hr];exact ChangeShapes.trodAll_mk1 (RowKit.shut_bool hub true)
 ·rw[hs];exact Lv hl wZ hA (fun x hx=>hb.same (qV x hx)) (fun x hx=>by simpa using qV x hx)
 ·rw[hs,cA];rfl
theorem VN {f:FuncId} {fn:Func} {s:ChangeSpec} {fresh handsOn:Bool} {tb:TypeId} {W:World} {args:Array Value} {das:List DVal} {ds gs:List (DataW H)} {before:List MemPlace} (hl:laidOutB P=true)
  (wZ:∀t∈fn.params.toList,P.readableRec t=true/\t<P.types.size) (hr:fn.resultTypes= #[tb]) (hub:P.underlying tb=some .bool) (cA:s.vars=[])
  (hs:s.fn H (ds++gs)={ results:=[.lit (.bool true)],args:=ds }) (hW:DataW.Whole enc P fn.params.toList s.vars false W args.toList ds gs before)
  (vX:rdV (fun _ _=>none) [] W.heap das args.toList) (hd:Af P f das (.bool true)) :
  Calls P f args W fun e W'=>∃v,e= .returned v/\s.post enc P fn false fresh handsOn false W args v W':=by
 refine(hd.2.2 _ [] W args (by simp) vX).mono fun e W' ⟨v,he,hu,hv⟩=>⟨.bool true,?_,Dx_ hl wZ hr hub cA hs hW hu⟩
 simp only[rd]at hv;rw[he,hv]
end
theorem NU {α:Type} {f:α->List DVal}:∀{es:List (List DVal)},(∀e∈es,∃x,e=f x)->∃l:List α,es=l.map f
 | [],_=>⟨[],rfl⟩
 | e::es,h=>by
  obtain⟨x,rfl⟩:=h e (by simp);obtain⟨l,rfl⟩:=NU (es:=es) (f:=f) (fun e he=>h e (by simp[he]));exact⟨x::l,rfl⟩
end Go.Dm
end
section
namespace Go.Proofs.Wy
open Go Go.Dm Tryz
variable [DMode]
open Go.ChangeShapes Go.WideShapes Go.ChangeAt Go.RowKit
theorem own : ownKnob Tryz.prog.godebug=none:=by kernel_rfl
theorem FN_ : laidOutB prog=true:=by kernel_rfl
end Go.Proofs.Wy
end
section
namespace Go.Proofs.Wy
open Go Go.Dm Tryz YtbpmiknobocjoaaGreat
variable [DMode]
mutual
def HO_ (C:Nat):Sh->Bool
 | .b=>true
 | .i _=>true
 | .s=>true
 | .sl _ bs c=>decide (bs<=C)&&HV C c
def HV (C:Nat):List Sh->Bool
 | []=>true
 | x::r=>HO_ C x&&HV C r
end
theorem Mz {C:Nat}:∀{a b:List Sh},HV C (a++b)=(HV C a&&HV C b)
 | [],b=>by simp[HV]
 | x::a,b=>by simp[HV,Mz (a:=a),Bool.and_assoc]
section
variable {H : Type}
theorem Ev_ (d:DataW H):1<=Rows.uptoBulk d:=by
 cases d with
 | lit l=>cases l<;>simp only[Rows.uptoBulk]<;>omega
 | _=>simp only[Rows.uptoBulk]<;>omega
theorem Sp : ∀l:List (DataW H),l.length<=Rows.uptoBulkAll l
 | []=>by simp
 | d::r=>by
  have:=Ev_ d;have:=Sp r;simp only[Rows.uptoBulkAll,List.length_cons];omega
theorem IJ {P:Program} {C:Nat} (hC:1<=C):∀(n:Nat) (t:TypeId) (shs:List Sh) (d:DataW H),DR P n t=some shs->HV C shs=true->∀x∈d.weights P t,x<=Rows.uptoBulk d*C
 | 0,t,shs,d,h,hl=>by simp[DR]at h
 | n+1,t,shs,d,h,hl=>by
  intro x hx
  have all:∀(e:TypeId) (c:List Sh),DR P n e=some c->HV C c=true->∀(l:List (DataW H)),∀x∈DataW.weightsAll P e l,x<=Rows.uptoBulkAll l*C:=by
   intro e c he hc l
   induction l with
   | nil=>intro x hx;simp[DataW.weightsAll]at hx
   | cons d r ih =>
    intro x hx;simp only[DataW.weightsAll,aG0]at hx;simp only[Rows.uptoBulkAll,bV0]
    rcases hx with hx | hx
    ·have:=IJ hC n e c d he hc x hx;omega
    ·have:=ih x hx;omega
  have each:∀(fs:List Field) (off e:Nat) (l:List Sh),shF (DR P n) P.cellsOf fs off=some (l,e)->HV C l=true->∀(parts:List (DataW H)),∀x∈DataW.weightsEach P (fs.map (·.type)) parts,x<=Rows.uptoBulkAll parts*C:=by
   intro fs
   induction fs with
   | nil=>intro off e l _ _ parts x hx;simp[DataW.weightsEach]at hx
   | cons f fs ih =>
    intro off e l hf hc parts x hx
    cases parts with
    | nil=>simp[DataW.weightsEach]at hx
    | cons d r =>
     simp only[shF]at hf
     split at hf
     ·split at hf
      ·rename_i c l' e' h4 h5;simp only[aA0,aV0]at hf;obtain⟨rfl,rfl⟩:=hf;rw[Mz,aL0]at hc;simp only[List.map_cons,DataW.weightsEach,aG0]at hx;simp only[Rows.uptoBulkAll,bV0]
       rcases hx with hx | hx
       ·have:=IJ hC n f.type c d h4 hc.1 x hx;omega
       ·have:=ih _ _ _ h5 hc.2 r x hx;omega
      ·simp at hf
     ·simp at hf
  cases d with
  | lit l =>
   cases l<;>simp only[DataW.weights,aE0,eX0]at hx;subst hx;simp only[Rows.uptoBulk];exact Nat.le_trans (Nat.le_succ _) (Nat.le_mul_of_pos_right _ hC)
  | nil=>simp[DataW.weights]at hx
  | held a=>simp[DataW.weights]at hx
  | iface a b=>simp[DataW.weights]at hx
  | ptr d =>
   simp only[DataW.weights]at hx
   split at hx
   ·rename_i hu;simp[DR,hu]at h
   ·simp at hx
  | map es =>
   simp only[DataW.weights]at hx
   split at hx
   ·rename_i hu;simp[DR,hu]at h
   ·simp at hx
  | slice elems spare =>
   simp only[DataW.weights]at hx
   split at hx
   ·rename_i e hu;simp only[DR,hu]at h
    split at h
    rotate_left
    ·simp at h
    rw[bB0]at h;obtain⟨c,hc,rfl⟩:=h;simp only[HV,HO_,eB0,aL0,decide_eq_true_eq]at hl;simp only[Rows.uptoBulk,bV0];simp only[aK0,aG0]at hx
    rcases hx with rfl | hx | hx
    ·have h1:=Sp elems;have h2:=Sp spare;rw[bV0];have g1:=Nat.mul_le_mul h1 hl.1;have g2:=Nat.mul_le_mul h2 hl.1;omega
    ·have:=all e c hc hl.2 elems x hx;omega
    ·have:=all e c hc hl.2 spare x hx;omega
   ·simp at hx
  | agg parts =>
   simp only[DataW.weights]at hx
   split at hx
   ·rename_i fs hu;simp only[DR,hu]at h
    split at h
    ·rename_i l e hf
     split at h
     ·simp only[aA0]at h;subst h;simp only[Rows.uptoBulk,bV0];have:=each fs.toList 0 e l hf hl parts x hx;omega
     ·simp at h
    ·simp at h
   ·rename_i hu;simp[DR,hu]at h
   ·simp at hx
theorem HP {P:Program} {C n:Nat} (hC:1<=C):∀{ts:List TypeId} {shs:List (List Sh)} (ds:List (DataW H)),ts.map (DR P n)=shs.map some->shs.all (HV C)=true->∀x∈DataW.weightsEach P ts ds,x<=Rows.uptoBulkAll ds*C
 | [],shs,ds,h,hl=>by intro x hx;simp[DataW.weightsEach]at hx
 | t::ts,shs,ds,h,hl=>by
  intro x hx
  cases ds with
  | nil=>simp[DataW.weightsEach]at hx
  | cons d r =>
   cases shs with
   | nil=>simp at h
   | cons s ss =>
    simp only[List.map_cons,bG0]at h;simp only[cT0,aL0]at hl;simp only[DataW.weightsEach,aG0]at hx;simp only[Rows.uptoBulkAll,bV0]
    rcases hx with hx | hx
    ·have:=IJ hC n t s d h.1 hl.1 x hx;omega
    ·have:=HP hC r h.2 hl.2 x hx;omega
theorem Cy_ {P:Program} {C n:Nat} (hC:1<=C) {ts:List TypeId} {shs:List (List Sh)} {ds:List (DataW H)} (hk:Rows.uptoSmall H ds=true) (h:ts.map (DR P n)=shs.map some) (hl:shs.all (HV C)=true):∀x∈DataW.weightsEach P ts ds,x<=1048576*C:=by
 intro x hx;have h1:=HP hC ds h hl x hx;simp only[Rows.uptoSmall,decide_eq_true_eq]at hk;exact Nat.le_trans h1 (aW0 _ hk)
end
end Go.Proofs.Wy
end
section
namespace Go.Proofs.Wy
open Go Go.Dm Tryz
open Go.ChangeShapes Go.WideShapes Go.ChangeAt Go.RowKit
def Vd : List Sh:=[.i .i64,.s,.i .i64]
def PM : List Sh:=[.s,.sl 3 32 Vd]
theorem Bk_ {L:Nat} {ds:List DVal} (h:EV L Vd ds):∃x:Nd,ds=Bo x:=by
 simp only[Vd,EV,SG]at h;obtain⟨_,_,rfl,⟨k,rfl⟩,_,_,rfl,⟨s,rfl,_⟩,_,_,rfl,⟨n,rfl⟩,rfl⟩:=h;exact⟨⟨k,s,n⟩,rfl⟩
theorem iZ {L:Nat} {ds:List DVal} (h:EV L [.sl 2 40 PM] ds):∃g:List Rul,ds=[Au g]/\g.length*40<=L/\∀r∈g,r.b.length*32<=L:=by
 simp only[EV,SG]at h;obtain⟨_,_,rfl,⟨es,rfl,hz,he⟩,rfl⟩:=h
 have hq:∀e∈es,∃x:{r:Rul//r.b.length*32<=L},e=Ba x.1:=by
  intro e h;have h:=he e h;simp only[PM,EV,SG]at h;obtain⟨_,_,rfl,⟨s,rfl,_⟩,_,_,rfl,⟨es,rfl,hz,he⟩,rfl⟩:=h;obtain⟨l,rfl⟩:=NU (fun e h=>Bk_ (he e h));exact⟨⟨⟨s,l⟩,by simpa using hz⟩,rfl⟩
 obtain⟨l,rfl⟩:=NU (f:=fun x:{r:Rul//r.b.length*32<=L}=>Ba x.1) hq;refine⟨l.map (·.1),by simp[Function.comp_def],by simpa using hz,fun r hr=> ?_⟩;obtain⟨x,_,rfl⟩:=aT0.1 hr;exact x.2
theorem Cj {a b:Bool} (h1:a=true) (h2:b=true):(a&&b)=true:=by rw[h1,h2];rfl
theorem DM_ {L:Nat} {ds:List DVal} (h:EV L [.i .i64] ds):∃n:Int,ds=[.int .i64 n]:=by
 simp only[EV,SG]at h;obtain⟨_,_,rfl,⟨n,rfl⟩,rfl⟩:=h;exact⟨n,rfl⟩
end Go.Proofs.Wy
end
