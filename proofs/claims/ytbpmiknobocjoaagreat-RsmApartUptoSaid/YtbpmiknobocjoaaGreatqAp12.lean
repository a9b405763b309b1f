/- Parts of a proof, laid together: EnI4. -/
import Derived.Lib.AppendStr
import Derived.Test.YtbpmiknobocjoaaGreatqAp11
set_option linter.unusedSimpArgs false
set_option maxHeartbeats 8000000
set_option linter.unusedVariables false
set_option linter.unusedSectionVars false
section
namespace Go.Dm
variable [DMode]
def AZ (x:ByteArray):List (List DVal):=x.data.toList.map fun b=>[.int .u8 b.toNat]
theorem Bb (x:ByteArray):(AZ x).length=x.size:=by rw[AZ,aJ0];rfl
@[simp] theorem Gj (x:ByteArray):Br (AZ x)=0:=by
 unfold AZ
 induction x.data.toList with
 | nil=>rfl
 | cons b l ih=>simp[Br,AJ,mx,ih]
theorem lX (x y:ByteArray):AZ (x++y)=AZ x++AZ y:=by
 simp[AZ,ByteArray.data_append]
theorem lW (x:ByteArray) (cur:ES) (M:List Nat) (H:Array Obj):∃rows2:List (List Value),rows2.length=(AZ x).length/\(∀(i:Nat) (cs:List DVal) (us:List Value),(AZ x)[i]? =some cs->rows2[i]? =some us->cs.length=1/\rdV cur M H cs us/\∀u∈us,u.oneCell'=true) /\
   rows2.flatten.length=(AZ x).length*1/\(∀u∈rows2.flatten,u.oneCell'=true)/\rows2.flatten=Lib.strCells x:=by
 have vI:(x.data.toList.map fun b=>[Value.int .u8 b.toNat]).flatten=Lib.strCells x:=by
  unfold Lib.strCells
  induction x.data.toList with
  | nil=>rfl
  | cons b l ih=>simp[ih]
 refine⟨x.data.toList.map fun b=>[.int .u8 b.toNat],by simp[AZ],?_,by rw[vI,Lib.strCells_length,Bb,eT0],by rw[vI];exact Lib.strCells_oneCell x,vI⟩;intro i cs us hc hu;simp only[AZ,bH0,bB0]at hc hu;obtain⟨b,hb,rfl⟩:=hc;obtain⟨b',qM,rfl⟩:=hu;rw[hb]at qM;simp only[aA0]at qM;subst qM;refine⟨rfl,?_,by simp[Value.oneCell']⟩;simp only[rdV,rd];exact⟨_,_,rfl,⟨rfl,by have:=UInt8.toNat_lt b;simp only[KV];omega⟩,rfl⟩
section
variable {P : Program} {B : Base} {s : DS} {a : Act} {w : World} {loc : Nat -> Loc}
theorem FP {t t2 ty e:TypeId} {i:TypeInfo} {x:ByteArray} (hu:P.underlying t=some (.slice e)) (hu2:P.underlying t2=some .string) (hi:P.info? e=some i) (hx:x.size=0) {y:Option Addr} {m cap:Nat} (wR:m<=cap) :
  (Builtin.append_ #[t,t2] ty #[.slice y m cap,.string x]).run P w= .ok (.slice y m cap) w:=by
 have hf:=Lib.run_firstCells_string (P:=P) w i.size x;have hn:Lib.strCells x=[]:=bN0 (by rw[Lib.strCells_length];exact hx);rw[hx,hn]at hf;cases y<;>simp[Builtin.append_,run_underlying hu,run_underlying hu2,sizeOf,typeInfo,hi,Builtin.lenOf,hx,hf,wR,storeCells]
theorem Rel.appendStr {id n:Nat} {t t2 ty e:TypeId} {k bs:Nat} {es:List (List DVal)} {x:ByteArray} {dv:Value} {dst:Option Nat} (R:Rel B s a w loc) (qP:Cd B s<=n) (qT:∀i,dst=some i->i<B.nt)
  (ht:tElem P t=some (k,bs)) (yU:tElemId P t=some e) (hz:zeroOK P t=true) (hk:0<k) (qH:aC s loc w B.M0 id e k bs es dv) (fY:Br es<=n)
  (mT:P.underlying t2=some .string) (jE:k=1) (hb:(es.length+x.size)*bs<=150000000000000) (wI:bs<=65536) (hl:es.length+x.size<=maxLen) :
  ∃v' w' L,(Builtin.append_ #[t,t2] ty #[dv,.string x]).run P w= .ok v' w'/\Rel B ⟨putS s.slots dst (.osl id n),upE s.own id n (.row e k bs (es++AZ x))⟩ (a.put dst v') w' (CS loc id L):=by
 obtain⟨e',i,hu,hi,qI,hby,_⟩:=Bx ht;have hee:e'=e:=by unfold tElemId at yU;rw[hu]at yU;simpa using yU
 subst hee
 obtain⟨z,yG,hzs⟩:∃z,i.zero=some z/\z.cells.size=k:=by
  unfold zeroOK at hz;rw[hu]at hz;simp only[hi]at hz
  cases hq:i.zero with
  | none=>simp[hq]at hz
  | some z=>simp only[hq,beq_iff_eq]at hz;exact⟨z,rfl,by rw[hz,qI]⟩
 obtain⟨es2,nG⟩:∃es2,es2=AZ x:=⟨_,rfl⟩;rw[<-nG];have hx2:es2.length=x.size:=by rw[nG,Bb]
 obtain⟨rows2,q1,q2,q3,q4,vI⟩:∃rows2:List (List Value),rows2.length=es2.length/\(∀(i:Nat) (cs:List DVal) (us:List Value),es2[i]? =some cs->rows2[i]? =some us->cs.length=k/\rdV (cu s loc) (hm s loc B.M0) w.heap cs us/\∀u∈us,u.oneCell'=true) /\
   rows2.flatten.length=es2.length*k/\(∀u∈rows2.flatten,u.oneCell'=true)/\rows2.flatten=Lib.strCells x:=by
  rw[nG,jE];exact lW x _ _ _
 have jA:Br es2<=n:=by rw[nG,Gj];exact dC0 _
 rw[<-hx2]at hb hl;have zH:(es++es2).length*bs<=150000000000000:=by simpa using hb
 have mx12:Br (es++es2)<=n:=by rw[BD];omega
 -- what the slot reads at the end
 have rdEnd:∀(L:Loc) (h:Array Obj) (obj:DObj),rd (Ac (upE s.own id n obj) (CS loc id L)) (Aa (upE s.own id n obj) (CS loc id L)++B.M0) h (.osl id n) L.hdr:=by
  intro L h obj;simp only[rd];intro l wW;rw[DD]at wW;simp only[aA0]at wW;rw[wW]
 ·by_cases gA:es2.length=0
  ·have vS:es2=[]:=bN0 gA;have hx0:x.size=0:=by omega
   rw[vS,bR0];rw[vS,bR0]at zH
   rcases qH with ⟨rfl,rfl⟩ | ⟨e0,qY,hid,b,arr,cap,kM,rfl,h3,h4,h5,h6,h7⟩
   ·refine⟨_,w,⟨[],.slice none 0 0⟩,FP hu mT hi hx0 (Nat.le_refl _),?_⟩;refine R.up (L:=⟨[],.slice none 0 0⟩) qP qT (Upd.refl _ _) (fun b hb _=>rfl) (fun b hb=>by simp at hb) (.inl (Nat.le_refl _)) ⟨by simp,.inl ⟨rfl,rfl,rfl⟩⟩ (rdEnd ⟨[],.slice none 0 0⟩ _ _)
   ·have h1:b∈(loc id).blks:=by rw[kM];simp
    refine⟨_,w,⟨[b],.slice (some ⟨b,0,none⟩) es.length cap⟩,FP hu mT hi hx0 h4,?_⟩
    have hL:∀b0,b0∈(⟨[b],.slice (some ⟨b,0,none⟩) es.length cap⟩:Loc).blks->b0<w.heap.size/\((∃e∈s.own,e.id=id/\b0∈(loc id).blks)\/w.heap.size<=b0):=by
     intro b0 qR;simp only[aE0]at qR;subst qR;exact⟨(aC0.1 h3).1,.inl ⟨e0,qY,hid,h1⟩⟩
    have W:=R.weakUp (obj:= .row e' k bs es) (r:=n) qP (Upd.refl _ _) hL (.inl (Nat.le_refl _));exact R.up (L:=⟨[b],.slice (some ⟨b,0,none⟩) es.length cap⟩) qP qT (Upd.refl _ _) (fun b hb _=>rfl) hL (.inl (Nat.le_refl _)) ⟨zH,.inr ⟨b,arr,cap,rfl,rfl,h3,h4,h5,h6,Cu W k es arr 0 fY h7⟩⟩ (rdEnd ⟨[b],.slice (some ⟨b,0,none⟩) es.length cap⟩ _ _)
  ·
   subst qI
   subst hby;have wW:es.length+es2.length<=9223372036854775807:=by unfold maxLen at hl;omega
   -- a new row, whatever it held before
   have fresh:∀(rows:List (List Value)) (cap:Nat),es.length<=cap\/True->rows.length=es.length->rows.flatten.length=es.length*i.size ->
     (∀(j:Nat) (cs:List DVal) (us:List Value),es[j]? =some cs->rows[j]? =some us->cs.length=i.size/\rdV (cu s loc) (hm s loc B.M0) w.heap cs us/\∀u∈us,u.oneCell'=true) ->
     Rel B ⟨putS s.slots dst (.osl id n),upE s.own id n (.row e' i.size i.bytes (es++es2))⟩ (a.put dst (.slice (some ⟨w.heap.size,0,none⟩) (es.length+es2.length) (grownCap w (es.length+es2.length) cap e')))
      (w.drew.alloc (.cells (rows.flatten.toArray++rows2.flatten.toArray++Builtin.zeroCells z.cells (grownCap w (es.length+es2.length) cap e'-(es.length+es2.length))) e')) (CS loc id ⟨[w.heap.size],.slice (some ⟨w.heap.size,0,none⟩) (es.length+es2.length) (grownCap w (es.length+es2.length) cap e')⟩):=by
    intro rows cap _ r1 r2 r3
    have hw:Upd (Aa s.own loc) w (w.drew.alloc (.cells (rows.flatten.toArray++rows2.flatten.toArray++Builtin.zeroCells z.cells (grownCap w (es.length+es2.length) cap e'-(es.length+es2.length))) e')) :=
     (Upd.drew _ w).trans (Upd.alloc _ w.drew _) (fun x hx=> .inl hx)
    have hL:∀b0,b0∈(⟨[w.heap.size],.slice (some ⟨w.heap.size,0,none⟩) (es.length+es2.length) (grownCap w (es.length+es2.length) cap e')⟩:Loc).blks->b0<(w.drew.alloc (.cells (rows.flatten.toArray++rows2.flatten.toArray++Builtin.zeroCells z.cells (grownCap w (es.length+es2.length) cap e'-(es.length+es2.length))) e')).heap.size/\((∃e∈s.own,e.id=id/\b0∈(loc id).blks)\/w.heap.size<=b0):=by
     intro b0 qR;simp only[aE0]at qR;subst qR;exact⟨by simp,.inr (Nat.le_refl _)⟩
    have W:=R.weakUp (obj:= .row e' i.size i.bytes (es++es2)) (r:=n) qP hw hL (.inl (Nat.le_refl _));have fI:=grownCap_ge w (es.length+es2.length) cap e';have hcm:=grownCap_le_maxLen w (es.length+es2.length) cap e' hl;refine R.up qP qT hw (fun b hb _=>by simp only[World.alloc,bS0,World.drew];rw[if_neg (by omega)]) hL (.inl (Nat.le_refl _)) ⟨zH,.inr ⟨w.heap.size,_,_,rfl,by simp,heap_alloc_new w.drew _,by simpa using fI,hcm,?_,?_⟩⟩ (rdEnd ⟨[w.heap.size],.slice (some ⟨w.heap.size,0,none⟩) (es.length+es2.length) (grownCap w (es.length+es2.length) cap e')⟩ _ _)
    ·simp only[Array.size_append,dJ0,size_zeroCells,hzs,r2,q3,<-bV0]
     congr 1
     omega
    ·have:=MU (k:=i.size) r1 q1 (Es W fY r3) (Es W jA q2) (Builtin.zeroCells z.cells (grownCap w (es.length+es2.length) cap e'-(es.length+es2.length))).toList
     have e1:(rows.flatten++rows2.flatten++(Builtin.zeroCells z.cells (grownCap w (es.length+es2.length) cap e'-(es.length+es2.length))).toList).toArray=rows.flatten.toArray++rows2.flatten.toArray++Builtin.zeroCells z.cells (grownCap w (es.length+es2.length) cap e'-(es.length+es2.length)):=by
      apply Array.ext';simp
     rw[e1]at this;exact this
   rcases qH with ⟨rfl,rfl⟩ | ⟨e0,qY,hid,b,arr,cap,kM,rfl,h3,h4,h5,h6,h7⟩
   ·have hr:=run_append_nil_string (P:=P) w t t2 ty e' i z hu mT hi yG x (by omega) (by omega) (by rw[<-hx2];simp only[List.length_nil,bQ0]at hb;omega)
    have e1:(x.data.map fun b=>Value.int .u8 b.toNat)=(Lib.strCells x).toArray:=by
     apply Array.ext'
     simp[Lib.strCells]
    rw[e1,<-vI,<-hx2]at hr;have hf:=fresh [] 0 (.inr trivial) rfl (by simp) (by simp);simp only[List.length_nil,bQ0,List.nil_append,List.flatten_nil,Array.empty_append]at hf hr |-;exact⟨_,_,_,hr,hf⟩
   ·have h1:b∈(loc id).blks:=by rw[kM];simp
    obtain⟨rows,r1,r2,r3,r4⟩:=Fv i.size es arr 0 h7;have dC:es.length*i.size<=arr.size:=by rw[<-h6];exact aW0 _ h4
    by_cases jQ:es.length+es2.length<=cap
    ·have vW:es.length*i.size+rows2.flatten.length<=arr.size:=by rw[q3,<-h6,<-bV0];exact aW0 _ jQ
     have hr:=Lib.run_append_room_string (P:=P) w t t2 ty e' i hu mT hi jE b es.length cap arr h3 x (by omega) (by rw[q3,jE]at vW;omega)
     have e2:arr.toList.take es.length++Lib.strCells x++arr.toList.drop (es.length+x.size)=arr.toList.take (es.length*i.size)++rows2.flatten++arr.toList.drop (es.length*i.size+rows2.flatten.length):=by
      rw[q3,vI,jE,eT0,eT0,hx2]
     rw[e2,<-hx2]at hr;refine⟨_,_,⟨[b],.slice (some ⟨b,0,none⟩) (es.length+es2.length) cap⟩,hr,?_⟩;have hw:Upd (Aa s.own loc) w (w.setRow b (arr.toList.take (es.length*i.size)++rows2.flatten++arr.toList.drop (es.length*i.size+rows2.flatten.length)).toArray):=Upd.setRow qY (by rw[hid];exact h1) w _
     have hL:∀b0,b0∈(⟨[b],.slice (some ⟨b,0,none⟩) (es.length+es2.length) cap⟩:Loc).blks->b0<(w.setRow b (arr.toList.take (es.length*i.size)++rows2.flatten++arr.toList.drop (es.length*i.size+rows2.flatten.length)).toArray).heap.size/\((∃e∈s.own,e.id=id/\b0∈(loc id).blks)\/w.heap.size<=b0):=by
      intro b0 qR;simp only[aE0]at qR;subst qR;refine⟨?_,.inl ⟨e0,qY,hid,h1⟩⟩;have:=(aC0.1 h3).1;simpa using this
     have W:=R.weakUp (obj:= .row e' i.size i.bytes (es++es2)) (r:=n) qP hw hL (.inl (Nat.le_refl _));refine R.up qP qT hw ?_ hL (.inl (Nat.le_refl _)) ⟨zH,.inr ⟨b,_,cap,rfl,by simp,setRow_heap w b arr _ e' (0,0) h3,by simpa using jQ,h5,?_,?_⟩⟩ (rdEnd ⟨[b],.slice (some ⟨b,0,none⟩) (es.length+es2.length) cap⟩ _ _)
     ·intro b0 qR qF;refine setRow_other w b b0 _ (fun h=>qF e0 qY hid ?_);rw[h];exact h1
     ·simp only[dJ0,aD0,aY0,cD0,bI0];omega
     ·have nQ:=HT r2 r4 dC;have hj:=MU r1 q1 (Es W fY r3) (Es W jA q2) (arr.toList.drop (es.length*i.size+rows2.flatten.length));rw[<-nQ]at hj;exact hj
    ·have hr:=Lib.run_append_grow_string (P:=P) w t t2 ty e' i z hu mT hi yG ⟨b,0,none⟩ es.length cap rows.flatten r2 (fun j v hj=>by rw[CD];simp only[World.cell?,h3];exact(r4 j v hj).1) x (by omega) (by omega) (by rw[<-hx2];exact Gt_ (by omega) hb wI);rw[<-vI,<-hx2]at hr;exact⟨_,_,_,hr,fresh rows cap (.inl h4) r1 r2 r3⟩
end
end Go.Dm
end
