/- Parts of a proof, laid together: EnI4. -/
import Derived.Lib.AppendStr
import Derived.Test.YtiojapdolljocaaGreatqBw9
set_option linter.unusedSimpArgs false
set_option maxHeartbeats 8000000
set_option linter.unusedVariables false
set_option linter.unusedSectionVars false
section
namespace Go.Dm
variable [DMode]
def AP (x:ByteArray):List (List DVal):=x.data.toList.map fun b=>[.int .u8 b.toNat]
theorem AS (x:ByteArray):(AP x).length=x.size:=by rw[AP,aO0];rfl
@[simp] theorem FE (x:ByteArray):Bq (AP x)=0:=by
 unfold AP
 induction x.data.toList with
 | nil=>rfl
 | cons b l ih=>simp[Bq,AJ,mx,ih]
theorem eD (x y:ByteArray):AP (x++y)=AP x++AP y:=by
 simp[AP,ByteArray.data_append]
theorem eC (x:ByteArray) (cur:EF) (M:List Nat) (H:Array Obj):∃rows2:List (List Value),rows2.length=(AP x).length/\(∀(i:Nat) (cs:List DVal) (us:List Value),(AP x)[i]? =some cs->rows2[i]? =some us->cs.length=1/\Aw cur M H cs us/\∀u∈us,u.oneCell'=true) /\
   rows2.flatten.length=(AP x).length*1/\(∀u∈rows2.flatten,u.oneCell'=true)/\rows2.flatten=Lib.strCells x:=by
 have zG:(x.data.toList.map fun b=>[Value.int .u8 b.toNat]).flatten=Lib.strCells x:=by
  unfold Lib.strCells
  induction x.data.toList with
  | nil=>rfl
  | cons b l ih=>simp[ih]
 refine⟨x.data.toList.map fun b=>[.int .u8 b.toNat],by simp[AP],?_,by rw[zG,Lib.strCells_length,AS,Nat.mul_one],by rw[zG];exact Lib.strCells_oneCell x,zG⟩;intro i cs us hc hu;simp only[AP,bH0,aY0]at hc hu;obtain⟨b,hb,rfl⟩:=hc;obtain⟨b',qL,rfl⟩:=hu;rw[hb]at qL;simp only[aA0]at qL;subst qL;refine⟨rfl,?_,by simp[Value.oneCell']⟩;simp only[Aw,rd];exact⟨_,_,rfl,⟨rfl,by have:=UInt8.toNat_lt b;simp only[Kx];omega⟩,rfl⟩
section
variable {P : Program} {B : Base} {s : DS} {a : Act} {w : World} {loc : Nat -> Loc}
theorem Fq {t t2 ty e:TypeId} {i:TypeInfo} {x:ByteArray} (hu:P.underlying t=some (.slice e)) (hu2:P.underlying t2=some .string) (hi:P.info? e=some i) (hx:x.size=0) {y:Option Addr} {m cap:Nat} (vX:m<=cap) :
  (Builtin.append_ #[t,t2] ty #[.slice y m cap,.string x]).run P w= .ok (.slice y m cap) w:=by
 have hf:=Lib.run_firstCells_string (P:=P) w i.size x;have hn:Lib.strCells x=[]:=bM0 (by rw[Lib.strCells_length];exact hx);rw[hx,hn]at hf;cases y<;>simp[Builtin.append_,run_underlying hu,run_underlying hu2,sizeOf,typeInfo,hi,Builtin.lenOf,hx,hf,vX,storeCells]
theorem Rel.appendStr {id n:Nat} {t t2 ty e:TypeId} {k bs:Nat} {es:List (List DVal)} {x:ByteArray} {dv:Value} {dst:Option Nat} (R:Rel B s a w loc) (qE:Cb B s<=n) (qC:∀i,dst=some i->i<B.nt)
  (ht:tElem P t=some (k,bs)) (zH:tElemId P t=some e) (hz:zeroOK P t=true) (hk:0<k) (wW:pA s loc w B.M0 id e k bs es dv) (jM:Bq es<=n)
  (mQ:P.underlying t2=some .string) (yE:k=1) (hb:(es.length+x.size)*bs<=150000000000000) (wT:bs<=65536) (hl:es.length+x.size<=maxLen) :
  ∃v' w' L,(Builtin.append_ #[t,t2] ty #[dv,.string x]).run P w= .ok v' w'/\Rel B ⟨Bv s.slots dst (.osl id n),upE s.own id n (.row e k bs (es++AP x))⟩ (a.put dst v') w' (CH loc id L):=by
 obtain⟨e',i,hu,hi,qD,hby,_⟩:=BA ht;have hee:e'=e:=by unfold tElemId at zH;rw[hu]at zH;simpa using zH
 subst hee
 obtain⟨z,yX,hzs⟩:∃z,i.zero=some z/\z.cells.size=k:=by
  unfold zeroOK at hz;rw[hu]at hz;simp only[hi]at hz
  cases hq:i.zero with
  | none=>simp[hq]at hz
  | some z=>simp only[hq,beq_iff_eq]at hz;exact⟨z,rfl,by rw[hz,qD]⟩
 obtain⟨es2,mA⟩:∃es2,es2=AP x:=⟨_,rfl⟩;rw[<-mA];have hx2:es2.length=x.size:=by rw[mA,AS]
 obtain⟨rows2,q1,q2,q3,q4,zG⟩:∃rows2:List (List Value),rows2.length=es2.length/\(∀(i:Nat) (cs:List DVal) (us:List Value),es2[i]? =some cs->rows2[i]? =some us->cs.length=k/\Aw (cu s loc) (hm s loc B.M0) w.heap cs us/\∀u∈us,u.oneCell'=true) /\
   rows2.flatten.length=es2.length*k/\(∀u∈rows2.flatten,u.oneCell'=true)/\rows2.flatten=Lib.strCells x:=by
  rw[mA,yE];exact eC x _ _ _
 have kB:Bq es2<=n:=by rw[mA,FE];exact cW0 _
 rw[<-hx2]at hb hl;have zB:(es++es2).length*bs<=150000000000000:=by simpa using hb
 have mx12:Bq (es++es2)<=n:=by rw[Bt];omega
 -- what the slot reads at the end
 have rdEnd:∀(L:Loc) (h:Array Obj) (obj:DObj),rd (Ab (upE s.own id n obj) (CH loc id L)) (Aa (upE s.own id n obj) (CH loc id L)++B.M0) h (.osl id n) L.hdr:=by
  intro L h obj;simp only[rd];intro l wY;rw[Ds]at wY;simp only[aA0]at wY;rw[wY]
 ·by_cases fL:es2.length=0
  ·have vU:es2=[]:=bM0 fL;have gZ:x.size=0:=by omega
   rw[vU,bO0];rw[vU,bO0]at zB
   rcases wW with ⟨rfl,rfl⟩ | ⟨e0,qU,hid,b,arr,cap,yG,rfl,h3,h4,h5,h6,h7⟩
   ·refine⟨_,w,⟨[],.slice none 0 0⟩,Fq hu mQ hi gZ (Nat.le_refl _),?_⟩;refine R.up (L:=⟨[],.slice none 0 0⟩) qE qC (Upd.refl _ _) (fun b hb _=>rfl) (fun b hb=>by simp at hb) (.inl (Nat.le_refl _)) ⟨by simp,.inl ⟨rfl,rfl,rfl⟩⟩ (rdEnd ⟨[],.slice none 0 0⟩ _ _)
   ·have h1:b∈(loc id).blks:=by rw[yG];simp
    refine⟨_,w,⟨[b],.slice (some ⟨b,0,none⟩) es.length cap⟩,Fq hu mQ hi gZ h4,?_⟩
    have hL:∀b0,b0∈(⟨[b],.slice (some ⟨b,0,none⟩) es.length cap⟩:Loc).blks->b0<w.heap.size/\((∃e∈s.own,e.id=id/\b0∈(loc id).blks)\/w.heap.size<=b0):=by
     intro b0 qH;simp only[aG0]at qH;subst qH;exact⟨(aD0.1 h3).1,.inl ⟨e0,qU,hid,h1⟩⟩
    have W:=R.weakUp (obj:= .row e' k bs es) (r:=n) qE (Upd.refl _ _) hL (.inl (Nat.le_refl _));exact R.up (L:=⟨[b],.slice (some ⟨b,0,none⟩) es.length cap⟩) qE qC (Upd.refl _ _) (fun b hb _=>rfl) hL (.inl (Nat.le_refl _)) ⟨zB,.inr ⟨b,arr,cap,rfl,rfl,h3,h4,h5,h6,Cd W k es arr 0 jM h7⟩⟩ (rdEnd ⟨[b],.slice (some ⟨b,0,none⟩) es.length cap⟩ _ _)
  ·
   subst qD
   subst hby;have wY:es.length+es2.length<=9223372036854775807:=by unfold maxLen at hl;omega
   -- a new row, whatever it held before
   have fresh:∀(rows:List (List Value)) (cap:Nat),es.length<=cap\/True->rows.length=es.length->rows.flatten.length=es.length*i.size ->
     (∀(j:Nat) (cs:List DVal) (us:List Value),es[j]? =some cs->rows[j]? =some us->cs.length=i.size/\Aw (cu s loc) (hm s loc B.M0) w.heap cs us/\∀u∈us,u.oneCell'=true) ->
     Rel B ⟨Bv s.slots dst (.osl id n),upE s.own id n (.row e' i.size i.bytes (es++es2))⟩ (a.put dst (.slice (some ⟨w.heap.size,0,none⟩) (es.length+es2.length) (grownCap w (es.length+es2.length) cap e')))
      (w.drew.alloc (.cells (rows.flatten.toArray++rows2.flatten.toArray++Builtin.zeroCells z.cells (grownCap w (es.length+es2.length) cap e'-(es.length+es2.length))) e')) (CH loc id ⟨[w.heap.size],.slice (some ⟨w.heap.size,0,none⟩) (es.length+es2.length) (grownCap w (es.length+es2.length) cap e')⟩):=by
    intro rows cap _ r1 r2 r3
    have hw:Upd (Aa s.own loc) w (w.drew.alloc (.cells (rows.flatten.toArray++rows2.flatten.toArray++Builtin.zeroCells z.cells (grownCap w (es.length+es2.length) cap e'-(es.length+es2.length))) e')) :=
     (Upd.drew _ w).trans (Upd.alloc _ w.drew _) (fun x hx=> .inl hx)
    have hL:∀b0,b0∈(⟨[w.heap.size],.slice (some ⟨w.heap.size,0,none⟩) (es.length+es2.length) (grownCap w (es.length+es2.length) cap e')⟩:Loc).blks->b0<(w.drew.alloc (.cells (rows.flatten.toArray++rows2.flatten.toArray++Builtin.zeroCells z.cells (grownCap w (es.length+es2.length) cap e'-(es.length+es2.length))) e')).heap.size/\((∃e∈s.own,e.id=id/\b0∈(loc id).blks)\/w.heap.size<=b0):=by
     intro b0 qH;simp only[aG0]at qH;subst qH;exact⟨by simp,.inr (Nat.le_refl _)⟩
    have W:=R.weakUp (obj:= .row e' i.size i.bytes (es++es2)) (r:=n) qE hw hL (.inl (Nat.le_refl _));have gX:=grownCap_ge w (es.length+es2.length) cap e';have hcm:=grownCap_le_maxLen w (es.length+es2.length) cap e' hl;refine R.up qE qC hw (fun b hb _=>by simp only[World.alloc,bP0,World.drew];rw[if_neg (by omega)]) hL (.inl (Nat.le_refl _)) ⟨zB,.inr ⟨w.heap.size,_,_,rfl,by simp,heap_alloc_new w.drew _,by simpa using gX,hcm,?_,?_⟩⟩ (rdEnd ⟨[w.heap.size],.slice (some ⟨w.heap.size,0,none⟩) (es.length+es2.length) (grownCap w (es.length+es2.length) cap e')⟩ _ _)
    ·simp only[Array.size_append,dH0,size_zeroCells,hzs,r2,q3,<-bQ0]
     congr 1
     omega
    ·have:=LQ (k:=i.size) r1 q1 (Eb W jM r3) (Eb W kB q2) (Builtin.zeroCells z.cells (grownCap w (es.length+es2.length) cap e'-(es.length+es2.length))).toList
     have e1:(rows.flatten++rows2.flatten++(Builtin.zeroCells z.cells (grownCap w (es.length+es2.length) cap e'-(es.length+es2.length))).toList).toArray=rows.flatten.toArray++rows2.flatten.toArray++Builtin.zeroCells z.cells (grownCap w (es.length+es2.length) cap e'-(es.length+es2.length)):=by
      apply Array.ext';simp
     rw[e1]at this;exact this
   rcases wW with ⟨rfl,rfl⟩ | ⟨e0,qU,hid,b,arr,cap,yG,rfl,h3,h4,h5,h6,h7⟩
   ·have hr:=run_append_nil_string (P:=P) w t t2 ty e' i z hu mQ hi yX x (by omega) (by omega) (by rw[<-hx2];simp only[List.length_nil,bN0]at hb;omega)
    have e1:(x.data.map fun b=>Value.int .u8 b.toNat)=(Lib.strCells x).toArray:=by
     apply Array.ext'
     simp[Lib.strCells]
    rw[e1,<-zG,<-hx2]at hr;have hf:=fresh [] 0 (.inr trivial) rfl (by simp) (by simp);simp only[List.length_nil,bN0,List.nil_append,List.flatten_nil,Array.empty_append]at hf hr |-;exact⟨_,_,_,hr,hf⟩
   ·have h1:b∈(loc id).blks:=by rw[yG];simp
    obtain⟨rows,r1,r2,r3,r4⟩:=EZ i.size es arr 0 h7;have cE:es.length*i.size<=arr.size:=by rw[<-h6];exact aZ0 _ h4
    by_cases kX:es.length+es2.length<=cap
    ·have vL:es.length*i.size+rows2.flatten.length<=arr.size:=by rw[q3,<-h6,<-bQ0];exact aZ0 _ kX
     have hr:=Lib.run_append_room_string (P:=P) w t t2 ty e' i hu mQ hi yE b es.length cap arr h3 x (by omega) (by rw[q3,yE]at vL;omega)
     have e2:arr.toList.take es.length++Lib.strCells x++arr.toList.drop (es.length+x.size)=arr.toList.take (es.length*i.size)++rows2.flatten++arr.toList.drop (es.length*i.size+rows2.flatten.length):=by
      rw[q3,zG,yE,Nat.mul_one,Nat.mul_one,hx2]
     rw[e2,<-hx2]at hr;refine⟨_,_,⟨[b],.slice (some ⟨b,0,none⟩) (es.length+es2.length) cap⟩,hr,?_⟩;have hw:Upd (Aa s.own loc) w (w.setRow b (arr.toList.take (es.length*i.size)++rows2.flatten++arr.toList.drop (es.length*i.size+rows2.flatten.length)).toArray):=Upd.setRow qU (by rw[hid];exact h1) w _
     have hL:∀b0,b0∈(⟨[b],.slice (some ⟨b,0,none⟩) (es.length+es2.length) cap⟩:Loc).blks->b0<(w.setRow b (arr.toList.take (es.length*i.size)++rows2.flatten++arr.toList.drop (es.length*i.size+rows2.flatten.length)).toArray).heap.size/\((∃e∈s.own,e.id=id/\b0∈(loc id).blks)\/w.heap.size<=b0):=by
      intro b0 qH;simp only[aG0]at qH;subst qH;refine⟨?_,.inl ⟨e0,qU,hid,h1⟩⟩;have:=(aD0.1 h3).1;simpa using this
     have W:=R.weakUp (obj:= .row e' i.size i.bytes (es++es2)) (r:=n) qE hw hL (.inl (Nat.le_refl _));refine R.up qE qC hw ?_ hL (.inl (Nat.le_refl _)) ⟨zB,.inr ⟨b,_,cap,rfl,by simp,setRow_heap w b arr _ e' (0,0) h3,by simpa using kX,h5,?_,?_⟩⟩ (rdEnd ⟨[b],.slice (some ⟨b,0,none⟩) (es.length+es2.length) cap⟩ _ _)
     ·intro b0 qH qB;refine setRow_other w b b0 _ (fun h=>qB e0 qU hid ?_);rw[h];exact h1
     ·simp only[dH0,aE0,aW0,bZ0,bK0];omega
     ·have mT:=GQ r2 r4 cE;have hj:=LQ r1 q1 (Eb W jM r3) (Eb W kB q2) (arr.toList.drop (es.length*i.size+rows2.flatten.length));rw[<-mT]at hj;exact hj
    ·have hr:=Lib.run_append_grow_string (P:=P) w t t2 ty e' i z hu mQ hi yX ⟨b,0,none⟩ es.length cap rows.flatten r2 (fun j v hj=>by rw[Dh];simp only[World.cell?,h3];exact(r4 j v hj).1) x (by omega) (by omega) (by rw[<-hx2];exact DQ_ (by omega) hb wT);rw[<-zG,<-hx2]at hr;exact⟨_,_,_,hr,fresh rows cap (.inl h4) r1 r2 r3⟩
end
end Go.Dm
end
