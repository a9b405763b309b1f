/- Parts of a proof, laid together: EnA, EnB. -/
import Derived.WalkKit
import Derived.Laws.Rows
set_option linter.unusedSimpArgs false
set_option maxHeartbeats 8000000
set_option linter.unusedVariables false
set_option linter.unusedSectionVars false
namespace Go.Dm
theorem aA0 : type_of% @Option.some.injEq:= @Option.some.injEq
theorem aB0 : type_of% @List.getElem?_eq_some_iff:= @List.getElem?_eq_some_iff
theorem aC0 : type_of% @Array.getElem?_eq_some_iff:= @Array.getElem?_eq_some_iff
theorem aD0 : type_of% @List.length_append:= @List.length_append
theorem aE0 : type_of% @List.mem_singleton:= @List.mem_singleton
theorem aF0 : type_of% @List.mem_cons_of_mem:= @List.mem_cons_of_mem
theorem aG0 : type_of% @List.mem_append:= @List.mem_append
theorem aH0 : type_of% @List.mem_cons_self:= @List.mem_cons_self
theorem aI0 : type_of% @List.getElem?_eq_getElem:= @List.getElem?_eq_getElem
theorem aJ0 : type_of% @List.length_map:= @List.length_map
theorem aK0 : type_of% @List.mem_cons:= @List.mem_cons
theorem aL0 : type_of% @Bool.and_eq_true:= @Bool.and_eq_true
theorem aM0 : type_of% @List.mem_append_left:= @List.mem_append_left
theorem aN0 : type_of% @List.mem_append_right:= @List.mem_append_right
theorem aO0 : type_of% @Array.getD_eq_getD_getElem?:= @Array.getD_eq_getD_getElem?
theorem aP0 : type_of% @ByteArray.size_append:= @ByteArray.size_append
theorem aQ0 : type_of% @Bool.false_eq_true:= @Bool.false_eq_true
theorem aR0 : type_of% @List.drop_eq_getElem_cons:= @List.drop_eq_getElem_cons
theorem aS0 : type_of% @List.append_assoc:= @List.append_assoc
theorem aT0 : type_of% @List.mem_map:= @List.mem_map
theorem aU0 : type_of% @List.take_length:= @List.take_length
theorem aV0 : type_of% @Prod.mk.injEq:= @Prod.mk.injEq
theorem aW0 : type_of% @Nat.mul_le_mul_right:= @Nat.mul_le_mul_right
theorem aX0 : type_of% @Int.natCast_add:= @Int.natCast_add
theorem aY0 : type_of% @List.length_take:= @List.length_take
theorem aZ0 : type_of% @List.all_eq_true:= @List.all_eq_true
theorem bA0 : type_of% @List.getElem?_cons_zero:= @List.getElem?_cons_zero
theorem bB0 : type_of% @Option.map_eq_some_iff:= @Option.map_eq_some_iff
theorem bC0 : type_of% @List.getElem?_append_left:= @List.getElem?_append_left
theorem bD0 : type_of% @List.map_append:= @List.map_append
theorem bE0 : type_of% @List.getElem?_append_right:= @List.getElem?_append_right
theorem bF0 : type_of% @Option.isSome_iff_exists:= @Option.isSome_iff_exists
theorem bG0 : type_of% @List.cons.injEq:= @List.cons.injEq
theorem bH0 : type_of% @List.getElem?_map:= @List.getElem?_map
theorem bI0 : type_of% @Array.length_toList:= @Array.length_toList
theorem bJ0 : type_of% @List.mem_of_getElem?:= @List.mem_of_getElem?
theorem bK0 : type_of% @List.getD_eq_getElem?_getD:= @List.getD_eq_getElem?_getD
theorem bL0 : type_of% @List.getElem?_cons_succ:= @List.getElem?_cons_succ
theorem bM0 : type_of% @List.take_add_one:= @List.take_add_one
theorem bN0 : type_of% @List.eq_nil_of_length_eq_zero:= @List.eq_nil_of_length_eq_zero
theorem bO0 : type_of% @Array.getElem?_eq_getElem:= @Array.getElem?_eq_getElem
theorem bP0 : type_of% @List.mem_flatMap:= @List.mem_flatMap
theorem bQ0 : type_of% @Nat.zero_add:= @Nat.zero_add
theorem bR0 : type_of% @List.append_nil:= @List.append_nil
theorem bS0 : type_of% @Array.getElem?_push:= @Array.getElem?_push
theorem bT0 : type_of% @List.getElem?_take_of_lt:= @List.getElem?_take_of_lt
theorem bU0 : type_of% @List.drop_length:= @List.drop_length
theorem bV0 : type_of% @Nat.add_mul:= @Nat.add_mul
theorem bW0 : type_of% @List.getElem_of_mem:= @List.getElem_of_mem
theorem bX0 : type_of% @List.nodup_append:= @List.nodup_append
theorem bY0 : type_of% @Option.getD_some:= @Option.getD_some
theorem bZ0 : type_of% @List.mem_range:= @List.mem_range
theorem cA0 : type_of% @Bool.true_and:= @Bool.true_and
theorem cB0 : type_of% @Nat.lt_of_lt_of_le:= @Nat.lt_of_lt_of_le
theorem cC0 : type_of% @List.map_map:= @List.map_map
theorem cD0 : type_of% @List.length_drop:= @List.length_drop
theorem cE0 : type_of% @Array.getElem?_modify:= @Array.getElem?_modify
theorem cF0 : type_of% @List.any_eq_true:= @List.any_eq_true
theorem cG0 : type_of% @List.mem_filter:= @List.mem_filter
theorem cH0 : type_of% @List.pairwise_cons:= @List.pairwise_cons
theorem cI0 : type_of% @List.take_succ_cons:= @List.take_succ_cons
theorem cJ0 : type_of% @List.map_congr_left:= @List.map_congr_left
theorem cK0 : type_of% @List.take_of_length_le:= @List.take_of_length_le
theorem cL0 : type_of% @Bool.false_and:= @Bool.false_and
theorem cM0 : type_of% @List.length_filter_le:= @List.length_filter_le
theorem cN0 : type_of% @Array.getElem?_setIfInBounds_self_of_lt:= @Array.getElem?_setIfInBounds_self_of_lt
theorem cO0 : type_of% @Nat.mul_le_mul_left:= @Nat.mul_le_mul_left
theorem cP0 : type_of% @List.flatMap_cons:= @List.flatMap_cons
theorem cQ0 : type_of% @List.getElem?_drop:= @List.getElem?_drop
theorem cR0 : type_of% @List.getElem?_toArray:= @List.getElem?_toArray
theorem cS0 : type_of% @Nat.add_assoc:= @Nat.add_assoc
theorem cT0 : type_of% @List.all_cons:= @List.all_cons
theorem cU0 : type_of% @Option.map_some:= @Option.map_some
theorem cV0 : type_of% @List.nodup_cons:= @List.nodup_cons
theorem cW0 : type_of% @Array.getElem?_setIfInBounds:= @Array.getElem?_setIfInBounds
theorem cX0 : type_of% @List.mem_map_of_mem:= @List.mem_map_of_mem
theorem cY0 : type_of% @List.foldl_cons:= @List.foldl_cons
theorem cZ0 : type_of% @List.mem_of_mem_take:= @List.mem_of_mem_take
theorem dA0 : type_of% @List.drop_of_length_le:= @List.drop_of_length_le
theorem dB0 : type_of% @Bool.or_eq_true:= @Bool.or_eq_true
theorem dC0 : type_of% @Nat.zero_le:= @Nat.zero_le
theorem dD0 : type_of% @Nat.le_of_eq:= @Nat.le_of_eq
theorem dE0 : type_of% @List.getElem_mem:= @List.getElem_mem
theorem dF0 : type_of% @List.foldl_append:= @List.foldl_append
theorem dG0 : type_of% @Array.getElem?_setIfInBounds_ne:= @Array.getElem?_setIfInBounds_ne
theorem dH0 : type_of% @Nat.add_zero:= @Nat.add_zero
theorem dI0 : type_of% @List.filter_append:= @List.filter_append
theorem dJ0 : type_of% @List.size_toArray:= @List.size_toArray
theorem dK0 : type_of% @List.pairwise_map:= @List.pairwise_map
theorem dL0 : type_of% @Array.getElem?_append_left:= @Array.getElem?_append_left
theorem dM0 : type_of% @List.map_toArray:= @List.map_toArray
theorem dN0 : type_of% @List.take_zero:= @List.take_zero
theorem dO0 : type_of% @List.flatMap_append:= @List.flatMap_append
theorem dP0 : type_of% @List.drop_succ_cons:= @List.drop_succ_cons
theorem dQ0 : type_of% @List.drop_append_of_le_length:= @List.drop_append_of_le_length
theorem dR0 : type_of% @Bool.not_eq_true:= @Bool.not_eq_true
theorem dS0 : type_of% @Array.toList_map:= @Array.toList_map
theorem dT0 : type_of% @List.drop_zero:= @List.drop_zero
theorem dU0 : type_of% @Bool.and_false:= @Bool.and_false
theorem dV0 : type_of% @Nat.max_le:= @Nat.max_le
theorem dW0 : type_of% @List.mergeSort_perm:= @List.mergeSort_perm
theorem dX0 : type_of% @Array.getElem?_replicate:= @Array.getElem?_replicate
theorem dY0 : type_of% @List.length_eq_zero_iff:= @List.length_eq_zero_iff
theorem dZ0 : type_of% @List.getElem?_take:= @List.getElem?_take
theorem eA0 : type_of% @Bool.false_or:= @Bool.false_or
theorem eB0 : type_of% @Bool.and_true:= @Bool.and_true
theorem eC0 : type_of% @Int.toNat_natCast:= @Int.toNat_natCast
theorem eD0 : type_of% @Bool.eq_false_iff:= @Bool.eq_false_iff
theorem eE0 : type_of% @Nat.sub_zero:= @Nat.sub_zero
theorem eF0 : type_of% @Nat.sub_self:= @Nat.sub_self
theorem eG0 : type_of% @List.getElem?_eq_none:= @List.getElem?_eq_none
theorem eH0 : type_of% @Array.getElem?_toList:= @Array.getElem?_toList
theorem eI0 : type_of% @List.range'_succ:= @List.range'_succ
theorem eJ0 : type_of% @List.range_eq_range':= @List.range_eq_range'
theorem eK0 : type_of% @List.sum_cons:= @List.sum_cons
theorem eL0 : type_of% @List.any_append:= @List.any_append
theorem eM0 : type_of% @Nat.eq_zero_or_pos:= @Nat.eq_zero_or_pos
theorem eN0 : type_of% @List.set_cons_zero:= @List.set_cons_zero
theorem eO0 : type_of% @List.pairwise_iff_getElem:= @List.pairwise_iff_getElem
theorem eP0 : type_of% @List.getElem?_zip_eq_some:= @List.getElem?_zip_eq_some
theorem eQ0 : type_of% @List.drop_drop:= @List.drop_drop
theorem eR0 : type_of% @List.flatten_cons:= @List.flatten_cons
theorem eS0 : type_of% @List.any_eq_false:= @List.any_eq_false
theorem eT0 : type_of% @Nat.mul_one:= @Nat.mul_one
theorem eU0 : type_of% @List.map_take:= @List.map_take
theorem eV0 : type_of% @List.dropLast_singleton:= @List.dropLast_singleton
theorem eW0 : type_of% @List.dropLast_cons_cons:= @List.dropLast_cons_cons
theorem eX0 : type_of% @List.not_mem_nil:= @List.not_mem_nil
theorem eY0 : type_of% @List.countP_cons:= @List.countP_cons
end Go.Dm
section
namespace Go.Dm
inductive DVal where
 | any
 | undef
 | sel (c:Bool) (d:DVal)
 | bool (b:Bool)
 | int (k:IntKind) (n:Int)
 | str (s:ByteArray)
 | nilp
 | ref (cs:List DVal)
 | bx (id r off:Nat)
 | rx (id r k i j:Nat)
 | nilsl
 | esl
 | sl (k bs:Nat) (es:List (List DVal))
 | osl (id r:Nat)
 | vw (id r k bs i n:Nat)
 | nilmp
 | mp (ks vs:List DVal)
 | omp (id r:Nat)
 | pk (id r:Nat)
 | nilfn
 | fn (f:Fn) (first caps:List DVal)
 | nilifc
 | pin (v:Value)
 | ifc (t:TypeId) (d:DVal)
 | agg (cs:List DVal)
 | tup (vs:List DVal)
 deriving Inhabited
structure Loc where
 blks:List Nat
 hdr:Value
def GP (es:Array MapEntry) (clk:Nat):Prop:=(es.toList.map (·.born)).Nodup/\∀e∈es.toList,e.born<clk
def Gu_ (es:Array MapEntry) (clk:Nat):Prop:=clk=es.size/\∀(i:Nat) (e:MapEntry),es[i]? =some e->e.born=i
theorem Gu_.ok {es:Array MapEntry} {clk:Nat} (h:Gu_ es clk):GP es clk:=by
 obtain⟨rfl,h⟩:=h;refine⟨?_,fun e he=> ?_⟩
 ·unfold List.Nodup;rw[eO0];intro i j hi hj yB;simp only[aJ0,bI0]at hi hj;simp only[List.getElem_map,Array.getElem_toList];rw[h i _ (bO0 hi),h j _ (bO0 hj)];omega
 ·obtain⟨i,hi⟩:=List.getElem?_of_mem he;have zP:es[i]? =some e:=by simpa using hi
  rw[h i e zP];exact(aC0.1 zP).1
theorem GP.ok {es:Array MapEntry} {clk:Nat} (h:GP es clk):GP es clk:=h
def KV : IntKind->Int->Prop
 | .i64,n=> -9223372036854775808<=n/\n<=9223372036854775807
 | .u64,n=>0<=n/\n<=18446744073709551615
 | .u8,n=>0<=n/\n<=255
 | .i8,n=> -128<=n/\n<=127
 | .i16,n=> -32768<=n/\n<=32767
 | .u16,n=>0<=n/\n<=65535
 | .i32,n=> -2147483648<=n/\n<=2147483647
 | .u32,n=>0<=n/\n<=4294967295
abbrev ES := Nat->Nat->Option Loc
section
variable (cur : ES) (M : List Nat) (h : Array Obj)
mutual
def rd : DVal->Value->Prop
 | .any,_=>True
 | .undef,v=>v=Go.undef
 | .sel c d,v=>(c=true->rd d v)/\(c=false->v=Go.undef)
 | .bool b,v=>v= .bool b
 | .int k n,v=>v= .int k n/\KV k n
 | .str s,v=>v= .string s/\s.size<=maxLen
 | .nilp,v=>v= .pointer none
 | .ref cs,v=>∃b off arr ty fz,v= .pointer (some ⟨b,off,none⟩)/\b∉M/\h[b]? =some (.cells arr ty fz)/\rdC cs arr off
 | .bx id r off,v=>∀l,cur id r=some l->∃b,l.blks=[b]/\v= .pointer (some ⟨b,off,none⟩)
 | .rx id r k i j,v=>∀l,cur id r=some l->∃b,l.blks=[b]/\v= .pointer (some ⟨b,i*k+j,none⟩)
 | .nilsl,v=>v= .slice none 0 0
 | .esl,v=>∃ad cap,v= .slice (some ad) 0 cap/\cap<=maxLen
 | .sl k bs es,v=>∃a cap,v= .slice a es.length cap/\es.length<=cap/\cap<=maxLen/\es.length*bs<=150000000000000 /\
  ((es=[]/\(a=none->cap=0))\/∃b off arr ty fz,a=some ⟨b,off,none⟩/\b∉M/\h[b]? =some (.cells arr ty fz)/\Dt k es arr off)
 | .osl id r,v=>∀l,cur id r=some l->v=l.hdr
 | .vw id r k bs i n,v=>∀l,cur id r=some l->∃a cap,v= .slice a n cap/\n<=cap/\cap<=maxLen/\(a=none->cap=0)/\(0<n->∃b,l.blks=[b]/\a=some ⟨b,i*k,none⟩)/\(i=0->bs=0\/∃n0,l.hdr= .slice a n0 cap)
 | .nilmp,v=>v= .map none
 | .mp ks vs,v=>∃b es clk,v= .map (some b)/\b∉M/\h[b]? =some (.map es clk)/\GP es clk/\rdV ks (es.toList.map (·.key))/\rdV vs (es.toList.map (·.val))
 | .omp id r,v=>∀l,cur id r=some l->∃b,l.blks=[b]/\v= .map (some b)
 | .pk id r,v=>∀l,cur id r=some l->v=l.hdr
 | .nilfn,v=>v= .nilFunc
 | .fn f us cs,v=>∃us' cs':Array Value,v= .func f us' cs'/\rdV us us'.toList/\rdV cs cs'.toList
 | .nilifc,v=>v= .nilIface
 | .pin u,v=>v=u/\v.oneCell'=true/\v.cells= #[v]
 | .ifc t d,v=>∃u,v= .iface t u/\rd d u
 | .agg cs,v=>∃us:Array Value,v= .agg us/\rdV cs us.toList
 | .tup cs,v=>∃us:Array Value,v= .tuple us/\rdV cs us.toList
def rdC : List DVal->Array Value->Nat->Prop
 | [],_,_=>True
 | d::ds,arr,o=>(∃v,arr[o]? =some v/\v.oneCell'=true/\rd d v)/\rdC ds arr (o+1)
def Dt (k:Nat):List (List DVal)->Array Value->Nat->Prop
 | [],_,_=>True
 | cs::es,arr,o=>cs.length=k/\rdC cs arr o/\Dt k es arr (o+k)
def rdV : List DVal->List Value->Prop
 | [],vs=>vs=[]
 | d::ds,vs=>∃v r,vs=v::r/\rd d v/\rdV ds r
end
end
mutual
def mx : DVal->Nat
 | .ref cs=>AJ cs
 | .bx _ r _=>r+1
 | .rx _ r _ _ _=>r+1
 | .osl _ r=>r+1
 | .vw _ r _ _ _ _=>r+1
 | .mp ks vs=>max (AJ ks) (AJ vs)
 | .omp _ r=>r+1
 | .pk _ r=>r+1
 | .sl _ _ es=>Br es
 | .fn _ us cs=>max (AJ us) (AJ cs)
 | .ifc _ d=>mx d
 | .sel c d=>if c then mx d else 0
 | .agg cs=>AJ cs
 | .tup cs=>AJ cs
 | _=>0
def AJ : List DVal->Nat
 | []=>0
 | d::ds=>max (mx d) (AJ ds)
def Br : List (List DVal)->Nat
 | []=>0
 | cs::es=>max (AJ cs) (Br es)
end
section
variable {cur cur' : ES} {M M' : List Nat} {h h' : Array Obj} {n : Nat}
def FE : Obj->Bool
 | .cells _ _ _=>true
 | .map _ _=>true
 | _=>false
structure Weak (cur cur':ES) (M M':List Nat) (h h':Array Obj) (n:Nat):Prop where
 c:∀id r l,r<n->cur' id r=some l->cur id r=some l
 b:∀b o,b∉M->FE o=true->h[b]? =some o->h'[b]? =some o
 m:∀b o,b∉M->FE o=true->h[b]? =some o->b∉M'
mutual
theorem Bk (W:Weak cur cur' M M' h h' n):∀(d:DVal) (v:Value),mx d<=n->rd cur M h d v->rd cur' M' h' d v
 | .any,_,_,_=>by simp[rd]
 | .undef,_,_,hr=>by simpa[rd]using hr
 | .sel c d,v,hm,hr=>by
  simp only[mx]at hm;simp only[rd]at hr |-;exact⟨fun h=>Bk W d v (by rw[if_pos h]at hm;exact hm) (hr.1 h),hr.2⟩
 | .bool _,_,_,hr=>by simpa[rd]using hr
 | .int _ _,_,_,hr=>by simpa[rd]using hr
 | .str _,_,_,hr=>by simpa[rd]using hr
 | .nilp,_,_,hr=>by simpa[rd]using hr
 | .ref cs,v,hm,hr=>by
  simp only[mx]at hm;simp only[rd]at hr |-;obtain⟨b,off,arr,ty,fz,h1,h2,h3,h4⟩:=hr;exact⟨b,off,arr,ty,fz,h1,W.m b _ h2 rfl h3,W.b b _ h2 rfl h3,EB W cs arr off hm h4⟩
 | .bx id r off,v,hm,hr=>by
  simp only[mx]at hm;simp only[rd]at hr |-;exact fun l hl=>hr l (W.c id r l (by omega) hl)
 | .rx id r k i j,v,hm,hr=>by
  simp only[mx]at hm;simp only[rd]at hr |-;exact fun l hl=>hr l (W.c id r l (by omega) hl)
 | .nilsl,_,_,hr=>by simpa[rd]using hr
 | .esl,_,_,hr=>by simpa[rd]using hr
 | .sl k bs es,v,hm,hr=>by
  simp only[mx]at hm;simp only[rd]at hr |-;obtain⟨a,cap,h1,h2,fG,h2'',h3⟩:=hr;refine⟨a,cap,h1,h2,fG,h2'',h3.imp id ?_⟩;rintro⟨b,off,arr,ty,fz,g1,g2,g3,g4⟩;exact⟨b,off,arr,ty,fz,g1,W.m b _ g2 rfl g3,W.b b _ g2 rfl g3,Cu W k es arr off hm g4⟩
 | .osl id r,v,hm,hr=>by
  simp only[mx]at hm;simp only[rd]at hr |-;exact fun l hl=>hr l (W.c id r l (by omega) hl)
 | .vw id r k bs i n,v,hm,hr=>by
  simp only[mx]at hm;simp only[rd]at hr |-;exact fun l hl=>hr l (W.c id r l (by omega) hl)
 | .nilmp,_,_,hr=>by simpa[rd]using hr
 | .mp ks vs,v,hm,hr=>by
  simp only[mx]at hm;simp only[rd]at hr |-;obtain⟨b,es,clk,h1,h2,h3,h4,h5,h6⟩:=hr;exact⟨b,es,clk,h1,W.m b _ h2 rfl h3,W.b b _ h2 rfl h3,h4,AP W ks _ (by omega) h5,AP W vs _ (by omega) h6⟩
 | .omp id r,v,hm,hr=>by
  simp only[mx]at hm;simp only[rd]at hr |-;exact fun l hl=>hr l (W.c id r l (by omega) hl)
 | .pk id r,v,hm,hr=>by
  simp only[mx]at hm;simp only[rd]at hr |-;exact fun l hl=>hr l (W.c id r l (by omega) hl)
 | .nilfn,_,_,hr=>by simpa[rd]using hr
 | .fn f us cs,v,hm,hr=>by
  simp only[mx]at hm;simp only[rd]at hr |-;obtain⟨us',cs',h1,h2,h3⟩:=hr;exact⟨us',cs',h1,AP W us _ (by omega) h2,AP W cs _ (by omega) h3⟩
 | .nilifc,_,_,hr=>by simpa[rd]using hr
 | .pin _,_,_,hr=>by simpa[rd]using hr
 | .ifc t d,v,hm,hr=>by
  simp only[mx]at hm;simp only[rd]at hr |-;obtain⟨u,h1,h2⟩:=hr;exact⟨u,h1,Bk W d u hm h2⟩
 | .agg cs,v,hm,hr=>by
  simp only[mx]at hm;simp only[rd]at hr |-;obtain⟨us,h1,h2⟩:=hr;exact⟨us,h1,AP W cs _ hm h2⟩
 | .tup cs,v,hm,hr=>by
  simp only[mx]at hm;simp only[rd]at hr |-;obtain⟨us,h1,h2⟩:=hr;exact⟨us,h1,AP W cs _ hm h2⟩
theorem EB (W:Weak cur cur' M M' h h' n):∀(ds:List DVal) (arr:Array Value) (o:Nat),AJ ds<=n->rdC cur M h ds arr o->rdC cur' M' h' ds arr o
 | [],_,_,_,_=>by simp[rdC]
 | d::ds,arr,o,hm,hr=>by
  simp only[AJ]at hm;simp only[rdC]at hr |-;obtain⟨⟨v,h1,kM,h2⟩,h3⟩:=hr;exact⟨⟨v,h1,kM,Bk W d v (by omega) h2⟩,EB W ds arr _ (by omega) h3⟩
theorem Cu (W:Weak cur cur' M M' h h' n):∀(k:Nat) (es:List (List DVal)) (arr:Array Value) (o:Nat),Br es<=n->Dt cur M h k es arr o->Dt cur' M' h' k es arr o
 | _,[],_,_,_,_=>by simp[Dt]
 | k,cs::es,arr,o,hm,hr=>by
  simp only[Br]at hm;simp only[Dt]at hr |-;obtain⟨h1,h2,h3⟩:=hr;exact⟨h1,EB W cs arr o (by omega) h2,Cu W k es arr _ (by omega) h3⟩
theorem AP (W:Weak cur cur' M M' h h' n):∀(ds:List DVal) (vs:List Value),AJ ds<=n->rdV cur M h ds vs->rdV cur' M' h' ds vs
 | [],_,_,hr=>by simpa[rdV]using hr
 | d::ds,vs,hm,hr=>by
  simp only[AJ]at hm;simp only[rdV]at hr |-;obtain⟨v,r,h1,h2,h3⟩:=hr;exact⟨v,r,h1,Bk W d v (by omega) h2,AP W ds r (by omega) h3⟩
end
end
class DMode where
 dr:Bool
instance (priority:=low) laxMode:DMode:=⟨false⟩
abbrev Ms : DMode:=⟨true⟩
variable [DMode]
structure Abs where
 J:List Nat->List Nat->Value->Array Obj->Prop
 weak:∀M M' bl hd h h',(∀b o,b∉M->FE o=true->h[b]? =some o->h'[b]? =some o)->(∀b o,b∉M->FE o=true->h[b]? =some o->b∉M')->(∀b o,b∈bl->h[b]? =some o->h'[b]? =some o)->J M bl hd h->J M' bl hd h'
 one:∀M bl hd h,J M bl hd h->hd.oneCell'=true/\hd.cells= #[hd]
 nd:∀M bl hd h,J M bl hd h->∀b∈bl,∀c,h[b]? ≠some (.deferred c)
inductive Tr (α:Type) where
 | E
 | N (v:Option α) (l r:Tr α)
noncomputable def Tr.get {α:Type} (t:Tr α) (p:List Bool):Option α :=
 List.rec (motive:=fun _=>Tr α->Option α) (fun t=>Tr.rec (motive:=fun _=>Option α) none (fun v _ _ _ _=>v) t)
  (fun b _ ih t=>Tr.rec (motive:=fun _=>Option α) none (fun _ l r _ _=>Bool.rec (ih l) (ih r) b) t) p t
noncomputable def rL (f n:Nat):List Bool :=
 Nat.rec (motive:=fun _=>Nat->List Bool) (fun _=>[]) (fun _ ih m=>Bool.rec (Nat.beq (m%2) 1::ih (m/2)) [] (Nat.beq m 0)) f n
noncomputable def CO_ (n:Nat):List Bool:=rL n n
structure Stg (α:Type) where
 f:α
def PT (α:Type):Nat->Type
 | 0=>α
 | n+1=>PT α n×PT α n
noncomputable def Iq_ (i n:Nat):Bool:=Nat.beq (Nat.land (Nat.shiftRight i n) 1) 1
noncomputable def PT.mk {α:Type} (n:Nat) (x:α):PT α n:=Nat.rec (motive:=fun n=>PT α n) x (fun _ ih=>(ih,ih)) n
noncomputable def PT.getS {α:Type} (n i:Nat):Stg (PT α n->α) :=
 Nat.rec (motive:=fun n=>Stg (PT α n->α)) ⟨fun T=>T⟩ (fun n ih=>Stg.rec (motive:=fun _=>Stg (PT α (n+1)->α)) (fun f=>Bool.rec (motive:=fun _=>Stg (PT α (n+1)->α)) ⟨fun T=>f T.1⟩ ⟨fun T=>f T.2⟩ (Iq_ i n)) ih) n
noncomputable def PT.putS {α:Type} (n i:Nat):Stg (α->PT α n->PT α n) :=
 Nat.rec (motive:=fun n=>Stg (α->PT α n->PT α n)) ⟨fun x _=>x⟩ (fun n ih=>Stg.rec (motive:=fun _=>Stg (α->PT α (n+1)->PT α (n+1))) (fun f=>Bool.rec (motive:=fun _=>Stg (α->PT α (n+1)->PT α (n+1))) ⟨fun x T=>(f x T.1,T.2)⟩ ⟨fun x T=>(T.1,f x T.2)⟩ (Iq_ i n)) ih) n
structure Mp (α:Type) (D:Nat) where
 p:PT (Option α) D
 o:Tr α
noncomputable def Tr.put {α:Type} (x:α) (p:List Bool) (t:Tr α):Tr α :=
 List.rec (motive:=fun _=>Tr α->Tr α) (fun t=>Tr.rec (motive:=fun _=>Tr α) (.N (some x) .E .E) (fun _ l r _ _=> .N (some x) l r) t)
  (fun b _ ih t=>Tr.rec (motive:=fun _=>Tr α) (Bool.rec (.N none (ih .E) .E) (.N none .E (ih .E)) b) (fun v l r _ _=>Bool.rec (.N v (ih l) r) (.N v l (ih r)) b) t) p t
noncomputable def Mp.getS {α:Type} (D i:Nat):Stg (Mp α D->Option α) :=
 Bool.rec (motive:=fun _=>Stg (Mp α D->Option α)) ⟨fun T=>T.o.get (CO_ i)⟩ (Stg.rec (motive:=fun _=>Stg (Mp α D->Option α)) (fun f=>⟨fun T=>f T.p⟩) (PT.getS (α:=Option α) D i)) (Nat.blt i (2 ^ D))
noncomputable def Mp.putS {α:Type} (D i:Nat):Stg (α->Mp α D->Mp α D) :=
 Bool.rec (motive:=fun _=>Stg (α->Mp α D->Mp α D)) ⟨fun x T=>⟨T.p,T.o.put x (CO_ i)⟩⟩ (Stg.rec (motive:=fun _=>Stg (α->Mp α D->Mp α D)) (fun f=>⟨fun x T=>⟨f (some x) T.p,T.o⟩⟩) (PT.putS (α:=Option α) D i)) (Nat.blt i (2 ^ D))
noncomputable def Mp.get {α:Type} {D:Nat} (T:Mp α D) (i:Nat):Option α:=(Mp.getS D i).f T
noncomputable def Mp.put {α:Type} {D:Nat} (x:α) (i:Nat) (T:Mp α D):Mp α D:=(Mp.putS D i).f x T
abbrev Sl := Mp DVal 7
noncomputable def Aq_ (T:Sl) (i:Nat):DVal:=Option.rec (motive:=fun _=>DVal) .any (fun d=>d) (T.get i)
inductive LSt where
 | ready
 | busy
 | done (j:Code)
 | out (p:Option Code)
def LSt.s : LSt->LoopState
 | .ready=> .ready
 | .busy=> .busy
 | .done _=> .done
 | .out _=> .exhausted
def LSt.p : LSt->Option Code
 | .done j=>some j
 | .out p=>p
 | _=>none
inductive DObj where
 | box (cs:List DVal)
 | row (et:TypeId) (k bs:Nat) (es:List (List DVal))
 | map (ks vs:List DVal)
 | mapD (ks vs:List DVal)
 | abs (A:Abs)
 | lrec (st:LSt) (sl:Sl) (nt:Nat) (ps:Array Tmp) (assign body:Code)
 | glob (g:Nat) (vs:List Nat)
def YC (vs:List Nat):List DVal:=vs.map fun(n:Nat)=> .int .u8 (n:Int)
theorem TW (vs:List Nat):AJ (YC vs)=0:=by
 unfold YC
 induction vs with
 | nil=>simp[AJ]
 | cons n vs ih=>simp[AJ,mx,ih]
structure Ent where
 id:Nat
 r:Nat
 obj:DObj
structure DS where
 slots:List (Nat×DVal)
 own:List Ent
def getS : List (Nat×DVal)->Nat->DVal
 | [],_=> .any
 | (j,d)::t,i=>if i=j then d else getS t i
def Ah : List Ent->Nat->Option Ent
 | [],_=>none
 | e::t,id=>if e.id=id then some e else Ah t id
def HP_ : List Ent->Nat->DObj->List Ent
 | [],_,_=>[]
 | e::t,id,o=>if e.id=id then ⟨e.id,e.r,o⟩::t else e::HP_ t id o
def Bp : List Ent->Nat->List Ent
 | [],_=>[]
 | e::t,id=>if e.id=id then Bp t id else e::Bp t id
def Hk : List (Nat×DVal)->Nat
 | []=>0
 | p::t=>max (mx p.2) (Hk t)
theorem KR (l:List (Nat×DVal)) (i:Nat):mx (getS l i)<=Hk l:=by
 induction l with
 | nil=>simp[getS,mx,Hk]
 | cons p t ih =>
  obtain⟨j,d⟩:=p;simp only[getS,Hk]
  split<;>omega
def Tr.dep {α:Type}:Tr α->Nat
 | .E=>0
 | .N _ l r=>max l.dep r.dep+1
theorem Tr.get_dep {α:Type}:∀(t:Tr α) (p:List Bool),t.dep<=p.length->t.get p=none
 | .E,[],_=>rfl
 | .E,_::_,_=>rfl
 | .N v l r,[],h=>by simp[Tr.dep]at h
 | .N v l r,b::p,h=>by
  simp only[Tr.dep,List.length_cons]at h;cases b
  ·exact Tr.get_dep l p (by omega)
  ·exact Tr.get_dep r p (by omega)
theorem iD (f n:Nat):rL (f+1) n=if Nat.beq n 0 then []else Nat.beq (n%2) 1::rL f (n/2):=by
 show Bool.rec (motive:=fun _=>List Bool) _ _ (Nat.beq n 0)=_
 cases Nat.beq n 0<;>rfl
theorem TJ : ∀(f n:Nat),n<=f->n<2 ^ (rL f n).length
 | 0,n,h=>by
  have:n=0:=by omega
  subst this
  show 0<2 ^ _
  exact Nat.two_pow_pos _
 | f+1,n,h=>by
  rw[iD]
  split
  ·rename_i h0;have:=Nat.eq_of_beq_eq_true h0;subst this;simp
  ·rename_i h0;have h0:n≠0:=fun e=>h0 (by rw[e];rfl)
   have:=TJ f (n/2) (by omega);simp only[List.length_cons,Nat.pow_succ];omega
theorem Mp.get_eq {α:Type} {D:Nat} (T:Mp α D) (i:Nat):T.get i=if i<2 ^ D then (PT.getS D i).f T.p else T.o.get (CO_ i):=by
 unfold Mp.get Mp.getS
 cases h:Nat.blt i (2 ^ D)with
 | true=>have h':i<2 ^ D:=Nat.le_of_ble_eq_true h;rw[if_pos h']
 | false=>rw[if_neg (fun h'=>by rw[show Nat.blt i (2 ^ D)=true from Nat.ble_eq_true_of_le h']at h;simp at h)]
noncomputable def Sl.bnd (T:Sl):Nat:=max (2 ^ 7) (2 ^ T.o.dep)
theorem Cz_ (T:Sl) (i:Nat) (h:Sl.bnd T<=i):Aq_ T i= .any:=by
 unfold Sl.bnd at h;have h1:=TJ i i (Nat.le_refl _)
 have h2:T.o.dep<=(CO_ i).length:=by
  refine Nat.le_of_lt (Nat.lt_of_not_le fun yD=> ?_);have:=Nat.pow_le_pow_right (show 0<2 by decide) yD;unfold CO_ at this;omega
 unfold Aq_;rw[Mp.get_eq,if_neg (by omega),Tr.get_dep T.o _ h2]
noncomputable def Ds_ (T:Sl):List (Nat×DVal):=(List.range (Sl.bnd T)).map fun i=>(i,Aq_ T i)
noncomputable def mxT (T:Sl):Nat:=Hk (Ds_ T)
theorem YE (f:Nat->DVal):∀(l:List Nat) (i:Nat),getS (l.map fun i=>(i,f i)) i=if i∈l then f i else .any
 | [],i=>by simp[getS]
 | j::l,i=>by
  simp only[List.map_cons,getS,YE f l i]
  by_cases h:i=j
  ·subst h;simp
  ·simp[h]
theorem AX_ (T:Sl) (i:Nat):getS (Ds_ T) i=Aq_ T i:=by
 unfold Ds_;rw[YE]
 split
 ·rfl
 ·rename_i h;rw[Cz_ T i (by simpa using h)]
theorem Fv_ (T:Sl) (i:Nat):mx (Aq_ T i)<=mxT T:=by
 rw[<-AX_];exact KR _ _
noncomputable def Em : DObj->Nat
 | .box cs=>AJ cs
 | .row _ _ _ es=>Br es
 | .map ks vs=>max (AJ ks) (AJ vs)
 | .mapD ks vs=>max (AJ ks) (AJ vs)
 | .abs _=>0
 | .lrec _ sl _ _ _ _=>mxT sl
 | .glob _ _=>0
noncomputable def GY : List Ent->Nat
 | []=>0
 | e::t=>max (max (e.r+1) (Em e.obj)) (GY t)
theorem Bn {own:List Ent} {e:Ent} (h:e∈own):e.r<GY own/\Em e.obj<=GY own:=by
 induction own with
 | nil=>cases h
 | cons a t ih =>
  simp only[GY]
  rcases aK0.1 h with rfl | h
  ·omega
  ·have:=ih h;omega
def Ac (own:List Ent) (loc:Nat->Loc):ES:=fun id r =>
 match Ah own id with
 | some e=>if e.r=r then some (loc id)else none
 | none=>none
def Aa (own:List Ent) (loc:Nat->Loc):List Nat:=own.flatMap fun e=>(loc e.id).blks
section
variable (cur : ES) (M : List Nat) (h : Array Obj)
def KH (l:Loc):DObj->Prop
 | .box cs=>∃b arr ty,l.blks=[b]/\h[b]? =some (.cells arr ty (0,0))/\arr.size=cs.length/\rdC cur M h cs arr 0
 | .row et k bs es=>es.length*bs<=150000000000000/\((es=[]/\l.blks=[]/\l.hdr= .slice none 0 0) \/
  ∃b arr cap,l.blks=[b]/\l.hdr= .slice (some ⟨b,0,none⟩) es.length cap/\h[b]? =some (.cells arr et (0,0))/\es.length<=cap/\cap<=maxLen/\cap*k=arr.size/\Dt cur M h k es arr 0)
 | .map ks vs=>∃b es clk,l.blks=[b]/\h[b]? =some (.map es clk)/\GP es clk/\rdV cur M h ks (es.toList.map (·.key))/\rdV cur M h vs (es.toList.map (·.val))
 | .mapD ks vs=>∃b es clk,l.blks=[b]/\h[b]? =some (.map es clk)/\GP es clk/\rdV cur M h ks (es.toList.map (·.key))/\rdV cur M h vs (es.toList.map (·.val))
 | .abs A=>A.J M l.blks l.hdr h
 | .glob g vs=>l.blks=[g]/\∃arr ty,h[g]? =some (.cells arr ty (0,0))/\rdC cur M h (YC vs) arr 0/\l.hdr= .agg (arr.push (.int .i64 (ty:Nat)))
 | .lrec st sl nt ps assign body=>∃b fn tm df,l.blks=[b]/\l.hdr= .func (.yield b) #[] #[]/\h[b]? =some (.loop { state:=st.s,pending:=st.p,fn,tmps:=tm,params:=ps,assign,body,defers:=df })/\tm.size=nt /\
  ∀i,rd cur M h (Aq_ sl i) (tm.getD i Go.undef)
end
theorem AV {cur cur':ES} {M M':List Nat} {h h':Array Obj} {n:Nat} {l:Loc} {obj:DObj} (W:Weak cur cur' M M' h h' n) (hn:Em obj<=n)
  (keep:∀b o,b∈l.blks->h[b]? =some o->h'[b]? =some o) (hk:KH cur M h l obj):KH cur' M' h' l obj:=by
 cases obj with
 | box cs =>
  simp only[Em]at hn;obtain⟨b,arr,ty,h1,h2,h3,h4⟩:=hk;exact⟨b,arr,ty,h1,keep b _ (by simp[h1]) h2,h3,EB W cs arr 0 hn h4⟩
 | row et k bs es =>
  simp only[Em]at hn;obtain⟨h0,hk⟩:=hk;refine⟨h0,hk.imp id ?_⟩;rintro⟨b,arr,cap,h1,h2,h3,h4,h5,h6,h7⟩;exact⟨b,arr,cap,h1,h2,keep b _ (by simp[h1]) h3,h4,h5,h6,Cu W k es arr 0 hn h7⟩
 | map ks vs =>
  simp only[Em]at hn;obtain⟨b,es,clk,h1,h2,h3,h4,h5⟩:=hk;exact⟨b,es,clk,h1,keep b _ (by simp[h1]) h2,h3,AP W ks _ (by omega) h4,AP W vs _ (by omega) h5⟩
 | mapD ks vs =>
  simp only[Em]at hn;obtain⟨b,es,clk,h1,h2,h3,h4,h5⟩:=hk;exact⟨b,es,clk,h1,keep b _ (by simp[h1]) h2,h3,AP W ks _ (by omega) h4,AP W vs _ (by omega) h5⟩
 | abs A=>exact A.weak M M' l.blks l.hdr h h' W.b W.m keep hk
 | glob g vs =>
  obtain⟨h1,arr,ty,h2,h3,h4⟩:=hk;exact⟨h1,arr,ty,keep g _ (by simp[h1]) h2,EB W _ arr 0 (by rw[TW];exact dC0 _) h3,h4⟩
 | lrec st sl nt ps assign body =>
  simp only[Em]at hn;obtain⟨b,fn,tm,df,h1,h2,h3,h4,h5⟩:=hk;exact⟨b,fn,tm,df,h1,h2,keep b _ (by simp[h1]) h3,h4,fun i=>Bk W _ _ (Nat.le_trans (Fv_ sl i) hn) (h5 i)⟩
structure St (own:List Ent) (loc:Nat->Loc) (M0:List Nat) (h:Array Obj):Prop where
 nd:(own.map (·.id)).Nodup
 bl:(Aa own loc).Nodup
 ap:∀b∈Aa own loc,b∉M0
 lt:∀b∈Aa own loc++M0,b<h.size
 ok:∀e∈own,KH (Ac own loc) (Aa own loc++M0) h (loc e.id) e.obj
structure Upd (H:List Nat) (w w':World):Prop where
 os:w'.os=w.os
 tape:w'.tape=w.tape
 output:w'.output=w.output
 drawn:DMode.dr=true->w.drawn<=w'.drawn
 size:w.heap.size<=w'.heap.size
 blk:∀b,b<w.heap.size->b∉H->w'.heap[b]? =w.heap[b]?
theorem Upd.refl (H:List Nat) (w:World):Upd H w w:=⟨rfl,rfl,rfl,fun _=>Nat.le_refl _,Nat.le_refl _,fun _ _ _=>rfl⟩
theorem Upd.trans {H H':List Nat} {a b c:World} (h:Upd H a b) (k:Upd H' b c) (hh:∀x∈H',x∈H\/a.heap.size<=x):Upd H a c :=
 ⟨k.os.trans h.os,k.tape.trans h.tape,k.output.trans h.output,fun hd=>Nat.le_trans (h.drawn hd) (k.drawn hd),Nat.le_trans h.size k.size,fun x hx hn =>
  (k.blk x (cB0 hx h.size) (fun hm=>by rcases hh x hm with h1 | h1;exact hn h1;omega)).trans (h.blk x hx hn)⟩
theorem Upd.alloc (H:List Nat) (w:World) (o:Obj):Upd H w (w.alloc o) :=
 ⟨rfl,rfl,rfl,fun _=>Nat.le_refl _,by simp,fun b hb _=>by simp only[World.alloc,bS0];rw[if_neg (by omega)]⟩
theorem Upd.drew (H:List Nat) (w:World):Upd H w w.drew:=⟨rfl,rfl,rfl,fun _=>by simp,Nat.le_refl _,fun _ _ _=>rfl⟩
theorem Upd.nil {H:List Nat} {w w':World} (h:Upd [] w w'):Upd H w w':=⟨h.os,h.tape,h.output,h.drawn,h.size,fun b hb _=>h.blk b hb (by simp)⟩
structure Base where
 own0:List Ent
 loc0:Nat->Loc
 M0:List Nat
 N:Nat
 w0:World
 nt:Nat
 ro:Option Nat:=none
 nd:Nat
 hnd:nd<=w0.heap.size
 idle:List (FuncId×Nat):=[]
structure BaseN extends Base where
 hN:toBase.N<=1
instance : Coe BaseN Base:=⟨BaseN.toBase⟩
abbrev UN := Nat ⊕ (FuncId×Array Value)
def Ck_ : UN->Deferred
 | .inl r=>{ target:= .collected r,args:= #[] }
 | .inr (g,cs)=>{ target:= .fn (.func g) cs,args:= #[] }
def CV : List UN->List Nat
 | []=>[]
 | .inl r::t=>r::CV t
 | .inr _::t=>CV t
def Go_ (B:Base) (M:List Nat) (a:Act) (h:Array Obj):Prop :=
 ∃its:List UN,a.defers=its.map Ck_/\(CV its).Nodup/\(∀r∈CV its,h[r]? =some (.deferred (some []))/\B.nd<=r/\r∉M)/\(B.ro≠none->its=[])/\∀g cs,(.inr (g,cs):UN)∈its->(g,cs.size)∈B.idle
theorem Go_.keep {B:Base} {M M' H:List Nat} {a a':Act} {w w':World} (hd:Go_ B M a w.heap) (ha:a'.defers=a.defers)
  (hu:Upd H w w') (hH:∀x∈H,x∈M) (hm:∀b∈M',b∈M\/w.heap.size<=b):Go_ B M' a' w'.heap:=by
 obtain⟨its,h1,h0,h2,h3⟩:=hd;refine⟨its,ha.trans h1,h0,fun r hr=> ?_,h3⟩;obtain⟨g1,g2,g3⟩:=h2 r hr;have qV:=(aC0.1 g1).1;refine⟨by rw[hu.blk r qV (fun h=>g3 (hH r h))];exact g1,g2,fun h=> ?_⟩
 rcases hm r h with h | h
 ·exact g3 h
 ·omega
structure Rel (B:Base) (s:DS) (a:Act) (w:World) (loc:Nat->Loc):Prop where
 st:St s.own loc B.M0 w.heap
 upd:Upd (Aa B.own0 B.loc0) B.w0 w
 new:∀b∈Aa s.own loc,b∈Aa B.own0 B.loc0\/B.w0.heap.size<=b
 ver:∀e∈s.own,e.r<B.N->Ac B.own0 B.loc0 e.id e.r=some (loc e.id)
 sl:∀i,rd (Ac s.own loc) (Aa s.own loc++B.M0) w.heap (getS s.slots i) (a.tmps.getD i Go.undef)
 nt:a.tmps.size=B.nt
 df:Go_ B (Aa s.own loc++B.M0) a w.heap
theorem Ar {own:List Ent} {id:Nat} {e:Ent} (h:Ah own id=some e):e∈own/\e.id=id:=by
 induction own with
 | nil=>simp[Ah]at h
 | cons a t ih =>
  simp only[Ah]at h
  split at h
  ·simp only[aA0]at h;subst h;exact⟨aH0,by assumption⟩
  ·have:=ih h;exact⟨aF0 _ this.1,this.2⟩
theorem BJ {own:List Ent} (nd:(own.map (·.id)).Nodup) {e:Ent} (h:e∈own):Ah own e.id=some e:=by
 induction own with
 | nil=>cases h
 | cons a t ih =>
  simp only[List.map_cons,cV0]at nd;simp only[Ah]
  rcases aK0.1 h with rfl | h
  ·simp
  ·rw[if_neg,ih nd.2 h];intro he;exact nd.1 (he▸cX0 (f:=(·.id)) h)
theorem BE {own:List Ent} {loc:Nat->Loc} {id r:Nat} {l:Loc} (h:Ac own loc id r=some l):∃e∈own,e.id=id/\e.r=r/\l=loc id:=by
 unfold Ac at h
 split at h
 ·rename_i e he
  split at h
  ·simp only[aA0]at h;obtain⟨h1,h2⟩:=Ar he;exact⟨e,h1,h2,by assumption,h.symm⟩
  ·simp at h
 ·simp at h
theorem AW {own:List Ent} {loc:Nat->Loc} {e:Ent} {b:Nat} (h:e∈own) (hb:b∈(loc e.id).blks):b∈Aa own loc :=
 bP0.2 ⟨e,h,hb⟩
theorem Er {own own':List Ent} {loc loc':Nat->Loc} {M0:List Nat} {w w':World} {n:Nat}
  (jK:Upd (Aa own loc) w w') (wG:∀b∈Aa own' loc',b∈Aa own loc\/w.heap.size<=b)
  (vB:∀e∈own',e.r<n->Ac own loc e.id e.r=some (loc' e.id)) :
  Weak (Ac own loc) (Ac own' loc') (Aa own loc++M0) (Aa own' loc'++M0) w.heap w'.heap n where
 c:=by
  intro id r l hr hl;obtain⟨e,he,rfl,rfl,rfl⟩:=BE hl;exact vB e he hr
 b:=by
  intro b o hb _ ho;have qV:b<w.heap.size:=(aC0.1 ho).1;rw[jK.blk b qV (fun h=>hb (aM0 _ h))];exact ho
 m:=by
  intro b o hb _ ho hm;have qV:b<w.heap.size:=(aC0.1 ho).1
  rcases aG0.1 hm with h | h
  ·rcases wG b h with h1 | h1
   ·exact hb (aM0 _ h1)
   ·omega
  ·exact hb (aN0 _ h)
theorem RF (a:Act) (dst:Option Nat) (v:Value) (i:Nat) (hd:∀d,dst=some d->d<a.tmps.size) :
  (a.put dst v).tmps.getD i Go.undef=if dst=some i then v else a.tmps.getD i Go.undef:=by
 cases dst with
 | none=>simp[Act.put]
 | some d =>
  have:=hd d rfl;simp only[Act.put,aO0,cW0,aA0]
  by_cases h:d=i
  ·subst h;simp[this]
  ·simp[h]
theorem size_put (a:Act) (dst:Option Nat) (v:Value):(a.put dst v).tmps.size=a.tmps.size:=by
 cases dst<;>simp[Act.put]
theorem lQ (a:Act) (dst:Option Nat) (v:Value):(a.put dst v).defers=a.defers:=by
 cases dst<;>rfl
def putS (l:List (Nat×DVal)):Option Nat->DVal->List (Nat×DVal)
 | some i,d=>(i,d)::l
 | none,_=>l
theorem Rel.step {B:Base} {s:DS} {a:Act} {w w':World} {loc loc':Nat->Loc} {own':List Ent} {n:Nat} {v:Value} {d:DVal} {dst:Option Nat}
  (R:Rel B s a w loc) (hn:B.N<=n) (hs:Hk s.slots<=n) (qT:∀i,dst=some i->i<B.nt)
  (wO:St own' loc' B.M0 w'.heap) (jK:Upd (Aa s.own loc) w w')
  (wG:∀b∈Aa own' loc',b∈Aa s.own loc\/w.heap.size<=b)
  (vB:∀e∈own',e.r<n->Ac s.own loc e.id e.r=some (loc' e.id))
  (hd:rd (Ac own' loc') (Aa own' loc'++B.M0) w'.heap d v) :
  Rel B ⟨putS s.slots dst d,own'⟩ (a.put dst v) w' loc' where
 st:=wO
 upd:=R.upd.trans jK R.new
 new:=by
  intro b hb
  rcases wG b hb with h | h
  ·exact R.new b h
  ·exact .inr (Nat.le_trans R.upd.size h)
 ver:=by
  intro e he hr;obtain⟨e',vE,h1,h2,h3⟩:=BE (vB e he (cB0 hr hn));have:=R.ver e' vE (by omega);rw[h1,h2]at this;rw[this,h3]
 sl:=by
  intro i;have yN:=RF a dst v i (fun d hd=>by rw[R.nt];exact qT d hd);rw[yN];have W:=Er (M0:=B.M0) jK wG vB
  have yS:rd (Ac own' loc') (Aa own' loc'++B.M0) w'.heap (getS s.slots i) (a.tmps.getD i Go.undef) :=
   Bk W _ _ (Nat.le_trans (KR _ _) hs) (R.sl i)
  cases dst with
  | none=>simpa[putS]using yS
  | some j =>
   simp only[putS,getS]
   by_cases yB:i=j
   ·subst yB;simpa using hd
   ·rw[if_neg yB,if_neg (fun h=>yB (Option.some.inj h).symm)];exact yS
 nt:=by rw[size_put];exact R.nt
 df:=by
  refine R.df.keep (lQ a dst v) jK (fun x hx=>aM0 _ hx) ?_;intro b hb
  rcases aG0.1 hb with h | h
  ·rcases wG b h with h | h
   ·exact .inl (aM0 _ h)
   ·exact .inr h
  ·exact .inl (aN0 _ h)
theorem St.keep {own:List Ent} {loc:Nat->Loc} {M0:List Nat} {w w':World} (h:St own loc M0 w.heap) (u:Upd [] w w'):St own loc M0 w'.heap where
 nd:=h.nd
 bl:=h.bl
 ap:=h.ap
 lt:=fun b hb=>cB0 (h.lt b hb) u.size
 ok:=by
  intro e he
  have W:Weak (Ac own loc) (Ac own loc) (Aa own loc++M0) (Aa own loc++M0) w.heap w'.heap (Em e.obj):=by
   refine Er u.nil (fun b hb=> .inl hb) ?_;intro e' vE _;unfold Ac;rw[BJ h.nd vE];simp
  have hb:∀b o,w.heap[b]? =some o->w'.heap[b]? =some o:=fun b o ho=>by
   rw[u.blk b (aC0.1 ho).1 (by simp)];exact ho
  exact AV W (Nat.le_refl _) (fun b o _ ho=>hb b o ho) (h.ok e he)
theorem Ay {own:List Ent} {loc:Nat->Loc} (nd:(own.map (·.id)).Nodup) {e:Ent} (he:e∈own):Ac own loc e.id e.r=some (loc e.id):=by
 unfold Ac;rw[BJ nd he];simp
theorem Rel.put {B:Base} {s:DS} {a:Act} {w w':World} {loc:Nat->Loc} {v:Value} {d:DVal} {dst:Option Nat}
  (R:Rel B s a w loc) (qT:∀i,dst=some i->i<B.nt) (jK:Upd [] w w')
  (hd:rd (Ac s.own loc) (Aa s.own loc++B.M0) w'.heap d v):Rel B ⟨putS s.slots dst d,s.own⟩ (a.put dst v) w' loc :=
 R.step (n:=max B.N (Hk s.slots)) (by omega) (by omega) qT (R.st.keep jK) jK.nil (fun b hb=> .inl hb) (fun e he _=>Ay R.st.nd he) hd
end Go.Dm
end
