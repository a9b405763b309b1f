/- Parts of a proof, laid together: EnA, EnB, EnC, EnD, EnD1, EnE. -/
import Derived.WalkKit
import Derived.Laws.Rows
import Derived.Laws.Cells
import Derived.Laws.StructEq
import Derived.MapKept
set_option linter.unusedSimpArgs false
set_option linter.unusedVariables false
set_option linter.unusedSectionVars false
namespace Go.Dm
theorem aA0 : type_of% @Option.some.injEq:= @Option.some.injEq
theorem aB0 : type_of% @List.getElem?_eq_some_iff:= @List.getElem?_eq_some_iff
theorem aC0 : type_of% @List.length_append:= @List.length_append
theorem aD0 : type_of% @List.mem_cons_of_mem:= @List.mem_cons_of_mem
theorem aE0 : type_of% @List.mem_singleton:= @List.mem_singleton
theorem aF0 : type_of% @List.mem_cons_self:= @List.mem_cons_self
theorem aG0 : type_of% @Array.getElem?_eq_some_iff:= @Array.getElem?_eq_some_iff
theorem aH0 : type_of% @List.getElem?_eq_getElem:= @List.getElem?_eq_getElem
theorem aI0 : type_of% @List.mem_append:= @List.mem_append
theorem aJ0 : type_of% @List.length_map:= @List.length_map
theorem aK0 : type_of% @List.mem_cons:= @List.mem_cons
theorem aL0 : type_of% @Bool.false_eq_true:= @Bool.false_eq_true
theorem aM0 : type_of% @List.mem_append_left:= @List.mem_append_left
theorem aN0 : type_of% @Bool.and_eq_true:= @Bool.and_eq_true
theorem aO0 : type_of% @Nat.mul_le_mul_right:= @Nat.mul_le_mul_right
theorem aP0 : type_of% @List.mem_append_right:= @List.mem_append_right
theorem aQ0 : type_of% @List.take_length:= @List.take_length
theorem aR0 : type_of% @List.drop_eq_getElem_cons:= @List.drop_eq_getElem_cons
theorem aS0 : type_of% @ByteArray.size_append:= @ByteArray.size_append
theorem aT0 : type_of% @Array.getD_eq_getD_getElem?:= @Array.getD_eq_getD_getElem?
theorem aU0 : type_of% @List.append_assoc:= @List.append_assoc
theorem aV0 : type_of% @List.mem_map:= @List.mem_map
theorem aW0 : type_of% @Prod.mk.injEq:= @Prod.mk.injEq
theorem aX0 : type_of% @List.map_append:= @List.map_append
theorem aY0 : type_of% @List.length_take:= @List.length_take
theorem aZ0 : type_of% @Int.natCast_add:= @Int.natCast_add
theorem bA0 : type_of% @List.all_eq_true:= @List.all_eq_true
theorem bB0 : type_of% @List.getElem?_append_left:= @List.getElem?_append_left
theorem bC0 : type_of% @List.getElem?_append_right:= @List.getElem?_append_right
theorem bD0 : type_of% @List.getElem?_cons_zero:= @List.getElem?_cons_zero
theorem bE0 : type_of% @Option.map_eq_some_iff:= @Option.map_eq_some_iff
theorem bF0 : type_of% @List.take_add_one:= @List.take_add_one
theorem bG0 : type_of% @List.getD_eq_getElem?_getD:= @List.getD_eq_getElem?_getD
theorem bH0 : type_of% @List.cons.injEq:= @List.cons.injEq
theorem bI0 : type_of% @List.getElem?_map:= @List.getElem?_map
theorem bJ0 : type_of% @List.getElem?_cons_succ:= @List.getElem?_cons_succ
theorem bK0 : type_of% @Option.isSome_iff_exists:= @Option.isSome_iff_exists
theorem bL0 : type_of% @List.mem_of_getElem?:= @List.mem_of_getElem?
theorem bM0 : type_of% @List.append_nil:= @List.append_nil
theorem bN0 : type_of% @List.getElem_of_mem:= @List.getElem_of_mem
theorem bO0 : type_of% @List.eq_nil_of_length_eq_zero:= @List.eq_nil_of_length_eq_zero
theorem bP0 : type_of% @Array.length_toList:= @Array.length_toList
theorem bQ0 : type_of% @List.drop_length:= @List.drop_length
theorem bR0 : type_of% @List.mem_flatMap:= @List.mem_flatMap
theorem bS0 : type_of% @List.length_drop:= @List.length_drop
theorem bT0 : type_of% @Nat.zero_add:= @Nat.zero_add
theorem bU0 : type_of% @Nat.mul_le_mul_left:= @Nat.mul_le_mul_left
theorem bV0 : type_of% @Array.getElem?_push:= @Array.getElem?_push
theorem bW0 : type_of% @List.take_of_length_le:= @List.take_of_length_le
theorem bX0 : type_of% @Nat.add_mul:= @Nat.add_mul
theorem bY0 : type_of% @List.getElem?_take_of_lt:= @List.getElem?_take_of_lt
theorem bZ0 : type_of% @List.any_eq_true:= @List.any_eq_true
theorem cA0 : type_of% @List.nodup_append:= @List.nodup_append
theorem cB0 : type_of% @List.map_map:= @List.map_map
theorem cC0 : type_of% @Option.getD_some:= @Option.getD_some
theorem cD0 : type_of% @Array.getElem?_eq_getElem:= @Array.getElem?_eq_getElem
theorem cE0 : type_of% @Bool.true_and:= @Bool.true_and
theorem cF0 : type_of% @Array.getElem?_modify:= @Array.getElem?_modify
theorem cG0 : type_of% @Nat.lt_of_lt_of_le:= @Nat.lt_of_lt_of_le
theorem cH0 : type_of% @List.pairwise_cons:= @List.pairwise_cons
theorem cI0 : type_of% @List.length_filter_le:= @List.length_filter_le
theorem cJ0 : type_of% @List.map_congr_left:= @List.map_congr_left
theorem cK0 : type_of% @Bool.false_and:= @Bool.false_and
theorem cL0 : type_of% @Nat.zero_le:= @Nat.zero_le
theorem cM0 : type_of% @List.flatMap_cons:= @List.flatMap_cons
theorem cN0 : type_of% @List.mem_filter:= @List.mem_filter
theorem cO0 : type_of% @List.foldl_cons:= @List.foldl_cons
theorem cP0 : type_of% @List.drop_of_length_le:= @List.drop_of_length_le
theorem cQ0 : type_of% @List.nodup_cons:= @List.nodup_cons
theorem cR0 : type_of% @List.foldl_append:= @List.foldl_append
theorem cS0 : type_of% @Nat.add_assoc:= @Nat.add_assoc
theorem cT0 : type_of% @List.getElem?_drop:= @List.getElem?_drop
theorem cU0 : type_of% @Array.getElem?_setIfInBounds:= @Array.getElem?_setIfInBounds
theorem cV0 : type_of% @Nat.add_zero:= @Nat.add_zero
theorem cW0 : type_of% @List.mem_map_of_mem:= @List.mem_map_of_mem
theorem cX0 : type_of% @Int.toNat_natCast:= @Int.toNat_natCast
theorem cY0 : type_of% @List.getElem_mem:= @List.getElem_mem
theorem cZ0 : type_of% @List.length_replicate:= @List.length_replicate
theorem dA0 : type_of% @List.any_eq_false:= @List.any_eq_false
theorem dB0 : type_of% @List.filter_append:= @List.filter_append
theorem dC0 : type_of% @List.all_cons:= @List.all_cons
theorem dD0 : type_of% @Bool.or_eq_true:= @Bool.or_eq_true
theorem dE0 : type_of% @List.mem_of_mem_take:= @List.mem_of_mem_take
theorem dF0 : type_of% @List.take_succ_cons:= @List.take_succ_cons
theorem dG0 : type_of% @List.size_toArray:= @List.size_toArray
theorem dH0 : type_of% @List.sum_cons:= @List.sum_cons
theorem dI0 : type_of% @Option.map_some:= @Option.map_some
theorem dJ0 : type_of% @Nat.le_of_eq:= @Nat.le_of_eq
theorem dK0 : type_of% @List.getElem?_toArray:= @List.getElem?_toArray
theorem dL0 : type_of% @List.pairwise_map:= @List.pairwise_map
theorem dM0 : type_of% @Array.getElem?_append_left:= @Array.getElem?_append_left
theorem dN0 : type_of% @List.map_toArray:= @List.map_toArray
theorem dO0 : type_of% @List.getElem?_eq_none:= @List.getElem?_eq_none
theorem dP0 : type_of% @List.mem_range:= @List.mem_range
theorem dQ0 : type_of% @Bool.and_false:= @Bool.and_false
theorem dR0 : type_of% @List.take_succ_eq_append_getElem:= @List.take_succ_eq_append_getElem
theorem dS0 : type_of% @Array.getElem?_setIfInBounds_ne:= @Array.getElem?_setIfInBounds_ne
theorem dT0 : type_of% @Nat.sub_self:= @Nat.sub_self
theorem dU0 : type_of% @List.mergeSort_perm:= @List.mergeSort_perm
theorem dV0 : type_of% @List.flatMap_append:= @List.flatMap_append
theorem dW0 : type_of% @List.drop_succ_cons:= @List.drop_succ_cons
theorem dX0 : type_of% @List.not_mem_nil:= @List.not_mem_nil
theorem dY0 : type_of% @List.drop_append_of_le_length:= @List.drop_append_of_le_length
theorem dZ0 : type_of% @Bool.not_eq_true:= @Bool.not_eq_true
theorem eA0 : type_of% @List.range_succ:= @List.range_succ
theorem eB0 : type_of% @List.any_append:= @List.any_append
theorem eC0 : type_of% @Array.getElem?_setIfInBounds_self_of_lt:= @Array.getElem?_setIfInBounds_self_of_lt
theorem eD0 : type_of% @Nat.max_le:= @Nat.max_le
theorem eE0 : type_of% @Bool.eq_false_iff:= @Bool.eq_false_iff
theorem eF0 : type_of% @List.drop_zero:= @List.drop_zero
theorem eG0 : type_of% @Array.toList_map:= @Array.toList_map
theorem eH0 : type_of% @Nat.sub_zero:= @Nat.sub_zero
theorem eI0 : type_of% @List.map_set:= @List.map_set
theorem eJ0 : type_of% @Array.getElem?_replicate:= @Array.getElem?_replicate
theorem eK0 : type_of% @List.set_cons_zero:= @List.set_cons_zero
theorem eL0 : type_of% @List.getElem?_replicate:= @List.getElem?_replicate
theorem eM0 : type_of% @Bool.false_or:= @Bool.false_or
theorem eN0 : type_of% @List.length_range:= @List.length_range
theorem eO0 : type_of% @Bool.not_eq_true':= @Bool.not_eq_true'
theorem eP0 : type_of% @Array.getElem?_toList:= @Array.getElem?_toList
theorem eQ0 : type_of% @List.take_append_of_le_length:= @List.take_append_of_le_length
theorem eR0 : type_of% @List.map_take:= @List.map_take
theorem eS0 : type_of% @Option.map_none:= @Option.map_none
theorem eT0 : type_of% @List.getElem?_range:= @List.getElem?_range
theorem eU0 : type_of% @List.all_append:= @List.all_append
theorem eV0 : type_of% @Nat.eq_zero_or_pos:= @Nat.eq_zero_or_pos
theorem eW0 : type_of% @List.getElem?_take:= @List.getElem?_take
theorem eX0 : type_of% @List.drop_drop:= @List.drop_drop
theorem eY0 : type_of% @List.flatten_cons:= @List.flatten_cons
theorem eZ0 : type_of% @List.ext_getElem?:= @List.ext_getElem?
theorem fA0 : type_of% @Nat.sub_sub:= @Nat.sub_sub
theorem fB0 : type_of% @List.length_eq_zero_iff:= @List.length_eq_zero_iff
theorem fC0 : type_of% @List.dropLast_singleton:= @List.dropLast_singleton
theorem fD0 : type_of% @List.dropLast_cons_cons:= @List.dropLast_cons_cons
theorem fE0 : type_of% @Bool.and_true:= @Bool.and_true
theorem fF0 : type_of% @List.zipIdx_cons:= @List.zipIdx_cons
theorem fG0 : type_of% @List.countP_cons:= @List.countP_cons
theorem fH0 : type_of% @List.getElem?_set_self:= @List.getElem?_set_self
end Go.Dm
section
namespace Go.Dm
inductive DVal where
 | any
 | undef
 | sel (c:Bool) (d:DVal)
 | bool (b:Bool)
 | int (k:IntKind) (n:Int)
 | str (s:ByteArray)
 | nilp
 | ref (cs:List DVal)
 | bx (id r off:Nat)
 | rx (id r k i j:Nat)
 | nilsl
 | esl
 | sl (k bs:Nat) (es:List (List DVal))
 | osl (id r:Nat)
 | vw (id r k bs i n:Nat)
 | nilmp
 | mp (ks vs:List DVal)
 | omp (id r:Nat)
 | pk (id r:Nat)
 | nilfn
 | fn (f:Fn) (first caps:List DVal)
 | nilifc
 | ifc (t:TypeId) (d:DVal)
 | agg (cs:List DVal)
 | tup (vs:List DVal)
 deriving Inhabited
structure Loc where
 blks:List Nat
 hdr:Value
def Oc_ (es:Array MapEntry) (clk:Nat):Prop:=(es.toList.map (·.born)).Nodup∧∀e∈es.toList,e.born<clk
def inR : IntKind→Int→Prop
 | .i64,n=> -9223372036854775808≤n∧n≤9223372036854775807
 | .u64,n=>0≤n∧n≤18446744073709551615
 | .u8,n=>0≤n∧n≤255
 | .i8,n=> -128≤n∧n≤127
 | .i16,n=> -32768≤n∧n≤32767
 | .u16,n=>0≤n∧n≤65535
 | .i32,n=> -2147483648≤n∧n≤2147483647
 | .u32,n=>0≤n∧n≤4294967295
abbrev Cur := Nat→Nat→Option Loc
section
variable (cur : Cur) (M : List Nat) (h : Array Obj)
mutual
def rd : DVal→Value→Prop
 | .any,_=>True
 | .undef,v=>v=Go.undef
 | .sel c d,v=>(c=true→rd d v)∧(c=false→v=Go.undef)
 | .bool b,v=>v= .bool b
 | .int k n,v=>v= .int k n∧inR k n
 | .str s,v=>v= .string s∧s.size≤maxLen
 | .nilp,v=>v= .pointer none
 | .ref cs,v=>∃b off arr ty fz,v= .pointer (some ⟨b,off,none⟩)∧b∉M∧h[b]? =some (.cells arr ty fz)∧rdC cs arr off
 | .bx id r off,v=>∀l,cur id r=some l→∃b,l.blks=[b]∧v= .pointer (some ⟨b,off,none⟩)
 | .rx id r k i j,v=>∀l,cur id r=some l→∃b,l.blks=[b]∧v= .pointer (some ⟨b,i*k+j,none⟩)
 | .nilsl,v=>v= .slice none 0 0
 | .esl,v=>∃ad cap,v= .slice (some ad) 0 cap∧cap≤maxLen
 | .sl k bs es,v=>∃a cap,v= .slice a es.length cap∧es.length≤cap∧cap≤maxLen∧es.length*bs≤150000000000000 ∧
  ((es=[]∧(a=none→cap=0))∨∃b off arr ty fz,a=some ⟨b,off,none⟩∧b∉M∧h[b]? =some (.cells arr ty fz)∧rdR k es arr off)
 | .osl id r,v=>∀l,cur id r=some l→v=l.hdr
 | .vw id r k _ i n,v=>∀l,cur id r=some l→∃a cap,v= .slice a n cap∧n≤cap∧cap≤maxLen∧(a=none→cap=0)∧(0<n→∃b,l.blks=[b]∧a=some ⟨b,i*k,none⟩)∧(i=0→∃n0,l.hdr= .slice a n0 cap)
 | .nilmp,v=>v= .map none
 | .mp ks vs,v=>∃b es clk,v= .map (some b)∧b∉M∧h[b]? =some (.map es clk)∧Oc_ es clk∧rdV ks (es.toList.map (·.key))∧rdV vs (es.toList.map (·.val))
 | .omp id r,v=>∀l,cur id r=some l→∃b,l.blks=[b]∧v= .map (some b)
 | .pk id r,v=>∀l,cur id r=some l→v=l.hdr
 | .nilfn,v=>v= .nilFunc
 | .fn f us cs,v=>∃us' cs':Array Value,v= .func f us' cs'∧rdV us us'.toList∧rdV cs cs'.toList
 | .nilifc,v=>v= .nilIface
 | .ifc t d,v=>∃u,v= .iface t u∧rd d u
 | .agg cs,v=>∃us:Array Value,v= .agg us∧rdV cs us.toList
 | .tup cs,v=>∃us:Array Value,v= .tuple us∧rdV cs us.toList
def rdC : List DVal→Array Value→Nat→Prop
 | [],_,_=>True
 | d::ds,arr,o=>(∃v,arr[o]? =some v∧v.oneCell'=true∧rd d v)∧rdC ds arr (o+1)
def rdR (k:Nat):List (List DVal)→Array Value→Nat→Prop
 | [],_,_=>True
 | cs::es,arr,o=>cs.length=k∧rdC cs arr o∧rdR k es arr (o+k)
def rdV : List DVal→List Value→Prop
 | [],vs=>vs=[]
 | d::ds,vs=>∃v r,vs=v::r∧rd d v∧rdV ds r
end
end
mutual
def mx : DVal→Nat
 | .ref cs=>mxL cs
 | .bx _ r _=>r+1
 | .rx _ r _ _ _=>r+1
 | .osl _ r=>r+1
 | .vw _ r _ _ _ _=>r+1
 | .mp ks vs=>max (mxL ks) (mxL vs)
 | .omp _ r=>r+1
 | .pk _ r=>r+1
 | .sl _ _ es=>mxR es
 | .fn _ us cs=>max (mxL us) (mxL cs)
 | .ifc _ d=>mx d
 | .sel c d=>if c then mx d else 0
 | .agg cs=>mxL cs
 | .tup cs=>mxL cs
 | _=>0
def mxL : List DVal→Nat
 | []=>0
 | d::ds=>max (mx d) (mxL ds)
def mxR : List (List DVal)→Nat
 | []=>0
 | cs::es=>max (mxL cs) (mxR es)
end
section
variable {cur cur' : Cur} {M M' : List Nat} {h h' : Array Obj} {n : Nat}
def isD : Obj→Bool
 | .cells _ _ _=>true
 | .map _ _=>true
 | _=>false
structure Weak (cur cur':Cur) (M M':List Nat) (h h':Array Obj) (n:Nat):Prop where
 c:∀id r l,r<n→cur' id r=some l→cur id r=some l
 b:∀b o,b∉M→isD o=true→h[b]? =some o→h'[b]? =some o
 m:∀b o,b∉M→isD o=true→h[b]? =some o→b∉M'
mutual
theorem BR_ (W:Weak cur cur' M M' h h' n):∀(d:DVal) (v:Value),mx d≤n→rd cur M h d v→rd cur' M' h' d v
 | .any,_,_,_=>by simp[rd]
 | .undef,_,_,hr=>by simpa[rd]using hr
 | .sel c d,v,hm,hr=>by
  simp only[mx]at hm;simp only[rd]at hr ⊢;exact⟨fun h=>BR_ W d v (by rw[if_pos h]at hm;exact hm) (hr.1 h),hr.2⟩
 | .bool _,_,_,hr=>by simpa[rd]using hr
 | .int _ _,_,_,hr=>by simpa[rd]using hr
 | .str _,_,_,hr=>by simpa[rd]using hr
 | .nilp,_,_,hr=>by simpa[rd]using hr
 | .ref cs,v,hm,hr=>by
  simp only[mx]at hm;simp only[rd]at hr ⊢;obtain⟨b,off,arr,ty,fz,h1,h2,h3,h4⟩:=hr;exact⟨b,off,arr,ty,fz,h1,W.m b _ h2 rfl h3,W.b b _ h2 rfl h3,Eh_ W cs arr off hm h4⟩
 | .bx id r off,v,hm,hr=>by
  simp only[mx]at hm;simp only[rd]at hr ⊢;exact fun l hl=>hr l (W.c id r l (by omega) hl)
 | .rx id r k i j,v,hm,hr=>by
  simp only[mx]at hm;simp only[rd]at hr ⊢;exact fun l hl=>hr l (W.c id r l (by omega) hl)
 | .nilsl,_,_,hr=>by simpa[rd]using hr
 | .esl,_,_,hr=>by simpa[rd]using hr
 | .sl k bs es,v,hm,hr=>by
  simp only[mx]at hm;simp only[rd]at hr ⊢;obtain⟨a,cap,h1,h2,h2',h2'',h3⟩:=hr;refine⟨a,cap,h1,h2,h2',h2'',h3.imp id ?_⟩;rintro⟨b,off,arr,ty,fz,g1,g2,g3,g4⟩;exact⟨b,off,arr,ty,fz,g1,W.m b _ g2 rfl g3,W.b b _ g2 rfl g3,BT_ W k es arr off hm g4⟩
 | .osl id r,v,hm,hr=>by
  simp only[mx]at hm;simp only[rd]at hr ⊢;exact fun l hl=>hr l (W.c id r l (by omega) hl)
 | .vw id r k bs i n,v,hm,hr=>by
  simp only[mx]at hm;simp only[rd]at hr ⊢;exact fun l hl=>hr l (W.c id r l (by omega) hl)
 | .nilmp,_,_,hr=>by simpa[rd]using hr
 | .mp ks vs,v,hm,hr=>by
  simp only[mx]at hm;simp only[rd]at hr ⊢;obtain⟨b,es,clk,h1,h2,h3,h4,h5,h6⟩:=hr;exact⟨b,es,clk,h1,W.m b _ h2 rfl h3,W.b b _ h2 rfl h3,h4,AG_ W ks _ (by omega) h5,AG_ W vs _ (by omega) h6⟩
 | .omp id r,v,hm,hr=>by
  simp only[mx]at hm;simp only[rd]at hr ⊢;exact fun l hl=>hr l (W.c id r l (by omega) hl)
 | .pk id r,v,hm,hr=>by
  simp only[mx]at hm;simp only[rd]at hr ⊢;exact fun l hl=>hr l (W.c id r l (by omega) hl)
 | .nilfn,_,_,hr=>by simpa[rd]using hr
 | .fn f us cs,v,hm,hr=>by
  simp only[mx]at hm;simp only[rd]at hr ⊢;obtain⟨us',cs',h1,h2,h3⟩:=hr;exact⟨us',cs',h1,AG_ W us _ (by omega) h2,AG_ W cs _ (by omega) h3⟩
 | .nilifc,_,_,hr=>by simpa[rd]using hr
 | .ifc t d,v,hm,hr=>by
  simp only[mx]at hm;simp only[rd]at hr ⊢;obtain⟨u,h1,h2⟩:=hr;exact⟨u,h1,BR_ W d u hm h2⟩
 | .agg cs,v,hm,hr=>by
  simp only[mx]at hm;simp only[rd]at hr ⊢;obtain⟨us,h1,h2⟩:=hr;exact⟨us,h1,AG_ W cs _ hm h2⟩
 | .tup cs,v,hm,hr=>by
  simp only[mx]at hm;simp only[rd]at hr ⊢;obtain⟨us,h1,h2⟩:=hr;exact⟨us,h1,AG_ W cs _ hm h2⟩
theorem Eh_ (W:Weak cur cur' M M' h h' n):∀(ds:List DVal) (arr:Array Value) (o:Nat),mxL ds≤n→rdC cur M h ds arr o→rdC cur' M' h' ds arr o
 | [],_,_,_,_=>by simp[rdC]
 | d::ds,arr,o,hm,hr=>by
  simp only[mxL]at hm;simp only[rdC]at hr ⊢;obtain⟨⟨v,h1,h1',h2⟩,h3⟩:=hr;exact⟨⟨v,h1,h1',BR_ W d v (by omega) h2⟩,Eh_ W ds arr _ (by omega) h3⟩
theorem BT_ (W:Weak cur cur' M M' h h' n):∀(k:Nat) (es:List (List DVal)) (arr:Array Value) (o:Nat),mxR es≤n→rdR cur M h k es arr o→rdR cur' M' h' k es arr o
 | _,[],_,_,_,_=>by simp[rdR]
 | k,cs::es,arr,o,hm,hr=>by
  simp only[mxR]at hm;simp only[rdR]at hr ⊢;obtain⟨h1,h2,h3⟩:=hr;exact⟨h1,Eh_ W cs arr o (by omega) h2,BT_ W k es arr _ (by omega) h3⟩
theorem AG_ (W:Weak cur cur' M M' h h' n):∀(ds:List DVal) (vs:List Value),mxL ds≤n→rdV cur M h ds vs→rdV cur' M' h' ds vs
 | [],_,_,hr=>by simpa[rdV]using hr
 | d::ds,vs,hm,hr=>by
  simp only[mxL]at hm;simp only[rdV]at hr ⊢;obtain⟨v,r,h1,h2,h3⟩:=hr;exact⟨v,r,h1,BR_ W d v (by omega) h2,AG_ W ds r (by omega) h3⟩
end
end
class DMode where
 dr:Bool
instance (priority:=low) laxMode:DMode:=⟨false⟩
abbrev Ik_ : DMode:=⟨true⟩
variable [DMode]
structure Abs where
 J:List Nat→List Nat→Value→Array Obj→Prop
 weak:∀M M' bl hd h h',(∀b o,b∉M→isD o=true→h[b]? =some o→h'[b]? =some o)→(∀b o,b∉M→isD o=true→h[b]? =some o→b∉M')→(∀b o,b∈bl→h[b]? =some o→h'[b]? =some o)→J M bl hd h→J M' bl hd h'
 one:∀M bl hd h,J M bl hd h→hd.oneCell'=true∧hd.cells= #[hd]
 nd:∀M bl hd h,J M bl hd h→∀b∈bl,∀c,h[b]? ≠some (.deferred c)
inductive DObj where
 | box (cs:List DVal)
 | row (et:TypeId) (k bs:Nat) (es:List (List DVal))
 | map (ks vs:List DVal)
 | abs (A:Abs)
structure Ent where
 id:Nat
 r:Nat
 obj:DObj
structure DS where
 slots:List (Nat×DVal)
 own:List Ent
def getS : List (Nat×DVal)→Nat→DVal
 | [],_=> .any
 | (j,d)::t,i=>if i=j then d else getS t i
def At_ : List Ent→Nat→Option Ent
 | [],_=>none
 | e::t,id=>if e.id=id then some e else At_ t id
def setE : List Ent→Nat→DObj→List Ent
 | [],_,_=>[]
 | e::t,id,o=>if e.id=id then ⟨e.id,e.r,o⟩::t else e::setE t id o
def delE : List Ent→Nat→List Ent
 | [],_=>[]
 | e::t,id=>if e.id=id then delE t id else e::delE t id
def mxS : List (Nat×DVal)→Nat
 | []=>0
 | p::t=>max (mx p.2) (mxS t)
def mxO : DObj→Nat
 | .box cs=>mxL cs
 | .row _ _ _ es=>mxR es
 | .map ks vs=>max (mxL ks) (mxL vs)
 | .abs _=>0
def mxE : List Ent→Nat
 | []=>0
 | e::t=>max (max (e.r+1) (mxO e.obj)) (mxE t)
theorem Pb_ (l:List (Nat×DVal)) (i:Nat):mx (getS l i)≤mxS l:=by
 induction l with
 | nil=>simp[getS,mx,mxS]
 | cons p t ih =>
  obtain⟨j,d⟩:=p;simp only[getS,mxS]
  split<;>omega
theorem AW_ {own:List Ent} {e:Ent} (h:e∈own):e.r<mxE own∧mxO e.obj≤mxE own:=by
 induction own with
 | nil=>cases h
 | cons a t ih =>
  simp only[mxE]
  rcases aK0.1 h with rfl | h
  ·omega
  ·have:=ih h;omega
def Ai_ (own:List Ent) (loc:Nat→Loc):Cur:=fun id r =>
 match At_ own id with
 | some e=>if e.r=r then some (loc id)else none
 | none=>none
def Ab_ (own:List Ent) (loc:Nat→Loc):List Nat:=own.flatMap fun e=>(loc e.id).blks
section
variable (cur : Cur) (M : List Nat) (h : Array Obj)
def MO_ (l:Loc):DObj→Prop
 | .box cs=>∃b arr ty,l.blks=[b]∧h[b]? =some (.cells arr ty (0,0))∧arr.size=cs.length∧rdC cur M h cs arr 0
 | .row et k bs es=>es.length*bs≤150000000000000∧((es=[]∧l.blks=[]∧l.hdr= .slice none 0 0) ∨
  ∃b arr cap,l.blks=[b]∧l.hdr= .slice (some ⟨b,0,none⟩) es.length cap∧h[b]? =some (.cells arr et (0,0))∧es.length≤cap∧cap≤maxLen∧cap*k=arr.size∧rdR cur M h k es arr 0)
 | .map ks vs=>∃b es clk,l.blks=[b]∧h[b]? =some (.map es clk)∧Oc_ es clk∧rdV cur M h ks (es.toList.map (·.key))∧rdV cur M h vs (es.toList.map (·.val))
 | .abs A=>A.J M l.blks l.hdr h
end
theorem AN_ {cur cur':Cur} {M M':List Nat} {h h':Array Obj} {n:Nat} {l:Loc} {obj:DObj} (W:Weak cur cur' M M' h h' n) (hn:mxO obj≤n)
  (keep:∀b o,b∈l.blks→h[b]? =some o→h'[b]? =some o) (hk:MO_ cur M h l obj):MO_ cur' M' h' l obj:=by
 cases obj with
 | box cs =>
  simp only[mxO]at hn;obtain⟨b,arr,ty,h1,h2,h3,h4⟩:=hk;exact⟨b,arr,ty,h1,keep b _ (by simp[h1]) h2,h3,Eh_ W cs arr 0 hn h4⟩
 | row et k bs es =>
  simp only[mxO]at hn;obtain⟨h0,hk⟩:=hk;refine⟨h0,hk.imp id ?_⟩;rintro⟨b,arr,cap,h1,h2,h3,h4,h5,h6,h7⟩;exact⟨b,arr,cap,h1,h2,keep b _ (by simp[h1]) h3,h4,h5,h6,BT_ W k es arr 0 hn h7⟩
 | map ks vs =>
  simp only[mxO]at hn;obtain⟨b,es,clk,h1,h2,h3,h4,h5⟩:=hk;exact⟨b,es,clk,h1,keep b _ (by simp[h1]) h2,h3,AG_ W ks _ (by omega) h4,AG_ W vs _ (by omega) h5⟩
 | abs A=>exact A.weak M M' l.blks l.hdr h h' W.b W.m keep hk
structure St (own:List Ent) (loc:Nat→Loc) (M0:List Nat) (h:Array Obj):Prop where
 nd:(own.map (·.id)).Nodup
 bl:(Ab_ own loc).Nodup
 ap:∀b∈Ab_ own loc,b∉M0
 lt:∀b∈Ab_ own loc++M0,b<h.size
 ok:∀e∈own,MO_ (Ai_ own loc) (Ab_ own loc++M0) h (loc e.id) e.obj
structure Upd (H:List Nat) (w w':World):Prop where
 os:w'.os=w.os
 tape:w'.tape=w.tape
 output:w'.output=w.output
 drawn:DMode.dr=true→w.drawn≤w'.drawn
 size:w.heap.size≤w'.heap.size
 blk:∀b,b<w.heap.size→b∉H→w'.heap[b]? =w.heap[b]?
theorem Upd.refl (H:List Nat) (w:World):Upd H w w:=⟨rfl,rfl,rfl,fun _=>Nat.le_refl _,Nat.le_refl _,fun _ _ _=>rfl⟩
theorem Upd.trans {H H':List Nat} {a b c:World} (h:Upd H a b) (k:Upd H' b c) (hh:∀x∈H',x∈H∨a.heap.size≤x):Upd H a c :=
 ⟨k.os.trans h.os,k.tape.trans h.tape,k.output.trans h.output,fun hd=>Nat.le_trans (h.drawn hd) (k.drawn hd),Nat.le_trans h.size k.size,fun x hx hn =>
  (k.blk x (cG0 hx h.size) (fun hm=>by rcases hh x hm with h1 | h1;exact hn h1;omega)).trans (h.blk x hx hn)⟩
theorem Upd.alloc (H:List Nat) (w:World) (o:Obj):Upd H w (w.alloc o) :=
 ⟨rfl,rfl,rfl,fun _=>Nat.le_refl _,by simp,fun b hb _=>by simp only[World.alloc,bV0];rw[if_neg (by omega)]⟩
theorem Upd.drew (H:List Nat) (w:World):Upd H w w.drew:=⟨rfl,rfl,rfl,fun _=>by simp,Nat.le_refl _,fun _ _ _=>rfl⟩
theorem Upd.nil {H:List Nat} {w w':World} (h:Upd [] w w'):Upd H w w':=⟨h.os,h.tape,h.output,h.drawn,h.size,fun b hb _=>h.blk b hb (by simp)⟩
structure Base where
 own0:List Ent
 loc0:Nat→Loc
 M0:List Nat
 N:Nat
 w0:World
 nt:Nat
 ro:Option Nat:=none
 hN:N≤1:=by decide
 nd:Nat
 hnd:nd≤w0.heap.size
def DfOK (B:Base) (M:List Nat) (a:Act) (h:Array Obj):Prop :=
 ∃rs:List Nat,a.defers=rs.map (fun r=>{ target:= .collected r,args:= #[] })∧rs.Nodup∧(∀r∈rs,h[r]? =some (.deferred (some []))∧B.nd≤r∧r∉M)∧(B.ro≠none→rs=[])
theorem DfOK.keep {B:Base} {M M' H:List Nat} {a a':Act} {w w':World} (hd:DfOK B M a w.heap) (ha:a'.defers=a.defers)
  (hu:Upd H w w') (hH:∀x∈H,x∈M) (hm:∀b∈M',b∈M∨w.heap.size≤b):DfOK B M' a' w'.heap:=by
 obtain⟨rs,h1,h0,h2,h3⟩:=hd;refine⟨rs,ha.trans h1,h0,fun r hr=> ?_,h3⟩;obtain⟨g1,g2,g3⟩:=h2 r hr;have hlt:=(aG0.1 g1).1;refine⟨by rw[hu.blk r hlt (fun h=>g3 (hH r h))];exact g1,g2,fun h=> ?_⟩
 rcases hm r h with h | h
 ·exact g3 h
 ·omega
structure Rel (B:Base) (s:DS) (a:Act) (w:World) (loc:Nat→Loc):Prop where
 st:St s.own loc B.M0 w.heap
 upd:Upd (Ab_ B.own0 B.loc0) B.w0 w
 new:∀b∈Ab_ s.own loc,b∈Ab_ B.own0 B.loc0∨B.w0.heap.size≤b
 ver:∀e∈s.own,e.r<B.N→Ai_ B.own0 B.loc0 e.id e.r=some (loc e.id)
 sl:∀i,rd (Ai_ s.own loc) (Ab_ s.own loc++B.M0) w.heap (getS s.slots i) (a.tmps.getD i Go.undef)
 nt:a.tmps.size=B.nt
 df:DfOK B (Ab_ s.own loc++B.M0) a w.heap
theorem Ax_ {own:List Ent} {id:Nat} {e:Ent} (h:At_ own id=some e):e∈own∧e.id=id:=by
 induction own with
 | nil=>simp[At_]at h
 | cons a t ih =>
  simp only[At_]at h
  split at h
  ·simp only[aA0]at h;subst h;exact⟨aF0,by assumption⟩
  ·have:=ih h;exact⟨aD0 _ this.1,this.2⟩
theorem Bw_ {own:List Ent} (nd:(own.map (·.id)).Nodup) {e:Ent} (h:e∈own):At_ own e.id=some e:=by
 induction own with
 | nil=>cases h
 | cons a t ih =>
  simp only[List.map_cons,cQ0]at nd;simp only[At_]
  rcases aK0.1 h with rfl | h
  ·simp
  ·rw[if_neg,ih nd.2 h];intro he;exact nd.1 (he▸cW0 (f:=(·.id)) h)
theorem Bm_ {own:List Ent} {loc:Nat→Loc} {id r:Nat} {l:Loc} (h:Ai_ own loc id r=some l):∃e∈own,e.id=id∧e.r=r∧l=loc id:=by
 unfold Ai_ at h
 split at h
 ·rename_i e he
  split at h
  ·simp only[aA0]at h;obtain⟨h1,h2⟩:=Ax_ he;exact⟨e,h1,h2,by assumption,h.symm⟩
  ·simp at h
 ·simp at h
theorem AO_ {own:List Ent} {loc:Nat→Loc} {e:Ent} {b:Nat} (h:e∈own) (hb:b∈(loc e.id).blks):b∈Ab_ own loc :=
 bR0.2 ⟨e,h,hb⟩
theorem DP_ {own own':List Ent} {loc loc':Nat→Loc} {M0:List Nat} {w w':World} {n:Nat}
  (hupd:Upd (Ab_ own loc) w w') (hnew:∀b∈Ab_ own' loc',b∈Ab_ own loc∨w.heap.size≤b)
  (hver:∀e∈own',e.r<n→Ai_ own loc e.id e.r=some (loc' e.id)) :
  Weak (Ai_ own loc) (Ai_ own' loc') (Ab_ own loc++M0) (Ab_ own' loc'++M0) w.heap w'.heap n where
 c:=by
  intro id r l hr hl;obtain⟨e,he,rfl,rfl,rfl⟩:=Bm_ hl;exact hver e he hr
 b:=by
  intro b o hb _ ho;have hlt:b<w.heap.size:=(aG0.1 ho).1;rw[hupd.blk b hlt (fun h=>hb (aM0 _ h))];exact ho
 m:=by
  intro b o hb _ ho hm;have hlt:b<w.heap.size:=(aG0.1 ho).1
  rcases aI0.1 hm with h | h
  ·rcases hnew b h with h1 | h1
   ·exact hb (aM0 _ h1)
   ·omega
  ·exact hb (aP0 _ h)
theorem getD_put (a:Act) (dst:Option Nat) (v:Value) (i:Nat) (hd:∀d,dst=some d→d<a.tmps.size) :
  (a.put dst v).tmps.getD i Go.undef=if dst=some i then v else a.tmps.getD i Go.undef:=by
 cases dst with
 | none=>simp[Act.put]
 | some d =>
  have:=hd d rfl;simp only[Act.put,aT0,cU0,aA0]
  by_cases h:d=i
  ·subst h;simp[this]
  ·simp[h]
theorem size_put (a:Act) (dst:Option Nat) (v:Value):(a.put dst v).tmps.size=a.tmps.size:=by
 cases dst<;>simp[Act.put]
theorem ZI_ (a:Act) (dst:Option Nat) (v:Value):(a.put dst v).defers=a.defers:=by
 cases dst<;>rfl
def putS (l:List (Nat×DVal)):Option Nat→DVal→List (Nat×DVal)
 | some i,d=>(i,d)::l
 | none,_=>l
theorem Rel.step {B:Base} {s:DS} {a:Act} {w w':World} {loc loc':Nat→Loc} {own':List Ent} {n:Nat} {v:Value} {d:DVal} {dst:Option Nat}
  (R:Rel B s a w loc) (hn:B.N≤n) (hs:mxS s.slots≤n) (hdst:∀i,dst=some i→i<B.nt)
  (hst:St own' loc' B.M0 w'.heap) (hupd:Upd (Ab_ s.own loc) w w')
  (hnew:∀b∈Ab_ own' loc',b∈Ab_ s.own loc∨w.heap.size≤b)
  (hver:∀e∈own',e.r<n→Ai_ s.own loc e.id e.r=some (loc' e.id))
  (hd:rd (Ai_ own' loc') (Ab_ own' loc'++B.M0) w'.heap d v) :
  Rel B ⟨putS s.slots dst d,own'⟩ (a.put dst v) w' loc' where
 st:=hst
 upd:=R.upd.trans hupd R.new
 new:=by
  intro b hb
  rcases hnew b hb with h | h
  ·exact R.new b h
  ·exact .inr (Nat.le_trans R.upd.size h)
 ver:=by
  intro e he hr;obtain⟨e',he',h1,h2,h3⟩:=Bm_ (hver e he (cG0 hr hn));have:=R.ver e' he' (by omega);rw[h1,h2]at this;rw[this,h3]
 sl:=by
  intro i;have hget:=getD_put a dst v i (fun d hd=>by rw[R.nt];exact hdst d hd);rw[hget];have W:=DP_ (M0:=B.M0) hupd hnew hver
  have hold:rd (Ai_ own' loc') (Ab_ own' loc'++B.M0) w'.heap (getS s.slots i) (a.tmps.getD i Go.undef) :=
   BR_ W _ _ (Nat.le_trans (Pb_ _ _) hs) (R.sl i)
  cases dst with
  | none=>simpa[putS]using hold
  | some j =>
   simp only[putS,getS]
   by_cases hij:i=j
   ·subst hij;simpa using hd
   ·rw[if_neg hij,if_neg (fun h=>hij (Option.some.inj h).symm)];exact hold
 nt:=by rw[size_put];exact R.nt
 df:=by
  refine R.df.keep (ZI_ a dst v) hupd (fun x hx=>aM0 _ hx) ?_;intro b hb
  rcases aI0.1 hb with h | h
  ·rcases hnew b h with h | h
   ·exact .inl (aM0 _ h)
   ·exact .inr h
  ·exact .inl (aP0 _ h)
theorem St.keep {own:List Ent} {loc:Nat→Loc} {M0:List Nat} {w w':World} (h:St own loc M0 w.heap) (u:Upd [] w w'):St own loc M0 w'.heap where
 nd:=h.nd
 bl:=h.bl
 ap:=h.ap
 lt:=fun b hb=>cG0 (h.lt b hb) u.size
 ok:=by
  intro e he
  have W:Weak (Ai_ own loc) (Ai_ own loc) (Ab_ own loc++M0) (Ab_ own loc++M0) w.heap w'.heap (mxO e.obj):=by
   refine DP_ u.nil (fun b hb=> .inl hb) ?_;intro e' he' _;unfold Ai_;rw[Bw_ h.nd he'];simp
  have hb:∀b o,w.heap[b]? =some o→w'.heap[b]? =some o:=fun b o ho=>by
   rw[u.blk b (aG0.1 ho).1 (by simp)];exact ho
  exact AN_ W (Nat.le_refl _) (fun b o _ ho=>hb b o ho) (h.ok e he)
theorem AA_ {own:List Ent} {loc:Nat→Loc} (nd:(own.map (·.id)).Nodup) {e:Ent} (he:e∈own):Ai_ own loc e.id e.r=some (loc e.id):=by
 unfold Ai_;rw[Bw_ nd he];simp
theorem Rel.put {B:Base} {s:DS} {a:Act} {w w':World} {loc:Nat→Loc} {v:Value} {d:DVal} {dst:Option Nat}
  (R:Rel B s a w loc) (hdst:∀i,dst=some i→i<B.nt) (hupd:Upd [] w w')
  (hd:rd (Ai_ s.own loc) (Ab_ s.own loc++B.M0) w'.heap d v):Rel B ⟨putS s.slots dst d,s.own⟩ (a.put dst v) w' loc :=
 R.step (n:=max B.N (mxS s.slots)) (by omega) (by omega) hdst (R.st.keep hupd) hupd.nil (fun b hb=> .inl hb) (fun e he _=>AA_ R.st.nd he) hd
end Go.Dm
end
section
namespace Go.Dm
variable [DMode]
section
variable (P : Program)
def tAgg (t:TypeId):Option Bool :=
 match P.underlying t with
 | some (.struct _)=>some true
 | some (.array _ _)=>some true
 | some _=>some false
 | none=>none
def tCells (t:TypeId):Option Nat:=(P.info? t).map (·.size)
def tField (t f:Nat):Option (Nat×Nat×Bool) :=
 match P.underlying t with
 | some (.struct fs) =>
  match fs[f]? with
  | some fl=>match tCells P fl.type,tAgg P fl.type with
   | some n,some b=>some (fl.offset,n,b)
   | _,_=>none
  | none=>none
 | _=>none
def tElem (t:TypeId):Option (Nat×Nat) :=
 match P.underlying t with
 | some (.slice e)=>(P.info? e).map fun i=>(i.size,i.bytes)
 | _=>none
end
instance (k:IntKind) (n:Int):Decidable (inR k n):=by cases k<;>unfold inR<;>infer_instance
def ofV1 : Value→DVal
 | .bool b=> .bool b
 | .int k n=>if inR k n then .int k n else .any
 | .string s=>if s.size≤maxLen then .str s else .any
 | .pointer none=> .nilp
 | .slice none 0 0=> .nilsl
 | .map none=> .nilmp
 | .nilFunc=> .nilfn
 | .nilIface=> .nilifc
 | _=> .any
def ofV : Value→DVal
 | .agg cs=> .agg (cs.toList.map ofV1)
 | v=>ofV1 v
def ev (l:List (Nat×DVal)):Operand→DVal
 | .tmp t=>getS l t
 | .const v=>ofV v
 | .global _=> .any
 | .func f=> .fn (.func f) [] []
def Db_ (own:List Ent):DVal→Option (List DVal)
 | .ref cs=>some cs
 | .bx id r off=>match At_ own id with
  | some e=>if e.r=r then (match e.obj with | .box cs=>some (cs.drop off) | _=>none)else none
  | none=>none
 | .rx id r k i j=>match At_ own id with
  | some e=>if e.r=r then (match e.obj with | .row _ k' _ es=>if k=k' then (es[i]?).map (·.drop j)else none | _=>none)else none
  | none=>none
 | _=>none
def AU_ (own:List Ent):DVal→Option (Nat×Nat×List (List DVal))
 | .sl k bs es=>some (k,bs,es)
 | .osl id r=>match At_ own id with
  | some e=>if e.r=r then (match e.obj with | .row _ k bs es=>some (k,bs,es) | _=>none)else none
  | none=>none
 | .vw id r k bs i n=>match At_ own id with
  | some e=>if e.r=r then (match e.obj with | .row _ k' bs' es=>if k'=k∧bs'=bs∧i+n≤es.length then some (k,bs,(es.drop i).take n)else none | _=>none)else none
  | none=>none
 | _=>none
section
variable {P : Program} {cur : Cur} {M : List Nat} {h : Array Obj}
theorem rd_ofV1 (v:Value):rd cur M h (ofV1 v) v:=by
 unfold ofV1
 split<;>(try split)<;>simp_all [rd]
theorem Be_ : ∀l:List Value,rdV cur M h (l.map ofV1) l
 | []=>by simp[rdV]
 | v::l=>by
  simp only[List.map_cons,rdV];exact⟨v,l,rfl,rd_ofV1 v,Be_ l⟩
theorem rd_ofV (v:Value):rd cur M h (ofV v) v:=by
 unfold ofV
 split
 ·simp only[rd];exact⟨_,rfl,Be_ _⟩
 ·exact rd_ofV1 v
theorem EW_ : ∀(n:Nat) (cs:List DVal) (arr:Array Value) (o:Nat),rdC cur M h cs arr o→rdC cur M h (cs.drop n) arr (o+n)
 | 0,cs,arr,o,hr=>by simpa using hr
 | n+1,[],arr,o,hr=>by simp[rdC]
 | n+1,d::cs,arr,o,hr=>by
  simp only[rdC]at hr;simpa[cS0,Nat.add_comm 1 n]using EW_ n cs arr (o+1) hr.2
theorem Ei_ : ∀(cs:List DVal) (arr:Array Value) (o:Nat),rdC cur M h cs arr o→∃vs:List Value,vs.length=cs.length∧rdV cur M h cs vs∧∀j v,vs[j]? =some v→arr[o+j]? =some v∧v.oneCell'=true
 | [],arr,o,_=>⟨[],rfl,by simp[rdV],by simp⟩
 | d::cs,arr,o,hr=>by
  simp only[rdC]at hr;obtain⟨⟨v,h1,h2,h3⟩,h4⟩:=hr;obtain⟨vs,g1,g2,g3⟩:=Ei_ cs arr (o+1) h4;refine⟨v::vs,by simp[g1],by simp only[rdV];exact⟨v,vs,rfl,h3,g2⟩,?_⟩;intro j u hj
  cases j with
  | zero=>simp only[bD0,aA0]at hj;subst hj;exact⟨h1,h2⟩
  | succ j =>
   simp only[bJ0]at hj;have:=g3 j u hj
   rwa[show o+1+j=o+(j+1) by omega]at this
theorem Kx_ : ∀(n:Nat) (cs:List DVal) (arr:Array Value) (o:Nat),rdC cur M h cs arr o→rdC cur M h (cs.take n) arr o
 | 0,cs,arr,o,_=>by simp[rdC]
 | n+1,[],arr,o,_=>by simp[rdC]
 | n+1,d::cs,arr,o,hr=>by
  simp only[rdC,dF0]at hr ⊢;exact⟨hr.1,Kx_ n cs arr (o+1) hr.2⟩
theorem DB_ : ∀(k:Nat) (es:List (List DVal)) (arr:Array Value) (o i:Nat) (cs:List DVal),rdR cur M h k es arr o→es[i]? =some cs→cs.length=k∧rdC cur M h cs arr (o+i*k)
 | k,[],arr,o,i,cs,_,hi=>by simp at hi
 | k,c::es,arr,o,0,cs,hr,hi=>by
  simp only[bD0,aA0]at hi;subst hi;simp only[rdR]at hr;exact⟨hr.1,by simpa using hr.2.1⟩
 | k,c::es,arr,o,i+1,cs,hr,hi=>by
  simp only[bJ0]at hi;simp only[rdR]at hr;have:=DB_ k es arr (o+k) i cs hr.2.2 hi
  rwa[show o+k+i*k=o+(i+1)*k by rw[bX0];omega]at this
theorem FC_ : ∀(k:Nat) (es:List (List DVal)) (arr:Array Value) (o:Nat),(∀(i:Nat) (cs:List DVal),es[i]? =some cs→cs.length=k∧rdC cur M h cs arr (o+i*k))→rdR cur M h k es arr o
 | _,[],_,_,_=>by simp[rdR]
 | k,c::es,arr,o,hr=>by
  simp only[rdR];refine⟨(hr 0 c (by simp)).1,by simpa using (hr 0 c (by simp)).2,FC_ k es arr (o+k) fun i cs hi=> ?_⟩;have:=hr (i+1) cs (by simpa using hi)
  rwa[show o+(i+1)*k=o+k+i*k by rw[bX0];omega]at this
end
section
variable {P : Program} {s : DS} {loc : Nat → Loc} {M0 : List Nat} {w : World}
abbrev cu (s:DS) (loc:Nat→Loc):Cur:=Ai_ s.own loc
abbrev hm (s:DS) (loc:Nat→Loc) (M0:List Nat):List Nat:=Ab_ s.own loc++M0
theorem ZL_ (S:St s.own loc M0 w.heap) {p:DVal} {v:Value} {cs:List DVal} (hp:rd (cu s loc) (hm s loc M0) w.heap p v) (hc:Db_ s.own p=some cs) :
  ∃b off arr ty fz,v= .pointer (some ⟨b,off,none⟩)∧w.heap[b]? =some (.cells arr ty fz)∧rdC (cu s loc) (hm s loc M0) w.heap cs arr off:=by
 unfold Db_ at hc
 split at hc
 ·simp only[aA0]at hc;subst hc;simp only[rd]at hp;obtain⟨b,off,arr,ty,fz,h1,_,h3,h4⟩:=hp;exact⟨b,off,arr,ty,fz,h1,h3,h4⟩
 ·rename_i id r off
  split at hc
  ·rename_i e he
   split at hc
   ·rename_i her
    split at hc
    ·rename_i cs0 hobj;simp only[aA0]at hc;subst hc;obtain⟨hm',hid⟩:=Ax_ he;have hk:=S.ok e hm';rw[hobj]at hk;obtain⟨b,arr,ty,h1,h2,h3,h4⟩:=hk;simp only[rd]at hp;obtain⟨b',hb',hv⟩:=hp (loc id) (by unfold cu Ai_;rw[he];simp[her]);rw[←hid,h1]at hb';simp only[bH0,and_true]at hb';subst hb';refine⟨b,off,arr,ty,(0,0),hv,h2,?_⟩;simpa using EW_ off cs0 arr 0 h4
    ·simp at hc
   ·simp at hc
  ·simp at hc
 ·rename_i id r k i j
  split at hc
  ·rename_i e he
   split at hc
   ·rename_i her
    split at hc
    ·rename_i et k' bs es hobj
     split at hc
     ·rename_i hkk;subst hkk;obtain⟨hm',hid⟩:=Ax_ he;have hk:=S.ok e hm';rw[hobj]at hk;obtain⟨_,hk⟩:=hk;simp only[bE0]at hc;obtain⟨c0,hc0,rfl⟩:=hc
      rcases hk with ⟨rfl,_⟩ | ⟨b,arr,cap,h1,h2,h3,h4,h5,h6,h7⟩
      ·simp at hc0
      ·simp only[rd]at hp;obtain⟨b',hb',hv⟩:=hp (loc id) (by unfold cu Ai_;rw[he];simp[her]);rw[←hid,h1]at hb';simp only[bH0,and_true]at hb';subst hb';have:=DB_ k es arr 0 i c0 h7 hc0;refine⟨b,i*k+j,arr,et,(0,0),hv,h3,?_⟩;have h8:=EW_ j c0 arr _ this.2;simpa using h8
     ·simp at hc
    ·simp at hc
   ·simp at hc
  ·simp at hc
 ·simp at hc
theorem Iu_ (S:St s.own loc M0 w.heap) {p:DVal} {v:Value} {k bs:Nat} {es:List (List DVal)} (hp:rd (cu s loc) (hm s loc M0) w.heap p v) (hc:AU_ s.own p=some (k,bs,es)) :
  ∃a cap,v= .slice a es.length cap∧es.length≤cap∧cap≤maxLen∧es.length*bs≤150000000000000 ∧
   (es=[]∨∃b off arr ty fz,a=some ⟨b,off,none⟩∧w.heap[b]? =some (.cells arr ty fz)∧rdR (cu s loc) (hm s loc M0) w.heap k es arr off):=by
 unfold AU_ at hc
 split at hc
 ·simp only[aA0,aW0]at hc;obtain⟨rfl,rfl,rfl⟩:=hc;simp only[rd]at hp;obtain⟨a,cap,h1,h2,h3,h4,h5⟩:=hp;refine⟨a,cap,h1,h2,h3,h4,?_⟩
  rcases h5 with h5 | ⟨b,off,arr,ty,fz,g1,g2,g3,g4⟩
  ·exact .inl h5.1
  ·exact .inr ⟨b,off,arr,ty,fz,g1,g3,g4⟩
 ·rename_i id r
  split at hc
  ·rename_i e he
   split at hc
   ·rename_i her
    split at hc
    ·rename_i et k' bs' es' hobj;simp only[aA0,aW0]at hc;obtain⟨rfl,rfl,rfl⟩:=hc;obtain⟨hm',hid⟩:=Ax_ he;have hk:=S.ok e hm';rw[hobj]at hk;obtain⟨hbs,hk⟩:=hk;simp only[rd]at hp;have hv:=hp (loc id) (by unfold cu Ai_;rw[he];simp[her]);rw[←hid]at hv
     rcases hk with ⟨rfl,_,h2⟩ | ⟨b,arr,cap,h1,h2,h3,h4,h5,h6,h7⟩
     ·refine⟨none,0,by rw[hv,h2];rfl,by simp,by unfold maxLen;omega,by simp,.inl rfl⟩
     ·exact⟨_,cap,by rw[hv,h2],h4,h5,hbs,.inr ⟨b,0,arr,et,(0,0),rfl,h3,h7⟩⟩
    ·simp at hc
   ·simp at hc
  ·simp at hc
 ·rename_i id r k0 bs0 i n
  split at hc
  ·rename_i e he
   split at hc
   ·rename_i her
    split at hc
    ·rename_i et k' bs' es' hobj
     split at hc
     ·rename_i hb;obtain⟨rfl,rfl,hb⟩:=hb;simp only[aA0,aW0]at hc;obtain⟨rfl,rfl,rfl⟩:=hc;obtain⟨hm',hid⟩:=Ax_ he;have hk:=S.ok e hm';rw[hobj]at hk;obtain⟨hbs,hk⟩:=hk;simp only[rd]at hp;obtain⟨a,cap,rfl,g1,g2,_,g3,_⟩:=hp (loc id) (by unfold cu Ai_;rw[he];simp[her]);have hlen:((es'.drop i).take n).length=n:=by simp;omega
      refine⟨a,cap,by rw[hlen],by omega,g2,by rw[hlen];exact Nat.le_trans (aO0 _ (by omega:n≤es'.length)) hbs,?_⟩
      by_cases h0:n=0
      ·subst h0;exact .inl (by simp)
      ·obtain⟨b,hb1,rfl⟩:=g3 (by omega);rw[←hid]at hb1
       rcases hk with ⟨rfl,_⟩ | ⟨b',arr,cap',h1,h2,h3,h4,h5,h6,h7⟩
       ·simp at hb;omega
       ·rw[h1]at hb1;simp only[bH0,and_true]at hb1;subst hb1;refine .inr ⟨b',i*k',arr,et,(0,0),rfl,h3,FC_ _ _ _ _ fun q cs hq=> ?_⟩;rw[eW0]at hq
        split at hq
        ·rw[cT0]at hq;have:=DB_ k' es' arr 0 (i+q) cs h7 hq
         rwa[bX0,bT0]at this
        ·simp at hq
     ·simp at hc
    ·simp at hc
   ·simp at hc
  ·simp at hc
 ·simp at hc
theorem rd_ev {a:Act} (hs:∀i,rd (cu s loc) (hm s loc M0) w.heap (getS s.slots i) (a.tmps.getD i Go.undef)) (x:Operand) :
  rd (cu s loc) (hm s loc M0) w.heap (ev s.slots x) (a.eval x):=by
 cases x with
 | tmp t=>exact hs t
 | const v=>exact rd_ofV v
 | global g=>simp[ev,rd]
 | func f=>simp only[ev,rd,Act.eval];exact⟨#[], #[],rfl,by simp[rdV],by simp[rdV]⟩
theorem Is_ {t:TypeId} {b:Bool} (ht:tAgg P t=some b) (w:World):(isAgg t).run P w= .ok b w:=by
 unfold isAgg
 cases hu:P.underlying t with
 | none=>simp[tAgg,hu]at ht
 | some d =>
  rw[Sem.run_bind,run_underlying hu w];cases d<;>simp[tAgg,hu]at ht<;>subst ht<;>rfl
theorem BW_ {t:TypeId} {n:Nat} (ht:tCells P t=some n) (w:World):(sizeOf t).run P w= .ok n w:=by
 unfold tCells at ht
 cases hi:P.info? t with
 | none=>simp[hi]at ht
 | some i =>
  simp only[hi,dI0,aA0]at ht;simp[sizeOf,typeInfo,hi,ht]
theorem Dd_ (b o n:Nat):Addr.add ⟨b,o,none⟩ n=⟨b,o+n,none⟩:=by unfold Addr.add;split<;>simp_all
end
section
variable (P : Program)
def tInt (t:TypeId):Option IntKind:=match P.underlying t with | some (.int k)=>some k | _=>none
def tStr (t:TypeId):Bool:=match P.underlying t with | some .string=>true | _=>false
def tBool (t:TypeId):Bool:=match P.underlying t with | some .bool=>true | _=>false
def tSl (t:TypeId):Bool:=match P.underlying t with | some (.slice _)=>true | _=>false
def tMp (t:TypeId):Bool:=match P.underlying t with | some (.map _ _)=>true | _=>false
def tPtr (t:TypeId):Bool:=match P.underlying t with | some (.pointer _)=>true | _=>false
def tZero (t:TypeId):Option (List DVal):=match P.info? t with
 | some i=>i.zero.map fun v=>v.cells.toList.map ofV1
 | none=>none
def CD_ (t:TypeId):Option (Array Field):=match P.underlying t with | some (.struct fs)=>some fs | _=>none
end
inductive CK where
 | b
 | i (k:IntKind)
 | s
section
variable (P : Program)
def TX_ (g:TypeId→Option (List CK)):Nat→List Field→Option (List CK)
 | _,[]=>some []
 | o,f::fs=>if f.name= "_" then none else if f.offset≠o then none else
  match g f.type with
  | some ks=>if tCells P f.type=some ks.length then (TX_ g (o+ks.length) fs).map (ks++ ·)else none
  | none=>none
def flat : Nat→TypeId→Option (List CK)
 | 0,_=>none
 | d+1,t=>match P.underlying t with
  | some .bool=>some [.b]
  | some (.int k)=>some [.i k]
  | some .string=>some [.s]
  | some (.struct fs)=>if P.stoodInHeld t then none else TX_ P (flat d) 0 fs.toList
  | _=>none
end
def ckOf : CK→DVal→Bool
 | .b,.bool _=>true
 | .i k,.int k' _=>k==k'
 | .s,.str _=>true
 | _,_=>false
def Bo_ : List CK→List DVal→Bool
 | [],[]=>true
 | k::ks,d::ds=>ckOf k d&&Bo_ ks ds
 | _,_=>false
def eqC : DVal→DVal→Bool
 | .bool a,.bool b=>a==b
 | .int _ a,.int _ b=>a==b
 | .str a,.str b=>a==b
 | _,_=>false
def eqCs : List DVal→List DVal→Bool
 | [],[]=>true
 | x::xs,y::ys=>eqC x y&&eqCs xs ys
 | _,_=>false
def iAnd (k:IntKind) (a b:Int):Int:=k.wrap (BitVec.ofInt k.bits a &&& BitVec.ofInt k.bits b).toNat
def iOr (k:IntKind) (a b:Int):Int:=k.wrap (BitVec.ofInt k.bits a ||| BitVec.ofInt k.bits b).toNat
def iXor (k:IntKind) (a b:Int):Int:=k.wrap (BitVec.ofInt k.bits a ^^^ BitVec.ofInt k.bits b).toNat
def iAndNot (k:IntKind) (a b:Int):Int:=k.wrap (BitVec.ofInt k.bits a &&& ~~~(BitVec.ofInt k.bits b)).toNat
def iShl (k:IntKind) (a b:Int):Int:=k.wrap (a*2 ^ (min b.toNat k.bits))
def iShr (k:IntKind) (a b:Int):Int:=a.fdiv (2 ^ (min b.toNat k.bits))
def dbin (P:Program) (op:BinOp) (t:TypeId):DVal→DVal→Option DVal
 | .int k a,.int k' b=>match op with
  | .shl=>if b<0 then none else some (.int k (iShl k a b))
  | .shr=>if b<0 then none else some (.int k (iShr k a b))
  | _=>if k≠k' then none else match op with
   | .add=>some (.int k (k.wrap (a+b)))
   | .sub=>some (.int k (k.wrap (a-b)))
   | .mul=>some (.int k (k.wrap (a*b)))
   | .quo=>if b=0 then none else some (.int k (k.wrap (a.tdiv b)))
   | .rem=>if b=0 then none else some (.int k (a.tmod b))
   | .and=>some (.int k (iAnd k a b))
   | .or=>some (.int k (iOr k a b))
   | .xor=>some (.int k (iXor k a b))
   | .andNot=>some (.int k (iAndNot k a b))
   | .eql=>some (.bool (a==b))
   | .neq=>some (.bool (a != b))
   | .lss=>some (.bool (decide (a<b)))
   | .leq=>some (.bool (decide (a≤b)))
   | .gtr=>some (.bool (decide (b<a)))
   | .geq=>some (.bool (decide (b≤a)))
   | _=>none
 | .str a,.str b=>match op with
  | .add=>if a.size+b.size≤maxLen then some (.str (a++b))else none
  | .eql=>some (.bool (a==b))
  | .neq=>some (.bool (!(a==b)))
  | .lss=>some (.bool (Op.bytesLess a.data.toList b.data.toList))
  | .leq=>some (.bool (Op.bytesLess a.data.toList b.data.toList||a==b))
  | .gtr=>some (.bool (!(Op.bytesLess a.data.toList b.data.toList||a==b)))
  | .geq=>some (.bool (!Op.bytesLess a.data.toList b.data.toList))
  | _=>none
 | .bool a,.bool b=>if tBool P t then (match op with
  | .eql=>some (.bool (a==b))
  | .neq=>some (.bool (!(a==b)))
  | _=>none)else none
 | .agg xs,.agg ys=>if P.eqGuardType P.depth t then none else if tAgg P t≠some true then none else match flat P 10000 t with
  | some ks=>if Bo_ ks xs&&Bo_ ks ys then (match op with
   | .eql=>some (.bool (eqCs xs ys))
   | .neq=>some (.bool (!eqCs xs ys))
   | _=>none)else none
  | none=>none
 | .nilp,.nilp=>if tPtr P t then (match op with | .eql=>some (.bool true) | .neq=>some (.bool false) | _=>none)else none
 | .nilsl,.nilsl=>if tSl P t then (match op with | .eql=>some (.bool true) | .neq=>some (.bool false) | _=>none)else none
 | .esl,.nilsl=>if tSl P t then (match op with | .eql=>some (.bool false) | .neq=>some (.bool true) | _=>none)else none
 | .sl _ _ (_::_),.nilsl=>if tSl P t then (match op with | .eql=>some (.bool false) | .neq=>some (.bool true) | _=>none)else none
 | .ref _,.nilp=>if tPtr P t then (match op with | .eql=>some (.bool false) | .neq=>some (.bool true) | _=>none)else none
 | .mp _ _,.nilmp=>if tMp P t then (match op with | .eql=>some (.bool false) | .neq=>some (.bool true) | _=>none)else none
 | .nilmp,.nilmp=>if tMp P t then (match op with | .eql=>some (.bool true) | .neq=>some (.bool false) | _=>none)else none
 | _,_=>none
theorem Ie_ (k:IntKind) (n:Int):inR k (k.wrap n):=by
 cases k<;>simp only[IntKind.wrap,IntKind.bits,IntKind.signed,inR]<;>simp<;>(try split)<;>omega
section
variable {P : Program} {cur : Cur} {M : List Nat} {h : Array Obj} {w : World}
theorem beqS (a b:ByteArray):(a.toList==b.toList)=(a==b):=(beq_toListBytes a b).symm
theorem Lt_ {d:Nat} {t:TypeId} {c:CK} {x y:DVal} {u v:Value} (hf:flat P (d+1) t=some [c]) (hns:CD_ P t=none) (hx:ckOf c x=true) (hy:ckOf c y=true)
  (rx:rd cur M h x u) (ry:rd cur M h y v):(Op.equalIn (d+1) t u v).run P w= .ok (eqC x y) w:=by
 simp only[flat]at hf
 split at hf<;>rename_i hu
 ·simp only[aA0,bH0,and_true]at hf;subst hf;cases x<;>simp[ckOf]at hx;cases y<;>simp[ckOf]at hy;simp only[rd]at rx ry;subst rx;subst ry;simpa[eqC]using run_equalIn_bool' (P:=P) w d t _ _ hu
 ·simp only[aA0,bH0,and_true]at hf;subst hf;cases x<;>simp[ckOf]at hx;cases y<;>simp[ckOf]at hy;simp only[rd]at rx ry;obtain⟨rfl,_⟩:=rx;obtain⟨rfl,_⟩:=ry;subst hx;subst hy;simpa[eqC]using run_equalIn_int (P:=P) w d t _ _ _ _ hu
 ·simp only[aA0,bH0,and_true]at hf;subst hf;cases x<;>simp[ckOf]at hx;cases y<;>simp[ckOf]at hy;simp only[rd]at rx ry;obtain⟨rfl,_⟩:=rx;obtain⟨rfl,_⟩:=ry;rw[run_equalIn_string (P:=P) w d t _ _ hu,beqS];rfl
 ·simp[CD_,hu]at hns
 ·simp at hf
theorem Mm_ : ∀(a b c d:List DVal),a.length=b.length→eqCs (a++c) (b++d)=(eqCs a b&&eqCs c d)
 | [],[],_,_,_=>by simp[eqCs]
 | x::a,y::b,c,d,h=>by
  simp only[List.cons_append,eqCs,Mm_ a b c d (by simpa using h),Bool.and_assoc]
theorem Cy_ : ∀(ks:List CK) (ds:List DVal),Bo_ ks ds=true→ds.length=ks.length
 | [],[],_=>rfl
 | [],_::_,h=>by simp[Bo_]at h
 | _::_,[],h=>by simp[Bo_]at h
 | k::ks,d::ds,h=>by
  simp only[Bo_,aN0]at h;simp[Cy_ ks ds h.2]
theorem Ft_ : ∀(k1 k2:List CK) (ds:List DVal),Bo_ (k1++k2) ds=true→Bo_ k1 (ds.take k1.length)=true∧Bo_ k2 (ds.drop k1.length)=true
 | [],k2,ds,h=>by simpa[Bo_]using h
 | k::k1,k2,[],h=>by simp[Bo_]at h
 | k::k1,k2,d::ds,h=>by
  simp only[List.cons_append,Bo_,aN0]at h;have:=Ft_ k1 k2 ds h.2;simpa[Bo_,h.1]using this
theorem Au_ : ∀(ds:List DVal) (vs:List Value),rdV cur M h ds vs→vs.length=ds.length
 | [],vs,hr=>by simp only[rdV]at hr;subst hr;rfl
 | d::ds,vs,hr=>by
  simp only[rdV]at hr;obtain⟨v,r,rfl,_,h3⟩:=hr;simp[Au_ ds r h3]
theorem Rh_ : ∀(ds:List DVal) (vs:List Value) (i:Nat) (d:DVal),rdV cur M h ds vs→ds[i]? =some d→∃v,vs[i]? =some v∧rd cur M h d v
 | [],vs,i,d,_,hi=>by simp at hi
 | d::ds,vs,0,d',hr,hi=>by
  simp only[rdV]at hr;obtain⟨v,r,rfl,h2,_⟩:=hr;simp only[bD0,aA0]at hi;subst hi;exact⟨v,by simp,h2⟩
 | d::ds,vs,i+1,d',hr,hi=>by
  simp only[rdV]at hr;obtain⟨v,r,rfl,_,h3⟩:=hr;simpa using Rh_ ds r i d' h3 (by simpa using hi)
theorem GE_ : ∀(n:Nat) (ds:List DVal) (vs:List Value),rdV cur M h ds vs→rdV cur M h (ds.drop n) (vs.drop n)
 | 0,ds,vs,hr=>by simpa using hr
 | n+1,[],vs,hr=>by simp only[rdV]at hr;subst hr;simp[rdV]
 | n+1,d::ds,vs,hr=>by
  simp only[rdV]at hr;obtain⟨v,r,rfl,_,h3⟩:=hr;simpa using GE_ n ds r h3
theorem GD_ : ∀(n:Nat) (ds:List DVal) (vs:List Value),rdV cur M h ds vs→rdV cur M h (ds.take n) (vs.take n)
 | 0,ds,vs,hr=>by simp[rdV]
 | n+1,[],vs,hr=>by simp only[rdV]at hr;subst hr;simp[rdV]
 | n+1,d::ds,vs,hr=>by
  simp only[rdV]at hr;obtain⟨v,r,rfl,h2,h3⟩:=hr;simp only[dF0,rdV];exact⟨v,_,rfl,h2,GD_ n ds r h3⟩
theorem Bz_ : ∀(a b:List DVal) (u v:List Value),rdV cur M h a u→rdV cur M h b v→rdV cur M h (a++b) (u++v)
 | [],b,u,v,h1,h2=>by simp only[rdV]at h1;subst h1;simpa using h2
 | d::a,b,u,v,h1,h2=>by
  simp only[rdV]at h1;obtain⟨x,r,rfl,h3,h4⟩:=h1;simp only[List.cons_append,rdV];exact⟨x,_,rfl,h3,Bz_ a b r v h4 h2⟩
def FG_ (agg:Bool) (us:List Value):Value:=if agg then .agg us.toArray else us.headD Go.undef
theorem Ku_ {t:TypeId} {b:Bool} {n:Nat} {us:Array Value} {o:Nat} (hb:tAgg P t=some b) (hn:tCells P t=some n) (hn1:b=false→n=1) (hl:o+n≤us.size) :
  (part t us o).run P w= .ok (FG_ b ((us.toList.drop o).take n)) w:=by
 unfold part;rw[Sem.run_bind,Is_ hb]
 cases b with
 | true =>
  simp only[Result.andThen_ok,if_true,Sem.run_bind,BW_ hn,Sem.run_pure,FG_]
  congr 2
  apply Array.ext'
  simp[List.extract,Nat.add_sub_cancel_left]
 | false =>
  have:=hn1 rfl;subst this;have ho:o<us.size:=by omega
  simp only[Result.andThen_ok,aL0,if_false,cD0 ho,Sem.run_pure,FG_]
  congr 1
  rw[aR0 (by simpa using ho)];simp
theorem KJ_ {d:Nat} {t:TypeId} {ks:List CK} (hf:flat P d t=some ks):∃b,tAgg P t=some b∧(b=false→ks.length=1)∧(b=true→CD_ P t≠none)∧(b=false→CD_ P t=none):=by
 cases d with
 | zero=>simp[flat]at hf
 | succ d =>
  simp only[flat]at hf
  split at hf<;>rename_i hu
  ·exact⟨false,by simp[tAgg,hu],fun _=>by simp only[aA0]at hf;subst hf;rfl,by simp,fun _=>by simp[CD_,hu]⟩
  ·exact⟨false,by simp[tAgg,hu],fun _=>by simp only[aA0]at hf;subst hf;rfl,by simp,fun _=>by simp[CD_,hu]⟩
  ·exact⟨false,by simp[tAgg,hu],fun _=>by simp only[aA0]at hf;subst hf;rfl,by simp,fun _=>by simp[CD_,hu]⟩
  ·exact⟨true,by simp[tAgg,hu],by simp,fun _=>by simp[CD_,hu],by simp⟩
  ·simp at hf
def YC_ (P:Program) (cur:Cur) (M:List Nat) (h:Array Obj) (d:Nat):Prop :=
 ∀(t:TypeId) (ks:List CK) (b:Bool) (xs ys:List DVal) (us vs:List Value) (w:World),flat P d t=some ks→tAgg P t=some b→Bo_ ks xs=true→Bo_ ks ys=true →
  rdV cur M h xs us→rdV cur M h ys vs→(Op.equalIn d t (FG_ b us) (FG_ b vs)).run P w= .ok (eqCs xs ys) w
theorem FB_ {d:Nat} (H:YC_ P cur M h d):∀(fs:List Field) (o:Nat) (ks:List CK) (xs ys:List DVal) (us0 vs0 us vs:List Value) (w:World),TX_ P (flat P d) o fs=some ks→Bo_ ks xs=true→Bo_ ks ys=true →
  rdV cur M h xs us→rdV cur M h ys vs→us0.length=o→vs0.length=o→(Op.eqFields d (us0++us).toArray (vs0++vs).toArray fs).run P w= .ok (eqCs xs ys) w
 | [],o,ks,xs,ys,us0,vs0,us,vs,w,hf,hx,hy,_,_,_,_=>by
  simp only[TX_,aA0]at hf;subst hf;have e1:=Cy_ [] xs hx;have e2:=Cy_ [] ys hy;simp only[List.length_nil,fB0]at e1 e2;subst e1;subst e2;simp[Op.eqFields,eqCs]
 | f::fs,o,ks,xs,ys,us0,vs0,us,vs,w,hf,hx,hy,rx,ry,l1,l2=>by
  simp only[TX_]at hf
  split at hf
  ·simp at hf
  rename_i hnm
  split at hf
  ·simp at hf
  rename_i hof;simp only[ne_eq,Decidable.not_not]at hof
  split at hf
  rotate_left
  ·simp at hf
  rename_i k1 hk1
  split at hf
  rotate_left
  ·simp at hf
  rename_i hsz;simp only[bE0]at hf;obtain⟨k2,hk2,rfl⟩:=hf;obtain⟨b,hb,hb1,_,_⟩:=KJ_ hk1;have sx:=Ft_ k1 k2 xs hx;have sy:=Ft_ k1 k2 ys hy;have lx:=Cy_ _ _ hx;have ly:=Cy_ _ _ hy;have rlx:=Au_ _ _ rx;have rly:=Au_ _ _ ry;simp only[aC0]at lx ly;have p1:=Ku_ (P:=P) (w:=w) (us:=(us0++us).toArray) (o:=o) hb hsz hb1 (by simp;omega);have p2:=Ku_ (P:=P) (w:=w) (us:=(vs0++vs).toArray) (o:=o) hb hsz hb1 (by simp;omega)
  have d1:((us0++us).toArray.toList.drop o).take k1.length=us.take k1.length:=by subst l1;simp
  have d2:((vs0++vs).toArray.toList.drop o).take k1.length=vs.take k1.length:=by subst l2;simp
  rw[d1]at p1;rw[d2]at p2;have e1:=H f.type k1 b (xs.take k1.length) (ys.take k1.length) _ _ w hk1 hb sx.1 sy.1 (GD_ _ _ _ rx) (GD_ _ _ _ ry)
  have ih:=FB_ H fs (o+k1.length) k2 (xs.drop k1.length) (ys.drop k1.length) (us0++us.take k1.length) (vs0++vs.take k1.length) (us.drop k1.length) (vs.drop k1.length) w hk2 sx.2 sy.2
   (GE_ _ _ _ rx) (GE_ _ _ _ ry) (by simp;omega) (by simp;omega)
  rw[aU0,aU0,List.take_append_drop,List.take_append_drop]at ih
  have heq:eqCs xs ys=(eqCs (xs.take k1.length) (ys.take k1.length)&&eqCs (xs.drop k1.length) (ys.drop k1.length)):=by
   have ex:=Mm_ (xs.take k1.length) (ys.take k1.length) (xs.drop k1.length) (ys.drop k1.length) (by simp;omega)
   rwa[List.take_append_drop,List.take_append_drop]at ex
  simp only[Op.eqFields,ne_eq,hnm,not_false_eq_true,if_true,Sem.run_bind,hof,p1,p2,Result.andThen_ok,e1];rw[heq];cases hq:eqCs (xs.take k1.length) (ys.take k1.length)
  ·simp
  ·simp only[Bool.not_true,aL0,if_false,cE0];exact ih
theorem Es_ : ∀(d:Nat),YC_ P cur M h d
 | 0=>by intro t ks b xs ys us vs w hf;simp[flat]at hf
 | d+1=>by
  intro t ks b xs ys us vs w hf hb hx hy rx ry;obtain⟨b',hb',h1,h2,h3⟩:=KJ_ hf;rw[hb]at hb';simp only[aA0]at hb';subst hb'
  cases b with
  | false =>
   have hl:=h1 rfl
   match ks,hl with
   | [c],_ =>
    match xs,ys,hx,hy with
    | [x],[y],hx,hy =>
     simp only[Bo_,fE0]at hx hy;simp only[rdV]at rx ry;obtain⟨u,_,rfl,rx,rfl⟩:=rx;obtain⟨v,_,rfl,ry,rfl⟩:=ry;simp only[FG_,aL0,if_false,List.headD_cons];rw[Lt_ hf (h3 rfl) hx hy rx ry];simp[eqCs]
    | [],_,hx,_=>simp[Bo_]at hx
    | _::_::_,_,hx,_=>simp[Bo_]at hx
    | [_],[],_,hy=>simp[Bo_]at hy
    | [_],_::_::_,_,hy=>simp[Bo_]at hy
  | true =>
   have hst:=h2 rfl
   obtain⟨fs,hu⟩:∃fs,P.underlying t=some (.struct fs):=by
    unfold CD_ at hst
    split at hst
    ·exact⟨_,by assumption⟩
    ·simp at hst
   simp only[flat,hu]at hf
   split at hf
   ·simp at hf
   rename_i hsi;have hfo:P.fieldsOf t=fs:=by simp[Program.fieldsOf,hu]
   simp only[FG_,if_true];rw[run_equalIn_struct w d t _ _ (by rw[hfo];exact hu) (by simpa using hsi),hfo];exact FB_ (Es_ d) fs.toList 0 ks xs ys [] [] us vs w hf hx hy rx ry rfl rfl
theorem IZ_ (t:TypeId) (a b:Option Addr):binOp .eql t (.pointer a) (.pointer b)=(do pure (.bool (←Op.equal t (.pointer a) (.pointer b)))):=rfl
theorem IY_ (t:TypeId) (a b:Option Addr):binOp .neq t (.pointer a) (.pointer b)=(do pure (.bool (!(←Op.equal t (.pointer a) (.pointer b))))):=rfl
theorem tPtr_some {t:TypeId} (hb:tPtr P t=true):∃e,P.underlying t=some (.pointer e):=by
 unfold tPtr at hb
 split at hb
 ·exact⟨_,by assumption⟩
 ·simp at hb
theorem HI_ {t:TypeId} (hb:tPtr P t=true) (a:Option Addr) (d:Nat):(Op.equalIn (d+1) t (.pointer a) (.pointer none)).run P w= .ok a.isNone w:=by
 obtain⟨e,ht⟩:=tPtr_some hb;cases a<;>simp[Op.equalIn,run_underlying ht]
theorem EE_ {t:TypeId} (hb:tPtr P t=true) (a:Option Addr):(Op.equal t (.pointer a) (.pointer none)).run P w= .ok a.isNone w :=
 HI_ hb a 9999
theorem Ml_ (op:BinOp) (t:TypeId) (x y:Operand) (a b:Option Addr):(eqGuard op t x y (.pointer a) (.pointer b)).run P w= .ok () w:=by
 cases op<;>rfl
theorem Uf_ {op:BinOp} {t:TypeId} {xo yo:Operand} {d:DVal} (a:Option Addr) (n cap:Nat) (hb:tSl P t=true) (hd:(match op with | .eql=>some (DVal.bool a.isNone) | .neq=>some (.bool (!a.isNone)) | _=>none)=some d) :
  ∃r,(do eqGuard op t xo yo (.slice a n cap) (.slice none 0 0);binOp op t (.slice a n cap) (.slice none 0 0):Sem Value).run P w= .ok r w∧rd cur M h d r:=by
 obtain⟨e,ht⟩:∃e,P.underlying t=some (.slice e):=by
  unfold tSl at hb
  split at hb
  ·exact⟨_,by assumption⟩
  ·simp at hb
 have he:(Op.equal t (.slice a n cap) (.slice none 0 0)).run P w= .ok a.isNone w:=by
  have gen:∀d:Nat,(Op.equalIn (d+1) t (.slice a n cap) (.slice none 0 0)).run P w= .ok a.isNone w:=by
   intro d;cases a<;>simp[Op.equalIn,run_underlying ht]
  exact gen 9999
 cases op<;>simp only[aA0,reduceCtorEq]at hd<;>subst hd
 ·have:binOp .eql t (.slice a n cap) (.slice none 0 0)=(do pure (.bool (←Op.equal t (.slice a n cap) (.slice none 0 0)))):=rfl;rw[this];have g:(eqGuard .eql t xo yo (.slice a n cap) (.slice none 0 0)).run P w= .ok () w:=rfl;simp only[Sem.run_bind,g,Result.andThen_ok,he,Sem.run_pure];exact⟨_,rfl,by simp[rd]⟩
 ·have:binOp .neq t (.slice a n cap) (.slice none 0 0)=(do pure (.bool (!(←Op.equal t (.slice a n cap) (.slice none 0 0))))):=rfl;rw[this];have g:(eqGuard .neq t xo yo (.slice a n cap) (.slice none 0 0)).run P w= .ok () w:=rfl;simp only[Sem.run_bind,g,Result.andThen_ok,he,Sem.run_pure];exact⟨_,rfl,by simp[rd]⟩
theorem dbin_mp {op:BinOp} {t:TypeId} {xo yo:Operand} {d:DVal} (a:Option Nat) (hb:tMp P t=true) (hd:(match op with | .eql=>some (DVal.bool a.isNone) | .neq=>some (.bool (!a.isNone)) | _=>none)=some d) :
  ∃r,(do eqGuard op t xo yo (.map a) (.map none);binOp op t (.map a) (.map none):Sem Value).run P w= .ok r w∧rd cur M h d r:=by
 obtain⟨_,e,ht⟩:∃k e,P.underlying t=some (.map k e):=by
  unfold tMp at hb
  split at hb
  ·exact⟨_,_,by assumption⟩
  ·simp at hb
 have he:(Op.equal t (.map a) (.map none)).run P w= .ok a.isNone w:=by
  have gen:∀d:Nat,(Op.equalIn (d+1) t (.map a) (.map none)).run P w= .ok a.isNone w:=by
   intro d;cases a<;>simp[Op.equalIn,run_underlying ht]
  exact gen 9999
 cases op<;>simp only[aA0,reduceCtorEq]at hd<;>subst hd
 ·have:binOp .eql t (.map a) (.map none)=(do pure (.bool (←Op.equal t (.map a) (.map none)))):=rfl;rw[this];have g:(eqGuard .eql t xo yo (.map a) (.map none)).run P w= .ok () w:=rfl;simp only[Sem.run_bind,g,Result.andThen_ok,he,Sem.run_pure];exact⟨_,rfl,by simp[rd]⟩
 ·have:binOp .neq t (.map a) (.map none)=(do pure (.bool (!(←Op.equal t (.map a) (.map none))))):=rfl;rw[this];have g:(eqGuard .neq t xo yo (.map a) (.map none)).run P w= .ok () w:=rfl;simp only[Sem.run_bind,g,Result.andThen_ok,he,Sem.run_pure];exact⟨_,rfl,by simp[rd]⟩
theorem KL_ (a b:ByteArray):(a.data==b.data)=(a==b):=by
 obtain⟨x⟩:=a;obtain⟨y⟩:=b;rfl
theorem fdiv_inR (k:IntKind) (a:Int) (n:Nat) (ha:inR k a):inR k (a.fdiv (2 ^ n)):=by
 have hp:(1:Int)≤2 ^ n:=by have:(0:Int)<2 ^ n:=Int.pow_pos (by decide);omega
 rw[Int.fdiv_eq_ediv_of_nonneg _ (by omega)];have h1:0≤a→0≤a/2 ^ n∧a/2 ^ n≤a:=fun h=>⟨Int.ediv_nonneg h (by omega),Int.ediv_le_self _ h⟩
 have h2:a<0→a/2 ^ n<0∧a≤a/2 ^ n:=fun h=>⟨Int.ediv_neg_of_neg_of_pos h (by omega),(Int.le_ediv_iff_mul_le (by omega)).2 (by
  have:=Int.mul_le_mul_of_nonpos_left (a:=a) (by omega) hp
  omega)⟩
 cases k<;>simp only[inR]at ha ⊢ <;>(rcases Int.lt_or_le a 0 with h | h<;>first | (have:=h1 h;omega) | (have:=h2 h;omega) | omega)
theorem tmod_inR (k:IntKind) (a b:Int) (ha:inR k a):inR k (a.tmod b):=by
 have h1:0≤a→0≤a.tmod b∧a.tmod b≤a:=fun h=>⟨Int.tmod_nonneg b h,by
  by_cases hb:b=0
  ·subst hb;simp
  ·have:=Int.natAbs_tmod a b;have h5:(a.natAbs%b.natAbs)≤a.natAbs:=Nat.mod_le _ _;have h6:=Int.tmod_nonneg b h
   omega⟩
 have h2:a<0→a.tmod b≤0∧a≤a.tmod b:=fun h=>by
  have e:a.tmod b= -((-a).tmod b):=by rw[Int.neg_tmod];omega
  have h3:=Int.tmod_nonneg b (show 0≤ -a by omega);have h4:=Int.natAbs_tmod (-a) b;have h5:((-a).natAbs%b.natAbs)≤(-a).natAbs:=Nat.mod_le _ _;omega
 cases k<;>simp only[inR]at ha ⊢ <;>(rcases Int.lt_or_le a 0 with h | h<;>first | (have:=h1 h;omega) | (have:=h2 h;omega) | omega)
theorem dbin_int {op:BinOp} {t:TypeId} {xo yo:Operand} {k k':IntKind} {a b:Int} {d:DVal} (ha:inR k a) (hd:dbin P op t (.int k a) (.int k' b)=some d) :
  ∃r,(do eqGuard op t xo yo (.int k a) (.int k' b);binOp op t (.int k a) (.int k' b):Sem Value).run P w= .ok r w∧rd cur M h d r:=by
 cases op<;>simp only[dbin,ne_eq,ite_not]at hd<;>split at hd<;>(try split at hd)<;>(try (simp at hd;done))<;>simp only[aA0,reduceCtorEq]at hd<;>subst hd<;>rename_i hk
 case shl=>simp[eqGuard,binOp,Op.shift,hk,rd,Ie_,iShl]
 case shr=>simp[eqGuard,binOp,Op.shift,hk,rd,fdiv_inR _ _ _ ha,iShr]
 case quo=>rename_i hk1;subst hk1;simp[eqGuard,binOp,Op.intDiv,hk,rd,Ie_]
 case rem=>rename_i hk1;subst hk1;simp[eqGuard,binOp,Op.intDiv,hk,rd,tmod_inR _ _ _ ha]
 all_goals (subst hk;simp[eqGuard,binOp,Op.intArith,Op.intCmp,Op.intBits,rd,Ie_,iAnd,iOr,iXor,iAndNot])
theorem dbin_str {op:BinOp} {t:TypeId} {xo yo:Operand} {a b:ByteArray} {d:DVal} (hd:dbin P op t (.str a) (.str b)=some d) :
  ∃r,(do eqGuard op t xo yo (.string a) (.string b);binOp op t (.string a) (.string b):Sem Value).run P w= .ok r w∧rd cur M h d r:=by
 simp only[dbin]at hd;cases op<;>simp at hd
 case add =>
  obtain⟨h1,rfl⟩:=hd;have h2:(a.size:Int)+(b.size:Int)≤9223372036854775807:=by unfold maxLen at h1;omega
  simp[eqGuard,binOp,Op.stringOp,rd,h2,h1]
 all_goals (subst hd;simp[eqGuard,binOp,Op.stringOp,rd,ByteArray.toList_eq,KL_, -beq_iff_eq])
theorem dbin_ok {op:BinOp} {t:TypeId} {xo yo:Operand} {x y d:DVal} {u v:Value} (hd:dbin P op t x y=some d) (rx:rd cur M h x u) (ry:rd cur M h y v) :
  ∃r,(do eqGuard op t xo yo u v;binOp op t u v:Sem Value).run P w= .ok r w∧rd cur M h d r:=by
 cases x<;>cases y<;>(try (simp[dbin]at hd;done))
 case bool.bool a b =>
  simp only[rd]at rx ry;subst rx;subst ry;simp only[dbin]at hd
  split at hd
  ·rename_i hb
   have ht:P.underlying t=some .bool:=by
    unfold tBool at hb
    split at hb
    ·assumption
    ·simp at hb
   cases op<;>simp at hd<;>subst hd <;>
    simp[eqGuard,binOp,Op.equal,Op.maxDepth,run_equalIn_bool' w _ t _ _ ht,rd]
  ·simp at hd
 case int.int k a k' b =>
  simp only[rd]at rx ry;obtain⟨rfl,rx⟩:=rx;obtain⟨rfl,ry⟩:=ry;exact dbin_int rx hd
 case str.str a b =>
  simp only[rd]at rx ry;obtain⟨rfl,rx⟩:=rx;obtain⟨rfl,ry⟩:=ry;exact dbin_str hd
 case nilp.nilp =>
  simp only[rd]at rx ry;subst rx;subst ry;simp only[dbin]at hd
  split at hd
  ·rename_i hb;have he:=EE_ (P:=P) (w:=w) hb none
   cases op<;>simp only[aA0,reduceCtorEq]at hd<;>subst hd <;>
    simp only[Sem.run_bind,Ml_,Result.andThen_ok,IZ_,IY_,he,Sem.run_pure]<;>exact⟨_,rfl,by simp[rd]⟩
  ·simp at hd
 case nilsl.nilsl =>
  simp only[rd]at rx ry;subst rx;subst ry;simp only[dbin]at hd
  split at hd
  ·rename_i hb;exact Uf_ none 0 0 hb (by simpa using hd)
  ·simp at hd
 case esl.nilsl =>
  simp only[rd]at rx ry;subst ry;obtain⟨ad,cap,rfl,_⟩:=rx;simp only[dbin]at hd
  split at hd
  ·rename_i hb;exact Uf_ (some ad) 0 cap hb (by simpa using hd)
  ·simp at hd
 case sl.nilsl k bs es =>
  cases es with
  | nil=>simp[dbin]at hd
  | cons e0 es =>
   simp only[rd]at rx ry;subst ry;obtain⟨a,cap,rfl,_,_,_,h5⟩:=rx;simp only[dbin]at hd
   split at hd
   ·rename_i hb
    rcases h5 with h5 | ⟨b,off,arr,ty,fz,rfl,_⟩
    ·simp at h5
    ·exact Uf_ _ _ cap hb (by simpa using hd)
   ·simp at hd
 case nilmp.nilmp =>
  simp only[rd]at rx ry;subst rx;subst ry;simp only[dbin]at hd
  split at hd
  ·rename_i hb;exact dbin_mp none hb (by simpa using hd)
  ·simp at hd
 case mp.nilmp ks vs =>
  simp only[rd]at rx ry;subst ry;obtain⟨b,es,clk,rfl,_⟩:=rx;simp only[dbin]at hd
  split at hd
  ·rename_i hb;exact dbin_mp (some b) hb (by simpa using hd)
  ·simp at hd
 case ref.nilp =>
  simp only[rd]at rx ry;subst ry;obtain⟨b,off,arr,ty,fz,rfl,_,_,_⟩:=rx;simp only[dbin]at hd
  split at hd
  ·rename_i hb;have he:=EE_ (P:=P) (w:=w) hb (some ⟨b,off,none⟩)
   cases op<;>simp only[aA0,reduceCtorEq]at hd<;>subst hd <;>
    simp only[Sem.run_bind,Ml_,Result.andThen_ok,IZ_,IY_,he,Sem.run_pure]<;>exact⟨_,rfl,by simp[rd]⟩
  ·simp at hd
 case agg.agg xs ys =>
  simp only[rd]at rx ry;obtain⟨us,rfl,rx⟩:=rx;obtain⟨vs,rfl,ry⟩:=ry;simp only[dbin]at hd
  split at hd
  ·simp at hd
  rename_i hgd
  split at hd
  ·simp at hd
  rename_i hag;simp only[ne_eq,Decidable.not_not]at hag
  split at hd
  ·rename_i ks hks
   split at hd
   ·rename_i hxy;simp only[aN0]at hxy;have e:=Es_ (P:=P) 10000 t ks true xs ys us.toList vs.toList w hks hag hxy.1 hxy.2 rx ry;simp only[FG_,if_true,Array.toArray_toList]at e;have g:(eqGuard op t xo yo (.agg us) (.agg vs)).run P w= .ok () w:=run_eqGuard_agg w op t xo yo us vs (by simpa using hgd)
    cases op<;>simp only[aA0,reduceCtorEq]at hd<;>subst hd <;>
     simp only[Sem.run_bind,g,Result.andThen_ok,run_eql_struct,run_neq_struct,e]<;>exact⟨_,rfl,by simp[rd]⟩
   ·simp at hd
  ·simp at hd
end
section
variable (P : Program)
def tMap (t:TypeId):Option (TypeId×TypeId):=match P.underlying t with | some (.map k e)=>some (k,e) | _=>none
def RQ_ : DVal→Bool
 | .agg _=>true
 | _=>false
def By_ : DVal→List DVal
 | .agg cs=>cs
 | d=>[d]
def CA_ (kt:TypeId) (d:DVal):Bool:=match flat P 10000 kt,tAgg P kt with
 | some cks,some b=>Bo_ cks (By_ d)&&(b==RQ_ d)
 | _,_=>false
def tZeroD (t:TypeId):Option DVal:=match P.info? t with
 | some i=>i.zero.map ofV
 | none=>none
end
def AQ_ : List DVal→DVal→Option Nat
 | [],_=>none
 | k::ks,x=>if eqCs (By_ x) (By_ k)then some 0 else (AQ_ ks x).map (· +1)
section
variable {P : Program} {cur : Cur} {M : List Nat} {h : Array Obj}
theorem EK_ {d:DVal} {v:Value} {b:Bool} (hb:b=RQ_ d) (hr:rd cur M h d v):∃us,rdV cur M h (By_ d) us∧v=FG_ b us:=by
 cases d<;>simp only[RQ_]at hb<;>subst hb<;>simp only[By_]
 case agg cs =>
  simp only[rd]at hr;obtain⟨us,rfl,h2⟩:=hr;exact⟨us.toList,h2,by simp[FG_]⟩
 all_goals exact⟨[v],by simp only[rdV];exact⟨v,[],rfl,hr,rfl⟩,by simp[FG_]⟩
theorem It_ {kt:TypeId} {x k:DVal} {u v:Value} {w:World} (hx:CA_ P kt x=true) (hk:CA_ P kt k=true) (rx:rd cur M h x u) (rk:rd cur M h k v) :
  (Op.equal kt u v).run P w= .ok (eqCs (By_ x) (By_ k)) w:=by
 unfold CA_ at hx hk
 split at hx
 ·rename_i cks b hf hb;rw[hf,hb]at hk;simp only[aN0,beq_iff_eq]at hx hk;obtain⟨us,h1,rfl⟩:=EK_ hx.2 rx;obtain⟨vs,h2,rfl⟩:=EK_ hk.2 rk;exact Es_ (P:=P) 10000 kt cks b _ _ us vs w hf hb hx.1 hk.1 h1 h2
 ·simp at hx
theorem JL_ : ∀(d:Nat) (t:TypeId) (cks:List CK) (b:Bool) (xs:List DVal) (us:List Value) (w:World) (e:Bool),flat P d t=some cks→tAgg P t=some b→Bo_ cks xs=true→rdV cur M h xs us →
  (Instr.checkKey e d t (FG_ b us)).run P w= .ok () w
 | 0,t,cks,b,xs,us,w,e,hf,_,_,_=>by simp[flat]at hf
 | d+1,t,cks,b,xs,us,w,e,hf,hb,hx,rx=>by
  obtain⟨b',hb',h1,h2,h3⟩:=KJ_ hf;rw[hb]at hb';simp only[aA0]at hb';subst hb'
  cases b with
  | false =>
   have hns:=h3 rfl;rw[flat]at hf
   split at hf
   ·rename_i hu;simp[Instr.checkKey,run_underlying hu]
   ·rename_i hu;simp[Instr.checkKey,run_underlying hu]
   ·rename_i hu;simp[Instr.checkKey,run_underlying hu]
   ·rename_i fs hu;simp[CD_,hu]at hns
   ·simp at hf
  | true =>
   have hst:=h2 rfl
   obtain⟨fs,hu⟩:∃fs,P.underlying t=some (.struct fs):=by
    unfold CD_ at hst
    split at hst
    ·exact⟨_,by assumption⟩
    ·simp at hst
   simp only[flat,hu]at hf
   split at hf
   ·simp at hf
   have hfin:∀(fl:List Field) (o:Nat) (ks:List CK) (xs:List DVal) (us0 us:List Value),TX_ P (flat P d) o fl=some ks→Bo_ ks xs=true→rdV cur M h xs us→us0.length=o →
     (forIn fl PUnit.unit (fun(f:Field) (_:PUnit)=>(if f.name≠ "_" then (do let v ←part f.type (us0++us).toArray f.offset;Instr.checkKey e d f.type v;pure (ForInStep.yield PUnit.unit))else pure (ForInStep.yield PUnit.unit):Sem (ForInStep PUnit)))).run P w= .ok PUnit.unit w:=by
    intro fl
    induction fl with
    | nil=>intros;simp
    | cons f fl ih =>
     intro o ks xs us0 us hf hx rx l1;simp only[TX_]at hf
     split at hf
     ·simp at hf
     rename_i hnm
     split at hf
     ·simp at hf
     rename_i hof;simp only[ne_eq,Decidable.not_not]at hof
     split at hf
     rotate_left
     ·simp at hf
     rename_i k1 hk1
     split at hf
     rotate_left
     ·simp at hf
     rename_i hsz;simp only[bE0]at hf;obtain⟨k2,hk2,rfl⟩:=hf;obtain⟨b,hb,hb1,_,_⟩:=KJ_ hk1;have sx:=Ft_ k1 k2 xs hx;have lx:=Cy_ _ _ hx;have rlx:=Au_ _ _ rx;simp only[aC0]at lx;have p1:=Ku_ (P:=P) (w:=w) (us:=(us0++us).toArray) (o:=o) hb hsz hb1 (by simp;omega);have d1:((us0++us).toArray.toList.drop o).take k1.length=us.take k1.length:=by subst l1;simp
     rw[d1]at p1;have e1:=JL_ d f.type k1 b (xs.take k1.length) (us.take k1.length) w e hk1 hb sx.1 (GD_ _ _ _ rx);have ih':=ih (o+k1.length) k2 (xs.drop k1.length) (us0++us.take k1.length) (us.drop k1.length) hk2 sx.2 (GE_ _ _ _ rx) (by simp;omega);rw[aU0,List.take_append_drop]at ih';simp only[List.forIn_cons,ne_eq,hnm,not_false_eq_true,if_true,Sem.run_bind,hof,p1,Result.andThen_ok,e1,Sem.run_pure]
     exact ih'
   have:=hfin fs.toList 0 cks xs [] us hf hx rx rfl;simp only[List.nil_append]at this;simp only[FG_,if_true,Instr.checkKey,Sem.run_bind,run_underlying hu,Result.andThen_ok];rw[←Array.forIn_toList];rw[this];rfl
theorem DC_ {kt:TypeId} {x:DVal} {u:Value} {w:World} {e:Bool} (hx:CA_ P kt x=true) (rx:rd cur M h x u):(Instr.checkKey e 10000 kt u).run P w= .ok () w:=by
 unfold CA_ at hx
 split at hx
 ·rename_i cks b hf hb;simp only[aN0,beq_iff_eq]at hx;obtain⟨us,h1,rfl⟩:=EK_ hx.2 rx;exact JL_ 10000 kt cks b _ us w e hf hb hx.1 h1
 ·simp at hx
theorem Ht_ {kt:TypeId} {x:DVal} {u:Value} {w:World} (hx:CA_ P kt x=true) (rx:rd cur M h x u):∀(es:List MapEntry) (ks:List DVal) (i:Nat),ks.all (CA_ P kt)=true→rdV cur M h ks (es.map (·.key)) →
  (Instr.findAsking kt u es i).run P w= .ok ((AQ_ ks x).map fun j=>(i+j,(es[j]?.map (·.val)).getD Go.undef)) w
 | [],ks,i,_,hr=>by
  have:=Au_ _ _ hr;have:ks=[]:=bO0 (by simpa using this.symm);subst this;simp[Instr.findAsking,AQ_]
 | e::es,ks,i,hk,hr=>by
  cases ks with
  | nil=>have:=Au_ _ _ hr;simp at this
  | cons k ks =>
   simp only[List.map_cons,rdV]at hr;obtain⟨v,r,heq,h1,h2⟩:=hr;simp only[bH0]at heq;obtain⟨rfl,rfl⟩:=heq;simp only[dC0,aN0]at hk;have he:=It_ (w:=w) hx hk.1 rx h1;simp only[Instr.findAsking,Sem.run_bind,he,Result.andThen_ok,AQ_]
   cases hq:eqCs (By_ x) (By_ k)with
   | true=>simp
   | false =>
    simp only[aL0,if_false];rw[Ht_ hx rx es ks (i+1) hk.2 h2]
    cases AQ_ ks x with
    | none=>simp
    | some j=>simp;omega
theorem ET_ {kt:TypeId} {x:DVal} {u:Value} {w:World} (hx:CA_ P kt x=true) (rx:rd cur M h x u) (es:List MapEntry) (ks:List DVal) (hk:ks.all (CA_ P kt)=true) (hr:rdV cur M h ks (es.map (·.key))) :
  (Instr.findKey kt u es).run P w= .ok ((AQ_ ks x).map fun j=>(j,(es[j]?.map (·.val)).getD Go.undef)) w:=by
 have hask:=Ht_ (w:=w) hx rx es ks 0 hk hr;simp only[bT0]at hask
 obtain⟨d,hd⟩:∃d,P.underlying kt=some d:=by
  unfold CA_ at hx
  split at hx
  ·rename_i cks b hf hb;unfold tAgg at hb
   split at hb<;>first | exact⟨_,by assumption⟩ | simp at hb
  ·simp at hx
 simp only[Instr.findKey,Sem.run_bind,run_underlying hd,Result.andThen_ok]
 -- where the types decide at once, they decide alike
 have now:∀(es:List MapEntry) (ks:List DVal) (i:Nat) (r:Option (Nat×Value)),ks.all (CA_ P kt)=true→rdV cur M h ks (es.map (·.key))→Instr.findNow d u es i=some r→r=(AQ_ ks x).map fun j=>(i+j,(es[j]?.map (·.val)).getD Go.undef):=by
  intro es
  induction es with
  | nil =>
   intro ks i r _ hr hn;have:=Au_ _ _ hr;have:ks=[]:=bO0 (by simpa using this.symm);subst this;simp only[Instr.findNow,aA0]at hn;subst hn;simp[AQ_]
  | cons e es ih =>
   intro ks i r hk hr hn
   cases ks with
   | nil=>have:=Au_ _ _ hr;simp at this
   | cons k ks =>
    simp only[List.map_cons,rdV]at hr;obtain⟨v,r',heq,h1,h2⟩:=hr;simp only[bH0]at heq;obtain⟨rfl,rfl⟩:=heq;simp only[dC0,aN0]at hk;have he:=It_ (w:=⟨#[],fun _ _=>0,0,default, #[]⟩) hx hk.1 rx h1
    have hsn:∀b,Instr.sameNow d u e.key=some b→b=eqCs (By_ x) (By_ k):=by
     intro b hb;have e0:Op.equal kt u e.key=Op.equalIn (9999+1) kt u e.key:=rfl;rw[e0]at he;unfold Instr.sameNow at hb
     split at hb
     ·rename_i k1 a k2 b2 heq
      split at hb
      ·rename_i hkk;subst hkk;simp only[aA0]at hb;subst hb;rw[heq]at he;have gen:∀n w k,(Op.equalIn (n+1) kt (.int k a) (.int k b2)).run P w= .ok (a==b2) w:=by intro n w k;simp[Op.equalIn,run_underlying hd]
       rw[gen]at he;simp only[Result.ok.injEq,and_true]at he;exact he
      ·simp at hb
     ·rename_i a b2 heq;simp only[aA0]at hb;subst hb;rw[heq]at he;have gen:∀n w,(Op.equalIn (n+1) kt (.string a) (.string b2)).run P w= .ok (a==b2) w:=by intro n w;simp[Op.equalIn,run_underlying hd]
      rw[gen]at he;simp only[Result.ok.injEq,and_true]at he;exact he
     ·rename_i a b2 heq;simp only[aA0]at hb;subst hb;rw[heq]at he;have gen:∀n w,(Op.equalIn (n+1) kt (.bool a) (.bool b2)).run P w= .ok (a==b2) w:=by intro n w;simp[Op.equalIn,run_underlying hd]
      rw[gen]at he;simp only[Result.ok.injEq,and_true]at he;exact he
     ·simp at hb
    simp only[Instr.findNow]at hn
    split at hn
    ·rename_i hs;simp only[aA0]at hn;subst hn;simp[AQ_,←hsn true hs]
    ·rename_i hs;have:=ih ks (i+1) r hk.2 h2 hn;rw[this];simp only[AQ_,←hsn false hs,aL0,if_false]
     cases AQ_ ks x with
     | none=>simp
     | some j=>simp;omega
    ·simp at hn
 cases hn:Instr.findNow d u es 0 with
 | some r =>
  have:=now es ks 0 r hk hr hn;simp only[bT0]at this;simp[this]
 | none=>exact hask
theorem VG_ : ∀{ks:List DVal} {x:DVal} {j:Nat},AQ_ ks x=some j→j<ks.length
 | [],x,j,h=>by simp[AQ_]at h
 | k::ks,x,j,h=>by
  simp only[AQ_]at h
  split at h
  ·simp only[aA0]at h;subst h;simp
  ·rw[bE0]at h;obtain⟨i,h1,rfl⟩:=h;have:=VG_ h1;simp;omega
theorem tZeroD_ok {t:TypeId} {z:DVal} (hz:tZeroD P t=some z) {w:World}:∃v,(zeroValue t).run P w= .ok v w∧rd cur M h z v:=by
 unfold tZeroD at hz
 split at hz
 ·rename_i i hi;rw[bE0]at hz;obtain⟨v,hv,rfl⟩:=hz;exact⟨v,by simp[zeroValue,typeInfo,hi,hv],rd_ofV v⟩
 ·simp at hz
end
def AC_ : DVal→List DVal
 | .agg cs=>cs
 | d=>[d]
def Dm_ (cells:List DVal) (off:Nat) (cs:List DVal):List DVal:=cells.take off++cs++cells.drop (off+cs.length)
def Km_ (place:Nat→Option (Nat×Nat)) (cells:List DVal):List (Nat×DVal)→Option (List DVal)
 | []=>some cells
 | (i,d)::rest=>match place i with
  | none=>none
  | some (off,size)=>if (AC_ d).length=size∧off+size≤cells.length then Km_ place (Dm_ cells off (AC_ d)) rest else none
def Hk_ (own:List Ent) (id r:Nat):Bool:=match At_ own id with | some e=>e.r==r | none=>false
def oneO (own:List Ent):DVal→Bool
 | .any | .undef | .sel _ _ | .tup _ | .agg _=>false
 | .bx id r _=>Hk_ own id r
 | .rx id r _ _ _=>Hk_ own id r
 | .omp id r=>Hk_ own id r
 | .osl id r=>(AU_ own (.osl id r)).isSome
 | .vw id r _ _ _ _=>Hk_ own id r
 | .pk id r=>match At_ own id with | some e=>e.r==r&&(match e.obj with | .abs _=>true | _=>false) | none=>false
 | _=>true
def Ck_ (own:List Ent) (d:DVal):Bool:=(AC_ d).all (oneO own)
def LE_ (t:Bool):DVal→DVal→DVal
 | .bool p,.bool q=> .bool (if t then p else q)
 | .bool p,.sel _ (.bool q)=> .bool (if t then p else q)
 | .sel _ (.bool p),.bool q=> .bool (if t then p else q)
 | a,b=>if t then a else b
def Iz_ (t:Bool):DVal→DVal→Prop
 | .bool _,.sel c (.bool _)=>t=false→c=true
 | .sel c (.bool _),.bool _=>t=true→c=true
 | _,_=>True
def Gl_ (own:List Ent) (d:DVal) (n:Int):DVal :=
 match d with
 | .sl _ _ es=> .ref (es.getD n.toNat [])
 | .osl id r=>match AU_ own (.osl id r)with | some (k,_,_)=> .rx id r k n.toNat 0 | none=> .any
 | .vw id r k _ i _=> .rx id r k (i+n.toNat) 0
 | _=> .any
def HO_ (own:List Ent):DVal→Option (List DVal×List DVal)
 | .mp ks vs=>some (ks,vs)
 | .nilmp=>some ([],[])
 | .omp id r=>match At_ own id with
  | some e=>if e.r=r then (match e.obj with | .map ks vs=>some (ks,vs) | _=>none)else none
  | none=>none
 | _=>none
def ixV (e:Operand→DVal) (dflt:Int):Option Operand→Int
 | none=>dflt
 | some x=>match e x with | .int _ n=>n | _=> -1
def Ef_ (e:Operand→DVal) (len:Nat) (l h m:Option Operand):Prop :=
 0≤ixV e 0 l∧ixV e 0 l≤ixV e len h∧ixV e len h≤ixV e len m∧ixV e len m≤len∧(m.isSome=true→h.isSome=true)
section
variable (P : Program) (own : List Ent) (e : Operand → DVal)
def bPre : Builtin→List DVal→List TypeId→Prop
 | .len,[d],[t]=>match d with
  | .str _=>tStr P t=true
  | .nilsl=>(tElem P t).isSome=true
  | .mp ks _=>(tMap P t).isSome=true∧(ks.length:Int)≤9223372036854775807
  | .nilmp=>(tMap P t).isSome=true
  | .omp id r=>(tMap P t).isSome=true∧match HO_ own (.omp id r)with | some (ks,_)=>(ks.length:Int)≤9223372036854775807 | none=>False
  | d=>(AU_ own d).isSome=true∧(tElem P t).isSome=true
 | .min,[x,y],_=>match x,y with | .int k _,.int k' _=>k=k' | _,_=>False
 | .max,[x,y],_=>match x,y with | .int k _,.int k' _=>k=k' | _,_=>False
 | .append,[x,y],[t,t']=>match x,y with | .nilsl,.nilsl=>t'=t∧(tElem P t).isSome=true | _,_=>False
 | _,_,_=>False
def bVal : Builtin→List DVal→DVal
 | .len,[d]=>match d with
  | .str s=> .int .i64 s.size
  | .nilsl=> .int .i64 0
  | .mp ks _=> .int .i64 ks.length
  | .nilmp=> .int .i64 0
  | .omp id r=>match HO_ own (.omp id r)with | some (ks,_)=> .int .i64 ks.length | none=> .any
  | d=>match AU_ own d with | some (_,_,es)=> .int .i64 es.length | none=> .any
 | .min,[x,y]=>match x,y with | .int k a,.int _ b=> .int k (if b<a then b else a) | _,_=> .any
 | .max,[x,y]=>match x,y with | .int k a,.int _ b=> .int k (if a<b then b else a) | _,_=> .any
 | .append,[x,y]=>match x,y with | .nilsl,.nilsl=> .nilsl | _,_=> .any
 | _,_=> .any
def Lj_ (t:TypeId) (i:Nat):Option (Nat×Nat):=(tField P t i).map fun x=>(x.1,x.2.1)
def tParts (t:TypeId):Bool:=match CD_ P t with | some fs=>fs.toList.all fun f=>(tCells P f.type).isSome | none=>false
def tElemZ (t:TypeId):Bool:=match P.underlying t with | some (.slice e)=>(tZero P e).isSome | _=>false
def nPre : Op→Prop
 | .move _=>True
 | .assign _=>True
 | .pick c a b=>match e c with | .bool t=>Iz_ t (e a) (e b) | _=>False
 | .fieldAddr t x f=>match tField P t f,e x with
  | some (_,n,_),.ref _=>n≠0
  | some (_,n,_),.bx id r _=>n≠0∧Hk_ own id r=true
  | some (_,n,_),.rx id r _ _ _=>n≠0∧Hk_ own id r=true
  | _,_=>False
 | .load t a=>match tAgg P t,tCells P t,Db_ own (e a)with
  | some true,some n,some cs=>n≤cs.length
  | some false,_,some cs=>0<cs.length
  | _,_,_=>False
 | .indexAddr t x i=>match e i,tElem P t,AU_ own (e x)with
  | .int _ n,some (k,_),some (k',_,es)=>k=k'∧0≤n∧n<es.length
  | _,_,_=>False
 | .index t x i=>match e x,e i with
  | .str s,.int _ n=>tStr P t=true∧0≤n∧n<s.size
  | _,_=>False
 | .field t x f=>match tField P t f,e x with
  | some (off,n,b),.agg cs=>off+n≤cs.length∧(b=false→n=1)
  | _,_=>False
 | .binOp op t x y _=>(dbin P op t (e x) (e y)).isSome=true
 | .unOp op _ x=>match op,e x with
  | .not,.bool _=>True
  | .neg,.int _ _=>True
  | _,_=>False
 | .convert src dst x=>(P.underlying src).isSome=true∧match e x with
  | .int _ _=>(tInt P dst).isSome=true
  | .str _=>tStr P dst=true
  | _=>False
 | .extract x i=>match e x with
  | .tup vs=>i<vs.length
  | _=>False
 | .makeFunc _ _ _=>True
 | .makeInterface t _=>(match P.underlying t with | some (.interface _)=>False | some _=>True | none=>False)
 | .nilCheck x=>match e x with
  | .ref _=>True
  | .bx id r _=>Hk_ own id r=true
  | .rx id r _ _ _=>Hk_ own id r=true
  | .fn (.func _) _ _=>True
  | _=>False
 | .box _ x=>Ck_ own (e x)=true
 | .build t parts=>match tZero P t with
  | some z=>(Km_ (Lj_ P t) z (parts.toList.map fun p=>(p.1,e p.2))).isSome=true∧(parts.toList.all fun p=>Ck_ own (e p.2))=true∧tParts P t=true
  | none=>False
 | .buildSlice t len parts=>match tElem P t with
  | some (k,bs)=>parts.toList.map (·.1)=List.range len∧len*k≤16777216∧len*bs≤150000000000000∧len≤16777216∧0<k∧(parts.toList.all fun p=>Ck_ own (e p.2)&&(AC_ (e p.2)).length==k)=true∧tElemZ P t=true
  | none=>False
 | .call c=>match c.callee with
  | .builtin b=>bPre P own b (c.args.toList.map e) c.argTypes.toList
  | _=>False
 | .slice t x l h m=>match e x with
  | .sl k _ es=>tElem P t=some (k,(tElem P t).elim 0 (·.2))∧Ef_ e es.length l h m
  | .nilsl=>(tElem P t).isSome=true∧Ef_ e 0 l h m
  | .osl id r=>m=none∧match AU_ own (.osl id r)with | some (k,_,es)=>tElem P t=some (k,(tElem P t).elim 0 (·.2))∧Ef_ e es.length l h none | none=>False
  | .vw id r k bs i n=>m=none∧(AU_ own (.vw id r k bs i n)).isSome=true∧tElem P t=some (k,(tElem P t).elim 0 (·.2))∧Ef_ e n l h none
  | .str str=>tStr P t=true∧m=none∧Ef_ e str.size l h none
  | _=>False
 | .lookup t x i _=>match tMap P t,HO_ own (e x)with
  | some (kt,et),some (ks,_)=>CA_ P kt (e i)=true∧ks.all (CA_ P kt)=true∧(tZeroD P et).isSome=true
  | _,_=>False
 | _=>False
def nVal : Op→DVal
 | .move x=>e x
 | .assign x=>e x
 | .pick c a b=>match e c with | .bool t=>LE_ t (e a) (e b) | _=> .any
 | .fieldAddr t x f=>match tField P t f,e x with
  | some (off,_,_),.ref cs=> .ref (cs.drop off)
  | some (off,_,_),.bx id r o=> .bx id r (o+off)
  | some (off,_,_),.rx id r k i j=> .rx id r k i (j+off)
  | _,_=> .any
 | .load t a=>match tAgg P t,tCells P t,Db_ own (e a)with
  | some true,some n,some cs=> .agg (cs.take n)
  | some false,_,some cs=>cs.headD .any
  | _,_,_=> .any
 | .indexAddr _ x i=>match e i with
  | .int _ n=>Gl_ own (e x) n
  | _=> .any
 | .index _ x i=>match e x,e i with
  | .str s,.int _ n=> .int .u8 (s.data.toList.getD n.toNat 0).toNat
  | _,_=> .any
 | .field t x f=>match tField P t f,e x with
  | some (off,n,b),.agg cs=>if b then .agg ((cs.drop off).take n)else (cs.drop off).headD .any
  | _,_=> .any
 | .binOp op t x y _=>(dbin P op t (e x) (e y)).getD .any
 | .unOp op _ x=>match op,e x with
  | .not,.bool b=> .bool (!b)
  | .neg,.int k n=> .int k (k.wrap (0-n))
  | _,_=> .any
 | .convert _ dst x=>match e x with
  | .int _ n=>match tInt P dst with | some k=> .int k (k.wrap n) | none=> .any
  | d=>d
 | .extract x i=>match e x with
  | .tup vs=>vs.getD i .any
  | _=> .any
 | .makeFunc f us cs=> .fn f (us.toList.map e) (cs.toList.map e)
 | .makeInterface t x=> .ifc t (e x)
 | .nilCheck x=>e x
 | .box _ x=> .ref (AC_ (e x))
 | .build t parts=>match tZero P t with
  | some z=> .agg ((Km_ (Lj_ P t) z (parts.toList.map fun p=>(p.1,e p.2))).getD [])
  | none=> .any
 | .buildSlice t _ parts=>match tElem P t with
  | some (k,bs)=> .sl k bs (parts.toList.map fun p=>AC_ (e p.2))
  | none=> .any
 | .call c=>match c.callee with
  | .builtin b=>bVal own b (c.args.toList.map e)
  | _=> .any
 | .slice _ x l h _=>match e x with
  | .sl k bs es=> .sl k bs ((es.drop (ixV e 0 l).toNat).take ((ixV e es.length h).toNat-(ixV e 0 l).toNat))
  | .nilsl=> .nilsl
  | .osl id r=>match AU_ own (.osl id r)with | some (k,bs,es)=> .vw id r k bs (ixV e 0 l).toNat ((ixV e es.length h).toNat-(ixV e 0 l).toNat) | none=> .any
  | .vw id r k bs i n=> .vw id r k bs (i+(ixV e 0 l).toNat) ((ixV e n h).toNat-(ixV e 0 l).toNat)
  | .str str=> .str (str.extract (ixV e 0 l).toNat (ixV e str.size h).toNat)
  | _=> .any
 | .lookup t x i ok=>match tMap P t,HO_ own (e x)with
  | some (_,et),some (ks,vs) =>
   let r:=AQ_ ks (e i)
   let v:=match r with | some j=>vs.getD j .any | none=>(tZeroD P et).getD .any
   if ok then .tup [v,.bool r.isSome]else v
  | _,_=> .any
 | _=> .any
end
section
variable {P : Program} {s : DS} {loc : Nat → Loc} {M0 : List Nat} {w : World} {ρ : Operand → Value}
abbrev Rds (s:DS) (loc:Nat→Loc) (M0:List Nat) (w:World) (d:DVal) (v:Value):Prop:=rd (cu s loc) (hm s loc M0) w.heap d v
def AL_ (P:Program) (s:DS) (loc:Nat→Loc) (M0:List Nat) (w:World) (x:Sem Value) (d:DVal):Prop :=
 ∃v w',x.run P w= .ok v w'∧Upd [] w w'∧rd (cu s loc) (hm s loc M0) w'.heap d v
theorem AL_.same {x:Sem Value} {d:DVal} {v:Value} (hr:x.run P w= .ok v w) (hd:Rds s loc M0 w d v):AL_ P s loc M0 w x d:=⟨v,w,hr,Upd.refl _ _,hd⟩
theorem Lg_ {t f off n:Nat} {b:Bool} {d:DVal} {v:Value} (hf:tField P t f=some (off,n,b)) (hn:n≠0) (hd:Rds s loc M0 w d v)
  (hk:(∃cs,d= .ref cs)∨(∃id r o,d= .bx id r o∧(Ai_ s.own loc id r).isSome=true)∨(∃id r k i j,d= .rx id r k i j∧(Ai_ s.own loc id r).isSome=true)) :
  AL_ P s loc M0 w (Instr.fieldAt t v f) (match d with | .ref cs=> .ref (cs.drop off) | .bx id r o=> .bx id r (o+off) | .rx id r k i j=> .rx id r k i (j+off) | _=> .any):=by
 unfold tField at hf
 split at hf
 ·rename_i fs hu
  split at hf
  ·rename_i fl hfl
   split at hf
   ·rename_i n' b' hn' hb';simp only[aA0,aW0]at hf;obtain⟨rfl,rfl,rfl⟩:=hf
    have main:∀a:Addr,a.spot=none→(Instr.fieldAt t (.pointer (some a)) f).run P w= .ok (.pointer (some ⟨a.block,a.off+fl.offset,none⟩)) w:=by
     intro a ha;obtain⟨ab,ao,asp⟩:=a;simp only at ha;subst ha;simp[Instr.fieldAt,run_underlying hu,hfl,Instr.sureAddr,fieldPlace,BW_ hn',hn,Dd_]
    rcases hk with ⟨cs,rfl⟩ | ⟨id,r,o,rfl,hc⟩ | ⟨id,r,k,i,j,rfl,hc⟩
    ·simp only[Rds,rd]at hd;obtain⟨bb,oo,arr,ty,fz,rfl,h2,h3,h4⟩:=hd;refine AL_.same (main _ rfl) ?_;simp only[Rds,rd];exact⟨bb,oo+fl.offset,arr,ty,fz,rfl,h2,h3,EW_ _ _ _ _ h4⟩
    ·obtain⟨l,hl⟩:=bK0.1 hc;simp only[Rds,rd]at hd;obtain⟨bb,hb1,rfl⟩:=hd l hl;refine AL_.same (main _ rfl) ?_;simp only[Rds,rd];intro l' hl';have:l'=l:=by have h':Ai_ s.own loc id r=some l':=hl';rw[hl]at h';exact(Option.some.inj h').symm
     subst this;exact⟨bb,hb1,rfl⟩
    ·obtain⟨l,hl⟩:=bK0.1 hc;simp only[Rds,rd]at hd;obtain⟨bb,hb1,rfl⟩:=hd l hl;refine AL_.same (main _ rfl) ?_;simp only[Rds,rd];intro l' hl';have:l'=l:=by have h':Ai_ s.own loc id r=some l':=hl';rw[hl]at h';exact(Option.some.inj h').symm
     subst this;exact⟨bb,hb1,by simp[cS0]⟩
   ·simp at hf
  ·simp at hf
 ·simp at hf
theorem LU_ (S:St s.own loc M0 w.heap) {t:TypeId} {d:DVal} {v:Value} {cs:List DVal} {b:Bool} (hb:tAgg P t=some b) (hd:Rds s loc M0 w d v) (hc:Db_ s.own d=some cs)
  (hn:b=true→∃n,tCells P t=some n∧n≤cs.length) (h0:b=false→0<cs.length) :
  ∃ad u,v= .pointer (some ad)∧(loadVar t ad).run P w= .ok u w∧Rds s loc M0 w (match b with | true=> .agg (cs.take ((tCells P t).getD 0)) | false=>cs.headD .any) u:=by
 obtain⟨bb,off,arr,ty,fz,rfl,h2,h3⟩:=ZL_ S hd hc
 cases b with
 | true =>
  obtain⟨n,hn,hle⟩:=hn rfl;obtain⟨vs,g1,g2,g3⟩:=Ei_ _ _ _ (Kx_ n cs arr off h3);have hlen:vs.length=n:=by rw[g1];simp;omega
  have hl:=run_loadCells_list (P:=P) w ⟨bb,off,none⟩ vs (fun j u hj=>by
   rw[Dd_];simp only[World.cell?,h2]
   exact(g3 j u hj).1)
  rw[hlen]at hl;refine⟨_,.agg vs.toArray,rfl,?_,?_⟩
  ·simp[loadVar,Is_ hb,BW_ hn,hl]
  ·simp only[hn,cC0,Rds,rd];exact⟨vs.toArray,rfl,g2⟩
 | false =>
  match cs,h0 rfl,h3 with
  | d0::cs,_,h3 =>
   simp only[rdC]at h3;obtain⟨⟨u,k1,k2,k3⟩,_⟩:=h3;refine⟨_,u,rfl,?_,by simpa[Rds]using k3⟩;simp[loadVar,Is_ hb,run_load,World.cell?,h2,k1]
theorem y_load (S:St s.own loc M0 w.heap) {t:TypeId} {d:DVal} {v:Value} {cs:List DVal} {b:Bool} (hb:tAgg P t=some b) (hd:Rds s loc M0 w d v) (hc:Db_ s.own d=some cs)
  (hn:b=true→∃n,tCells P t=some n∧n≤cs.length) (h0:b=false→0<cs.length) :
  AL_ P s loc M0 w (Instr.loadAt t v) (match b with | true=> .agg (cs.take ((tCells P t).getD 0)) | false=>cs.headD .any):=by
 obtain⟨ad,u,rfl,h1,h2⟩:=LU_ S hb hd hc hn h0;exact AL_.same (v:=u) (by simp[Instr.loadAt,Instr.sureAddr,h1]) h2
theorem Bk_ {t k bs:Nat} (h:tElem P t=some (k,bs)):∃e i,P.underlying t=some (.slice e)∧P.info? e=some i∧i.size=k∧i.bytes=bs∧tCells P e=some k:=by
 unfold tElem at h
 split at h
 ·rename_i e hu
  cases hi:P.info? e with
  | none=>simp[hi]at h
  | some i =>
   simp only[hi,dI0,aA0,aW0]at h;exact⟨e,i,hu,hi,h.1,h.2,by simp[tCells,hi,h.1]⟩
 ·simp at h
theorem y_indexAt (S:St s.own loc M0 w.heap) {t:TypeId} {d:DVal} {v:Value} {ik:IntKind} {n:Int} {k bs bs':Nat} {es:List (List DVal)} (ht:tElem P t=some (k,bs)) (hd:Rds s loc M0 w d v)
  (hr:AU_ s.own d=some (k,bs',es)) (h0:0≤n) (h1:n<es.length) :
  AL_ P s loc M0 w (Instr.indexAt t v (.int ik n)) (Gl_ s.own d n):=by
 obtain⟨e,i,hu,hi,hsz,_,hcells⟩:=Bk_ ht
 have run:∀(a:Addr) (len cap:Nat),n<len→(Instr.indexAt t (.slice (some a) len cap) (.int ik n)).run P w= .ok (.pointer (some (a.add (n.toNat*k)))) w:=by
  intro a len cap hlt;simp[Instr.indexAt,asIntOf,run_underlying hu,h0,hlt,BW_ hcells]
 have hne:es≠[]:=by intro h;subst h;simp at h1;omega
 cases d with
 | sl k0 b0 es0 =>
  simp only[AU_,aA0,aW0]at hr;obtain⟨rfl,rfl,rfl⟩:=hr;simp only[Rds,rd]at hd;obtain⟨a,cap,rfl,g2,g3,g4,g5⟩:=hd
  rcases g5 with g5 | ⟨bb,off,arr,ty,fz,rfl,q1,q2,q3⟩
  ·exact absurd g5.1 hne
  ·refine AL_.same (run _ _ _ h1) ?_;rw[Dd_];simp only[Gl_,Rds,rd];have hlt:n.toNat<es0.length:=by omega
   have hat:=DB_ _ _ _ _ n.toNat (es0[n.toNat]) q3 (aH0 hlt);refine⟨bb,off+n.toNat*k0,arr,ty,fz,rfl,q1,q2,?_⟩;rw[bG0,aH0 hlt];exact hat.2
 | osl id r =>
  have hr':=hr;unfold AU_ at hr;simp only at hr
  split at hr
  ·rename_i e0 he0
   split at hr
   ·rename_i her
    split at hr
    ·rename_i et0 k0 b0 es0 hobj;simp only[aA0,aW0]at hr;obtain⟨rfl,rfl,rfl⟩:=hr;obtain⟨hm',hid⟩:=Ax_ he0;have hk:=S.ok e0 hm';rw[hobj]at hk;obtain⟨_,hk⟩:=hk;have hcur:Ai_ s.own loc id r=some (loc id):=by unfold Ai_;rw[he0];simp[her]
     simp only[Rds,rd]at hd;have hv:=hd (loc id) hcur;rw[←hid]at hv
     rcases hk with ⟨rfl,_⟩ | ⟨b,arr,cap,p1,p2,p3,p4,p5,p6,p7⟩
     ·exact absurd rfl hne
     ·rw[p2]at hv;subst hv;refine AL_.same (run _ _ _ h1) ?_;rw[Dd_];simp only[Gl_,hr',Rds,rd];intro l hl;have hl':Ai_ s.own loc id r=some l:=hl;rw[hcur]at hl';simp only[aA0]at hl';subst hl';exact⟨b,by rw[←hid];exact p1,by simp⟩
    ·simp at hr
   ·simp at hr
  ·simp at hr
 | vw id r kk bb i0 n0 =>
  unfold AU_ at hr;simp only at hr
  split at hr
  ·rename_i e0 he0
   split at hr
   ·rename_i her
    split at hr
    ·rename_i et0 k0 b0 es0 hobj
     split at hr
     ·rename_i hb;obtain⟨rfl,rfl,hb⟩:=hb;simp only[aA0,aW0]at hr;obtain⟨rfl,rfl,rfl⟩:=hr;have hcur:Ai_ s.own loc id r=some (loc id):=by unfold Ai_;rw[he0];simp[her]
      simp only[Rds,rd]at hd;obtain⟨a,cap,rfl,g1,g2,_,g3,_⟩:=hd (loc id) hcur;have hlt:n<(n0:Int):=by simp at h1;omega
      obtain⟨b,hb1,rfl⟩:=g3 (by omega);refine AL_.same (run _ _ _ hlt) ?_;rw[Dd_];simp only[Gl_,Rds,rd];intro l hl;have hl':Ai_ s.own loc id r=some l:=hl;rw[hcur]at hl';simp only[aA0]at hl';subst hl';exact⟨b,hb1,by simp[bX0]⟩
     ·simp at hr
    ·simp at hr
   ·simp at hr
  ·simp at hr
 | _=>simp[AU_]at hr
theorem y_field {t f off n:Nat} {b:Bool} {cs:List DVal} {v:Value} (hf:tField P t f=some (off,n,b)) (hd:Rds s loc M0 w (.agg cs) v) (hl:off+n≤cs.length) (h1:b=false→n=1) :
  AL_ P s loc M0 w (Instr.field t v f) (if b then .agg ((cs.drop off).take n)else (cs.drop off).headD .any):=by
 unfold tField at hf
 split at hf
 rotate_left
 ·simp at hf
 rename_i fs hu
 split at hf
 rotate_left
 ·simp at hf
 rename_i fl hfl
 split at hf
 rotate_left
 ·simp at hf
 rename_i n' b' hn' hb';simp only[aA0,aW0]at hf;obtain⟨rfl,rfl,rfl⟩:=hf;simp only[Rds,rd]at hd;obtain⟨us,rfl,hus⟩:=hd;have hlen:=Au_ _ _ hus;have hp:=Ku_ (P:=P) (w:=w) (us:=us) (o:=fl.offset) hb' hn' h1 (by simp at hlen;omega);have hrd:=GD_ n' _ _ (GE_ fl.offset _ _ hus);refine AL_.same (v:=FG_ b' ((us.toList.drop fl.offset).take n')) ?_ ?_
 ·simp[Instr.field,run_underlying hu,hfl,asAgg,hp]
 ·cases b' with
  | true=>simp only[FG_,if_true,Rds,rd];exact⟨_,rfl,hrd⟩
  | false =>
   have:=h1 rfl;subst this;simp only[FG_,aL0,if_false,Rds];have hlt:fl.offset<cs.length:=by omega
   rw[aR0 hlt]at hrd ⊢;simp only[dF0,List.take_zero,rdV]at hrd;obtain⟨v,r,he,hv,rfl⟩:=hrd;rw[he];simpa[aH0 hlt]using hv
theorem y_newRow {cs:List DVal} {us:List Value} {ty:TypeId} (hus:rdV (cu s loc) (hm s loc M0) w.heap cs us) (hone:∀u∈us,u.oneCell'=true) (S:St s.own loc M0 w.heap) :
  Upd [] w (w.alloc (.cells us.toArray ty))∧w.heap.size∉hm s loc M0∧(w.alloc (.cells us.toArray ty)).heap[w.heap.size]? =some (.cells us.toArray ty (0,0)) ∧
   rdC (cu s loc) (hm s loc M0) (w.alloc (.cells us.toArray ty)).heap cs us.toArray 0:=by
 have hu:=Upd.alloc [] w (.cells us.toArray ty);have hnew:(w.alloc (.cells us.toArray ty)).heap[w.heap.size]? =some (.cells us.toArray ty (0,0)):=heap_alloc_new w _;refine⟨hu,fun hm'=>by have:=S.lt _ hm';omega,hnew,?_⟩
 have W:Weak (cu s loc) (cu s loc) (hm s loc M0) (hm s loc M0) w.heap (w.alloc (.cells us.toArray ty)).heap (mxL cs) :=
  DP_ hu.nil (fun b hb=> .inl hb) (fun e' he' _=>AA_ S.nd he')
 have hus':=AG_ W cs us (Nat.le_refl _) hus
 have key:∀(H:Array Obj) (cs:List DVal) (us pre:List Value),rdV (cu s loc) (hm s loc M0) H cs us→(∀u∈us,u.oneCell'=true)→rdC (cu s loc) (hm s loc M0) H cs (pre++us).toArray pre.length:=by
  intro H cs
  induction cs with
  | nil=>intros;simp[rdC]
  | cons d ds ih =>
   intro us pre hr ho;simp only[rdV]at hr;obtain⟨v,r,rfl,h1,h2⟩:=hr;simp only[rdC];refine⟨⟨v,by simp,ho v aF0,h1⟩,?_⟩;have:=ih r (pre++[v]) h2 (fun u hu=>ho u (aD0 _ hu));simpa using this
 simpa using key _ cs us [] hus' hone
theorem Dq_ {id r:Nat} (hc:Hk_ s.own id r=true):Ai_ s.own loc id r=some (loc id):=by
 unfold Hk_ at hc;unfold Ai_
 split at hc
 ·rename_i e he
  try rw[he]
  have:e.r=r:=by simpa using hc
  simp[this]
 ·simp at hc
theorem oneO_ok (S:St s.own loc M0 w.heap) {d:DVal} {v:Value} (ho:oneO s.own d=true) (hd:Rds s loc M0 w d v):v.oneCell'=true∧v.cells= #[v]:=by
 cases d<;>simp only[oneO,aL0]at ho<;>simp only[Rds,rd]at hd
 case bool=>subst hd;exact⟨rfl,rfl⟩
 case int=>obtain⟨rfl,_⟩:=hd;exact⟨rfl,rfl⟩
 case str=>obtain⟨rfl,_⟩:=hd;exact⟨rfl,rfl⟩
 case nilp=>subst hd;exact⟨rfl,rfl⟩
 case ref=>obtain⟨_,_,_,_,_,rfl,_⟩:=hd;exact⟨rfl,rfl⟩
 case bx id r o=>obtain⟨b,_,rfl⟩:=hd _ (Dq_ ho);exact⟨rfl,rfl⟩
 case rx id r k i j=>obtain⟨b,_,rfl⟩:=hd _ (Dq_ ho);exact⟨rfl,rfl⟩
 case nilsl=>subst hd;exact⟨rfl,rfl⟩
 case esl=>obtain⟨_,_,rfl,_⟩:=hd;exact⟨rfl,rfl⟩
 case sl=>obtain⟨_,_,rfl,_⟩:=hd;exact⟨rfl,rfl⟩
 case osl id r =>
  obtain⟨x,hx⟩:=bK0.1 ho;obtain⟨a,cap,rfl,_⟩:=Iu_ (k:=x.1) (bs:=x.2.1) (es:=x.2.2) (p:= .osl id r) S (by simp only[rd];exact hd) hx;exact⟨rfl,rfl⟩
 case vw id r k bs i n=>obtain⟨_,_,rfl,_⟩:=hd _ (Dq_ ho);exact⟨rfl,rfl⟩
 case nilmp=>subst hd;exact⟨rfl,rfl⟩
 case omp id r=>obtain⟨b,_,rfl⟩:=hd _ (Dq_ ho);exact⟨rfl,rfl⟩
 case nilfn=>subst hd;exact⟨rfl,rfl⟩
 case fn=>obtain⟨_,_,rfl,_⟩:=hd;exact⟨rfl,rfl⟩
 case nilifc=>subst hd;exact⟨rfl,rfl⟩
 case ifc=>obtain⟨_,rfl,_⟩:=hd;exact⟨rfl,rfl⟩
 case mp=>obtain⟨_,_,_,rfl,_⟩:=hd;exact⟨rfl,rfl⟩
 case pk id r =>
  split at ho
  ·rename_i e he;simp only[aN0,beq_iff_eq]at ho;obtain⟨h1,h2⟩:=ho;have hv:=hd (loc id) (by show Ai_ _ _ _ _=_;unfold Ai_;rw[he];simp[h1]);obtain⟨hm',hid⟩:=Ax_ he;have hk:=S.ok e hm'
   split at h2
   ·rename_i A hob;rw[hob]at hk;rw[hv,←hid];exact A.one _ _ _ _ hk
   ·simp at h2
  ·simp at ho
theorem Fc_ (S:St s.own loc M0 w.heap):∀(ds:List DVal) (vs:List Value),ds.all (oneO s.own)=true→rdV (cu s loc) (hm s loc M0) w.heap ds vs→∀v∈vs,v.oneCell'=true
 | [],vs,_,hr=>by simp only[rdV]at hr;subst hr;simp
 | d::ds,vs,ha,hr=>by
  simp only[rdV]at hr;obtain⟨v,r,rfl,h1,h2⟩:=hr;simp only[dC0,aN0]at ha;intro u hu
  rcases aK0.1 hu with rfl | hu
  ·exact(oneO_ok S ha.1 h1).1
  ·exact Fc_ S ds r ha.2 h2 u hu
theorem GS_ (S:St s.own loc M0 w.heap) {d:DVal} {v:Value} (hp:Ck_ s.own d=true) (hd:Rds s loc M0 w d v) :
  rdV (cu s loc) (hm s loc M0) w.heap (AC_ d) v.cells.toList∧∀u∈v.cells.toList,u.oneCell'=true:=by
 have base:oneO s.own d=true→rdV (cu s loc) (hm s loc M0) w.heap [d] v.cells.toList∧∀u∈v.cells.toList,u.oneCell'=true:=by
  intro ho;obtain⟨h1,h2⟩:=oneO_ok S ho hd;rw[h2];refine⟨by simp only[rdV];exact⟨v,[],rfl,hd,rfl⟩,by simpa using h1⟩
 cases d
 case agg cs =>
  simp only[Rds,rd]at hd;obtain⟨us,rfl,hus⟩:=hd;exact⟨hus,Fc_ S cs _ hp hus⟩
 all_goals exact base (by simpa[Ck_,AC_]using hp)
theorem y_box (S:St s.own loc M0 w.heap) {t:TypeId} {d:DVal} {v:Value} (hp:Ck_ s.own d=true) (hd:Rds s loc M0 w d v):AL_ P s loc M0 w (Instr.box t v) (.ref (AC_ d)):=by
 obtain⟨h1,h2⟩:=GS_ S hp hd;obtain⟨g1,g2,g3,g4⟩:=y_newRow (ty:=t) h1 h2 S;refine⟨.pointer (some ⟨w.heap.size,0,none⟩),_,?_,g1,?_⟩
 ·simp[Instr.box,newVar,newRow]
 ·simp only[rd];exact⟨_,0,_,_,_,rfl,g2,g3,g4⟩
theorem Jo_ : ∀(us:List Value) (arr:Array Value) (off i:Nat),off+i+us.length≤arr.size →
  ((us.zipIdx i).foldl (fun cs (c,j)=>cs.setIfInBounds (off+j) c) arr).toList=arr.toList.take (off+i)++us++arr.toList.drop (off+i+us.length)
 | [],arr,off,i,_=>by simp
 | u::us,arr,off,i,h=>by
  simp only[List.length_cons]at h;simp only[fF0,cO0];rw[Jo_ us _ off (i+1) (by simp;omega)];simp only[Array.toList_setIfInBounds,List.length_cons];have hlt:off+i<arr.toList.length:=by simp;omega
  rw[List.set_eq_take_append_cons_drop,if_pos hlt];have e1:(arr.toList.take (off+i)).length=off+i:=by simp;omega
  rw[show off+(i+1)=(off+i)+1 by omega,List.take_append,e1];simp only[aU0,show off+i+1-(off+i)=1 by omega];rw[List.take_take,List.drop_append,e1];simp only[show min (off+i+1) (off+i)=off+i by omega];rw[List.drop_take];have e2:off+i+1+us.length-(off+i)=us.length+1:=by omega
  have e3:off+i-(off+i+1+us.length)=0:=by omega
  simp only[e2,e3,List.take_zero,List.nil_append,dW0,eX0,dF0,List.cons_append];simp
  congr 1
  omega
theorem fill_ok {placeD placeV:Nat→Option (Nat×Nat)} (hpl:∀i x,placeD i=some x→placeV i=some x) :
  ∀(ds:List (Nat×DVal)) (vs:List (Nat×Value)) (cells:List DVal) (arr:Array Value) (out:List DVal),ds.map (·.1)=vs.map (·.1) →
   (∀(i:Nat) (p:Nat×DVal) (q:Nat×Value),ds[i]? =some p→vs[i]? =some q→rdV (cu s loc) (hm s loc M0) w.heap (AC_ p.2) q.2.cells.toList) →
   rdV (cu s loc) (hm s loc M0) w.heap cells arr.toList→Km_ placeD cells ds=some out→∃arr',Instr.fill placeV arr vs=some arr'∧rdV (cu s loc) (hm s loc M0) w.heap out arr'.toList
 | [],vs,cells,arr,out,hi,_,hc,hf=>by
  simp only[List.map_nil]at hi;have:vs=[]:=by cases vs<;>simp_all
  subst this;simp only[Km_,aA0]at hf;subst hf;exact⟨arr,rfl,hc⟩
 | (i,d)::ds,[],cells,arr,out,hi,_,_,_=>by simp at hi
 | (i,d)::ds,(i',v)::vs,cells,arr,out,hi,hr,hc,hf=>by
  simp only[List.map_cons,bH0]at hi;obtain⟨rfl,hi⟩:=hi;simp only[Km_]at hf
  split at hf
  ·simp at hf
  rename_i off size hp
  split at hf
  rotate_left
  ·simp at hf
  rename_i hsz;have h0:=hr 0 (i,d) (i,v) (by simp) (by simp);have hl0:=Au_ _ _ h0;have hlc:=Au_ _ _ hc;simp only[bP0]at hl0 hlc;have hrun:=Jo_ v.cells.toList arr off 0 (by simp;omega)
  have key:rdV (cu s loc) (hm s loc M0) w.heap (Dm_ cells off (AC_ d)) (v.cells.zipIdx.foldl (fun cs (c,j)=>cs.setIfInBounds (off+j) c) arr).toList:=by
   rw[←Array.foldl_toList,Array.toList_zipIdx,hrun];unfold Dm_;refine Bz_ _ _ _ _ (Bz_ _ _ _ _ ?_ h0) ?_
   ·simpa using GD_ off _ _ hc
   ·simpa[hl0]using GE_ (off+(AC_ d).length) _ _ hc
  have ih:=fill_ok hpl ds vs _ _ out hi (fun j p q hp hq=>hr (j+1) p q (by simpa using hp) (by simpa using hq)) key hf;obtain⟨arr',h1,h2⟩:=ih;refine⟨arr',?_,h2⟩;simp only[Instr.fill,hpl _ _ hp];rw[if_neg (by simp;omega)];exact h1
theorem Th_ {t:TypeId} {fs:Array Field} (hu:P.underlying t=some (.struct fs)) (hall:∀f∈fs.toList,(tCells P f.type).isSome=true) :
  (fs.mapM (m:=Sem) fun f=>do pure (f.offset,←sizeOf f.type)).run P w= .ok (fs.map fun f=>(f.offset,(tCells P f.type).getD 0)) w:=by
 rw[←Array.toArray_toList (xs:=fs)]
 generalize fs.toList=l at hall
 rw[List.mapM_toArray]
 have:∀(l:List Field),(∀f∈l,(tCells P f.type).isSome=true)→(l.mapM (m:=Sem) fun f=>do pure (f.offset,←sizeOf f.type)).run P w= .ok (l.map fun f=>(f.offset,(tCells P f.type).getD 0)) w:=by
  intro l
  induction l with
  | nil=>intro _;simp
  | cons f l ih =>
   intro h;obtain⟨n,hn⟩:=bK0.1 (h f aF0);have ih':=ih (fun g hg=>h g (aD0 _ hg));simp only[List.mapM_cons,Sem.run_bind,BW_ hn,Result.andThen_ok,Sem.run_pure,ih',List.map_cons,hn,cC0]
 rw[Sem.run_map,this l hall];simp
theorem GC_ {t:TypeId} {z:List DVal} (hz:tZero P t=some z):∃v,(zeroValue t).run P w= .ok v w∧z=v.cells.toList.map ofV1:=by
 unfold tZero at hz
 split at hz
 ·rename_i i hi
  cases hv:i.zero with
  | none=>simp[hv]at hz
  | some v =>
   simp only[hv,dI0,aA0]at hz;exact⟨v,by simp[zeroValue,typeInfo,hi,hv],hz.symm⟩
 ·simp at hz
theorem y_build (S:St s.own loc M0 w.heap) {t:TypeId} {z out:List DVal} {fs:Array Field} {ds:List (Nat×DVal)} {vs:Array (Nat×Value)} (hz:tZero P t=some z) (hs:CD_ P t=some fs)
  (hall:fs.toList.all (fun f=>(tCells P f.type).isSome)=true)
  (hi:ds.map (·.1)=vs.toList.map (·.1)) (hr:∀(i:Nat) (p:Nat×DVal) (q:Nat×Value),ds[i]? =some p→vs.toList[i]? =some q→rdV (cu s loc) (hm s loc M0) w.heap (AC_ p.2) q.2.cells.toList)
  (hf:Km_ (Lj_ P t) z ds=some out):AL_ P s loc M0 w (Instr.build t vs) (.agg out):=by
 obtain⟨zv,hzr,rfl⟩:=GC_ (w:=w) hz
 have hu:P.underlying t=some (.struct fs):=by
  unfold CD_ at hs
  split at hs
  ·simp only[aA0]at hs;subst hs;assumption
  ·simp at hs
 have hm':=Th_ (P:=P) (w:=w) hu (bA0.1 hall)
 have hpl:∀i x,Lj_ P t i=some x→((fs.map fun f=>(f.offset,(tCells P f.type).getD 0))[i]?)=some x:=by
  intro i x hx;unfold Lj_ tField at hx;rw[hu]at hx;simp only at hx
  cases hfi:fs[i]? with
  | none=>simp[hfi]at hx
  | some f =>
   simp only[hfi]at hx
   cases hc:tCells P f.type with
   | none=>simp[hc]at hx
   | some n =>
    cases ha:tAgg P f.type with
    | none=>simp[hc,ha]at hx
    | some b =>
     simp only[hc,ha,dI0,aA0]at hx;simp[hfi,hc,hx]
 obtain⟨arr',h1,h2⟩:=fill_ok hpl ds vs.toList _ zv.cells out hi hr (Be_ _) hf;refine AL_.same (v:= .agg arr') ?_ (by simp only[Rds,rd];exact⟨arr',rfl,h2⟩);simp only[Instr.build,Sem.run_bind,hzr,Result.andThen_ok,run_underlying hu,hm',h1,Sem.run_pure]
theorem y_len (S:St s.own loc M0 w.heap) {t ty:TypeId} {d:DVal} {v:Value} {k bs:Nat} {es:List (List DVal)} (ht:(tElem P t).isSome=true) (hd:Rds s loc M0 w d v) (hr:AU_ s.own d=some (k,bs,es)) :
  AL_ P s loc M0 w (Builtin.len_ #[t] ty #[v]) (.int .i64 es.length):=by
 obtain⟨x,hx⟩:=bK0.1 ht;obtain⟨e,i,hu,_⟩:=Bk_ (k:=x.1) (bs:=x.2) hx;obtain⟨a,cap,rfl,h2,h3,_⟩:=Iu_ S hd hr;refine AL_.same (v:= .int .i64 es.length) ?_ ?_
 ·simp[Builtin.len_,run_underlying hu,goInt]
 ·simp only[Rds,rd,inR,true_and];unfold maxLen at h3;omega
theorem Wc_ (k:Nat):∀(vs:List (Nat×Value)) (i0:Nat) (pre rest:List Value),vs.map (·.1)=List.range' i0 vs.length→(∀q∈vs,q.2.cells.size=k)→pre.length=i0*k→rest.length=vs.length*k →
  Instr.fill (fun i=>some (i*k,k)) (pre++rest).toArray vs=some (pre++vs.flatMap fun q=>q.2.cells.toList).toArray
 | [],i0,pre,rest,_,_,_,hr=>by
  simp only[List.length_nil,Nat.zero_mul,fB0]at hr;subst hr;simp[Instr.fill]
 | (i,v)::vs,i0,pre,rest,hi,hk,hp,hr=>by
  simp only[List.map_cons,List.length_cons,List.range'_succ,bH0]at hi;obtain⟨rfl,hi⟩:=hi;have hv:v.cells.size=k:=hk _ aF0;simp only[List.length_cons,bX0,Nat.one_mul]at hr;simp only[Instr.fill];rw[if_neg (by simp;omega)];have hrun:=Jo_ v.cells.toList (pre++rest).toArray (i*k) 0 (by simp;omega)
  have e:(v.cells.zipIdx.foldl (fun cs (c,j)=>cs.setIfInBounds (i*k+j) c) (pre++rest).toArray)=((pre++v.cells.toList)++rest.drop k).toArray:=by
   apply Array.ext'
   rw[←Array.foldl_toList,Array.toList_zipIdx,hrun];simp only[cV0,aU0];rw[eQ0 (by omega),bW0 (by omega),bP0,hv,←hp,List.drop_append,cP0 (by omega)];simp
  rw[e,Wc_ k vs (i+1) (pre++v.cells.toList) (rest.drop k) hi (fun q hq=>hk q (aD0 _ hq)) (by simp[hp,hv,bX0]) (by simp;omega)];simp
theorem Vd_ {cur:Cur} {M:List Nat} {H:Array Obj} (k:Nat):∀(ds:List (List DVal)) (vs:List (List Value)) (pre:List Value),ds.length=vs.length →
  (∀(i:Nat) (cs:List DVal) (us:List Value),ds[i]? =some cs→vs[i]? =some us→cs.length=k∧rdV cur M H cs us∧∀u∈us,u.oneCell'=true)→rdR cur M H k ds (pre++vs.flatten).toArray pre.length
 | [],vs,pre,_,_=>by simp[rdR]
 | d::ds,[],pre,hl,_=>by simp at hl
 | d::ds,u::vs,pre,hl,h=>by
  have h0:=h 0 d u (by simp) (by simp);have hlen:=Au_ _ _ h0.2.1
  have key:∀(cs:List DVal) (us pre post:List Value),rdV cur M H cs us→(∀u∈us,u.oneCell'=true)→rdC cur M H cs (pre++us++post).toArray pre.length:=by
   intro cs
   induction cs with
   | nil=>intros;simp[rdC]
   | cons d ds ih =>
    intro us pre post hr ho;simp only[rdV]at hr;obtain⟨v,r,rfl,h1,h2⟩:=hr;simp only[rdC];refine⟨⟨v,by simp,ho v aF0,h1⟩,?_⟩;have:=ih r (pre++[v]) post h2 (fun u hu=>ho u (aD0 _ hu));simpa using this
  simp only[rdR];refine⟨h0.1,?_,?_⟩
  ·have:=key d u pre vs.flatten h0.2.1 h0.2.2;simpa using this
  ·have ih:=Vd_ k ds vs (pre++u) (by simpa using hl) (fun i cs us h1 h2=>h (i+1) cs us (by simpa using h1) (by simpa using h2));have e:(pre++u).length=pre.length+k:=by simp[hlen,h0.1]
   rw[e]at ih;simpa using ih
theorem Hu_ (S:St s.own loc M0 w.heap) {t len k bs:Nat} {ds:List DVal} {vs:Array (Nat×Value)} (ht:tElem P t=some (k,bs)) (hk0:0<k) (hl1:len*k≤16777216) (hl2:len*bs≤150000000000000) (hl3:len≤16777216)
  (hi:vs.toList.map (·.1)=List.range len) (hlen:ds.length=len) (hp:ds.all (fun d=>Ck_ s.own d&&(AC_ d).length==k)=true)
  (hr:∀(i:Nat) (d:DVal) (q:Nat×Value),ds[i]? =some d→vs.toList[i]? =some q→Rds s loc M0 w d q.2)
  (hz:(match P.underlying t with | some (.slice e)=>(tZero P e).isSome | _=>false)=true):∃(e:TypeId) (us:List Value),P.underlying t=some (.slice e)∧(Instr.buildSlice t len vs).run P w= .ok (.slice (some ⟨w.heap.size,0,none⟩) len len) (w.alloc (.cells us.toArray e))∧us.length=len*k∧rdR (cu s loc) (hm s loc M0) w.heap k (ds.map AC_) us.toArray 0:=by
 obtain⟨e,ei,hu,hei,_,_,hce⟩:=Bk_ ht;rw[hu]at hz;obtain⟨z,hz⟩:=bK0.1 hz;obtain⟨zv,hzr,_⟩:=GC_ (w:=w) hz;have hvl:vs.toList.length=len:=by have:=congrArg List.length hi;simpa using this
 have hcell:∀(i:Nat) (d:DVal) (q:Nat×Value),ds[i]? =some d→vs.toList[i]? =some q→(AC_ d).length=k∧rdV (cu s loc) (hm s loc M0) w.heap (AC_ d) q.2.cells.toList∧∀u∈q.2.cells.toList,u.oneCell'=true:=by
  intro i d q hd hq;have h1:=bA0.1 hp d (bL0 hd);simp only[aN0,beq_iff_eq]at h1;exact⟨h1.2,GS_ S h1.1 (hr i d q hd hq)⟩
 have hsz:∀q∈vs.toList,q.2.cells.size=k:=by
  intro q hq;obtain⟨i,hi',hq'⟩:=bN0 hq;have hid:i<ds.length:=by omega
  have:=hcell i ds[i] q (aH0 hid) (by rw[aH0 hi',hq']);have hl:=Au_ _ _ this.2.1;simp only[bP0]at hl;omega
 have hfill:∀Z:Array Value,Z.size=len*k→Instr.fill (fun i=>some (i*k,k)) Z vs.toList=some (vs.toList.flatMap fun q=>q.2.cells.toList).toArray:=by
  intro Z hZs;have:=Wc_ k vs.toList 0 [] Z.toList (by rw[hi,hvl,List.range_eq_range']) hsz (by simp) (by simp only[bP0,hZs,hvl]);simpa using this
 let us:List Value:=vs.toList.flatMap fun q=>q.2.cells.toList
 have hul:∀l:List (Nat×Value),(∀q∈l,q.2.cells.size=k)→(l.flatMap fun q=>q.2.cells.toList).length=l.length*k:=by
  intro l
  induction l with
  | nil=>intro _;simp
  | cons q l ih =>
   intro hq;have h1:=hq q aF0;have h2:=ih fun x hx=>hq x (aD0 _ hx)
   simp only[cM0,aC0,List.length_cons,bP0,h1,h2,bX0];omega
 refine⟨e,us,hu,?_,by rw[hul _ hsz,hvl],?_⟩
 ·have h24':(2:Nat) ^ 24=16777216:=by decide
  have h24:¬(len*k > 2 ^ 24):=by omega
  simp only[Instr.buildSlice,Sem.run_bind,run_underlying hu,Result.andThen_ok,BW_ hce,h24,if_false]
  by_cases h0:len*k=0
  ·simp only[h0,if_true,Sem.run_bind,Sem.run_pure,Result.andThen_ok];rw[hfill _ (by simp[h0])];simp[newRow,us]
  ·simp only[h0,if_false,Sem.run_bind,hzr,Sem.run_pure,Result.andThen_ok];rw[hfill _ (by simp)];simp[newRow,us]
 ·have:=Vd_ (cur:=cu s loc) (M:=hm s loc M0) (H:=w.heap) k (ds.map AC_) (vs.toList.map fun q=>q.2.cells.toList) [] (by rw[aJ0,aJ0,hlen,hvl]) (by
   intro i cs us h1 h2;simp only[bI0,bE0]at h1 h2;obtain⟨d,hd,rfl⟩:=h1;obtain⟨q,hq,rfl⟩:=h2
   exact hcell i d q hd hq)
  simpa[us,List.flatMap]using this
theorem Qw_ (S:St s.own loc M0 w.heap) {t len k bs:Nat} {ds:List DVal} {vs:Array (Nat×Value)} (ht:tElem P t=some (k,bs)) (hk0:0<k) (hl1:len*k≤16777216) (hl2:len*bs≤150000000000000) (hl3:len≤16777216)
  (hi:vs.toList.map (·.1)=List.range len) (hlen:ds.length=len) (hp:ds.all (fun d=>Ck_ s.own d&&(AC_ d).length==k)=true)
  (hr:∀(i:Nat) (d:DVal) (q:Nat×Value),ds[i]? =some d→vs.toList[i]? =some q→Rds s loc M0 w d q.2)
  (hz:(match P.underlying t with | some (.slice e)=>(tZero P e).isSome | _=>false)=true):AL_ P s loc M0 w (Instr.buildSlice t len vs) (.sl k bs (ds.map AC_)):=by
 obtain⟨e,us,_,h1,_,h2⟩:=Hu_ (M0:=M0) S ht hk0 hl1 hl2 hl3 hi hlen hp hr hz;have hnew:(w.alloc (.cells us.toArray e)).heap[w.heap.size]? =some (.cells us.toArray e (0,0)):=heap_alloc_new w _;refine⟨_,_,h1,Upd.alloc _ _ _,?_⟩;simp only[rd];refine⟨_,len,by simp[hlen];rfl,by simp[hlen],by unfold maxLen;omega,by simpa[hlen]using hl2,?_⟩;refine .inr ⟨w.heap.size,0,us.toArray,e,(0,0),rfl,fun hmm=>by have:=S.lt _ hmm;omega,hnew,?_⟩
 have W:Weak (cu s loc) (cu s loc) (hm s loc M0) (hm s loc M0) w.heap (w.alloc (.cells us.toArray e)).heap (mxR (ds.map AC_)) :=
  DP_ (Upd.alloc [] w _).nil (fun b hb=> .inl hb) (fun e' he' _=>AA_ S.nd he')
 exact BT_ W k _ _ 0 (Nat.le_refl _) h2
theorem VE_ (S:St s.own loc M0 w.heap) {p:DVal} {v:Value} {ks vs:List DVal} (hp:Rds s loc M0 w p v) (hc:HO_ s.own p=some (ks,vs)) :
  (v= .map none∧ks=[]∧vs=[])∨∃b es clk,v= .map (some b)∧w.heap[b]? =some (.map es clk)∧Oc_ es clk∧rdV (cu s loc) (hm s loc M0) w.heap ks (es.toList.map (·.key))∧rdV (cu s loc) (hm s loc M0) w.heap vs (es.toList.map (·.val)):=by
 unfold HO_ at hc
 split at hc
 ·simp only[aA0,aW0]at hc;obtain⟨rfl,rfl⟩:=hc;simp only[Rds,rd]at hp;obtain⟨b,es,clk,h1,_,h3,h4,h5,h6⟩:=hp;exact .inr ⟨b,es,clk,h1,h3,h4,h5,h6⟩
 ·simp only[aA0,aW0]at hc;obtain⟨rfl,rfl⟩:=hc;simp only[Rds,rd]at hp;exact .inl ⟨hp,rfl,rfl⟩
 ·rename_i id r
  split at hc
  ·rename_i e he
   split at hc
   ·rename_i her
    split at hc
    ·rename_i ks0 vs0 hobj;simp only[aA0,aW0]at hc;obtain⟨rfl,rfl⟩:=hc;obtain⟨hm',hid⟩:=Ax_ he;have hk:=S.ok e hm';rw[hobj]at hk;obtain⟨b,es,clk,h1,h2,h3,h4,h5⟩:=hk;simp only[Rds,rd]at hp;obtain⟨b',hb',hv⟩:=hp (loc id) (by unfold cu Ai_;rw[he];simp[her]);rw[←hid,h1]at hb';simp only[bH0,and_true]at hb';subst hb';exact .inr ⟨b,es,clk,hv,h2,h3,h4,h5⟩
    ·simp at hc
   ·simp at hc
  ·simp at hc
 ·simp at hc
theorem UM_ {t:TypeId} {x:TypeId×TypeId} (h:tMap P t=some x):P.underlying t=some (.map x.1 x.2):=by
 unfold tMap at h
 split at h
 ·simp only[aA0]at h;subst h;assumption
 ·simp at h
theorem y_lookup (S:St s.own loc M0 w.heap) {t kt et:TypeId} {d x z:DVal} {v u:Value} {ks vs:List DVal} {ok:Bool} (ht:tMap P t=some (kt,et)) (hd:Rds s loc M0 w d v) (hc:HO_ s.own d=some (ks,vs)) (hx:Rds s loc M0 w x u)
  (hk:CA_ P kt x=true) (hks:ks.all (CA_ P kt)=true) (hz:tZeroD P et=some z) :
  AL_ P s loc M0 w (Instr.lookup t v u ok) (if ok then .tup [(match AQ_ ks x with | some j=>vs.getD j .any | none=>z),.bool (AQ_ ks x).isSome]else (match AQ_ ks x with | some j=>vs.getD j .any | none=>z)):=by
 obtain⟨zv,hzr,hzd⟩:=tZeroD_ok (P:=P) (cur:=cu s loc) (M:=hm s loc M0) (h:=w.heap) hz (w:=w);have hu:=UM_ ht;simp only at hu
 have fin:∀(es:Array MapEntry) (v1:Value) (b1:Bool) (d1:DVal),Rds s loc M0 w d1 v1→(Instr.lookup t v u ok).run P w= .ok (if ok then .tuple #[v1,.bool b1]else v1) w→AL_ P s loc M0 w (Instr.lookup t v u ok) (if ok then .tup [d1,.bool b1]else d1):=by
  intro es v1 b1 d1 hd1 hr;refine AL_.same hr ?_;cases ok
  ·exact hd1
  ·simp only[if_true,Rds,rd];exact⟨_,rfl,by simp only[rdV];exact⟨v1,[.bool b1],rfl,hd1,.bool b1,[],rfl,by simp only[rd],rfl⟩⟩
 rcases VE_ S hd hc with ⟨rfl,rfl,rfl⟩ | ⟨b,es,clk,rfl,hb,_,h5,h6⟩
 ·have hch:=DC_ (w:=w) (e:=true) hk hx;refine fin #[] zv false _ ?_ ?_
  ·simpa[AQ_]using hzd
  ·have hf:=ET_ (w:=w) hk hx [] [] (by simp) (by simp[rdV]);simp only[AQ_,eS0]at hf;cases ok<;>simp[Instr.lookup,run_underlying hu,hch,hf,hzr]
 ·have hch:=DC_ (w:=w) (e:=es.isEmpty) hk hx;have hf:=ET_ (w:=w) hk hx es.toList ks hks h5;have hg:(getObj b).run P w= .ok (.map es clk) w:=_root_.Go.run_getObj_map (P:=P) (w:=w) b es clk hb
  cases hl:AQ_ ks x with
  | none =>
   rw[hl]at hf;simp only[eS0]at hf;refine fin es zv false _ hzd ?_;cases ok<;>simp[Instr.lookup,run_underlying hu,hg,hch,hf,hzr]
  | some j =>
   rw[hl]at hf;simp only[dI0]at hf;have hj:=VG_ hl;have hle:=Au_ _ _ h5;have hlv:=Au_ _ _ h6;simp only[aJ0,bP0]at hle hlv;have hjv:j<vs.length:=by omega
   obtain⟨v1,hv1,hr1⟩:=Rh_ _ _ j _ h6 (aH0 hjv);rw[bI0]at hv1;refine fin es v1 true _ ?_ ?_
   ·simp only[bG0,aH0 hjv,cC0];exact hr1
   ·rw[hv1]at hf;simp only[cC0]at hf;cases ok<;>simp[Instr.lookup,run_underlying hu,hg,hch,hf]
theorem Oo_ (S:St s.own loc M0 w.heap) {t ty:TypeId} {d:DVal} {v:Value} {ks vs:List DVal} (ht:(tMap P t).isSome=true) (hd:Rds s loc M0 w d v) (hc:HO_ s.own d=some (ks,vs)) (hl:(ks.length:Int)≤9223372036854775807) :
  AL_ P s loc M0 w (Builtin.len_ #[t] ty #[v]) (.int .i64 ks.length):=by
 obtain⟨y,hy⟩:=bK0.1 ht;have hu:=UM_ hy
 rcases VE_ S hd hc with ⟨rfl,rfl,rfl⟩ | ⟨b,es,clk,rfl,hb,_,h5,_⟩
 ·exact AL_.same (v:= .int .i64 0) (by simp[Builtin.len_,run_underlying hu,goInt]) (by simp[Rds,rd,inR])
 ·have hln:=Au_ _ _ h5;simp only[aJ0,bP0]at hln;have hg:(getObj b).run P w= .ok (.map es clk) w:=_root_.Go.run_getObj_map (P:=P) (w:=w) b es clk hb;refine AL_.same (v:= .int .i64 es.size) (by simp[Builtin.len_,run_underlying hu,goInt,hg]) ?_;simp only[Rds,rd,inR,hln];exact⟨trivial,by omega,hl⟩
theorem Ve_ {cur:Cur} {M:List Nat} {H:Array Obj} {k:Nat}:∀(n:Nat) (es:List (List DVal)) (arr:Array Value) (o:Nat),rdR cur M H k es arr o→rdR cur M H k (es.drop n) arr (o+n*k)
 | 0,es,arr,o,hr=>by simpa using hr
 | n+1,[],arr,o,hr=>by simp[rdR]
 | n+1,c::es,arr,o,hr=>by
  simp only[rdR]at hr;have:=Ve_ n es arr (o+k) hr.2.2;simp only[dW0]
  rwa[show o+k+n*k=o+(n+1)*k by rw[bX0];omega]at this
theorem Va_ {cur:Cur} {M:List Nat} {H:Array Obj} {k:Nat}:∀(n:Nat) (es:List (List DVal)) (arr:Array Value) (o:Nat),rdR cur M H k es arr o→rdR cur M H k (es.take n) arr o
 | 0,es,arr,o,hr=>by simp[rdR]
 | n+1,[],arr,o,hr=>by simp[rdR]
 | n+1,c::es,arr,o,hr=>by
  simp only[rdR,dF0]at hr ⊢;exact⟨hr.1,hr.2.1,Va_ n es arr (o+k) hr.2.2⟩
theorem Bc_ {e:Operand→DVal} {x:Operand} (hρ:Rds s loc M0 w (e x) (ρ x)) {d:Int} {y:Nat} {c:BoundsCode} (h0:0≤ixV e d (some x)) (h1:ixV e d (some x)≤y):(Instr.sliceBound (ρ x) y c).run P w= .ok (ixV e d (some x)).toNat w:=by
 simp only[ixV]at h0 h1 ⊢
 split at h0
 ·rename_i ik n hx;simp only[hx]at h1 ⊢;rw[hx]at hρ;simp only[Rds,rd]at hρ;rw[hρ.1];simp[Instr.sliceBound,asIntOf,h0,h1]
 ·omega
theorem FA_ {e:Operand→DVal} (hρ:∀x,Rds s loc M0 w (e x) (ρ x)) {b:Bool} {len cap:Nat} {l h:Option Operand} (hp:Ef_ e len l h none) (hc:len≤cap) :
  (Instr.sliceBounds b len cap (l.map ρ) (h.map ρ) none).run P w= .ok ((ixV e 0 l).toNat,(ixV e len h).toNat,cap) w:=by
 obtain⟨h0,h1,h2,h3,h4⟩:=hp;have en:∀d,ixV e d none=d:=fun _=>rfl
 rw[en]at h2 h3
 cases h with
 | none =>
  rw[en]at h1 ⊢
  cases l with
  | none=>simp[Instr.sliceBounds,en]
  | some y =>
   have hb:=Bc_ (P:=P) (c:= .sliceB) (hρ y) (d:=0) (y:=len) h0 h1;simp[Instr.sliceBounds,hb]
 | some x =>
  have hh:=Bc_ (P:=P) (c:=if b then .sliceAcap else .sliceAlen) (hρ x) (d:=len) (y:=cap) (by omega) (by omega)
  cases l with
  | none=>simp[Instr.sliceBounds,en,hh]
  | some y =>
   have hb:=Bc_ (P:=P) (c:= .sliceB) (hρ y) (d:=0) (y:=(ixV e len (some x)).toNat) h0 (by omega);simp[Instr.sliceBounds,hb,hh]
theorem Kv_ (S:St s.own loc M0 w.heap) {id r et k bs:Nat} {es:List (List DVal)} {e:Ent} (he:At_ s.own id=some e) (her:e.r=r) (hob:e.obj= .row et k bs es) :
  Ai_ s.own loc id r=some (loc id)∧∃a cap,(loc id).hdr= .slice a es.length cap∧es.length≤cap∧cap≤maxLen∧((es=[]∧(loc id).blks=[]∧a=none∧cap=0)∨∃b,(loc id).blks=[b]∧a=some ⟨b,0,none⟩):=by
 obtain⟨hm',hid⟩:=Ax_ he;have hk:=S.ok e hm';rw[hob]at hk;obtain⟨_,hk⟩:=hk;rw[hid]at hk;refine⟨by unfold Ai_;rw[he];simp[her],?_⟩
 rcases hk with ⟨rfl,h1,h2⟩ | ⟨b,arr,cap,p1,p2,p3,p4,p5,p6,p7⟩
 ·exact⟨none,0,h2,by simp,by unfold maxLen;omega,.inl ⟨rfl,h1,rfl,rfl⟩⟩
 ·exact⟨_,cap,p2,p4,p5,.inr ⟨b,p1,rfl⟩⟩
theorem YV_ {own:List Ent} {d:DVal} {id r k bs:Nat} {es:List (List DVal)} (hd:d= .osl id r) (h:AU_ own d=some (k,bs,es)):∃e et,At_ own id=some e∧e.r=r∧e.obj= .row et k bs es:=by
 subst hd;unfold AU_ at h;simp only at h
 split at h
 ·rename_i e he
  split at h
  ·rename_i her
   split at h
   ·rename_i et k' bs' es' hob;simp only[aA0,aW0]at h;obtain⟨rfl,rfl,rfl⟩:=h;exact⟨e,et,he,her,hob⟩
   ·simp at h
  ·simp at h
 ·simp at h
theorem rowsOf_vw {own:List Ent} {d:DVal} {id r k bs i n:Nat} (hd:d= .vw id r k bs i n) (h:(AU_ own d).isSome=true):∃e et es,At_ own id=some e∧e.r=r∧e.obj= .row et k bs es∧i+n≤es.length:=by
 subst hd;unfold AU_ at h;simp only at h
 split at h
 ·rename_i e he
  split at h
  ·rename_i her
   split at h
   ·rename_i et k' bs' es' hob
    split at h
    ·rename_i hb;obtain⟨rfl,rfl,hb⟩:=hb;exact⟨e,et,es',he,her,hob,hb⟩
    ·simp at h
   ·simp at h
  ·simp at h
 ·simp at h
theorem DT_ {e:Operand→DVal} (hρ:∀x,Rds s loc M0 w (e x) (ρ x)) {b:Bool} {len cap:Nat} {l h m:Option Operand} (hp:Ef_ e len l h m) (hc:len≤cap) :
  ∃mm,(Instr.sliceBounds b len cap (l.map ρ) (h.map ρ) (m.map ρ)).run P w= .ok ((ixV e 0 l).toNat,(ixV e len h).toNat,mm) w∧(ixV e len h).toNat≤mm∧mm≤cap:=by
 obtain⟨h0,h1,h2,h3,h4⟩:=hp;have en:∀d,ixV e d none=d:=fun _=>rfl
 cases m with
 | none =>
  rw[en]at h2 h3;refine⟨cap,?_,by omega,Nat.le_refl _⟩
  cases h with
  | none =>
   rw[en]at h1 ⊢
   cases l with
   | none=>simp[Instr.sliceBounds,en]
   | some y =>
    have hb:=Bc_ (P:=P) (c:= .sliceB) (hρ y) (d:=0) (y:=len) h0 h1;simp[Instr.sliceBounds,hb]
  | some x =>
   have hh:=Bc_ (P:=P) (c:=if b then .sliceAcap else .sliceAlen) (hρ x) (d:=len) (y:=cap) (by omega) (by omega)
   cases l with
   | none=>simp[Instr.sliceBounds,en,hh]
   | some y =>
    have hb:=Bc_ (P:=P) (c:= .sliceB) (hρ y) (d:=0) (y:=(ixV e len (some x)).toNat) h0 (by omega);simp[Instr.sliceBounds,hb,hh]
 | some z =>
  obtain⟨x,rfl⟩:=bK0.1 (h4 rfl);have hm:=Bc_ (P:=P) (c:=if b then .slice3Acap else .slice3Alen) (hρ z) (d:=len) (y:=cap) (by omega) (by omega);have hh:=Bc_ (P:=P) (c:= .slice3B) (hρ x) (d:=len) (y:=(ixV e len (some z)).toNat) (by omega) (by omega);refine⟨(ixV e len (some z)).toNat,?_,by omega,by omega⟩
  cases l with
  | none=>simp[Instr.sliceBounds,en,hm,hh]
  | some y =>
   have hb:=Bc_ (P:=P) (c:= .slice3C) (hρ y) (d:=0) (y:=(ixV e len (some x)).toNat) h0 (by omega);simp[Instr.sliceBounds,hb,hm,hh]
theorem neu_sound {o:Oper} {e:Operand→DVal} (S:St s.own loc M0 w.heap) (hρ:∀x,Rds s loc M0 w (e x) (ρ x)) (hp:nPre P s.own e o.op) :
  ∃v w',(execOp ρ o).run P w= .ok (.value v) w'∧Upd [] w w'∧rd (cu s loc) (hm s loc M0) w'.heap (nVal P s.own e o.op) v:=by
 obtain⟨dst,op,type,pos,after,guard⟩:=o;simp only at hp ⊢
 have fin:∀(x:Sem Value) (d:DVal),AL_ P s loc M0 w x d→∃v w',(do pure (.value (←x)):Sem Next).run P w= .ok (.value v) w'∧Upd [] w w'∧rd (cu s loc) (hm s loc M0) w'.heap d v:=by
  rintro x d ⟨v,w',h1,h2,h3⟩;exact⟨v,w',by rw[Sem.run_bind,h1];rfl,h2,h3⟩
 have fin':∀(x:Sem Value) (d:DVal),AL_ P s loc M0 w x d→∃v w',((x.run P w).andThen fun a w'=>Result.ok (Next.value a) w')= .ok (.value v) w'∧Upd [] w w'∧rd (cu s loc) (hm s loc M0) w'.heap d v:=by
  rintro x d ⟨v,w',h1,h2,h3⟩;exact⟨v,w',by rw[h1];rfl,h2,h3⟩
 have one:∀(v:Value) (d:DVal),Rds s loc M0 w d v→∃v' w',(pure (.value v):Sem Next).run P w= .ok (.value v') w'∧Upd [] w w'∧rd (cu s loc) (hm s loc M0) w'.heap d v' :=
  fun v d h=>⟨v,w,rfl,Upd.refl _ _,h⟩
 cases op<;>simp only[nPre]at hp
 case move x=>exact one _ _ (hρ x)
 case assign x=>exact one _ _ (hρ x)
 case pick c a b =>
  have hc:=hρ c
  split at hp
  ·rename_i t ht;rw[ht]at hc;simp only[Rds,rd]at hc;simp only[nVal,ht,execOp,hc];refine one (if t then ρ a else ρ b) _ ?_;have ha:=hρ a;have hb:=hρ b
   generalize e a=da at *
   generalize e b=db at *
   have plain:Rds s loc M0 w (if t then da else db) (if t then ρ a else ρ b):=by cases t<;>simp<;>assumption
   unfold LE_
   split
   ·cases t<;>simpa using plain
   ·rename_i p c q;simp only[Iz_]at hp;simp only[Rds,rd]at ha hb ⊢;cases t
    ·exact hb.1 (hp rfl)
    ·exact ha
   ·rename_i c p q;simp only[Iz_]at hp;simp only[Rds,rd]at ha hb ⊢;cases t
    ·exact hb
    ·exact ha.1 (hp rfl)
   ·exact plain
  ·exact hp.elim
 case fieldAddr t x f =>
  have hx:=hρ x;simp only[execOp];refine fin _ _ ?_
  split at hp
  ·rename_i off n b cs hf hd;rw[hd]at hx;have:=Lg_ (P:=P) hf hp hx (.inl ⟨cs,rfl⟩);simpa only[nVal,hf,hd]using this
  ·rename_i off n b id r o hf hd;rw[hd]at hx;have:=Lg_ (P:=P) hf hp.1 hx (.inr (.inl ⟨id,r,o,rfl,by rw[Dq_ hp.2];rfl⟩));simpa only[nVal,hf,hd]using this
  ·rename_i off n b id r k i j hf hd;rw[hd]at hx;have:=Lg_ (P:=P) hf hp.1 hx (.inr (.inr ⟨id,r,k,i,j,rfl,by rw[Dq_ hp.2];rfl⟩));simpa only[nVal,hf,hd]using this
  ·exact hp.elim
 case load t a =>
  have ha:=hρ a;simp only[execOp];refine fin _ _ ?_
  split at hp
  ·rename_i n cs hg hn hc;have:=y_load (P:=P) S (b:=true) hg ha hc (fun _=>⟨n,hn,hp⟩) (by simp);simpa only[nVal,hg,hn,hc,cC0]using this
  ·rename_i cs hg hc;have:=y_load (P:=P) S (b:=false) hg ha hc (by simp) (fun _=>hp);cases hn:tCells P t<;>simpa only[nVal,hg,hn,hc]using this
  ·exact hp.elim
 case indexAddr t x i =>
  have hx:=hρ x;have hi:=hρ i;simp only[execOp];refine fin _ _ ?_
  split at hp
  ·rename_i ik n k bs k' bs' es hei hte hr;obtain⟨rfl,h0,h1⟩:=hp;rw[hei]at hi;simp only[Rds,rd]at hi;rw[hi.1];have:=y_indexAt (P:=P) S (ik:=ik) hte hx hr h0 h1;simpa only[nVal,hei]using this
  ·exact hp.elim
 case index t x i =>
  have hx:=hρ x;have hi:=hρ i;simp only[execOp];refine fin _ _ ?_
  split at hp
  ·rename_i str ik n hd hei;obtain⟨ht,h0,h1⟩:=hp;rw[hei]at hi;rw[hd]at hx;simp only[Rds,rd]at hi hx;rw[hi.1,hx.1];simp only[nVal,hd,hei]
   have hu:P.underlying t=some .string:=by
    unfold tStr at ht
    split at ht
    ·assumption
    ·simp at ht
   have hlt:n.toNat<str.size:=by omega
   refine AL_.same (v:= .int .u8 (str[n.toNat]).toNat) ?_ ?_
   ·simp[Instr.index,asIntOf,run_underlying hu,h0,hlt]
   ·have e:str.data.toList.getD n.toNat 0=str[n.toNat]:=by
     have hlt':n.toNat<str.data.size:=hlt;rw[bG0,aH0 (by simpa using hlt')];rfl
    simp only[Rds,rd,e,inR,true_and];have:=(str[n.toNat]).toNat_lt;omega
  ·exact hp.elim
 case field t x f =>
  have hx:=hρ x;simp only[execOp];refine fin _ _ ?_
  split at hp
  ·rename_i off n b cs hf hd;rw[hd]at hx;have:=y_field (P:=P) hf hx hp.1 hp.2;simpa only[nVal,hf,hd]using this
  ·exact hp.elim
 case binOp op t x y ty =>
  obtain⟨d,hd⟩:=bK0.1 hp;obtain⟨r,h1,h2⟩:=dbin_ok (P:=P) (w:=w) (xo:=x) (yo:=y) hd (hρ x) (hρ y);simp only[execOp];refine fin _ _ ?_;simp only[nVal,hd,cC0];exact AL_.same h1 h2
 case unOp op t x =>
  have hx:=hρ x;simp only[execOp];refine fin _ _ ?_
  split at hp
  ·rename_i b hd;rw[hd]at hx;simp only[Rds,rd]at hx;rw[hx];simp only[nVal,hd];exact AL_.same (v:= .bool (!b)) rfl (by simp only[Rds,rd])
  ·rename_i k n hd;rw[hd]at hx;simp only[Rds,rd]at hx;rw[hx.1];simp only[nVal,hd];exact AL_.same (v:= .int k (k.wrap (0-n))) rfl (by simp only[Rds,rd,Ie_,and_self])
  ·exact hp.elim
 case convert src dst x =>
  have hx:=hρ x;obtain⟨hs,hp⟩:=hp;obtain⟨sd,hs⟩:=bK0.1 hs;simp only[execOp];refine fin _ _ ?_
  split at hp
  ·rename_i k n hd;rw[hd]at hx;simp only[Rds,rd]at hx;rw[hx.1];obtain⟨k',hk'⟩:=bK0.1 hp;simp only[nVal,hd,hk']
   have hu:P.underlying dst=some (.int k'):=by
    unfold tInt at hk'
    split at hk'
    ·simp only[aA0]at hk';subst hk';assumption
    ·simp at hk'
   refine AL_.same (v:= .int k' (k'.wrap n)) ?_ (by simp only[Rds,rd,Ie_,and_self]);simp[convert,run_underlying hs,run_underlying hu,Conv.intToInt]
  ·rename_i str hd;rw[hd]at hx;simp only[Rds,rd]at hx;simp only[nVal,hd]
   have hu:P.underlying dst=some .string:=by
    unfold tStr at hp
    split at hp
    ·assumption
    ·simp at hp
   refine AL_.same (v:=ρ x) ?_ (by simp only[Rds,rd];exact hx);rw[hx.1];simp only[convert,Sem.run_bind,run_underlying hs,run_underlying hu,Result.andThen_ok];cases sd<;>rfl
  ·exact hp.elim
 case extract x i =>
  have hx:=hρ x;simp only[execOp];refine fin _ _ ?_
  split at hp
  ·rename_i vs hd;rw[hd]at hx;simp only[Rds,rd]at hx;obtain⟨us,hu,hus⟩:=hx;rw[hu];obtain⟨v,hv,hr⟩:=Rh_ _ _ i vs[i] hus (aH0 hp);simp only[nVal,hd];refine AL_.same (v:=v) ?_ ?_
   ·have hv':us[i]? =some v:=by simpa using hv
    simp[Instr.extract,hv']
   ·rw[bG0,aH0 hp];exact hr
  ·exact hp.elim
 case makeFunc f us cs =>
  have key:∀l:List Operand,rdV (cu s loc) (hm s loc M0) w.heap (l.map e) (l.map ρ):=by
   intro l
   induction l with
   | nil=>simp[rdV]
   | cons x l ih=>simp only[List.map_cons,rdV];exact⟨_,_,rfl,hρ x,ih⟩
  simp only[execOp,nVal];refine fin _ _ (AL_.same (v:= .func f (us.map ρ) (cs.map ρ)) rfl ?_);simp only[Rds,rd];exact⟨_,_,rfl,by simpa using key us.toList,by simpa using key cs.toList⟩
 case makeInterface t x =>
  simp only[execOp,nVal];refine fin _ _ (AL_.same (v:= .iface t (ρ x)) ?_ (by simp only[Rds,rd];exact⟨_,rfl,hρ x⟩))
  cases hu:P.underlying t with
  | none=>simp[hu]at hp
  | some d=>cases d<;>simp[hu]at hp<;>simp[Instr.makeInterface,run_underlying hu]
 case nilCheck x =>
  have hx:=hρ x
  split at hp
  ·rename_i cs hd;rw[hd]at hx;simp only[Rds,rd]at hx;have hx':=hx;obtain⟨b,off,arr,ty,fz,hv,_⟩:=hx;simp only[execOp,hv,nVal,hd];exact one _ _ (by rw[←hv];simp only[Rds,rd];exact hx')
  ·rename_i id r off hd;rw[hd]at hx;have hx':=hx;simp only[Rds,rd]at hx;obtain⟨b,_,hv⟩:=hx _ (Dq_ hp);simp only[execOp,hv,nVal,hd];exact one _ _ (by rw[←hv];exact hx')
  ·rename_i id r k i j hd;rw[hd]at hx;have hx':=hx;simp only[Rds,rd]at hx;obtain⟨b,_,hv⟩:=hx _ (Dq_ hp);simp only[execOp,hv,nVal,hd];exact one _ _ (by rw[←hv];exact hx')
  ·rename_i f us cs hd;rw[hd]at hx;simp only[Rds,rd]at hx;have hx':=hx;obtain⟨us',cs',hv,_⟩:=hx;simp only[execOp,hv,nVal,hd];exact one _ _ (by rw[←hv];simp only[Rds,rd];exact hx')
  ·exact hp.elim
 case box t x =>
  simp only[execOp,nVal];exact fin _ _ (y_box S hp (hρ x))
 case build t parts =>
  split at hp
  ·rename_i z hz;obtain⟨h1,h2,h3⟩:=hp;unfold tParts at h3
   split at h3
   ·rename_i fs hs;obtain⟨out,hout⟩:=bK0.1 h1;simp only[execOp,nVal,hz,hout,cC0];refine fin _ _ (y_build S hz hs h3 (ds:=parts.toList.map fun p=>(p.1,e p.2)) (by simp) ?_ hout);intro i p q hp' hq';simp only[bI0,bE0,eG0]at hp' hq';obtain⟨a,ha,rfl⟩:=hp';obtain⟨b,hb,rfl⟩:=hq';rw[ha]at hb;simp only[aA0]at hb;subst hb;exact(GS_ S (bA0.1 h2 a (bL0 ha)) (hρ a.2)).1
   ·simp at h3
  ·exact hp.elim
 case buildSlice t len parts =>
  split at hp
  ·rename_i k bs ht;obtain⟨h1,h2,h3,h4,h5,h6,h7⟩:=hp;simp only[execOp,nVal,ht];have hlen:parts.toList.length=len:=by have:=congrArg List.length h1;simpa using this
   have:=Qw_ (P:=P) (vs:=parts.map fun p=>(p.1,ρ p.2)) S ht h5 h2 h3 h4 (ds:=parts.toList.map fun p=>e p.2) (by rw[eG0,cB0];exact h1) (by simpa using hlen) (by simpa[List.all_map,Function.comp_def]using h6) (by
    intro i d q hd hq;simp only[bI0,bE0,eG0]at hd hq;obtain⟨a,ha,rfl⟩:=hd;obtain⟨b,hb,rfl⟩:=hq;rw[ha]at hb;simp only[aA0]at hb;subst hb
    exact hρ a.2) h7
   refine fin _ _ ?_;simpa[cB0,Function.comp_def]using this
  ·exact hp.elim
 case slice t x l h m =>
  have hx:=hρ x;simp only[execOp];refine fin _ _ ?_
  split at hp
  ·rename_i k bs es hd;rw[hd]at hx;simp only[Rds,rd]at hx;obtain⟨a,cap,hv,g1,g2,g3,g4⟩:=hx;obtain⟨e',i,hu,hi,hsz,_,_⟩:=Bk_ hp.1;obtain⟨mm,hr,k1,k2⟩:=DT_ (P:=P) hρ (b:=true) hp.2 g1;obtain⟨p0,p1,p2,p3,_⟩:=hp.2;simp only[nVal,hd];rw[hv]
   have hlen:((es.drop (ixV e 0 l).toNat).take ((ixV e es.length h).toNat-(ixV e 0 l).toNat)).length=(ixV e es.length h).toNat-(ixV e 0 l).toNat:=by
    simp only[aY0,bS0];omega
   refine AL_.same (v:= .slice (if mm=(ixV e 0 l).toNat then a else a.map (·.add ((ixV e 0 l).toNat*k))) ((ixV e es.length h).toNat-(ixV e 0 l).toNat) (mm-(ixV e 0 l).toNat)) ?_ ?_
   ·simp[Instr.sliceAt,Instr.slice,run_underlying hu,hr,sizeOf,typeInfo,hi,hsz]
   ·simp only[Rds,rd];refine⟨_,_,by rw[hlen],by rw[hlen];omega,by omega,?_,?_⟩
    ·refine Nat.le_trans (aO0 bs ?_) g3;rw[hlen];omega
    ·by_cases hz:(ixV e es.length h).toNat-(ixV e 0 l).toNat=0
     ·refine .inl ⟨bO0 (by rw[hlen];exact hz),?_⟩;intro hn
      rcases g4 with ⟨rfl,hc⟩ | ⟨b,off,arr,ty,fz,rfl,_⟩
      ·split at hn
       ·omega
       ·cases a with
        | none=>have:=hc rfl;omega
        | some a=>simp at hn
      ·split at hn<;>simp at hn
     ·right
      rcases g4 with ⟨rfl,_⟩ | ⟨b,off,arr,ty,fz,rfl,q1,q2,q3⟩
      ·simp only[List.length_nil]at hz hlen p3 p2;simp at hlen;omega
      ·refine⟨b,off+(ixV e 0 l).toNat*k,arr,ty,fz,?_,q1,q2,Va_ _ _ _ _ (Ve_ _ _ _ _ q3)⟩;rw[if_neg (by omega)];simp[Dd_]
  ·rename_i hd;rw[hd]at hx;simp only[Rds,rd]at hx;obtain⟨y,hy⟩:=bK0.1 hp.1;obtain⟨e',i,hu,hi,hsz,_,_⟩:=Bk_ (k:=y.1) (bs:=y.2) hy;obtain⟨mm,hr,k1,k2⟩:=DT_ (P:=P) hρ (b:=true) hp.2 (Nat.le_refl 0);obtain⟨p0,p1,p2,p3,_⟩:=hp.2;simp only[nVal,hd];rw[hx];have e0:((0:Nat):Int)=0:=rfl;rw[e0]at hr k1 p1 p2 p3;have z1:(ixV e 0 l).toNat=0:=by omega
   have z2:(ixV e 0 h).toNat=0:=by omega
   have z3:mm=0:=by omega
   subst z3;refine AL_.same (v:= .slice none 0 0) ?_ (by simp only[Rds,rd]);simp[Instr.sliceAt,Instr.slice,run_underlying hu,hr,sizeOf,typeInfo,hi,z1,z2]
  ·rename_i id r hd;obtain⟨rfl,hp⟩:=hp;rw[hd]at hx
   cases hro:AU_ s.own (.osl id r)with
   | none=>rw[hro]at hp;exact hp.elim
   | some x =>
    obtain⟨k,bs,es⟩:=x;rw[hro]at hp;simp only at hp;obtain⟨e',i,hu,hi,hsz,_,_⟩:=Bk_ hp.1;obtain⟨e0,et,he0,her,hob⟩:=YV_ rfl hro;obtain⟨hcur,a,cap,hh,g1,g2,g3⟩:=Kv_ S he0 her hob;simp only[Rds,rd]at hx;have hv:=hx _ hcur;rw[hh]at hv;have hr:=FA_ (P:=P) hρ (b:=true) hp.2 g1;obtain⟨p0,p1,p2,p3,_⟩:=hp.2;have en:ixV e es.length none=es.length:=rfl;rw[en]at p2 p3;simp only[nVal,hd,hro];rw[hv];refine AL_.same (v:= .slice (if cap=(ixV e 0 l).toNat then a else a.map (·.add ((ixV e 0 l).toNat*k))) ((ixV e es.length h).toNat-(ixV e 0 l).toNat) (cap-(ixV e 0 l).toNat)) ?_ ?_
    ·simp[Instr.sliceAt,Instr.slice,run_underlying hu,hr,sizeOf,typeInfo,hi,hsz]
    ·simp only[Rds,rd];intro lc hl;have hl':Ai_ s.own loc id r=some lc:=hl;rw[hcur]at hl';simp only[aA0]at hl';subst hl';refine⟨_,_,rfl,by omega,by omega,fun hn=> ?_,fun hn=> ?_,fun hz=> ?_⟩
     ·rcases g3 with ⟨_,_,_,hc0⟩ | ⟨b,hb1,rfl⟩
      ·omega
      ·split at hn<;>simp at hn
     ·rcases g3 with ⟨rfl,_⟩ | ⟨b,hb1,rfl⟩
      ·simp only[List.length_nil]at p2 hn;omega
      ·refine⟨b,hb1,?_⟩;rw[if_neg (by omega)];simp[Dd_]
     ·refine⟨es.length,?_⟩;rw[hh,hz]
      rcases g3 with ⟨rfl,_,rfl,rfl⟩ | ⟨b,hb1,rfl⟩
      ·simp
      ·simp[Dd_]
  ·rename_i id r k bs i0 n0 hd;obtain⟨rfl,hro,hp⟩:=hp;rw[hd]at hx;obtain⟨e0,et,es,he0,her,hob,hbound⟩:=rowsOf_vw rfl hro;obtain⟨e',i,hu,hi,hsz,_,_⟩:=Bk_ hp.1;obtain⟨hcur,a0,cap0,hh,g1,g2,g3⟩:=Kv_ S he0 her hob;simp only[Rds,rd]at hx;obtain⟨a,cap,hv,q1,q2,q5,q3,q4⟩:=hx _ hcur;have hr:=FA_ (P:=P) hρ (b:=true) hp.2 q1;obtain⟨p0,p1,p2,p3,_⟩:=hp.2;have en:ixV e n0 none=n0:=rfl;rw[en]at p2 p3;simp only[nVal,hd]
   rw[hv];refine AL_.same (v:= .slice (if cap=(ixV e 0 l).toNat then a else a.map (·.add ((ixV e 0 l).toNat*k))) ((ixV e n0 h).toNat-(ixV e 0 l).toNat) (cap-(ixV e 0 l).toNat)) ?_ ?_
   ·simp[Instr.sliceAt,Instr.slice,run_underlying hu,hr,sizeOf,typeInfo,hi,hsz]
   ·simp only[Rds,rd];intro lc hl;have hl':Ai_ s.own loc id r=some lc:=hl;rw[hcur]at hl';simp only[aA0]at hl';subst hl';refine⟨_,_,rfl,by omega,by omega,fun hn=> ?_,fun hn=> ?_,fun hz=> ?_⟩
    ·have ha:a=none:=by
      split at hn
      ·exact hn
      ·simpa using hn
     have:=q5 ha;omega
    ·obtain⟨b,hb1,rfl⟩:=q3 (by omega);refine⟨b,hb1,?_⟩;rw[if_neg (by omega)];simp[Dd_,bX0]
    ·obtain⟨n1,hh1⟩:=q4 (by omega);rw[hh]at hh1;simp only[Value.slice.injEq]at hh1;obtain⟨rfl,_,rfl⟩:=hh1;refine⟨es.length,?_⟩;have z0:(ixV e 0 l).toNat=0:=by omega
     rw[hh,z0]
     rcases g3 with ⟨rfl,_,rfl,rfl⟩ | ⟨b,hb1,rfl⟩
     ·simp
     ·simp[Dd_]
  ·rename_i str hd;obtain⟨ht,rfl,hsp⟩:=hp;rw[hd]at hx;simp only[Rds,rd]at hx
   have hu:P.underlying t=some .string:=by
    unfold tStr at ht
    split at ht
    ·assumption
    ·simp at ht
   obtain⟨mm,hr,k1,k2⟩:=DT_ (P:=P) hρ (b:=false) (cap:=str.size) hsp (Nat.le_refl _);simp only[nVal,hd];rw[hx.1];refine AL_.same (v:= .string (str.extract (ixV e 0 l).toNat (ixV e str.size h).toNat)) ?_ ?_
   ·simp only[eS0]at hr;simp[Instr.sliceAt,Instr.slice,run_underlying hu,hr]
   ·simp only[Rds,rd,true_and];have h2:=hx.2
    have:(str.extract (ixV e 0 l).toNat (ixV e str.size h).toNat).size≤str.size:=by
     rw[ByteArray.size_extract];omega
    omega
  ·exact hp.elim
 case lookup t x i ok =>
  have hx:=hρ x;have hi:=hρ i;simp only[execOp];refine fin _ _ ?_
  split at hp
  ·rename_i kt et ks vs ht hc;obtain⟨z,hz⟩:=bK0.1 hp.2.2;have:=y_lookup (P:=P) (ok:=ok) S ht hx hc hi hp.1 hp.2.1 hz;simpa only[nVal,ht,hc,hz,cC0]using this
  ·exact hp.elim
 case call c =>
  obtain⟨callee,args,ats⟩:=c;cases callee<;>simp only at hp
  case builtin b =>
   cases b<;>simp only[bPre]at hp
   case append =>
    obtain⟨al⟩:=args;obtain⟨tl⟩:=ats
    match al,tl,hp with
    | [x,y],[t,t'],hp =>
     have hx:=hρ x;have hy:=hρ y;simp only[List.map_cons,List.map_nil]at hp;simp only[nVal,List.map_cons,List.map_nil,bVal];simp only[execOp,resolve,Sem.run_bind,dN0,List.map_cons,List.map_nil,Sem.run_pure,Result.andThen_ok,invoke,builtin];refine fin' _ _ ?_
     split at hp
     ·rename_i ha hb;rw[ha]at hx;rw[hb]at hy;simp only[Rds,rd]at hx hy;obtain⟨rfl,h2⟩:=hp;obtain⟨y0,hy0⟩:=bK0.1 h2;obtain⟨e0,i,hu,hi,_⟩:=Bk_ (k:=y0.1) (bs:=y0.2) hy0;rw[hx,hy];refine AL_.same (v:= .slice none 0 0) (by simp[Builtin.append_,run_underlying hu,sizeOf,typeInfo,hi,Builtin.lenOf,Builtin.firstCells,storeCells]) ?_;simp only[Rds,rd]
     ·exact hp.elim
   case min =>
    obtain⟨al⟩:=args;obtain⟨tl⟩:=ats
    match al,hp with
    | [x,y],hp =>
     have hx:=hρ x;have hy:=hρ y;simp only[List.map_cons,List.map_nil]at hp;simp only[nVal,List.map_cons,List.map_nil,bVal];simp only[execOp,resolve,Sem.run_bind,dN0,List.map_cons,List.map_nil,Sem.run_pure,Result.andThen_ok,invoke,builtin];refine fin' _ _ ?_
     split at hp
     ·rename_i k a k' b ha hb;rw[ha]at hx;rw[hb]at hy;simp only[Rds,rd]at hx hy;subst hp;rw[hx.1,hy.1];refine AL_.same (v:= .int k (if b<a then b else a)) (by simp[Builtin.min_,Builtin.min2]) ?_;simp only[Rds,rd,true_and]
      split
      ·exact hy.2
      ·exact hx.2
     ·exact hp.elim
    | [],hp=>simp at hp
    | [_],hp=>simp at hp
    | _::_::_::_,hp=>simp at hp
   case max =>
    obtain⟨al⟩:=args;obtain⟨tl⟩:=ats
    match al,hp with
    | [x,y],hp =>
     have hx:=hρ x;have hy:=hρ y;simp only[List.map_cons,List.map_nil]at hp;simp only[nVal,List.map_cons,List.map_nil,bVal];simp only[execOp,resolve,Sem.run_bind,dN0,List.map_cons,List.map_nil,Sem.run_pure,Result.andThen_ok,invoke,builtin];refine fin' _ _ ?_
     split at hp
     ·rename_i k a k' b ha hb;rw[ha]at hx;rw[hb]at hy;simp only[Rds,rd]at hx hy;subst hp;rw[hx.1,hy.1];refine AL_.same (v:= .int k (if a<b then b else a)) (by simp[Builtin.max_,Builtin.max2]) ?_;simp only[Rds,rd,true_and]
      split
      ·exact hy.2
      ·exact hx.2
     ·exact hp.elim
    | [],hp=>simp at hp
    | [_],hp=>simp at hp
    | _::_::_::_,hp=>simp at hp
   case len =>
    have hargs:∀x∈args.toList,Rds s loc M0 w (e x) (ρ x):=fun x _=>hρ x
    obtain⟨al⟩:=args;obtain⟨tl⟩:=ats
    match al,tl,hp,hargs with
    | [x],[t],hp,hargs =>
     have hx:=hρ x;simp only[List.map_cons,List.map_nil]at hp;simp only[nVal,List.map_cons,List.map_nil,bVal];simp only[execOp,resolve,Sem.run_bind,dN0,List.map_cons,List.map_nil,Sem.run_pure,Result.andThen_ok,invoke,builtin];refine fin' _ _ ?_
     split at hp
     ·rename_i str hd;rw[hd]at hx;simp only[Rds,rd]at hx;rw[hx.1]
      have hu:P.underlying t=some .string:=by
       unfold tStr at hp
       split at hp
       ·assumption
       ·simp at hp
      have hsz:=hx.2;refine AL_.same (v:= .int .i64 str.size) (by simp[Builtin.len_,run_underlying hu,goInt]) ?_;simp only[Rds,rd,inR,true_and];unfold maxLen at hsz;omega
     ·rename_i hd;rw[hd]at hx;simp only[Rds,rd]at hx;rw[hx];obtain⟨y,hy⟩:=bK0.1 hp;obtain⟨e,i,hu,_⟩:=Bk_ (k:=y.1) (bs:=y.2) hy;refine AL_.same (v:= .int .i64 0) (by simp[Builtin.len_,run_underlying hu,goInt]) ?_;simp only[Rds,rd,inR,true_and];omega
     ·rename_i ks vs hd;rw[hd]at hx;exact Oo_ (P:=P) S hp.1 hx rfl hp.2
     ·rename_i hd;rw[hd]at hx;have:=Oo_ (P:=P) (ty:=type) (ks:=[]) (vs:=[]) S hp hx rfl (by simp);simpa using this
     ·rename_i id r hd;rw[hd]at hx;obtain⟨h1,h2⟩:=hp
      cases hq:HO_ s.own (.omp id r)with
      | none=>rw[hq]at h2;exact h2.elim
      | some y =>
       rw[hq]at h2;exact Oo_ (P:=P) S h1 hx hq h2
     ·rename_i d h1 h2 h3 h4 h5;obtain⟨y,hy⟩:=bK0.1 hp.1;have:=y_len (P:=P) (ty:=type) S hp.2 hx (k:=y.1) (bs:=y.2.1) (es:=y.2.2) hy;cases hd:e x<;>rw[hd]at h1 h2 h3 h4 h5 hy<;>first | (exact(h1 _ rfl).elim) | (exact(h2 rfl).elim) | (exact(h3 _ _ rfl).elim) | (exact(h4 rfl).elim) | (exact(h5 _ _ rfl).elim) | (simp only[hy];exact this)
end
end Go.Dm
end
