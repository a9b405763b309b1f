/- Parts of a proof, laid together: EnA, EnB, EnC, EnD, EnD1, EnE. -/
import Derived.WalkKit
import Derived.Laws.Rows
import Derived.Laws.Cells
import Derived.Laws.StructEq
import Derived.MapKept
set_option linter.unusedSimpArgs false
set_option maxHeartbeats 8000000
set_option linter.unusedVariables false
set_option linter.unusedSectionVars false
namespace Go.Dm
theorem aA0 : type_of% @Option.some.injEq:= @Option.some.injEq
theorem aB0 : type_of% @List.getElem?_eq_some_iff:= @List.getElem?_eq_some_iff
theorem aC0 : type_of% @List.mem_cons_of_mem:= @List.mem_cons_of_mem
theorem aD0 : type_of% @List.length_append:= @List.length_append
theorem aE0 : type_of% @List.mem_cons_self:= @List.mem_cons_self
theorem aF0 : type_of% @Array.getElem?_eq_some_iff:= @Array.getElem?_eq_some_iff
theorem aG0 : type_of% @List.mem_singleton:= @List.mem_singleton
theorem aH0 : type_of% @List.getElem?_eq_getElem:= @List.getElem?_eq_getElem
theorem aI0 : type_of% @List.mem_append:= @List.mem_append
theorem aJ0 : type_of% @List.mem_cons:= @List.mem_cons
theorem aK0 : type_of% @Array.getD_eq_getD_getElem?:= @Array.getD_eq_getD_getElem?
theorem aL0 : type_of% @List.length_map:= @List.length_map
theorem aM0 : type_of% @Bool.and_eq_true:= @Bool.and_eq_true
theorem aN0 : type_of% @List.mem_append_left:= @List.mem_append_left
theorem aO0 : type_of% @ByteArray.size_append:= @ByteArray.size_append
theorem aP0 : type_of% @List.mem_append_right:= @List.mem_append_right
theorem aQ0 : type_of% @List.append_assoc:= @List.append_assoc
theorem aR0 : type_of% @List.mem_map:= @List.mem_map
theorem aS0 : type_of% @Nat.mul_le_mul_right:= @Nat.mul_le_mul_right
theorem aT0 : type_of% @Prod.mk.injEq:= @Prod.mk.injEq
theorem aU0 : type_of% @Bool.false_eq_true:= @Bool.false_eq_true
theorem aV0 : type_of% @List.all_eq_true:= @List.all_eq_true
theorem aW0 : type_of% @List.drop_eq_getElem_cons:= @List.drop_eq_getElem_cons
theorem aX0 : type_of% @Int.natCast_add:= @Int.natCast_add
theorem aY0 : type_of% @List.take_length:= @List.take_length
theorem aZ0 : type_of% @List.getElem?_append_left:= @List.getElem?_append_left
theorem bA0 : type_of% @List.map_append:= @List.map_append
theorem bB0 : type_of% @List.getElem?_cons_zero:= @List.getElem?_cons_zero
theorem bC0 : type_of% @Option.map_eq_some_iff:= @Option.map_eq_some_iff
theorem bD0 : type_of% @List.getElem?_append_right:= @List.getElem?_append_right
theorem bE0 : type_of% @List.length_take:= @List.length_take
theorem bF0 : type_of% @List.take_add_one:= @List.take_add_one
theorem bG0 : type_of% @List.cons.injEq:= @List.cons.injEq
theorem bH0 : type_of% @List.mem_of_getElem?:= @List.mem_of_getElem?
theorem bI0 : type_of% @Array.getElem?_push:= @Array.getElem?_push
theorem bJ0 : type_of% @List.getD_eq_getElem?_getD:= @List.getD_eq_getElem?_getD
theorem bK0 : type_of% @List.getElem_of_mem:= @List.getElem_of_mem
theorem bL0 : type_of% @Option.isSome_iff_exists:= @Option.isSome_iff_exists
theorem bM0 : type_of% @Array.getElem?_eq_getElem:= @Array.getElem?_eq_getElem
theorem bN0 : type_of% @List.getElem?_map:= @List.getElem?_map
theorem bO0 : type_of% @List.eq_nil_of_length_eq_zero:= @List.eq_nil_of_length_eq_zero
theorem bP0 : type_of% @List.getElem?_cons_succ:= @List.getElem?_cons_succ
theorem bQ0 : type_of% @Array.length_toList:= @Array.length_toList
theorem bR0 : type_of% @List.append_nil:= @List.append_nil
theorem bS0 : type_of% @Nat.zero_add:= @Nat.zero_add
theorem bT0 : type_of% @List.mem_flatMap:= @List.mem_flatMap
theorem bU0 : type_of% @Nat.add_mul:= @Nat.add_mul
theorem bV0 : type_of% @List.nodup_append:= @List.nodup_append
theorem bW0 : type_of% @List.length_drop:= @List.length_drop
theorem bX0 : type_of% @List.getElem?_take_of_lt:= @List.getElem?_take_of_lt
theorem bY0 : type_of% @Nat.lt_of_lt_of_le:= @Nat.lt_of_lt_of_le
theorem bZ0 : type_of% @List.dropLast_singleton:= @List.dropLast_singleton
theorem cA0 : type_of% @List.dropLast_cons_cons:= @List.dropLast_cons_cons
theorem cB0 : type_of% @Option.getD_some:= @Option.getD_some
theorem cC0 : type_of% @List.map_map:= @List.map_map
theorem cD0 : type_of% @List.mem_range:= @List.mem_range
theorem cE0 : type_of% @Nat.mul_le_mul_left:= @Nat.mul_le_mul_left
theorem cF0 : type_of% @List.foldl_append:= @List.foldl_append
theorem cG0 : type_of% @List.mem_of_mem_take:= @List.mem_of_mem_take
theorem cH0 : type_of% @Nat.zero_le:= @Nat.zero_le
theorem cI0 : type_of% @Array.getElem?_setIfInBounds_self_of_lt:= @Array.getElem?_setIfInBounds_self_of_lt
theorem cJ0 : type_of% @Array.getElem?_modify:= @Array.getElem?_modify
theorem cK0 : type_of% @List.pairwise_cons:= @List.pairwise_cons
theorem cL0 : type_of% @List.take_of_length_le:= @List.take_of_length_le
theorem cM0 : type_of% @List.any_eq_true:= @List.any_eq_true
theorem cN0 : type_of% @List.map_congr_left:= @List.map_congr_left
theorem cO0 : type_of% @List.flatMap_cons:= @List.flatMap_cons
theorem cP0 : type_of% @List.mem_filter:= @List.mem_filter
theorem cQ0 : type_of% @List.foldl_cons:= @List.foldl_cons
theorem cR0 : type_of% @List.drop_length:= @List.drop_length
theorem cS0 : type_of% @List.nodup_cons:= @List.nodup_cons
theorem cT0 : type_of% @List.dropLast_nil:= @List.dropLast_nil
theorem cU0 : type_of% @List.length_filter_le:= @List.length_filter_le
theorem cV0 : type_of% @List.pop_toArray:= @List.pop_toArray
theorem cW0 : type_of% @Array.getElem?_setIfInBounds:= @Array.getElem?_setIfInBounds
theorem cX0 : type_of% @List.mem_map_of_mem:= @List.mem_map_of_mem
theorem cY0 : type_of% @Bool.or_eq_true:= @Bool.or_eq_true
theorem cZ0 : type_of% @List.sum_cons:= @List.sum_cons
theorem dA0 : type_of% @List.any_eq_false:= @List.any_eq_false
theorem dB0 : type_of% @List.all_cons:= @List.all_cons
theorem dC0 : type_of% @Array.getElem?_setIfInBounds_ne:= @Array.getElem?_setIfInBounds_ne
theorem dD0 : type_of% @List.getElem?_drop:= @List.getElem?_drop
theorem dE0 : type_of% @List.drop_of_length_le:= @List.drop_of_length_le
theorem dF0 : type_of% @List.range_succ:= @List.range_succ
theorem dG0 : type_of% @List.getElem_mem:= @List.getElem_mem
theorem dH0 : type_of% @List.length_replicate:= @List.length_replicate
theorem dI0 : type_of% @Int.toNat_natCast:= @Int.toNat_natCast
theorem dJ0 : type_of% @Nat.add_assoc:= @Nat.add_assoc
theorem dK0 : type_of% @List.take_succ_cons:= @List.take_succ_cons
theorem dL0 : type_of% @List.size_toArray:= @List.size_toArray
theorem dM0 : type_of% @List.pairwise_map:= @List.pairwise_map
theorem dN0 : type_of% @Option.map_some:= @Option.map_some
theorem dO0 : type_of% @Nat.le_of_eq:= @Nat.le_of_eq
theorem dP0 : type_of% @List.getElem?_toArray:= @List.getElem?_toArray
theorem dQ0 : type_of% @Nat.add_zero:= @Nat.add_zero
theorem dR0 : type_of% @Array.getElem?_append_left:= @Array.getElem?_append_left
theorem dS0 : type_of% @List.map_toArray:= @List.map_toArray
theorem dT0 : type_of% @List.filter_append:= @List.filter_append
theorem dU0 : type_of% @Nat.not_lt_zero:= @Nat.not_lt_zero
theorem dV0 : type_of% @Array.getElem?_replicate:= @Array.getElem?_replicate
theorem dW0 : type_of% @List.eq_nil_iff_forall_not_mem:= @List.eq_nil_iff_forall_not_mem
theorem dX0 : type_of% @List.mergeSort_perm:= @List.mergeSort_perm
theorem dY0 : type_of% @List.drop_succ_cons:= @List.drop_succ_cons
theorem dZ0 : type_of% @Nat.sub_self:= @Nat.sub_self
theorem eA0 : type_of% @Nat.max_le:= @Nat.max_le
theorem eB0 : type_of% @Bool.true_and:= @Bool.true_and
theorem eC0 : type_of% @Bool.not_eq_true':= @Bool.not_eq_true'
theorem eD0 : type_of% @List.not_mem_nil:= @List.not_mem_nil
theorem eE0 : type_of% @Array.toList_map:= @Array.toList_map
theorem eF0 : type_of% @List.set_cons_zero:= @List.set_cons_zero
theorem eG0 : type_of% @List.getElem?_replicate:= @List.getElem?_replicate
theorem eH0 : type_of% @List.length_range:= @List.length_range
theorem eI0 : type_of% @List.getElem?_eq_none:= @List.getElem?_eq_none
theorem eJ0 : type_of% @List.countP_eq_length:= @List.countP_eq_length
theorem eK0 : type_of% @Array.mem_of_getElem?:= @Array.mem_of_getElem?
theorem eL0 : type_of% @Array.getElem?_toList:= @Array.getElem?_toList
theorem eM0 : type_of% @Nat.mod_eq_of_lt:= @Nat.mod_eq_of_lt
theorem eN0 : type_of% @List.take_append_of_le_length:= @List.take_append_of_le_length
theorem eO0 : type_of% @List.drop_append_of_le_length:= @List.drop_append_of_le_length
theorem eP0 : type_of% @Option.map_none:= @Option.map_none
theorem eQ0 : type_of% @List.getElem?_range:= @List.getElem?_range
theorem eR0 : type_of% @Int.le_refl:= @Int.le_refl
theorem eS0 : type_of% @Array.getElem_setIfInBounds:= @Array.getElem_setIfInBounds
theorem eT0 : type_of% @Nat.sub_zero:= @Nat.sub_zero
theorem eU0 : type_of% @List.map_set:= @List.map_set
theorem eV0 : type_of% @List.getElem?_take:= @List.getElem?_take
theorem eW0 : type_of% @List.flatten_cons:= @List.flatten_cons
theorem eX0 : type_of% @Array.toList_push:= @Array.toList_push
theorem eY0 : type_of% @List.length_eq_zero_iff:= @List.length_eq_zero_iff
theorem eZ0 : type_of% @Bool.and_true:= @Bool.and_true
theorem fA0 : type_of% @List.zipIdx_cons:= @List.zipIdx_cons
theorem fB0 : type_of% @List.countP_cons:= @List.countP_cons
end Go.Dm
section
namespace Go.Dm
inductive DVal where
 | any
 | undef
 | sel (c:Bool) (d:DVal)
 | bool (b:Bool)
 | int (k:IntKind) (n:Int)
 | str (s:ByteArray)
 | nilp
 | ref (cs:List DVal)
 | bx (id r off:Nat)
 | rx (id r k i j:Nat)
 | nilsl
 | esl
 | sl (k bs:Nat) (es:List (List DVal))
 | osl (id r:Nat)
 | vw (id r k bs i n:Nat)
 | nilmp
 | mp (ks vs:List DVal)
 | omp (id r:Nat)
 | pk (id r:Nat)
 | nilfn
 | fn (f:Fn) (first caps:List DVal)
 | nilifc
 | ifc (t:TypeId) (d:DVal)
 | agg (cs:List DVal)
 | tup (vs:List DVal)
 deriving Inhabited
structure Loc where
 blks:List Nat
 hdr:Value
def Pm (es:Array MapEntry) (clk:Nat):Prop:=(es.toList.map (·.born)).Nodup/\∀e∈es.toList,e.born<clk
def JI : IntKind->Int->Prop
 | .i64,n=> -9223372036854775808<=n/\n<=9223372036854775807
 | .u64,n=>0<=n/\n<=18446744073709551615
 | .u8,n=>0<=n/\n<=255
 | .i8,n=> -128<=n/\n<=127
 | .i16,n=> -32768<=n/\n<=32767
 | .u16,n=>0<=n/\n<=65535
 | .i32,n=> -2147483648<=n/\n<=2147483647
 | .u32,n=>0<=n/\n<=4294967295
abbrev Fb := Nat->Nat->Option Loc
section
variable (cur : Fb) (M : List Nat) (h : Array Obj)
mutual
def rd : DVal->Value->Prop
 | .any,_=>True
 | .undef,v=>v=Go.undef
 | .sel c d,v=>(c=true->rd d v)/\(c=false->v=Go.undef)
 | .bool b,v=>v= .bool b
 | .int k n,v=>v= .int k n/\JI k n
 | .str s,v=>v= .string s/\s.size<=maxLen
 | .nilp,v=>v= .pointer none
 | .ref cs,v=>∃b off arr ty fz,v= .pointer (some ⟨b,off,none⟩)/\b∉M/\h[b]? =some (.cells arr ty fz)/\Ea cs arr off
 | .bx id r off,v=>∀l,cur id r=some l->∃b,l.blks=[b]/\v= .pointer (some ⟨b,off,none⟩)
 | .rx id r k i j,v=>∀l,cur id r=some l->∃b,l.blks=[b]/\v= .pointer (some ⟨b,i*k+j,none⟩)
 | .nilsl,v=>v= .slice none 0 0
 | .esl,v=>∃ad cap,v= .slice (some ad) 0 cap/\cap<=maxLen
 | .sl k bs es,v=>∃a cap,v= .slice a es.length cap/\es.length<=cap/\cap<=maxLen/\es.length*bs<=150000000000000 /\
  ((es=[]/\(a=none->cap=0))\/∃b off arr ty fz,a=some ⟨b,off,none⟩/\b∉M/\h[b]? =some (.cells arr ty fz)/\EB k es arr off)
 | .osl id r,v=>∀l,cur id r=some l->v=l.hdr
 | .vw id r k _ i n,v=>∀l,cur id r=some l->∃a cap,v= .slice a n cap/\n<=cap/\cap<=maxLen/\(a=none->cap=0)/\(0<n->∃b,l.blks=[b]/\a=some ⟨b,i*k,none⟩)/\(i=0->∃n0,l.hdr= .slice a n0 cap)
 | .nilmp,v=>v= .map none
 | .mp ks vs,v=>∃b es clk,v= .map (some b)/\b∉M/\h[b]? =some (.map es clk)/\Pm es clk/\AI ks (es.toList.map (·.key))/\AI vs (es.toList.map (·.val))
 | .omp id r,v=>∀l,cur id r=some l->∃b,l.blks=[b]/\v= .map (some b)
 | .pk id r,v=>∀l,cur id r=some l->v=l.hdr
 | .nilfn,v=>v= .nilFunc
 | .fn f us cs,v=>∃us' cs':Array Value,v= .func f us' cs'/\AI us us'.toList/\AI cs cs'.toList
 | .nilifc,v=>v= .nilIface
 | .ifc t d,v=>∃u,v= .iface t u/\rd d u
 | .agg cs,v=>∃us:Array Value,v= .agg us/\AI cs us.toList
 | .tup cs,v=>∃us:Array Value,v= .tuple us/\AI cs us.toList
def Ea : List DVal->Array Value->Nat->Prop
 | [],_,_=>True
 | d::ds,arr,o=>(∃v,arr[o]? =some v/\v.oneCell'=true/\rd d v)/\Ea ds arr (o+1)
def EB (k:Nat):List (List DVal)->Array Value->Nat->Prop
 | [],_,_=>True
 | cs::es,arr,o=>cs.length=k/\Ea cs arr o/\EB k es arr (o+k)
def AI : List DVal->List Value->Prop
 | [],vs=>vs=[]
 | d::ds,vs=>∃v r,vs=v::r/\rd d v/\AI ds r
end
end
mutual
def mx : DVal->Nat
 | .ref cs=>AR cs
 | .bx _ r _=>r+1
 | .rx _ r _ _ _=>r+1
 | .osl _ r=>r+1
 | .vw _ r _ _ _ _=>r+1
 | .mp ks vs=>max (AR ks) (AR vs)
 | .omp _ r=>r+1
 | .pk _ r=>r+1
 | .sl _ _ es=>Bx es
 | .fn _ us cs=>max (AR us) (AR cs)
 | .ifc _ d=>mx d
 | .sel c d=>if c then mx d else 0
 | .agg cs=>AR cs
 | .tup cs=>AR cs
 | _=>0
def AR : List DVal->Nat
 | []=>0
 | d::ds=>max (mx d) (AR ds)
def Bx : List (List DVal)->Nat
 | []=>0
 | cs::es=>max (AR cs) (Bx es)
end
section
variable {cur cur' : Fb} {M M' : List Nat} {h h' : Array Obj} {n : Nat}
def Hi : Obj->Bool
 | .cells _ _ _=>true
 | .map _ _=>true
 | _=>false
structure Weak (cur cur':Fb) (M M':List Nat) (h h':Array Obj) (n:Nat):Prop where
 c:∀id r l,r<n->cur' id r=some l->cur id r=some l
 b:∀b o,b∉M->Hi o=true->h[b]? =some o->h'[b]? =some o
 m:∀b o,b∉M->Hi o=true->h[b]? =some o->b∉M'
mutual
theorem Cu (W:Weak cur cur' M M' h h' n):∀(d:DVal) (v:Value),mx d<=n->rd cur M h d v->rd cur' M' h' d v
 | .any,_,_,_=>by simp[rd]
 | .undef,_,_,hr=>by simpa[rd]using hr
 | .sel c d,v,hm,hr=>by
  simp only[mx]at hm;simp only[rd]at hr |-;exact⟨fun h=>Cu W d v (by rw[if_pos h]at hm;exact hm) (hr.1 h),hr.2⟩
 | .bool _,_,_,hr=>by simpa[rd]using hr
 | .int _ _,_,_,hr=>by simpa[rd]using hr
 | .str _,_,_,hr=>by simpa[rd]using hr
 | .nilp,_,_,hr=>by simpa[rd]using hr
 | .ref cs,v,hm,hr=>by
  simp only[mx]at hm;simp only[rd]at hr |-;obtain⟨b,off,arr,ty,fz,h1,h2,h3,h4⟩:=hr;exact⟨b,off,arr,ty,fz,h1,W.m b _ h2 rfl h3,W.b b _ h2 rfl h3,FH W cs arr off hm h4⟩
 | .bx id r off,v,hm,hr=>by
  simp only[mx]at hm;simp only[rd]at hr |-;exact fun l hl=>hr l (W.c id r l (by omega) hl)
 | .rx id r k i j,v,hm,hr=>by
  simp only[mx]at hm;simp only[rd]at hr |-;exact fun l hl=>hr l (W.c id r l (by omega) hl)
 | .nilsl,_,_,hr=>by simpa[rd]using hr
 | .esl,_,_,hr=>by simpa[rd]using hr
 | .sl k bs es,v,hm,hr=>by
  simp only[mx]at hm;simp only[rd]at hr |-;obtain⟨a,cap,h1,h2,jG,h2'',h3⟩:=hr;refine⟨a,cap,h1,h2,jG,h2'',h3.imp id ?_⟩;rintro⟨b,off,arr,ty,fz,g1,g2,g3,g4⟩;exact⟨b,off,arr,ty,fz,g1,W.m b _ g2 rfl g3,W.b b _ g2 rfl g3,Cx W k es arr off hm g4⟩
 | .osl id r,v,hm,hr=>by
  simp only[mx]at hm;simp only[rd]at hr |-;exact fun l hl=>hr l (W.c id r l (by omega) hl)
 | .vw id r k bs i n,v,hm,hr=>by
  simp only[mx]at hm;simp only[rd]at hr |-;exact fun l hl=>hr l (W.c id r l (by omega) hl)
 | .nilmp,_,_,hr=>by simpa[rd]using hr
 | .mp ks vs,v,hm,hr=>by
  simp only[mx]at hm;simp only[rd]at hr |-;obtain⟨b,es,clk,h1,h2,h3,h4,h5,h6⟩:=hr;exact⟨b,es,clk,h1,W.m b _ h2 rfl h3,W.b b _ h2 rfl h3,h4,Bd W ks _ (by omega) h5,Bd W vs _ (by omega) h6⟩
 | .omp id r,v,hm,hr=>by
  simp only[mx]at hm;simp only[rd]at hr |-;exact fun l hl=>hr l (W.c id r l (by omega) hl)
 | .pk id r,v,hm,hr=>by
  simp only[mx]at hm;simp only[rd]at hr |-;exact fun l hl=>hr l (W.c id r l (by omega) hl)
 | .nilfn,_,_,hr=>by simpa[rd]using hr
 | .fn f us cs,v,hm,hr=>by
  simp only[mx]at hm;simp only[rd]at hr |-;obtain⟨us',cs',h1,h2,h3⟩:=hr;exact⟨us',cs',h1,Bd W us _ (by omega) h2,Bd W cs _ (by omega) h3⟩
 | .nilifc,_,_,hr=>by simpa[rd]using hr
 | .ifc t d,v,hm,hr=>by
  simp only[mx]at hm;simp only[rd]at hr |-;obtain⟨u,h1,h2⟩:=hr;exact⟨u,h1,Cu W d u hm h2⟩
 | .agg cs,v,hm,hr=>by
  simp only[mx]at hm;simp only[rd]at hr |-;obtain⟨us,h1,h2⟩:=hr;exact⟨us,h1,Bd W cs _ hm h2⟩
 | .tup cs,v,hm,hr=>by
  simp only[mx]at hm;simp only[rd]at hr |-;obtain⟨us,h1,h2⟩:=hr;exact⟨us,h1,Bd W cs _ hm h2⟩
theorem FH (W:Weak cur cur' M M' h h' n):∀(ds:List DVal) (arr:Array Value) (o:Nat),AR ds<=n->Ea cur M h ds arr o->Ea cur' M' h' ds arr o
 | [],_,_,_,_=>by simp[Ea]
 | d::ds,arr,o,hm,hr=>by
  simp only[AR]at hm;simp only[Ea]at hr |-;obtain⟨⟨v,h1,kT,h2⟩,h3⟩:=hr;exact⟨⟨v,h1,kT,Cu W d v (by omega) h2⟩,FH W ds arr _ (by omega) h3⟩
theorem Cx (W:Weak cur cur' M M' h h' n):∀(k:Nat) (es:List (List DVal)) (arr:Array Value) (o:Nat),Bx es<=n->EB cur M h k es arr o->EB cur' M' h' k es arr o
 | _,[],_,_,_,_=>by simp[EB]
 | k,cs::es,arr,o,hm,hr=>by
  simp only[Bx]at hm;simp only[EB]at hr |-;obtain⟨h1,h2,h3⟩:=hr;exact⟨h1,FH W cs arr o (by omega) h2,Cx W k es arr _ (by omega) h3⟩
theorem Bd (W:Weak cur cur' M M' h h' n):∀(ds:List DVal) (vs:List Value),AR ds<=n->AI cur M h ds vs->AI cur' M' h' ds vs
 | [],_,_,hr=>by simpa[AI]using hr
 | d::ds,vs,hm,hr=>by
  simp only[AR]at hm;simp only[AI]at hr |-;obtain⟨v,r,h1,h2,h3⟩:=hr;exact⟨v,r,h1,Cu W d v (by omega) h2,Bd W ds r (by omega) h3⟩
end
end
class DMode where
 dr:Bool
instance (priority:=low) laxMode:DMode:=⟨false⟩
abbrev JW : DMode:=⟨true⟩
variable [DMode]
structure Abs where
 J:List Nat->List Nat->Value->Array Obj->Prop
 weak:∀M M' bl hd h h',(∀b o,b∉M->Hi o=true->h[b]? =some o->h'[b]? =some o)->(∀b o,b∉M->Hi o=true->h[b]? =some o->b∉M')->(∀b o,b∈bl->h[b]? =some o->h'[b]? =some o)->J M bl hd h->J M' bl hd h'
 one:∀M bl hd h,J M bl hd h->hd.oneCell'=true/\hd.cells= #[hd]
 nd:∀M bl hd h,J M bl hd h->∀b∈bl,∀c,h[b]? ≠some (.deferred c)
inductive DObj where
 | box (cs:List DVal)
 | row (et:TypeId) (k bs:Nat) (es:List (List DVal))
 | map (ks vs:List DVal)
 | abs (A:Abs)
structure Ent where
 id:Nat
 r:Nat
 obj:DObj
structure DS where
 slots:List (Nat×DVal)
 own:List Ent
def Bq : List (Nat×DVal)->Nat->DVal
 | [],_=> .any
 | (j,d)::t,i=>if i=j then d else Bq t i
def Ar : List Ent->Nat->Option Ent
 | [],_=>none
 | e::t,id=>if e.id=id then some e else Ar t id
def Nt_ : List Ent->Nat->DObj->List Ent
 | [],_,_=>[]
 | e::t,id,o=>if e.id=id then ⟨e.id,e.r,o⟩::t else e::Nt_ t id o
def CT : List Ent->Nat->List Ent
 | [],_=>[]
 | e::t,id=>if e.id=id then CT t id else e::CT t id
def Lj : List (Nat×DVal)->Nat
 | []=>0
 | p::t=>max (mx p.2) (Lj t)
def Fp : DObj->Nat
 | .box cs=>AR cs
 | .row _ _ _ es=>Bx es
 | .map ks vs=>max (AR ks) (AR vs)
 | .abs _=>0
def Hj : List Ent->Nat
 | []=>0
 | e::t=>max (max (e.r+1) (Fp e.obj)) (Hj t)
theorem QP (l:List (Nat×DVal)) (i:Nat):mx (Bq l i)<=Lj l:=by
 induction l with
 | nil=>simp[Bq,mx,Lj]
 | cons p t ih =>
  obtain⟨j,d⟩:=p;simp only[Bq,Lj]
  split<;>omega
theorem Bs {own:List Ent} {e:Ent} (h:e∈own):e.r<Hj own/\Fp e.obj<=Hj own:=by
 induction own with
 | nil=>cases h
 | cons a t ih =>
  simp only[Hj]
  rcases aJ0.1 h with rfl | h
  ·omega
  ·have:=ih h;omega
def Ae (own:List Ent) (loc:Nat->Loc):Fb:=fun id r =>
 match Ar own id with
 | some e=>if e.r=r then some (loc id)else none
 | none=>none
def Ab (own:List Ent) (loc:Nat->Loc):List Nat:=own.flatMap fun e=>(loc e.id).blks
section
variable (cur : Fb) (M : List Nat) (h : Array Obj)
def KW (l:Loc):DObj->Prop
 | .box cs=>∃b arr ty,l.blks=[b]/\h[b]? =some (.cells arr ty (0,0))/\arr.size=cs.length/\Ea cur M h cs arr 0
 | .row et k bs es=>es.length*bs<=150000000000000/\((es=[]/\l.blks=[]/\l.hdr= .slice none 0 0) \/
  ∃b arr cap,l.blks=[b]/\l.hdr= .slice (some ⟨b,0,none⟩) es.length cap/\h[b]? =some (.cells arr et (0,0))/\es.length<=cap/\cap<=maxLen/\cap*k=arr.size/\EB cur M h k es arr 0)
 | .map ks vs=>∃b es clk,l.blks=[b]/\h[b]? =some (.map es clk)/\Pm es clk/\AI cur M h ks (es.toList.map (·.key))/\AI cur M h vs (es.toList.map (·.val))
 | .abs A=>A.J M l.blks l.hdr h
end
theorem Bp {cur cur':Fb} {M M':List Nat} {h h':Array Obj} {n:Nat} {l:Loc} {obj:DObj} (W:Weak cur cur' M M' h h' n) (hn:Fp obj<=n)
  (keep:∀b o,b∈l.blks->h[b]? =some o->h'[b]? =some o) (hk:KW cur M h l obj):KW cur' M' h' l obj:=by
 cases obj with
 | box cs =>
  simp only[Fp]at hn;obtain⟨b,arr,ty,h1,h2,h3,h4⟩:=hk;exact⟨b,arr,ty,h1,keep b _ (by simp[h1]) h2,h3,FH W cs arr 0 hn h4⟩
 | row et k bs es =>
  simp only[Fp]at hn;obtain⟨h0,hk⟩:=hk;refine⟨h0,hk.imp id ?_⟩;rintro⟨b,arr,cap,h1,h2,h3,h4,h5,h6,h7⟩;exact⟨b,arr,cap,h1,h2,keep b _ (by simp[h1]) h3,h4,h5,h6,Cx W k es arr 0 hn h7⟩
 | map ks vs =>
  simp only[Fp]at hn;obtain⟨b,es,clk,h1,h2,h3,h4,h5⟩:=hk;exact⟨b,es,clk,h1,keep b _ (by simp[h1]) h2,h3,Bd W ks _ (by omega) h4,Bd W vs _ (by omega) h5⟩
 | abs A=>exact A.weak M M' l.blks l.hdr h h' W.b W.m keep hk
structure St (own:List Ent) (loc:Nat->Loc) (M0:List Nat) (h:Array Obj):Prop where
 nd:(own.map (·.id)).Nodup
 bl:(Ab own loc).Nodup
 ap:∀b∈Ab own loc,b∉M0
 lt:∀b∈Ab own loc++M0,b<h.size
 ok:∀e∈own,KW (Ae own loc) (Ab own loc++M0) h (loc e.id) e.obj
structure Upd (H:List Nat) (w w':World):Prop where
 os:w'.os=w.os
 tape:w'.tape=w.tape
 output:w'.output=w.output
 drawn:DMode.dr=true->w.drawn<=w'.drawn
 size:w.heap.size<=w'.heap.size
 blk:∀b,b<w.heap.size->b∉H->w'.heap[b]? =w.heap[b]?
theorem Upd.refl (H:List Nat) (w:World):Upd H w w:=⟨rfl,rfl,rfl,fun _=>Nat.le_refl _,Nat.le_refl _,fun _ _ _=>rfl⟩
theorem Upd.trans {H H':List Nat} {a b c:World} (h:Upd H a b) (k:Upd H' b c) (hh:∀x∈H',x∈H\/a.heap.size<=x):Upd H a c :=
 ⟨k.os.trans h.os,k.tape.trans h.tape,k.output.trans h.output,fun hd=>Nat.le_trans (h.drawn hd) (k.drawn hd),Nat.le_trans h.size k.size,fun x hx hn =>
  (k.blk x (bY0 hx h.size) (fun hm=>by rcases hh x hm with h1 | h1;exact hn h1;omega)).trans (h.blk x hx hn)⟩
theorem Upd.alloc (H:List Nat) (w:World) (o:Obj):Upd H w (w.alloc o) :=
 ⟨rfl,rfl,rfl,fun _=>Nat.le_refl _,by simp,fun b hb _=>by simp only[World.alloc,bI0];rw[if_neg (by omega)]⟩
theorem Upd.drew (H:List Nat) (w:World):Upd H w w.drew:=⟨rfl,rfl,rfl,fun _=>by simp,Nat.le_refl _,fun _ _ _=>rfl⟩
theorem Upd.nil {H:List Nat} {w w':World} (h:Upd [] w w'):Upd H w w':=⟨h.os,h.tape,h.output,h.drawn,h.size,fun b hb _=>h.blk b hb (by simp)⟩
structure Base where
 own0:List Ent
 loc0:Nat->Loc
 M0:List Nat
 N:Nat
 w0:World
 nt:Nat
 ro:Option Nat:=none
 hN:N<=1:=by decide
 nd:Nat
 hnd:nd<=w0.heap.size
def LG_ (B:Base) (M:List Nat) (a:Act) (h:Array Obj):Prop :=
 ∃rs:List Nat,a.defers=rs.map (fun r=>{ target:= .collected r,args:= #[] })/\rs.Nodup/\(∀r∈rs,h[r]? =some (.deferred (some []))/\B.nd<=r/\r∉M)/\(B.ro≠none->rs=[])
theorem LG_.keep {B:Base} {M M' H:List Nat} {a a':Act} {w w':World} (hd:LG_ B M a w.heap) (ha:a'.defers=a.defers)
  (hu:Upd H w w') (hH:∀x∈H,x∈M) (hm:∀b∈M',b∈M\/w.heap.size<=b):LG_ B M' a' w'.heap:=by
 obtain⟨rs,h1,h0,h2,h3⟩:=hd;refine⟨rs,ha.trans h1,h0,fun r hr=> ?_,h3⟩;obtain⟨g1,g2,g3⟩:=h2 r hr;have qV:=(aF0.1 g1).1;refine⟨by rw[hu.blk r qV (fun h=>g3 (hH r h))];exact g1,g2,fun h=> ?_⟩
 rcases hm r h with h | h
 ·exact g3 h
 ·omega
structure Rel (B:Base) (s:DS) (a:Act) (w:World) (loc:Nat->Loc):Prop where
 st:St s.own loc B.M0 w.heap
 upd:Upd (Ab B.own0 B.loc0) B.w0 w
 new:∀b∈Ab s.own loc,b∈Ab B.own0 B.loc0\/B.w0.heap.size<=b
 ver:∀e∈s.own,e.r<B.N->Ae B.own0 B.loc0 e.id e.r=some (loc e.id)
 sl:∀i,rd (Ae s.own loc) (Ab s.own loc++B.M0) w.heap (Bq s.slots i) (a.tmps.getD i Go.undef)
 nt:a.tmps.size=B.nt
 df:LG_ B (Ab s.own loc++B.M0) a w.heap
theorem AN {own:List Ent} {id:Nat} {e:Ent} (h:Ar own id=some e):e∈own/\e.id=id:=by
 induction own with
 | nil=>simp[Ar]at h
 | cons a t ih =>
  simp only[Ar]at h
  split at h
  ·simp only[aA0]at h;subst h;exact⟨aE0,by assumption⟩
  ·have:=ih h;exact⟨aC0 _ this.1,this.2⟩
theorem Cn {own:List Ent} (nd:(own.map (·.id)).Nodup) {e:Ent} (h:e∈own):Ar own e.id=some e:=by
 induction own with
 | nil=>cases h
 | cons a t ih =>
  simp only[List.map_cons,cS0]at nd;simp only[Ar]
  rcases aJ0.1 h with rfl | h
  ·simp
  ·rw[if_neg,ih nd.2 h];intro he;exact nd.1 (he▸cX0 (f:=(·.id)) h)
theorem BQ {own:List Ent} {loc:Nat->Loc} {id r:Nat} {l:Loc} (h:Ae own loc id r=some l):∃e∈own,e.id=id/\e.r=r/\l=loc id:=by
 unfold Ae at h
 split at h
 ·rename_i e he
  split at h
  ·simp only[aA0]at h;obtain⟨h1,h2⟩:=AN he;exact⟨e,h1,h2,by assumption,h.symm⟩
  ·simp at h
 ·simp at h
theorem Bm {own:List Ent} {loc:Nat->Loc} {e:Ent} {b:Nat} (h:e∈own) (hb:b∈(loc e.id).blks):b∈Ab own loc :=
 bT0.2 ⟨e,h,hb⟩
theorem Fh {own own':List Ent} {loc loc':Nat->Loc} {M0:List Nat} {w w':World} {n:Nat}
  (fG:Upd (Ab own loc) w w') (wD:∀b∈Ab own' loc',b∈Ab own loc\/w.heap.size<=b)
  (zV:∀e∈own',e.r<n->Ae own loc e.id e.r=some (loc' e.id)) :
  Weak (Ae own loc) (Ae own' loc') (Ab own loc++M0) (Ab own' loc'++M0) w.heap w'.heap n where
 c:=by
  intro id r l hr hl;obtain⟨e,he,rfl,rfl,rfl⟩:=BQ hl;exact zV e he hr
 b:=by
  intro b o hb _ ho;have qV:b<w.heap.size:=(aF0.1 ho).1;rw[fG.blk b qV (fun h=>hb (aN0 _ h))];exact ho
 m:=by
  intro b o hb _ ho hm;have qV:b<w.heap.size:=(aF0.1 ho).1
  rcases aI0.1 hm with h | h
  ·rcases wD b h with h1 | h1
   ·exact hb (aN0 _ h1)
   ·omega
  ·exact hb (aP0 _ h)
theorem Iz_ (a:Act) (dst:Option Nat) (v:Value) (i:Nat) (hd:∀d,dst=some d->d<a.tmps.size) :
  (a.put dst v).tmps.getD i Go.undef=if dst=some i then v else a.tmps.getD i Go.undef:=by
 cases dst with
 | none=>simp[Act.put]
 | some d =>
  have:=hd d rfl;simp only[Act.put,aK0,cW0,aA0]
  by_cases h:d=i
  ·subst h;simp[this]
  ·simp[h]
theorem size_put (a:Act) (dst:Option Nat) (v:Value):(a.put dst v).tmps.size=a.tmps.size:=by
 cases dst<;>simp[Act.put]
theorem AD_ (a:Act) (dst:Option Nat) (v:Value):(a.put dst v).defers=a.defers:=by
 cases dst<;>rfl
def BI (l:List (Nat×DVal)):Option Nat->DVal->List (Nat×DVal)
 | some i,d=>(i,d)::l
 | none,_=>l
theorem Rel.step {B:Base} {s:DS} {a:Act} {w w':World} {loc loc':Nat->Loc} {own':List Ent} {n:Nat} {v:Value} {d:DVal} {dst:Option Nat}
  (R:Rel B s a w loc) (hn:B.N<=n) (hs:Lj s.slots<=n) (qI:∀i,dst=some i->i<B.nt)
  (qL:St own' loc' B.M0 w'.heap) (fG:Upd (Ab s.own loc) w w')
  (wD:∀b∈Ab own' loc',b∈Ab s.own loc\/w.heap.size<=b)
  (zV:∀e∈own',e.r<n->Ae s.own loc e.id e.r=some (loc' e.id))
  (hd:rd (Ae own' loc') (Ab own' loc'++B.M0) w'.heap d v) :
  Rel B ⟨BI s.slots dst d,own'⟩ (a.put dst v) w' loc' where
 st:=qL
 upd:=R.upd.trans fG R.new
 new:=by
  intro b hb
  rcases wD b hb with h | h
  ·exact R.new b h
  ·exact .inr (Nat.le_trans R.upd.size h)
 ver:=by
  intro e he hr;obtain⟨e',zJ,h1,h2,h3⟩:=BQ (zV e he (bY0 hr hn));have:=R.ver e' zJ (by omega);rw[h1,h2]at this;rw[this,h3]
 sl:=by
  intro i;have yT:=Iz_ a dst v i (fun d hd=>by rw[R.nt];exact qI d hd);rw[yT];have W:=Fh (M0:=B.M0) fG wD zV
  have fD:rd (Ae own' loc') (Ab own' loc'++B.M0) w'.heap (Bq s.slots i) (a.tmps.getD i Go.undef) :=
   Cu W _ _ (Nat.le_trans (QP _ _) hs) (R.sl i)
  cases dst with
  | none=>simpa[BI]using fD
  | some j =>
   simp only[BI,Bq]
   by_cases yK:i=j
   ·subst yK;simpa using hd
   ·rw[if_neg yK,if_neg (fun h=>yK (Option.some.inj h).symm)];exact fD
 nt:=by rw[size_put];exact R.nt
 df:=by
  refine R.df.keep (AD_ a dst v) fG (fun x hx=>aN0 _ hx) ?_;intro b hb
  rcases aI0.1 hb with h | h
  ·rcases wD b h with h | h
   ·exact .inl (aN0 _ h)
   ·exact .inr h
  ·exact .inl (aP0 _ h)
theorem St.keep {own:List Ent} {loc:Nat->Loc} {M0:List Nat} {w w':World} (h:St own loc M0 w.heap) (u:Upd [] w w'):St own loc M0 w'.heap where
 nd:=h.nd
 bl:=h.bl
 ap:=h.ap
 lt:=fun b hb=>bY0 (h.lt b hb) u.size
 ok:=by
  intro e he
  have W:Weak (Ae own loc) (Ae own loc) (Ab own loc++M0) (Ab own loc++M0) w.heap w'.heap (Fp e.obj):=by
   refine Fh u.nil (fun b hb=> .inl hb) ?_;intro e' zJ _;unfold Ae;rw[Cn h.nd zJ];simp
  have hb:∀b o,w.heap[b]? =some o->w'.heap[b]? =some o:=fun b o ho=>by
   rw[u.blk b (aF0.1 ho).1 (by simp)];exact ho
  exact Bp W (Nat.le_refl _) (fun b o _ ho=>hb b o ho) (h.ok e he)
theorem AV {own:List Ent} {loc:Nat->Loc} (nd:(own.map (·.id)).Nodup) {e:Ent} (he:e∈own):Ae own loc e.id e.r=some (loc e.id):=by
 unfold Ae;rw[Cn nd he];simp
theorem Rel.put {B:Base} {s:DS} {a:Act} {w w':World} {loc:Nat->Loc} {v:Value} {d:DVal} {dst:Option Nat}
  (R:Rel B s a w loc) (qI:∀i,dst=some i->i<B.nt) (fG:Upd [] w w')
  (hd:rd (Ae s.own loc) (Ab s.own loc++B.M0) w'.heap d v):Rel B ⟨BI s.slots dst d,s.own⟩ (a.put dst v) w' loc :=
 R.step (n:=max B.N (Lj s.slots)) (by omega) (by omega) qI (R.st.keep fG) fG.nil (fun b hb=> .inl hb) (fun e he _=>AV R.st.nd he) hd
end Go.Dm
end
section
namespace Go.Dm
variable [DMode]
section
variable (P : Program)
def tAgg (t:TypeId):Option Bool :=
 match P.underlying t with
 | some (.struct _)=>some true
 | some (.array _ _)=>some true
 | some _=>some false
 | none=>none
def tCells (t:TypeId):Option Nat:=(P.info? t).map (·.size)
def tField (t f:Nat):Option (Nat×Nat×Bool) :=
 match P.underlying t with
 | some (.struct fs) =>
  match fs[f]? with
  | some fl=>match tCells P fl.type,tAgg P fl.type with
   | some n,some b=>some (fl.offset,n,b)
   | _,_=>none
  | none=>none
 | _=>none
def tElem (t:TypeId):Option (Nat×Nat) :=
 match P.underlying t with
 | some (.slice e)=>(P.info? e).map fun i=>(i.size,i.bytes)
 | _=>none
end
instance (k:IntKind) (n:Int):Decidable (JI k n):=by cases k<;>unfold JI<;>infer_instance
def Cm : Value->DVal
 | .bool b=> .bool b
 | .int k n=>if JI k n then .int k n else .any
 | .string s=>if s.size<=maxLen then .str s else .any
 | .pointer none=> .nilp
 | .slice none 0 0=> .nilsl
 | .map none=> .nilmp
 | .nilFunc=> .nilfn
 | .nilIface=> .nilifc
 | _=> .any
def ofV : Value->DVal
 | .agg cs=> .agg (cs.toList.map Cm)
 | v=>Cm v
def ev (l:List (Nat×DVal)):Operand->DVal
 | .tmp t=>Bq l t
 | .const v=>ofV v
 | .global _=> .any
 | .func f=> .fn (.func f) [] []
def DU (own:List Ent):DVal->Option (List DVal)
 | .ref cs=>some cs
 | .bx id r off=>match Ar own id with
  | some e=>if e.r=r then (match e.obj with | .box cs=>some (cs.drop off) | _=>none)else none
  | none=>none
 | .rx id r k i j=>match Ar own id with
  | some e=>if e.r=r then (match e.obj with | .row _ k' _ es=>if k=k' then (es[i]?).map (·.drop j)else none | _=>none)else none
  | none=>none
 | _=>none
def Bn (own:List Ent):DVal->Option (Nat×Nat×List (List DVal))
 | .sl k bs es=>some (k,bs,es)
 | .osl id r=>match Ar own id with
  | some e=>if e.r=r then (match e.obj with | .row _ k bs es=>some (k,bs,es) | _=>none)else none
  | none=>none
 | .vw id r k bs i n=>match Ar own id with
  | some e=>if e.r=r then (match e.obj with | .row _ k' bs' es=>if k'=k/\bs'=bs/\i+n<=es.length then some (k,bs,(es.drop i).take n)else none | _=>none)else none
  | none=>none
 | _=>none
section
variable {P : Program} {cur : Fb} {M : List Nat} {h : Array Obj}
theorem BH_ (v:Value):rd cur M h (Cm v) v:=by
 unfold Cm
 split<;>(try split)<;>simp_all [rd]
theorem BM : ∀l:List Value,AI cur M h (l.map Cm) l
 | []=>by simp[AI]
 | v::l=>by
  simp only[List.map_cons,AI];exact⟨v,l,rfl,BH_ v,BM l⟩
theorem Hi_ (v:Value):rd cur M h (ofV v) v:=by
 unfold ofV
 split
 ·simp only[rd];exact⟨_,rfl,BM _⟩
 ·exact BH_ v
theorem GH : ∀(n:Nat) (cs:List DVal) (arr:Array Value) (o:Nat),Ea cur M h cs arr o->Ea cur M h (cs.drop n) arr (o+n)
 | 0,cs,arr,o,hr=>by simpa using hr
 | n+1,[],arr,o,hr=>by simp[Ea]
 | n+1,d::cs,arr,o,hr=>by
  simp only[Ea]at hr;simpa[dJ0,Nat.add_comm 1 n]using GH n cs arr (o+1) hr.2
theorem FI : ∀(cs:List DVal) (arr:Array Value) (o:Nat),Ea cur M h cs arr o->∃vs:List Value,vs.length=cs.length/\AI cur M h cs vs/\∀j v,vs[j]? =some v->arr[o+j]? =some v/\v.oneCell'=true
 | [],arr,o,_=>⟨[],rfl,by simp[AI],by simp⟩
 | d::cs,arr,o,hr=>by
  simp only[Ea]at hr;obtain⟨⟨v,h1,h2,h3⟩,h4⟩:=hr;obtain⟨vs,g1,g2,g3⟩:=FI cs arr (o+1) h4;refine⟨v::vs,by simp[g1],by simp only[AI];exact⟨v,vs,rfl,h3,g2⟩,?_⟩;intro j u hj
  cases j with
  | zero=>simp only[bB0,aA0]at hj;subst hj;exact⟨h1,h2⟩
  | succ j =>
   simp only[bP0]at hj;have:=g3 j u hj
   rwa[show o+1+j=o+(j+1) by omega]at this
theorem Nh : ∀(n:Nat) (cs:List DVal) (arr:Array Value) (o:Nat),Ea cur M h cs arr o->Ea cur M h (cs.take n) arr o
 | 0,cs,arr,o,_=>by simp[Ea]
 | n+1,[],arr,o,_=>by simp[Ea]
 | n+1,d::cs,arr,o,hr=>by
  simp only[Ea,dK0]at hr |-;exact⟨hr.1,Nh n cs arr (o+1) hr.2⟩
theorem Ec : ∀(k:Nat) (es:List (List DVal)) (arr:Array Value) (o i:Nat) (cs:List DVal),EB cur M h k es arr o->es[i]? =some cs->cs.length=k/\Ea cur M h cs arr (o+i*k)
 | k,[],arr,o,i,cs,_,hi=>by simp at hi
 | k,c::es,arr,o,0,cs,hr,hi=>by
  simp only[bB0,aA0]at hi;subst hi;simp only[EB]at hr;exact⟨hr.1,by simpa using hr.2.1⟩
 | k,c::es,arr,o,i+1,cs,hr,hi=>by
  simp only[bP0]at hi;simp only[EB]at hr;have:=Ec k es arr (o+k) i cs hr.2.2 hi
  rwa[show o+k+i*k=o+(i+1)*k by rw[bU0];omega]at this
theorem FW : ∀(k:Nat) (es:List (List DVal)) (arr:Array Value) (o:Nat),(∀(i:Nat) (cs:List DVal),es[i]? =some cs->cs.length=k/\Ea cur M h cs arr (o+i*k))->EB cur M h k es arr o
 | _,[],_,_,_=>by simp[EB]
 | k,c::es,arr,o,hr=>by
  simp only[EB];refine⟨(hr 0 c (by simp)).1,by simpa using (hr 0 c (by simp)).2,FW k es arr (o+k) fun i cs hi=> ?_⟩;have:=hr (i+1) cs (by simpa using hi)
  rwa[show o+(i+1)*k=o+k+i*k by rw[bU0];omega]at this
end
section
variable {P : Program} {s : DS} {loc : Nat -> Loc} {M0 : List Nat} {w : World}
abbrev cu (s:DS) (loc:Nat->Loc):Fb:=Ae s.own loc
abbrev hm (s:DS) (loc:Nat->Loc) (M0:List Nat):List Nat:=Ab s.own loc++M0
theorem AK_ (S:St s.own loc M0 w.heap) {p:DVal} {v:Value} {cs:List DVal} (hp:rd (cu s loc) (hm s loc M0) w.heap p v) (hc:DU s.own p=some cs) :
  ∃b off arr ty fz,v= .pointer (some ⟨b,off,none⟩)/\w.heap[b]? =some (.cells arr ty fz)/\Ea (cu s loc) (hm s loc M0) w.heap cs arr off:=by
 unfold DU at hc
 split at hc
 ·simp only[aA0]at hc;subst hc;simp only[rd]at hp;obtain⟨b,off,arr,ty,fz,h1,_,h3,h4⟩:=hp;exact⟨b,off,arr,ty,fz,h1,h3,h4⟩
 ·rename_i id r off
  split at hc
  ·rename_i e he
   split at hc
   ·rename_i wO
    split at hc
    ·rename_i cs0 wE;simp only[aA0]at hc;subst hc;obtain⟨vE,hid⟩:=AN he;have hk:=S.ok e vE;rw[wE]at hk;obtain⟨b,arr,ty,h1,h2,h3,h4⟩:=hk;simp only[rd]at hp;obtain⟨b',qD,hv⟩:=hp (loc id) (by unfold cu Ae;rw[he];simp[wO]);rw[<-hid,h1]at qD;simp only[bG0,and_true]at qD;subst qD;refine⟨b,off,arr,ty,(0,0),hv,h2,?_⟩;simpa using GH off cs0 arr 0 h4
    ·simp at hc
   ·simp at hc
  ·simp at hc
 ·rename_i id r k i j
  split at hc
  ·rename_i e he
   split at hc
   ·rename_i wO
    split at hc
    ·rename_i et k' bs es wE
     split at hc
     ·rename_i qZ;subst qZ;obtain⟨vE,hid⟩:=AN he;have hk:=S.ok e vE;rw[wE]at hk;obtain⟨_,hk⟩:=hk;simp only[bC0]at hc;obtain⟨c0,yW,rfl⟩:=hc
      rcases hk with ⟨rfl,_⟩ | ⟨b,arr,cap,h1,h2,h3,h4,h5,h6,h7⟩
      ·simp at yW
      ·simp only[rd]at hp;obtain⟨b',qD,hv⟩:=hp (loc id) (by unfold cu Ae;rw[he];simp[wO]);rw[<-hid,h1]at qD;simp only[bG0,and_true]at qD;subst qD;have:=Ec k es arr 0 i c0 h7 yW;refine⟨b,i*k+j,arr,et,(0,0),hv,h3,?_⟩;have h8:=GH j c0 arr _ this.2;simpa using h8
     ·simp at hc
    ·simp at hc
   ·simp at hc
  ·simp at hc
 ·simp at hc
theorem Le (S:St s.own loc M0 w.heap) {p:DVal} {v:Value} {k bs:Nat} {es:List (List DVal)} (hp:rd (cu s loc) (hm s loc M0) w.heap p v) (hc:Bn s.own p=some (k,bs,es)) :
  ∃a cap,v= .slice a es.length cap/\es.length<=cap/\cap<=maxLen/\es.length*bs<=150000000000000 /\
   (es=[]\/∃b off arr ty fz,a=some ⟨b,off,none⟩/\w.heap[b]? =some (.cells arr ty fz)/\EB (cu s loc) (hm s loc M0) w.heap k es arr off):=by
 unfold Bn at hc
 split at hc
 ·simp only[aA0,aT0]at hc;obtain⟨rfl,rfl,rfl⟩:=hc;simp only[rd]at hp;obtain⟨a,cap,h1,h2,h3,h4,h5⟩:=hp;refine⟨a,cap,h1,h2,h3,h4,?_⟩
  rcases h5 with h5 | ⟨b,off,arr,ty,fz,g1,g2,g3,g4⟩
  ·exact .inl h5.1
  ·exact .inr ⟨b,off,arr,ty,fz,g1,g3,g4⟩
 ·rename_i id r
  split at hc
  ·rename_i e he
   split at hc
   ·rename_i wO
    split at hc
    ·rename_i et k' bs' es' wE;simp only[aA0,aT0]at hc;obtain⟨rfl,rfl,rfl⟩:=hc;obtain⟨vE,hid⟩:=AN he;have hk:=S.ok e vE;rw[wE]at hk;obtain⟨wW,hk⟩:=hk;simp only[rd]at hp;have hv:=hp (loc id) (by unfold cu Ae;rw[he];simp[wO]);rw[<-hid]at hv
     rcases hk with ⟨rfl,_,h2⟩ | ⟨b,arr,cap,h1,h2,h3,h4,h5,h6,h7⟩
     ·refine⟨none,0,by rw[hv,h2];rfl,by simp,by unfold maxLen;omega,by simp,.inl rfl⟩
     ·exact⟨_,cap,by rw[hv,h2],h4,h5,wW,.inr ⟨b,0,arr,et,(0,0),rfl,h3,h7⟩⟩
    ·simp at hc
   ·simp at hc
  ·simp at hc
 ·rename_i id r k0 bs0 i n
  split at hc
  ·rename_i e he
   split at hc
   ·rename_i wO
    split at hc
    ·rename_i et k' bs' es' wE
     split at hc
     ·rename_i hb;obtain⟨rfl,rfl,hb⟩:=hb;simp only[aA0,aT0]at hc;obtain⟨rfl,rfl,rfl⟩:=hc;obtain⟨vE,hid⟩:=AN he;have hk:=S.ok e vE;rw[wE]at hk;obtain⟨wW,hk⟩:=hk;simp only[rd]at hp;obtain⟨a,cap,rfl,g1,g2,_,g3,_⟩:=hp (loc id) (by unfold cu Ae;rw[he];simp[wO]);have qU:((es'.drop i).take n).length=n:=by simp;omega
      refine⟨a,cap,by rw[qU],by omega,g2,by rw[qU];exact Nat.le_trans (aS0 _ (by omega:n<=es'.length)) wW,?_⟩
      by_cases h0:n=0
      ·subst h0;exact .inl (by simp)
      ·obtain⟨b,wQ,rfl⟩:=g3 (by omega);rw[<-hid]at wQ
       rcases hk with ⟨rfl,_⟩ | ⟨b',arr,cap',h1,h2,h3,h4,h5,h6,h7⟩
       ·simp at hb;omega
       ·rw[h1]at wQ;simp only[bG0,and_true]at wQ;subst wQ;refine .inr ⟨b',i*k',arr,et,(0,0),rfl,h3,FW _ _ _ _ fun q cs hq=> ?_⟩;rw[eV0]at hq
        split at hq
        ·rw[dD0]at hq;have:=Ec k' es' arr 0 (i+q) cs h7 hq
         rwa[bU0,bS0]at this
        ·simp at hq
     ·simp at hc
    ·simp at hc
   ·simp at hc
  ·simp at hc
 ·simp at hc
theorem Nu_ {a:Act} (hs:∀i,rd (cu s loc) (hm s loc M0) w.heap (Bq s.slots i) (a.tmps.getD i Go.undef)) (x:Operand) :
  rd (cu s loc) (hm s loc M0) w.heap (ev s.slots x) (a.eval x):=by
 cases x with
 | tmp t=>exact hs t
 | const v=>exact Hi_ v
 | global g=>simp[ev,rd]
 | func f=>simp only[ev,rd,Act.eval];exact⟨#[], #[],rfl,by simp[AI],by simp[AI]⟩
theorem Lc {t:TypeId} {b:Bool} (ht:tAgg P t=some b) (w:World):(isAgg t).run P w= .ok b w:=by
 unfold isAgg
 cases hu:P.underlying t with
 | none=>simp[tAgg,hu]at ht
 | some d =>
  rw[Sem.run_bind,run_underlying hu w];cases d<;>simp[tAgg,hu]at ht<;>subst ht<;>rfl
theorem CW {t:TypeId} {n:Nat} (ht:tCells P t=some n) (w:World):(sizeOf t).run P w= .ok n w:=by
 unfold tCells at ht
 cases hi:P.info? t with
 | none=>simp[hi]at ht
 | some i =>
  simp only[hi,dN0,aA0]at ht;simp[sizeOf,typeInfo,hi,ht]
theorem DX (b o n:Nat):Addr.add ⟨b,o,none⟩ n=⟨b,o+n,none⟩:=by unfold Addr.add;split<;>simp_all
end
section
variable (P : Program)
def Mg_ (t:TypeId):Option IntKind:=match P.underlying t with | some (.int k)=>some k | _=>none
def tStr (t:TypeId):Bool:=match P.underlying t with | some .string=>true | _=>false
def tBool (t:TypeId):Bool:=match P.underlying t with | some .bool=>true | _=>false
def tSl (t:TypeId):Bool:=match P.underlying t with | some (.slice _)=>true | _=>false
def tMp (t:TypeId):Bool:=match P.underlying t with | some (.map _ _)=>true | _=>false
def tPtr (t:TypeId):Bool:=match P.underlying t with | some (.pointer _)=>true | _=>false
def tZero (t:TypeId):Option (List DVal):=match P.info? t with
 | some i=>i.zero.map fun v=>v.cells.toList.map Cm
 | none=>none
def Dy (t:TypeId):Option (Array Field):=match P.underlying t with | some (.struct fs)=>some fs | _=>none
end
inductive CK where
 | b
 | i (k:IntKind)
 | s
section
variable (P : Program)
def Tj (g:TypeId->Option (List CK)):Nat->List Field->Option (List CK)
 | _,[]=>some []
 | o,f::fs=>if f.name= "_" then none else if f.offset≠o then none else
  match g f.type with
  | some ks=>if tCells P f.type=some ks.length then (Tj g (o+ks.length) fs).map (ks++ ·)else none
  | none=>none
def flat : Nat->TypeId->Option (List CK)
 | 0,_=>none
 | d+1,t=>match P.underlying t with
  | some .bool=>some [.b]
  | some (.int k)=>some [.i k]
  | some .string=>some [.s]
  | some (.struct fs)=>if P.stoodInHeld t then none else Tj P (flat d) 0 fs.toList
  | _=>none
end
def Qu : CK->DVal->Bool
 | .b,.bool _=>true
 | .i k,.int k' _=>k==k'
 | .s,.str _=>true
 | _,_=>false
def Bu : List CK->List DVal->Bool
 | [],[]=>true
 | k::ks,d::ds=>Qu k d&&Bu ks ds
 | _,_=>false
def eqC : DVal->DVal->Bool
 | .bool a,.bool b=>a==b
 | .int _ a,.int _ b=>a==b
 | .str a,.str b=>a==b
 | _,_=>false
def Du : List DVal->List DVal->Bool
 | [],[]=>true
 | x::xs,y::ys=>eqC x y&&Du xs ys
 | _,_=>false
def NR_ (k:IntKind) (a b:Int):Int:=k.wrap (BitVec.ofInt k.bits a &&& BitVec.ofInt k.bits b).toNat
def iOr (k:IntKind) (a b:Int):Int:=k.wrap (BitVec.ofInt k.bits a ||| BitVec.ofInt k.bits b).toNat
def NO_ (k:IntKind) (a b:Int):Int:=k.wrap (BitVec.ofInt k.bits a ^^^ BitVec.ofInt k.bits b).toNat
def Cm_ (k:IntKind) (a b:Int):Int:=k.wrap (BitVec.ofInt k.bits a &&& ~~~(BitVec.ofInt k.bits b)).toNat
def NQ_ (k:IntKind) (a b:Int):Int:=k.wrap (a*2 ^ (min b.toNat k.bits))
def NP_ (k:IntKind) (a b:Int):Int:=a.fdiv (2 ^ (min b.toNat k.bits))
def Hl (P:Program) (op:BinOp) (t:TypeId):DVal->DVal->Option DVal
 | .int k a,.int k' b=>match op with
  | .shl=>if b<0 then none else some (.int k (NQ_ k a b))
  | .shr=>if b<0 then none else some (.int k (NP_ k a b))
  | _=>if k≠k' then none else match op with
   | .add=>some (.int k (k.wrap (a+b)))
   | .sub=>some (.int k (k.wrap (a-b)))
   | .mul=>some (.int k (k.wrap (a*b)))
   | .quo=>if b=0 then none else some (.int k (k.wrap (a.tdiv b)))
   | .rem=>if b=0 then none else some (.int k (a.tmod b))
   | .and=>some (.int k (NR_ k a b))
   | .or=>some (.int k (iOr k a b))
   | .xor=>some (.int k (NO_ k a b))
   | .andNot=>some (.int k (Cm_ k a b))
   | .eql=>some (.bool (a==b))
   | .neq=>some (.bool (a != b))
   | .lss=>some (.bool (decide (a<b)))
   | .leq=>some (.bool (decide (a<=b)))
   | .gtr=>some (.bool (decide (b<a)))
   | .geq=>some (.bool (decide (b<=a)))
   | _=>none
 | .str a,.str b=>match op with
  | .add=>if a.size+b.size<=maxLen then some (.str (a++b))else none
  | .eql=>some (.bool (a==b))
  | .neq=>some (.bool (!(a==b)))
  | .lss=>some (.bool (Op.bytesLess a.data.toList b.data.toList))
  | .leq=>some (.bool (Op.bytesLess a.data.toList b.data.toList||a==b))
  | .gtr=>some (.bool (!(Op.bytesLess a.data.toList b.data.toList||a==b)))
  | .geq=>some (.bool (!Op.bytesLess a.data.toList b.data.toList))
  | _=>none
 | .bool a,.bool b=>if tBool P t then (match op with
  | .eql=>some (.bool (a==b))
  | .neq=>some (.bool (!(a==b)))
  | _=>none)else none
 | .agg xs,.agg ys=>if P.eqGuardType P.depth t then none else if tAgg P t≠some true then none else match flat P 10000 t with
  | some ks=>if Bu ks xs&&Bu ks ys then (match op with
   | .eql=>some (.bool (Du xs ys))
   | .neq=>some (.bool (!Du xs ys))
   | _=>none)else none
  | none=>none
 | .nilp,.nilp=>if tPtr P t then (match op with | .eql=>some (.bool true) | .neq=>some (.bool false) | _=>none)else none
 | .nilsl,.nilsl=>if tSl P t then (match op with | .eql=>some (.bool true) | .neq=>some (.bool false) | _=>none)else none
 | .esl,.nilsl=>if tSl P t then (match op with | .eql=>some (.bool false) | .neq=>some (.bool true) | _=>none)else none
 | .sl _ _ (_::_),.nilsl=>if tSl P t then (match op with | .eql=>some (.bool false) | .neq=>some (.bool true) | _=>none)else none
 | .ref _,.nilp=>if tPtr P t then (match op with | .eql=>some (.bool false) | .neq=>some (.bool true) | _=>none)else none
 | .mp _ _,.nilmp=>if tMp P t then (match op with | .eql=>some (.bool false) | .neq=>some (.bool true) | _=>none)else none
 | .nilmp,.nilmp=>if tMp P t then (match op with | .eql=>some (.bool true) | .neq=>some (.bool false) | _=>none)else none
 | _,_=>none
theorem JU (k:IntKind) (n:Int):JI k (k.wrap n):=by
 cases k<;>simp only[IntKind.wrap,IntKind.bits,IntKind.signed,JI]<;>simp<;>(try split)<;>omega
section
variable {P : Program} {cur : Fb} {M : List Nat} {h : Array Obj} {w : World}
theorem OW_ (a b:ByteArray):(a.toList==b.toList)=(a==b):=(beq_toListBytes a b).symm
theorem Qg {d:Nat} {t:TypeId} {c:CK} {x y:DVal} {u v:Value} (hf:flat P (d+1) t=some [c]) (hns:Dy P t=none) (hx:Qu c x=true) (hy:Qu c y=true)
  (rx:rd cur M h x u) (ry:rd cur M h y v):(Op.equalIn (d+1) t u v).run P w= .ok (eqC x y) w:=by
 simp only[flat]at hf
 split at hf<;>rename_i hu
 ·simp only[aA0,bG0,and_true]at hf;subst hf;cases x<;>simp[Qu]at hx;cases y<;>simp[Qu]at hy;simp only[rd]at rx ry;subst rx;subst ry;simpa[eqC]using run_equalIn_bool' (P:=P) w d t _ _ hu
 ·simp only[aA0,bG0,and_true]at hf;subst hf;cases x<;>simp[Qu]at hx;cases y<;>simp[Qu]at hy;simp only[rd]at rx ry;obtain⟨rfl,_⟩:=rx;obtain⟨rfl,_⟩:=ry;subst hx;subst hy;simpa[eqC]using run_equalIn_int (P:=P) w d t _ _ _ _ hu
 ·simp only[aA0,bG0,and_true]at hf;subst hf;cases x<;>simp[Qu]at hx;cases y<;>simp[Qu]at hy;simp only[rd]at rx ry;obtain⟨rfl,_⟩:=rx;obtain⟨rfl,_⟩:=ry;rw[run_equalIn_string (P:=P) w d t _ _ hu,OW_];rfl
 ·simp[Dy,hu]at hns
 ·simp at hf
theorem PW : ∀(a b c d:List DVal),a.length=b.length->Du (a++c) (b++d)=(Du a b&&Du c d)
 | [],[],_,_,_=>by simp[Du]
 | x::a,y::b,c,d,h=>by
  simp only[List.cons_append,Du,PW a b c d (by simpa using h),Bool.and_assoc]
theorem DT : ∀(ks:List CK) (ds:List DVal),Bu ks ds=true->ds.length=ks.length
 | [],[],_=>rfl
 | [],_::_,h=>by simp[Bu]at h
 | _::_,[],h=>by simp[Bu]at h
 | k::ks,d::ds,h=>by
  simp only[Bu,aM0]at h;simp[DT ks ds h.2]
theorem Hz : ∀(k1 k2:List CK) (ds:List DVal),Bu (k1++k2) ds=true->Bu k1 (ds.take k1.length)=true/\Bu k2 (ds.drop k1.length)=true
 | [],k2,ds,h=>by simpa[Bu]using h
 | k::k1,k2,[],h=>by simp[Bu]at h
 | k::k1,k2,d::ds,h=>by
  simp only[List.cons_append,Bu,aM0]at h;have:=Hz k1 k2 ds h.2;simpa[Bu,h.1]using this
theorem AJ : ∀(ds:List DVal) (vs:List Value),AI cur M h ds vs->vs.length=ds.length
 | [],vs,hr=>by simp only[AI]at hr;subst hr;rfl
 | d::ds,vs,hr=>by
  simp only[AI]at hr;obtain⟨v,r,rfl,_,h3⟩:=hr;simp[AJ ds r h3]
theorem Sf : ∀(ds:List DVal) (vs:List Value) (i:Nat) (d:DVal),AI cur M h ds vs->ds[i]? =some d->∃v,vs[i]? =some v/\rd cur M h d v
 | [],vs,i,d,_,hi=>by simp at hi
 | d::ds,vs,0,d',hr,hi=>by
  simp only[AI]at hr;obtain⟨v,r,rfl,h2,_⟩:=hr;simp only[bB0,aA0]at hi;subst hi;exact⟨v,by simp,h2⟩
 | d::ds,vs,i+1,d',hr,hi=>by
  simp only[AI]at hr;obtain⟨v,r,rfl,_,h3⟩:=hr;simpa using Sf ds r i d' h3 (by simpa using hi)
theorem Ii : ∀(n:Nat) (ds:List DVal) (vs:List Value),AI cur M h ds vs->AI cur M h (ds.drop n) (vs.drop n)
 | 0,ds,vs,hr=>by simpa using hr
 | n+1,[],vs,hr=>by simp only[AI]at hr;subst hr;simp[AI]
 | n+1,d::ds,vs,hr=>by
  simp only[AI]at hr;obtain⟨v,r,rfl,_,h3⟩:=hr;simpa using Ii n ds r h3
theorem Ih : ∀(n:Nat) (ds:List DVal) (vs:List Value),AI cur M h ds vs->AI cur M h (ds.take n) (vs.take n)
 | 0,ds,vs,hr=>by simp[AI]
 | n+1,[],vs,hr=>by simp only[AI]at hr;subst hr;simp[AI]
 | n+1,d::ds,vs,hr=>by
  simp only[AI]at hr;obtain⟨v,r,rfl,h2,h3⟩:=hr;simp only[dK0,AI];exact⟨v,_,rfl,h2,Ih n ds r h3⟩
theorem Cr : ∀(a b:List DVal) (u v:List Value),AI cur M h a u->AI cur M h b v->AI cur M h (a++b) (u++v)
 | [],b,u,v,h1,h2=>by simp only[AI]at h1;subst h1;simpa using h2
 | d::a,b,u,v,h1,h2=>by
  simp only[AI]at h1;obtain⟨x,r,rfl,h3,h4⟩:=h1;simp only[List.cons_append,AI];exact⟨x,_,rfl,h3,Cr a b r v h4 h2⟩
def valOf (agg:Bool) (us:List Value):Value:=if agg then .agg us.toArray else us.headD Go.undef
theorem Nc {t:TypeId} {b:Bool} {n:Nat} {us:Array Value} {o:Nat} (hb:tAgg P t=some b) (hn:tCells P t=some n) (cY:b=false->n=1) (hl:o+n<=us.size) :
  (part t us o).run P w= .ok (valOf b ((us.toList.drop o).take n)) w:=by
 unfold part;rw[Sem.run_bind,Lc hb]
 cases b with
 | true =>
  simp only[Result.andThen_ok,if_true,Sem.run_bind,CW hn,Sem.run_pure,valOf]
  congr 2
  apply Array.ext'
  simp[List.extract,Nat.add_sub_cancel_left]
 | false =>
  have:=cY rfl;subst this;have ho:o<us.size:=by omega
  simp only[Result.andThen_ok,aU0,if_false,bM0 ho,Sem.run_pure,valOf]
  congr 1
  rw[aW0 (by simpa using ho)];simp
theorem Nz {d:Nat} {t:TypeId} {ks:List CK} (hf:flat P d t=some ks):∃b,tAgg P t=some b/\(b=false->ks.length=1)/\(b=true->Dy P t≠none)/\(b=false->Dy P t=none):=by
 cases d with
 | zero=>simp[flat]at hf
 | succ d =>
  simp only[flat]at hf
  split at hf<;>rename_i hu
  ·exact⟨false,by simp[tAgg,hu],fun _=>by simp only[aA0]at hf;subst hf;rfl,by simp,fun _=>by simp[Dy,hu]⟩
  ·exact⟨false,by simp[tAgg,hu],fun _=>by simp only[aA0]at hf;subst hf;rfl,by simp,fun _=>by simp[Dy,hu]⟩
  ·exact⟨false,by simp[tAgg,hu],fun _=>by simp only[aA0]at hf;subst hf;rfl,by simp,fun _=>by simp[Dy,hu]⟩
  ·exact⟨true,by simp[tAgg,hu],by simp,fun _=>by simp[Dy,hu],by simp⟩
  ·simp at hf
def tM (P:Program) (cur:Fb) (M:List Nat) (h:Array Obj) (d:Nat):Prop :=
 ∀(t:TypeId) (ks:List CK) (b:Bool) (xs ys:List DVal) (us vs:List Value) (w:World),flat P d t=some ks->tAgg P t=some b->Bu ks xs=true->Bu ks ys=true ->
  AI cur M h xs us->AI cur M h ys vs->(Op.equalIn d t (valOf b us) (valOf b vs)).run P w= .ok (Du xs ys) w
theorem Ic {d:Nat} (H:tM P cur M h d):∀(fs:List Field) (o:Nat) (ks:List CK) (xs ys:List DVal) (us0 vs0 us vs:List Value) (w:World),Tj P (flat P d) o fs=some ks->Bu ks xs=true->Bu ks ys=true ->
  AI cur M h xs us->AI cur M h ys vs->us0.length=o->vs0.length=o->(Op.eqFields d (us0++us).toArray (vs0++vs).toArray fs).run P w= .ok (Du xs ys) w
 | [],o,ks,xs,ys,us0,vs0,us,vs,w,hf,hx,hy,_,_,_,_=>by
  simp only[Tj,aA0]at hf;subst hf;have e1:=DT [] xs hx;have e2:=DT [] ys hy;simp only[List.length_nil,eY0]at e1 e2;subst e1;subst e2;simp[Op.eqFields,Du]
 | f::fs,o,ks,xs,ys,us0,vs0,us,vs,w,hf,hx,hy,rx,ry,l1,l2=>by
  simp only[Tj]at hf
  split at hf
  ·simp at hf
  rename_i hnm
  split at hf
  ·simp at hf
  rename_i hof;simp only[ne_eq,Decidable.not_not]at hof
  split at hf
  rotate_left
  ·simp at hf
  rename_i k1 kR
  split at hf
  rotate_left
  ·simp at hf
  rename_i qH;simp only[bC0]at hf;obtain⟨k2,yI,rfl⟩:=hf;obtain⟨b,hb,wQ,_,_⟩:=Nz kR;have sx:=Hz k1 k2 xs hx;have sy:=Hz k1 k2 ys hy;have lx:=DT _ _ hx;have ly:=DT _ _ hy;have rlx:=AJ _ _ rx;have rly:=AJ _ _ ry;simp only[aD0]at lx ly;have p1:=Nc (P:=P) (w:=w) (us:=(us0++us).toArray) (o:=o) hb qH wQ (by simp;omega);have p2:=Nc (P:=P) (w:=w) (us:=(vs0++vs).toArray) (o:=o) hb qH wQ (by simp;omega);have d1:((us0++us).toArray.toList.drop o).take k1.length=us.take k1.length:=by subst l1;simp
  have d2:((vs0++vs).toArray.toList.drop o).take k1.length=vs.take k1.length:=by subst l2;simp
  rw[d1]at p1;rw[d2]at p2;have e1:=H f.type k1 b (xs.take k1.length) (ys.take k1.length) _ _ w kR hb sx.1 sy.1 (Ih _ _ _ rx) (Ih _ _ _ ry)
  have ih:=Ic H fs (o+k1.length) k2 (xs.drop k1.length) (ys.drop k1.length) (us0++us.take k1.length) (vs0++vs.take k1.length) (us.drop k1.length) (vs.drop k1.length) w yI sx.2 sy.2
   (Ii _ _ _ rx) (Ii _ _ _ ry) (by simp;omega) (by simp;omega)
  rw[aQ0,aQ0,List.take_append_drop,List.take_append_drop]at ih
  have heq:Du xs ys=(Du (xs.take k1.length) (ys.take k1.length)&&Du (xs.drop k1.length) (ys.drop k1.length)):=by
   have ex:=PW (xs.take k1.length) (ys.take k1.length) (xs.drop k1.length) (ys.drop k1.length) (by simp;omega)
   rwa[List.take_append_drop,List.take_append_drop]at ex
  simp only[Op.eqFields,ne_eq,hnm,not_false_eq_true,if_true,Sem.run_bind,hof,p1,p2,Result.andThen_ok,e1];rw[heq];cases hq:Du (xs.take k1.length) (ys.take k1.length)
  ·simp
  ·simp only[Bool.not_true,aU0,if_false,eB0];exact ih
theorem GD : ∀(d:Nat),tM P cur M h d
 | 0=>by intro t ks b xs ys us vs w hf;simp[flat]at hf
 | d+1=>by
  intro t ks b xs ys us vs w hf hb hx hy rx ry;obtain⟨b',qD,h1,h2,h3⟩:=Nz hf;rw[hb]at qD;simp only[aA0]at qD;subst qD
  cases b with
  | false =>
   have hl:=h1 rfl
   match ks,hl with
   | [c],_ =>
    match xs,ys,hx,hy with
    | [x],[y],hx,hy =>
     simp only[Bu,eZ0]at hx hy;simp only[AI]at rx ry;obtain⟨u,_,rfl,rx,rfl⟩:=rx;obtain⟨v,_,rfl,ry,rfl⟩:=ry;simp only[valOf,aU0,if_false,List.headD_cons];rw[Qg hf (h3 rfl) hx hy rx ry];simp[Du]
    | [],_,hx,_=>simp[Bu]at hx
    | _::_::_,_,hx,_=>simp[Bu]at hx
    | [_],[],_,hy=>simp[Bu]at hy
    | [_],_::_::_,_,hy=>simp[Bu]at hy
  | true =>
   have qL:=h2 rfl
   obtain⟨fs,hu⟩:∃fs,P.underlying t=some (.struct fs):=by
    unfold Dy at qL
    split at qL
    ·exact⟨_,by assumption⟩
    ·simp at qL
   simp only[flat,hu]at hf
   split at hf
   ·simp at hf
   rename_i hsi;have hfo:P.fieldsOf t=fs:=by simp[Program.fieldsOf,hu]
   simp only[valOf,if_true];rw[run_equalIn_struct w d t _ _ (by rw[hfo];exact hu) (by simpa using hsi),hfo];exact Ic (GD d) fs.toList 0 ks xs ys [] [] us vs w hf hx hy rx ry rfl rfl
theorem Md (t:TypeId) (a b:Option Addr):binOp .eql t (.pointer a) (.pointer b)=(do pure (.bool (<-Op.equal t (.pointer a) (.pointer b)))):=rfl
theorem Mc (t:TypeId) (a b:Option Addr):binOp .neq t (.pointer a) (.pointer b)=(do pure (.bool (!(<-Op.equal t (.pointer a) (.pointer b))))):=rfl
theorem DU_ {t:TypeId} (hb:tPtr P t=true):∃e,P.underlying t=some (.pointer e):=by
 unfold tPtr at hb
 split at hb
 ·exact⟨_,by assumption⟩
 ·simp at hb
theorem LA {t:TypeId} (hb:tPtr P t=true) (a:Option Addr) (d:Nat):(Op.equalIn (d+1) t (.pointer a) (.pointer none)).run P w= .ok a.isNone w:=by
 obtain⟨e,ht⟩:=DU_ hb;cases a<;>simp[Op.equalIn,run_underlying ht]
theorem Hr {t:TypeId} (hb:tPtr P t=true) (a:Option Addr):(Op.equal t (.pointer a) (.pointer none)).run P w= .ok a.isNone w :=
 LA hb a 9999
theorem PV (op:BinOp) (t:TypeId) (x y:Operand) (a b:Option Addr):(eqGuard op t x y (.pointer a) (.pointer b)).run P w= .ok () w:=by
 cases op<;>rfl
theorem Yn {op:BinOp} {t:TypeId} {xo yo:Operand} {d:DVal} (a:Option Addr) (n cap:Nat) (hb:tSl P t=true) (hd:(match op with | .eql=>some (DVal.bool a.isNone) | .neq=>some (.bool (!a.isNone)) | _=>none)=some d) :
  ∃r,(do eqGuard op t xo yo (.slice a n cap) (.slice none 0 0);binOp op t (.slice a n cap) (.slice none 0 0):Sem Value).run P w= .ok r w/\rd cur M h d r:=by
 obtain⟨e,ht⟩:∃e,P.underlying t=some (.slice e):=by
  unfold tSl at hb
  split at hb
  ·exact⟨_,by assumption⟩
  ·simp at hb
 have he:(Op.equal t (.slice a n cap) (.slice none 0 0)).run P w= .ok a.isNone w:=by
  have gen:∀d:Nat,(Op.equalIn (d+1) t (.slice a n cap) (.slice none 0 0)).run P w= .ok a.isNone w:=by
   intro d;cases a<;>simp[Op.equalIn,run_underlying ht]
  exact gen 9999
 cases op<;>simp only[aA0,reduceCtorEq]at hd<;>subst hd
 ·have:binOp .eql t (.slice a n cap) (.slice none 0 0)=(do pure (.bool (<-Op.equal t (.slice a n cap) (.slice none 0 0)))):=rfl;rw[this];have g:(eqGuard .eql t xo yo (.slice a n cap) (.slice none 0 0)).run P w= .ok () w:=rfl;simp only[Sem.run_bind,g,Result.andThen_ok,he,Sem.run_pure];exact⟨_,rfl,by simp[rd]⟩
 ·have:binOp .neq t (.slice a n cap) (.slice none 0 0)=(do pure (.bool (!(<-Op.equal t (.slice a n cap) (.slice none 0 0))))):=rfl;rw[this];have g:(eqGuard .neq t xo yo (.slice a n cap) (.slice none 0 0)).run P w= .ok () w:=rfl;simp only[Sem.run_bind,g,Result.andThen_ok,he,Sem.run_pure];exact⟨_,rfl,by simp[rd]⟩
theorem Cx_ {op:BinOp} {t:TypeId} {xo yo:Operand} {d:DVal} (a:Option Nat) (hb:tMp P t=true) (hd:(match op with | .eql=>some (DVal.bool a.isNone) | .neq=>some (.bool (!a.isNone)) | _=>none)=some d) :
  ∃r,(do eqGuard op t xo yo (.map a) (.map none);binOp op t (.map a) (.map none):Sem Value).run P w= .ok r w/\rd cur M h d r:=by
 obtain⟨_,e,ht⟩:∃k e,P.underlying t=some (.map k e):=by
  unfold tMp at hb
  split at hb
  ·exact⟨_,_,by assumption⟩
  ·simp at hb
 have he:(Op.equal t (.map a) (.map none)).run P w= .ok a.isNone w:=by
  have gen:∀d:Nat,(Op.equalIn (d+1) t (.map a) (.map none)).run P w= .ok a.isNone w:=by
   intro d;cases a<;>simp[Op.equalIn,run_underlying ht]
  exact gen 9999
 cases op<;>simp only[aA0,reduceCtorEq]at hd<;>subst hd
 ·have:binOp .eql t (.map a) (.map none)=(do pure (.bool (<-Op.equal t (.map a) (.map none)))):=rfl;rw[this];have g:(eqGuard .eql t xo yo (.map a) (.map none)).run P w= .ok () w:=rfl;simp only[Sem.run_bind,g,Result.andThen_ok,he,Sem.run_pure];exact⟨_,rfl,by simp[rd]⟩
 ·have:binOp .neq t (.map a) (.map none)=(do pure (.bool (!(<-Op.equal t (.map a) (.map none))))):=rfl;rw[this];have g:(eqGuard .neq t xo yo (.map a) (.map none)).run P w= .ok () w:=rfl;simp only[Sem.run_bind,g,Result.andThen_ok,he,Sem.run_pure];exact⟨_,rfl,by simp[rd]⟩
theorem NI (a b:ByteArray):(a.data==b.data)=(a==b):=by
 obtain⟨x⟩:=a;obtain⟨y⟩:=b;rfl
theorem IL_ (k:IntKind) (a:Int) (n:Nat) (ha:JI k a):JI k (a.fdiv (2 ^ n)):=by
 have hp:(1:Int)<=2 ^ n:=by have:(0:Int)<2 ^ n:=Int.pow_pos (by decide);omega
 rw[Int.fdiv_eq_ediv_of_nonneg _ (by omega)];have h1:0<=a->0<=a/2 ^ n/\a/2 ^ n<=a:=fun h=>⟨Int.ediv_nonneg h (by omega),Int.ediv_le_self _ h⟩
 have h2:a<0->a/2 ^ n<0/\a<=a/2 ^ n:=fun h=>⟨Int.ediv_neg_of_neg_of_pos h (by omega),(Int.le_ediv_iff_mul_le (by omega)).2 (by
  have:=Int.mul_le_mul_of_nonpos_left (a:=a) (by omega) hp
  omega)⟩
 cases k<;>simp only[JI]at ha |- <;>(rcases Int.lt_or_le a 0 with h | h<;>first | (have:=h1 h;omega) | (have:=h2 h;omega) | omega)
theorem GH_ (k:IntKind) (a b:Int) (ha:JI k a):JI k (a.tmod b):=by
 have h1:0<=a->0<=a.tmod b/\a.tmod b<=a:=fun h=>⟨Int.tmod_nonneg b h,by
  by_cases hb:b=0
  ·subst hb;simp
  ·have:=Int.natAbs_tmod a b;have h5:(a.natAbs%b.natAbs)<=a.natAbs:=Nat.mod_le _ _;have h6:=Int.tmod_nonneg b h
   omega⟩
 have h2:a<0->a.tmod b<=0/\a<=a.tmod b:=fun h=>by
  have e:a.tmod b= -((-a).tmod b):=by rw[Int.neg_tmod];omega
  have h3:=Int.tmod_nonneg b (show 0<= -a by omega);have h4:=Int.natAbs_tmod (-a) b;have h5:((-a).natAbs%b.natAbs)<=(-a).natAbs:=Nat.mod_le _ _;omega
 cases k<;>simp only[JI]at ha |- <;>(rcases Int.lt_or_le a 0 with h | h<;>first | (have:=h1 h;omega) | (have:=h2 h;omega) | omega)
theorem IV_ {op:BinOp} {t:TypeId} {xo yo:Operand} {k k':IntKind} {a b:Int} {d:DVal} (ha:JI k a) (hd:Hl P op t (.int k a) (.int k' b)=some d) :
  ∃r,(do eqGuard op t xo yo (.int k a) (.int k' b);binOp op t (.int k a) (.int k' b):Sem Value).run P w= .ok r w/\rd cur M h d r:=by
 cases op<;>simp only[Hl,ne_eq,ite_not]at hd<;>split at hd<;>(try split at hd)<;>(try (simp at hd;done))<;>simp only[aA0,reduceCtorEq]at hd<;>subst hd<;>rename_i hk
 case shl=>simp[eqGuard,binOp,Op.shift,hk,rd,JU,NQ_]
 case shr=>simp[eqGuard,binOp,Op.shift,hk,rd,IL_ _ _ _ ha,NP_]
 case quo=>rename_i kR;subst kR;simp[eqGuard,binOp,Op.intDiv,hk,rd,JU]
 case rem=>rename_i kR;subst kR;simp[eqGuard,binOp,Op.intDiv,hk,rd,GH_ _ _ _ ha]
 all_goals (subst hk;simp[eqGuard,binOp,Op.intArith,Op.intCmp,Op.intBits,rd,JU,NR_,iOr,NO_,Cm_])
theorem IU_ {op:BinOp} {t:TypeId} {xo yo:Operand} {a b:ByteArray} {d:DVal} (hd:Hl P op t (.str a) (.str b)=some d) :
  ∃r,(do eqGuard op t xo yo (.string a) (.string b);binOp op t (.string a) (.string b):Sem Value).run P w= .ok r w/\rd cur M h d r:=by
 simp only[Hl]at hd;cases op<;>simp at hd
 case add =>
  obtain⟨h1,rfl⟩:=hd;have h2:(a.size:Int)+(b.size:Int)<=9223372036854775807:=by unfold maxLen at h1;omega
  simp[eqGuard,binOp,Op.stringOp,rd,h2,h1]
 all_goals (subst hd;simp[eqGuard,binOp,Op.stringOp,rd,ByteArray.toList_eq,NI, -beq_iff_eq])
theorem Lj_ {op:BinOp} {t:TypeId} {xo yo:Operand} {x y d:DVal} {u v:Value} (hd:Hl P op t x y=some d) (rx:rd cur M h x u) (ry:rd cur M h y v) :
  ∃r,(do eqGuard op t xo yo u v;binOp op t u v:Sem Value).run P w= .ok r w/\rd cur M h d r:=by
 cases x<;>cases y<;>(try (simp[Hl]at hd;done))
 case bool.bool a b =>
  simp only[rd]at rx ry;subst rx;subst ry;simp only[Hl]at hd
  split at hd
  ·rename_i hb
   have ht:P.underlying t=some .bool:=by
    unfold tBool at hb
    split at hb
    ·assumption
    ·simp at hb
   cases op<;>simp at hd<;>subst hd <;>
    simp[eqGuard,binOp,Op.equal,Op.maxDepth,run_equalIn_bool' w _ t _ _ ht,rd]
  ·simp at hd
 case int.int k a k' b =>
  simp only[rd]at rx ry;obtain⟨rfl,rx⟩:=rx;obtain⟨rfl,ry⟩:=ry;exact IV_ rx hd
 case str.str a b =>
  simp only[rd]at rx ry;obtain⟨rfl,rx⟩:=rx;obtain⟨rfl,ry⟩:=ry;exact IU_ hd
 case nilp.nilp =>
  simp only[rd]at rx ry;subst rx;subst ry;simp only[Hl]at hd
  split at hd
  ·rename_i hb;have he:=Hr (P:=P) (w:=w) hb none
   cases op<;>simp only[aA0,reduceCtorEq]at hd<;>subst hd <;>
    simp only[Sem.run_bind,PV,Result.andThen_ok,Md,Mc,he,Sem.run_pure]<;>exact⟨_,rfl,by simp[rd]⟩
  ·simp at hd
 case nilsl.nilsl =>
  simp only[rd]at rx ry;subst rx;subst ry;simp only[Hl]at hd
  split at hd
  ·rename_i hb;exact Yn none 0 0 hb (by simpa using hd)
  ·simp at hd
 case esl.nilsl =>
  simp only[rd]at rx ry;subst ry;obtain⟨ad,cap,rfl,_⟩:=rx;simp only[Hl]at hd
  split at hd
  ·rename_i hb;exact Yn (some ad) 0 cap hb (by simpa using hd)
  ·simp at hd
 case sl.nilsl k bs es =>
  cases es with
  | nil=>simp[Hl]at hd
  | cons e0 es =>
   simp only[rd]at rx ry;subst ry;obtain⟨a,cap,rfl,_,_,_,h5⟩:=rx;simp only[Hl]at hd
   split at hd
   ·rename_i hb
    rcases h5 with h5 | ⟨b,off,arr,ty,fz,rfl,_⟩
    ·simp at h5
    ·exact Yn _ _ cap hb (by simpa using hd)
   ·simp at hd
 case nilmp.nilmp =>
  simp only[rd]at rx ry;subst rx;subst ry;simp only[Hl]at hd
  split at hd
  ·rename_i hb;exact Cx_ none hb (by simpa using hd)
  ·simp at hd
 case mp.nilmp ks vs =>
  simp only[rd]at rx ry;subst ry;obtain⟨b,es,clk,rfl,_⟩:=rx;simp only[Hl]at hd
  split at hd
  ·rename_i hb;exact Cx_ (some b) hb (by simpa using hd)
  ·simp at hd
 case ref.nilp =>
  simp only[rd]at rx ry;subst ry;obtain⟨b,off,arr,ty,fz,rfl,_,_,_⟩:=rx;simp only[Hl]at hd
  split at hd
  ·rename_i hb;have he:=Hr (P:=P) (w:=w) hb (some ⟨b,off,none⟩)
   cases op<;>simp only[aA0,reduceCtorEq]at hd<;>subst hd <;>
    simp only[Sem.run_bind,PV,Result.andThen_ok,Md,Mc,he,Sem.run_pure]<;>exact⟨_,rfl,by simp[rd]⟩
  ·simp at hd
 case agg.agg xs ys =>
  simp only[rd]at rx ry;obtain⟨us,rfl,rx⟩:=rx;obtain⟨vs,rfl,ry⟩:=ry;simp only[Hl]at hd
  split at hd
  ·simp at hd
  rename_i zR
  split at hd
  ·simp at hd
  rename_i rD;simp only[ne_eq,Decidable.not_not]at rD
  split at hd
  ·rename_i ks zP
   split at hd
   ·rename_i bT;simp only[aM0]at bT;have e:=GD (P:=P) 10000 t ks true xs ys us.toList vs.toList w zP rD bT.1 bT.2 rx ry;simp only[valOf,if_true,Array.toArray_toList]at e;have g:(eqGuard op t xo yo (.agg us) (.agg vs)).run P w= .ok () w:=run_eqGuard_agg w op t xo yo us vs (by simpa using zR)
    cases op<;>simp only[aA0,reduceCtorEq]at hd<;>subst hd <;>
     simp only[Sem.run_bind,g,Result.andThen_ok,run_eql_struct,run_neq_struct,e]<;>exact⟨_,rfl,by simp[rd]⟩
   ·simp at hd
  ·simp at hd
end
section
variable (P : Program)
def tMap (t:TypeId):Option (TypeId×TypeId):=match P.underlying t with | some (.map k e)=>some (k,e) | _=>none
def SU : DVal->Bool
 | .agg _=>true
 | _=>false
def BH : DVal->List DVal
 | .agg cs=>cs
 | d=>[d]
def Ck (kt:TypeId) (d:DVal):Bool:=match flat P 10000 kt,tAgg P kt with
 | some cks,some b=>Bu cks (BH d)&&(b==SU d)
 | _,_=>false
def tZeroD (t:TypeId):Option DVal:=match P.info? t with
 | some i=>i.zero.map ofV
 | none=>none
end
def AQ : List DVal->DVal->Option Nat
 | [],_=>none
 | k::ks,x=>if Du (BH x) (BH k)then some 0 else (AQ ks x).map (· +1)
section
variable {P : Program} {cur : Fb} {M : List Nat} {h : Array Obj}
theorem Ha {d:DVal} {v:Value} {b:Bool} (hb:b=SU d) (hr:rd cur M h d v):∃us,AI cur M h (BH d) us/\v=valOf b us:=by
 cases d<;>simp only[SU]at hb<;>subst hb<;>simp only[BH]
 case agg cs =>
  simp only[rd]at hr;obtain⟨us,rfl,h2⟩:=hr;exact⟨us.toList,h2,by simp[valOf]⟩
 all_goals exact⟨[v],by simp only[AI];exact⟨v,[],rfl,hr,rfl⟩,by simp[valOf]⟩
theorem LQ {kt:TypeId} {x k:DVal} {u v:Value} {w:World} (hx:Ck P kt x=true) (hk:Ck P kt k=true) (rx:rd cur M h x u) (rk:rd cur M h k v) :
  (Op.equal kt u v).run P w= .ok (Du (BH x) (BH k)) w:=by
 unfold Ck at hx hk
 split at hx
 ·rename_i cks b hf hb;rw[hf,hb]at hk;simp only[aM0,beq_iff_eq]at hx hk;obtain⟨us,h1,rfl⟩:=Ha hx.2 rx;obtain⟨vs,h2,rfl⟩:=Ha hk.2 rk;exact GD (P:=P) 10000 kt cks b _ _ us vs w hf hb hx.1 hk.1 h1 h2
 ·simp at hx
theorem Nf : ∀(d:Nat) (t:TypeId) (cks:List CK) (b:Bool) (xs:List DVal) (us:List Value) (w:World) (e:Bool),flat P d t=some cks->tAgg P t=some b->Bu cks xs=true->AI cur M h xs us ->
  (Instr.checkKey e d t (valOf b us)).run P w= .ok () w
 | 0,t,cks,b,xs,us,w,e,hf,_,_,_=>by simp[flat]at hf
 | d+1,t,cks,b,xs,us,w,e,hf,hb,hx,rx=>by
  obtain⟨b',qD,h1,h2,h3⟩:=Nz hf;rw[hb]at qD;simp only[aA0]at qD;subst qD
  cases b with
  | false =>
   have hns:=h3 rfl;rw[flat]at hf
   split at hf
   ·rename_i hu;simp[Instr.checkKey,run_underlying hu]
   ·rename_i hu;simp[Instr.checkKey,run_underlying hu]
   ·rename_i hu;simp[Instr.checkKey,run_underlying hu]
   ·rename_i fs hu;simp[Dy,hu]at hns
   ·simp at hf
  | true =>
   have qL:=h2 rfl
   obtain⟨fs,hu⟩:∃fs,P.underlying t=some (.struct fs):=by
    unfold Dy at qL
    split at qL
    ·exact⟨_,by assumption⟩
    ·simp at qL
   simp only[flat,hu]at hf
   split at hf
   ·simp at hf
   have vX:∀(fl:List Field) (o:Nat) (ks:List CK) (xs:List DVal) (us0 us:List Value),Tj P (flat P d) o fl=some ks->Bu ks xs=true->AI cur M h xs us->us0.length=o ->
     (forIn fl PUnit.unit (fun(f:Field) (_:PUnit)=>(if f.name≠ "_" then (do let v <-part f.type (us0++us).toArray f.offset;Instr.checkKey e d f.type v;pure (ForInStep.yield PUnit.unit))else pure (ForInStep.yield PUnit.unit):Sem (ForInStep PUnit)))).run P w= .ok PUnit.unit w:=by
    intro fl
    induction fl with
    | nil=>intros;simp
    | cons f fl ih =>
     intro o ks xs us0 us hf hx rx l1;simp only[Tj]at hf
     split at hf
     ·simp at hf
     rename_i hnm
     split at hf
     ·simp at hf
     rename_i hof;simp only[ne_eq,Decidable.not_not]at hof
     split at hf
     rotate_left
     ·simp at hf
     rename_i k1 kR
     split at hf
     rotate_left
     ·simp at hf
     rename_i qH;simp only[bC0]at hf;obtain⟨k2,yI,rfl⟩:=hf;obtain⟨b,hb,wQ,_,_⟩:=Nz kR;have sx:=Hz k1 k2 xs hx;have lx:=DT _ _ hx;have rlx:=AJ _ _ rx;simp only[aD0]at lx;have p1:=Nc (P:=P) (w:=w) (us:=(us0++us).toArray) (o:=o) hb qH wQ (by simp;omega);have d1:((us0++us).toArray.toList.drop o).take k1.length=us.take k1.length:=by subst l1;simp
     rw[d1]at p1;have e1:=Nf d f.type k1 b (xs.take k1.length) (us.take k1.length) w e kR hb sx.1 (Ih _ _ _ rx);have ih':=ih (o+k1.length) k2 (xs.drop k1.length) (us0++us.take k1.length) (us.drop k1.length) yI sx.2 (Ii _ _ _ rx) (by simp;omega);rw[aQ0,List.take_append_drop]at ih';simp only[List.forIn_cons,ne_eq,hnm,not_false_eq_true,if_true,Sem.run_bind,hof,p1,Result.andThen_ok,e1,Sem.run_pure];exact ih'
   have:=vX fs.toList 0 cks xs [] us hf hx rx rfl;simp only[List.nil_append]at this;simp only[valOf,if_true,Instr.checkKey,Sem.run_bind,run_underlying hu,Result.andThen_ok];rw[<-Array.forIn_toList];rw[this];rfl
theorem Fz {kt:TypeId} {x:DVal} {u:Value} {w:World} {e:Bool} (hx:Ck P kt x=true) (rx:rd cur M h x u):(Instr.checkKey e 10000 kt u).run P w= .ok () w:=by
 unfold Ck at hx
 split at hx
 ·rename_i cks b hf hb;simp only[aM0,beq_iff_eq]at hx;obtain⟨us,h1,rfl⟩:=Ha hx.2 rx;exact Nf 10000 kt cks b _ us w e hf hb hx.1 h1
 ·simp at hx
theorem Kf {kt:TypeId} {x:DVal} {u:Value} {w:World} (hx:Ck P kt x=true) (rx:rd cur M h x u):∀(es:List MapEntry) (ks:List DVal) (i:Nat),ks.all (Ck P kt)=true->AI cur M h ks (es.map (·.key)) ->
  (Instr.findAsking kt u es i).run P w= .ok ((AQ ks x).map fun j=>(i+j,(es[j]?.map (·.val)).getD Go.undef)) w
 | [],ks,i,_,hr=>by
  have:=AJ _ _ hr;have:ks=[]:=bO0 (by simpa using this.symm);subst this;simp[Instr.findAsking,AQ]
 | e::es,ks,i,hk,hr=>by
  cases ks with
  | nil=>have:=AJ _ _ hr;simp at this
  | cons k ks =>
   simp only[List.map_cons,AI]at hr;obtain⟨v,r,heq,h1,h2⟩:=hr;simp only[bG0]at heq;obtain⟨rfl,rfl⟩:=heq;simp only[dB0,aM0]at hk;have he:=LQ (w:=w) hx hk.1 rx h1;simp only[Instr.findAsking,Sem.run_bind,he,Result.andThen_ok,AQ]
   cases hq:Du (BH x) (BH k)with
   | true=>simp
   | false =>
    simp only[aU0,if_false];rw[Kf hx rx es ks (i+1) hk.2 h2]
    cases AQ ks x with
    | none=>simp
    | some j=>simp;omega
theorem Hq {kt:TypeId} {x:DVal} {u:Value} {w:World} (hx:Ck P kt x=true) (rx:rd cur M h x u) (es:List MapEntry) (ks:List DVal) (hk:ks.all (Ck P kt)=true) (hr:AI cur M h ks (es.map (·.key))) :
  (Instr.findKey kt u es).run P w= .ok ((AQ ks x).map fun j=>(j,(es[j]?.map (·.val)).getD Go.undef)) w:=by
 have hask:=Kf (w:=w) hx rx es ks 0 hk hr;simp only[bS0]at hask
 obtain⟨d,hd⟩:∃d,P.underlying kt=some d:=by
  unfold Ck at hx
  split at hx
  ·rename_i cks b hf hb;unfold tAgg at hb
   split at hb<;>first | exact⟨_,by assumption⟩ | simp at hb
  ·simp at hx
 simp only[Instr.findKey,Sem.run_bind,run_underlying hd,Result.andThen_ok]
 -- where the types decide at once, they decide alike
 have now:∀(es:List MapEntry) (ks:List DVal) (i:Nat) (r:Option (Nat×Value)),ks.all (Ck P kt)=true->AI cur M h ks (es.map (·.key))->Instr.findNow d u es i=some r->r=(AQ ks x).map fun j=>(i+j,(es[j]?.map (·.val)).getD Go.undef):=by
  intro es
  induction es with
  | nil =>
   intro ks i r _ hr hn;have:=AJ _ _ hr;have:ks=[]:=bO0 (by simpa using this.symm);subst this;simp only[Instr.findNow,aA0]at hn;subst hn;simp[AQ]
  | cons e es ih =>
   intro ks i r hk hr hn
   cases ks with
   | nil=>have:=AJ _ _ hr;simp at this
   | cons k ks =>
    simp only[List.map_cons,AI]at hr;obtain⟨v,r',heq,h1,h2⟩:=hr;simp only[bG0]at heq;obtain⟨rfl,rfl⟩:=heq;simp only[dB0,aM0]at hk;have he:=LQ (w:=⟨#[],fun _ _=>0,0,default, #[]⟩) hx hk.1 rx h1
    have gH:∀b,Instr.sameNow d u e.key=some b->b=Du (BH x) (BH k):=by
     intro b hb;have e0:Op.equal kt u e.key=Op.equalIn (9999+1) kt u e.key:=rfl;rw[e0]at he;unfold Instr.sameNow at hb
     split at hb
     ·rename_i k1 a k2 b2 heq
      split at hb
      ·rename_i qZ;subst qZ;simp only[aA0]at hb;subst hb;rw[heq]at he;have gen:∀n w k,(Op.equalIn (n+1) kt (.int k a) (.int k b2)).run P w= .ok (a==b2) w:=by intro n w k;simp[Op.equalIn,run_underlying hd]
       rw[gen]at he;simp only[Result.ok.injEq,and_true]at he;exact he
      ·simp at hb
     ·rename_i a b2 heq;simp only[aA0]at hb;subst hb;rw[heq]at he;have gen:∀n w,(Op.equalIn (n+1) kt (.string a) (.string b2)).run P w= .ok (a==b2) w:=by intro n w;simp[Op.equalIn,run_underlying hd]
      rw[gen]at he;simp only[Result.ok.injEq,and_true]at he;exact he
     ·rename_i a b2 heq;simp only[aA0]at hb;subst hb;rw[heq]at he;have gen:∀n w,(Op.equalIn (n+1) kt (.bool a) (.bool b2)).run P w= .ok (a==b2) w:=by intro n w;simp[Op.equalIn,run_underlying hd]
      rw[gen]at he;simp only[Result.ok.injEq,and_true]at he;exact he
     ·simp at hb
    simp only[Instr.findNow]at hn
    split at hn
    ·rename_i hs;simp only[aA0]at hn;subst hn;simp[AQ,<-gH true hs]
    ·rename_i hs;have:=ih ks (i+1) r hk.2 h2 hn;rw[this];simp only[AQ,<-gH false hs,aU0,if_false]
     cases AQ ks x with
     | none=>simp
     | some j=>simp;omega
    ·simp at hn
 cases hn:Instr.findNow d u es 0 with
 | some r =>
  have:=now es ks 0 r hk hr hn;simp only[bS0]at this;simp[this]
 | none=>exact hask
theorem aN : ∀{ks:List DVal} {x:DVal} {j:Nat},AQ ks x=some j->j<ks.length
 | [],x,j,h=>by simp[AQ]at h
 | k::ks,x,j,h=>by
  simp only[AQ]at h
  split at h
  ·simp only[aA0]at h;subst h;simp
  ·rw[bC0]at h;obtain⟨i,h1,rfl⟩:=h;have:=aN h1;simp;omega
theorem DS_ {t:TypeId} {z:DVal} (hz:tZeroD P t=some z) {w:World}:∃v,(zeroValue t).run P w= .ok v w/\rd cur M h z v:=by
 unfold tZeroD at hz
 split at hz
 ·rename_i i hi;rw[bC0]at hz;obtain⟨v,hv,rfl⟩:=hz;exact⟨v,by simp[zeroValue,typeInfo,hi,hv],Hi_ v⟩
 ·simp at hz
end
def AP : DVal->List DVal
 | .agg cs=>cs
 | d=>[d]
def DG (cells:List DVal) (off:Nat) (cs:List DVal):List DVal:=cells.take off++cs++cells.drop (off+cs.length)
def JL (place:Nat->Option (Nat×Nat)) (cells:List DVal):List (Nat×DVal)->Option (List DVal)
 | []=>some cells
 | (i,d)::rest=>match place i with
  | none=>none
  | some (off,size)=>if (AP d).length=size/\off+size<=cells.length then JL place (DG cells off (AP d)) rest else none
def Gc (own:List Ent) (id r:Nat):Bool:=match Ar own id with | some e=>e.r==r | none=>false
def EX (own:List Ent):DVal->Bool
 | .any | .undef | .sel _ _ | .tup _ | .agg _=>false
 | .bx id r _=>Gc own id r
 | .rx id r _ _ _=>Gc own id r
 | .omp id r=>Gc own id r
 | .osl id r=>(Bn own (.osl id r)).isSome
 | .vw id r _ _ _ _=>Gc own id r
 | .pk id r=>match Ar own id with | some e=>e.r==r&&(match e.obj with | .abs _=>true | _=>false) | none=>false
 | _=>true
def CD (own:List Ent) (d:DVal):Bool:=(AP d).all (EX own)
def Ko (t:Bool):DVal->DVal->DVal
 | .bool p,.bool q=> .bool (if t then p else q)
 | .bool p,.sel _ (.bool q)=> .bool (if t then p else q)
 | .sel _ (.bool p),.bool q=> .bool (if t then p else q)
 | a,b=>if t then a else b
def Jg (t:Bool):DVal->DVal->Prop
 | .bool _,.sel c (.bool _)=>t=false->c=true
 | .sel c (.bool _),.bool _=>t=true->c=true
 | _,_=>True
def GW (own:List Ent) (d:DVal) (n:Int):DVal :=
 match d with
 | .sl _ _ es=> .ref (es.getD n.toNat [])
 | .osl id r=>match Bn own (.osl id r)with | some (k,_,_)=> .rx id r k n.toNat 0 | none=> .any
 | .vw id r k _ i _=> .rx id r k (i+n.toNat) 0
 | _=> .any
def GR (own:List Ent):DVal->Option (List DVal×List DVal)
 | .mp ks vs=>some (ks,vs)
 | .nilmp=>some ([],[])
 | .omp id r=>match Ar own id with
  | some e=>if e.r=r then (match e.obj with | .map ks vs=>some (ks,vs) | _=>none)else none
  | none=>none
 | _=>none
def Dh (e:Operand->DVal) (dflt:Int):Option Operand->Int
 | none=>dflt
 | some x=>match e x with | .int _ n=>n | _=> -1
def EK (e:Operand->DVal) (len:Nat) (l h m:Option Operand):Prop :=
 0<=Dh e 0 l/\Dh e 0 l<=Dh e len h/\Dh e len h<=Dh e len m/\Dh e len m<=len/\(m.isSome=true->h.isSome=true)
section
variable (P : Program) (own : List Ent) (e : Operand -> DVal)
def Vf : Builtin->List DVal->List TypeId->Prop
 | .len,[d],[t]=>match d with
  | .str _=>tStr P t=true
  | .nilsl=>(tElem P t).isSome=true
  | .mp ks _=>(tMap P t).isSome=true/\(ks.length:Int)<=9223372036854775807
  | .nilmp=>(tMap P t).isSome=true
  | .omp id r=>(tMap P t).isSome=true/\match GR own (.omp id r)with | some (ks,_)=>(ks.length:Int)<=9223372036854775807 | none=>False
  | d=>(Bn own d).isSome=true/\(tElem P t).isSome=true
 | .min,[x,y],_=>match x,y with | .int k _,.int k' _=>k=k' | _,_=>False
 | .max,[x,y],_=>match x,y with | .int k _,.int k' _=>k=k' | _,_=>False
 | .append,[x,y],[t,t']=>match x,y with | .nilsl,.nilsl=>t'=t/\(tElem P t).isSome=true | _,_=>False
 | _,_,_=>False
def NV : Builtin->List DVal->DVal
 | .len,[d]=>match d with
  | .str s=> .int .i64 s.size
  | .nilsl=> .int .i64 0
  | .mp ks _=> .int .i64 ks.length
  | .nilmp=> .int .i64 0
  | .omp id r=>match GR own (.omp id r)with | some (ks,_)=> .int .i64 ks.length | none=> .any
  | d=>match Bn own d with | some (_,_,es)=> .int .i64 es.length | none=> .any
 | .min,[x,y]=>match x,y with | .int k a,.int _ b=> .int k (if b<a then b else a) | _,_=> .any
 | .max,[x,y]=>match x,y with | .int k a,.int _ b=> .int k (if a<b then b else a) | _,_=> .any
 | .append,[x,y]=>match x,y with | .nilsl,.nilsl=> .nilsl | _,_=> .any
 | _,_=> .any
def Mi (t:TypeId) (i:Nat):Option (Nat×Nat):=(tField P t i).map fun x=>(x.1,x.2.1)
def tParts (t:TypeId):Bool:=match Dy P t with | some fs=>fs.toList.all fun f=>(tCells P f.type).isSome | none=>false
def tElemZ (t:TypeId):Bool:=match P.underlying t with | some (.slice e)=>(tZero P e).isSome | _=>false
def FY : Op->Prop
 | .move _=>True
 | .assign _=>True
 | .pick c a b=>match e c with | .bool t=>Jg t (e a) (e b) | _=>False
 | .fieldAddr t x f=>match tField P t f,e x with
  | some (_,n,_),.ref _=>n≠0
  | some (_,n,_),.bx id r _=>n≠0/\Gc own id r=true
  | some (_,n,_),.rx id r _ _ _=>n≠0/\Gc own id r=true
  | _,_=>False
 | .load t a=>match tAgg P t,tCells P t,DU own (e a)with
  | some true,some n,some cs=>n<=cs.length
  | some false,_,some cs=>0<cs.length
  | _,_,_=>False
 | .indexAddr t x i=>match e i,tElem P t,Bn own (e x)with
  | .int _ n,some (k,_),some (k',_,es)=>k=k'/\0<=n/\n<es.length
  | _,_,_=>False
 | .index t x i=>match e x,e i with
  | .str s,.int _ n=>tStr P t=true/\0<=n/\n<s.size
  | _,_=>False
 | .field t x f=>match tField P t f,e x with
  | some (off,n,b),.agg cs=>off+n<=cs.length/\(b=false->n=1)
  | _,_=>False
 | .binOp op t x y _=>(Hl P op t (e x) (e y)).isSome=true
 | .unOp op _ x=>match op,e x with
  | .not,.bool _=>True
  | .neg,.int _ _=>True
  | _,_=>False
 | .convert src dst x=>(P.underlying src).isSome=true/\match e x with
  | .int _ _=>(Mg_ P dst).isSome=true
  | .str _=>tStr P dst=true
  | _=>False
 | .extract x i=>match e x with
  | .tup vs=>i<vs.length
  | _=>False
 | .makeFunc _ _ _=>True
 | .makeInterface t _=>(match P.underlying t with | some (.interface _)=>False | some _=>True | none=>False)
 | .nilCheck x=>match e x with
  | .ref _=>True
  | .bx id r _=>Gc own id r=true
  | .rx id r _ _ _=>Gc own id r=true
  | .fn (.func _) _ _=>True
  | _=>False
 | .box _ x=>CD own (e x)=true
 | .build t parts=>match tZero P t with
  | some z=>(JL (Mi P t) z (parts.toList.map fun p=>(p.1,e p.2))).isSome=true/\(parts.toList.all fun p=>CD own (e p.2))=true/\tParts P t=true
  | none=>False
 | .buildSlice t len parts=>match tElem P t with
  | some (k,bs)=>parts.toList.map (·.1)=List.range len/\len*k<=16777216/\len*bs<=150000000000000/\len<=16777216/\0<k/\(parts.toList.all fun p=>CD own (e p.2)&&(AP (e p.2)).length==k)=true/\tElemZ P t=true
  | none=>False
 | .call c=>match c.callee with
  | .builtin b=>Vf P own b (c.args.toList.map e) c.argTypes.toList
  | _=>False
 | .slice t x l h m=>match e x with
  | .sl k _ es=>tElem P t=some (k,(tElem P t).elim 0 (·.2))/\EK e es.length l h m
  | .nilsl=>(tElem P t).isSome=true/\EK e 0 l h m
  | .osl id r=>m=none/\match Bn own (.osl id r)with | some (k,_,es)=>tElem P t=some (k,(tElem P t).elim 0 (·.2))/\EK e es.length l h none | none=>False
  | .vw id r k bs i n=>m=none/\(Bn own (.vw id r k bs i n)).isSome=true/\tElem P t=some (k,(tElem P t).elim 0 (·.2))/\EK e n l h none
  | .str str=>tStr P t=true/\m=none/\EK e str.size l h none
  | _=>False
 | .lookup t x i _=>match tMap P t,GR own (e x)with
  | some (kt,et),some (ks,_)=>Ck P kt (e i)=true/\ks.all (Ck P kt)=true/\(tZeroD P et).isSome=true
  | _,_=>False
 | _=>False
def BR : Op->DVal
 | .move x=>e x
 | .assign x=>e x
 | .pick c a b=>match e c with | .bool t=>Ko t (e a) (e b) | _=> .any
 | .fieldAddr t x f=>match tField P t f,e x with
  | some (off,_,_),.ref cs=> .ref (cs.drop off)
  | some (off,_,_),.bx id r o=> .bx id r (o+off)
  | some (off,_,_),.rx id r k i j=> .rx id r k i (j+off)
  | _,_=> .any
 | .load t a=>match tAgg P t,tCells P t,DU own (e a)with
  | some true,some n,some cs=> .agg (cs.take n)
  | some false,_,some cs=>cs.headD .any
  | _,_,_=> .any
 | .indexAddr _ x i=>match e i with
  | .int _ n=>GW own (e x) n
  | _=> .any
 | .index _ x i=>match e x,e i with
  | .str s,.int _ n=> .int .u8 (s.data.toList.getD n.toNat 0).toNat
  | _,_=> .any
 | .field t x f=>match tField P t f,e x with
  | some (off,n,b),.agg cs=>if b then .agg ((cs.drop off).take n)else (cs.drop off).headD .any
  | _,_=> .any
 | .binOp op t x y _=>(Hl P op t (e x) (e y)).getD .any
 | .unOp op _ x=>match op,e x with
  | .not,.bool b=> .bool (!b)
  | .neg,.int k n=> .int k (k.wrap (0-n))
  | _,_=> .any
 | .convert _ dst x=>match e x with
  | .int _ n=>match Mg_ P dst with | some k=> .int k (k.wrap n) | none=> .any
  | d=>d
 | .extract x i=>match e x with
  | .tup vs=>vs.getD i .any
  | _=> .any
 | .makeFunc f us cs=> .fn f (us.toList.map e) (cs.toList.map e)
 | .makeInterface t x=> .ifc t (e x)
 | .nilCheck x=>e x
 | .box _ x=> .ref (AP (e x))
 | .build t parts=>match tZero P t with
  | some z=> .agg ((JL (Mi P t) z (parts.toList.map fun p=>(p.1,e p.2))).getD [])
  | none=> .any
 | .buildSlice t _ parts=>match tElem P t with
  | some (k,bs)=> .sl k bs (parts.toList.map fun p=>AP (e p.2))
  | none=> .any
 | .call c=>match c.callee with
  | .builtin b=>NV own b (c.args.toList.map e)
  | _=> .any
 | .slice _ x l h _=>match e x with
  | .sl k bs es=> .sl k bs ((es.drop (Dh e 0 l).toNat).take ((Dh e es.length h).toNat-(Dh e 0 l).toNat))
  | .nilsl=> .nilsl
  | .osl id r=>match Bn own (.osl id r)with | some (k,bs,es)=> .vw id r k bs (Dh e 0 l).toNat ((Dh e es.length h).toNat-(Dh e 0 l).toNat) | none=> .any
  | .vw id r k bs i n=> .vw id r k bs (i+(Dh e 0 l).toNat) ((Dh e n h).toNat-(Dh e 0 l).toNat)
  | .str str=> .str (str.extract (Dh e 0 l).toNat (Dh e str.size h).toNat)
  | _=> .any
 | .lookup t x i ok=>match tMap P t,GR own (e x)with
  | some (_,et),some (ks,vs) =>
   let r:=AQ ks (e i)
   let v:=match r with | some j=>vs.getD j .any | none=>(tZeroD P et).getD .any
   if ok then .tup [v,.bool r.isSome]else v
  | _,_=> .any
 | _=> .any
end
section
variable {P : Program} {s : DS} {loc : Nat -> Loc} {M0 : List Nat} {w : World} {ρ : Operand -> Value}
abbrev Bt (s:DS) (loc:Nat->Loc) (M0:List Nat) (w:World) (d:DVal) (v:Value):Prop:=rd (cu s loc) (hm s loc M0) w.heap d v
def Yields (P:Program) (s:DS) (loc:Nat->Loc) (M0:List Nat) (w:World) (x:Sem Value) (d:DVal):Prop :=
 ∃v w',x.run P w= .ok v w'/\Upd [] w w'/\rd (cu s loc) (hm s loc M0) w'.heap d v
theorem Yields.same {x:Sem Value} {d:DVal} {v:Value} (hr:x.run P w= .ok v w) (hd:Bt s loc M0 w d v):Yields P s loc M0 w x d:=⟨v,w,hr,Upd.refl _ _,hd⟩
theorem OB {t f off n:Nat} {b:Bool} {d:DVal} {v:Value} (hf:tField P t f=some (off,n,b)) (hn:n≠0) (hd:Bt s loc M0 w d v)
  (hk:(∃cs,d= .ref cs)\/(∃id r o,d= .bx id r o/\(Ae s.own loc id r).isSome=true)\/(∃id r k i j,d= .rx id r k i j/\(Ae s.own loc id r).isSome=true)) :
  Yields P s loc M0 w (Instr.fieldAt t v f) (match d with | .ref cs=> .ref (cs.drop off) | .bx id r o=> .bx id r (o+off) | .rx id r k i j=> .rx id r k i (j+off) | _=> .any):=by
 unfold tField at hf
 split at hf
 ·rename_i fs hu
  split at hf
  ·rename_i fl zN
   split at hf
   ·rename_i n' b' hn' qD;simp only[aA0,aT0]at hf;obtain⟨rfl,rfl,rfl⟩:=hf
    have main:∀a:Addr,a.spot=none->(Instr.fieldAt t (.pointer (some a)) f).run P w= .ok (.pointer (some ⟨a.block,a.off+fl.offset,none⟩)) w:=by
     intro a ha;obtain⟨ab,ao,asp⟩:=a;simp only at ha;subst ha;simp[Instr.fieldAt,run_underlying hu,zN,Instr.sureAddr,fieldPlace,CW hn',hn,DX]
    rcases hk with ⟨cs,rfl⟩ | ⟨id,r,o,rfl,hc⟩ | ⟨id,r,k,i,j,rfl,hc⟩
    ·simp only[Bt,rd]at hd;obtain⟨bb,oo,arr,ty,fz,rfl,h2,h3,h4⟩:=hd;refine Yields.same (main _ rfl) ?_;simp only[Bt,rd];exact⟨bb,oo+fl.offset,arr,ty,fz,rfl,h2,h3,GH _ _ _ _ h4⟩
    ·obtain⟨l,hl⟩:=bL0.1 hc;simp only[Bt,rd]at hd;obtain⟨bb,wQ,rfl⟩:=hd l hl;refine Yields.same (main _ rfl) ?_;simp only[Bt,rd];intro l' wI;have:l'=l:=by have h':Ae s.own loc id r=some l':=wI;rw[hl]at h';exact(Option.some.inj h').symm
     subst this;exact⟨bb,wQ,rfl⟩
    ·obtain⟨l,hl⟩:=bL0.1 hc;simp only[Bt,rd]at hd;obtain⟨bb,wQ,rfl⟩:=hd l hl;refine Yields.same (main _ rfl) ?_;simp only[Bt,rd];intro l' wI;have:l'=l:=by have h':Ae s.own loc id r=some l':=wI;rw[hl]at h';exact(Option.some.inj h').symm
     subst this;exact⟨bb,wQ,by simp[dJ0]⟩
   ·simp at hf
  ·simp at hf
 ·simp at hf
theorem OY (S:St s.own loc M0 w.heap) {t:TypeId} {d:DVal} {v:Value} {cs:List DVal} {b:Bool} (hb:tAgg P t=some b) (hd:Bt s loc M0 w d v) (hc:DU s.own d=some cs)
  (hn:b=true->∃n,tCells P t=some n/\n<=cs.length) (h0:b=false->0<cs.length) :
  ∃ad u,v= .pointer (some ad)/\(loadVar t ad).run P w= .ok u w/\Bt s loc M0 w (match b with | true=> .agg (cs.take ((tCells P t).getD 0)) | false=>cs.headD .any) u:=by
 obtain⟨bb,off,arr,ty,fz,rfl,h2,h3⟩:=AK_ S hd hc
 cases b with
 | true =>
  obtain⟨n,hn,wY⟩:=hn rfl;obtain⟨vs,g1,g2,g3⟩:=FI _ _ _ (Nh n cs arr off h3);have qU:vs.length=n:=by rw[g1];simp;omega
  have hl:=run_loadCells_list (P:=P) w ⟨bb,off,none⟩ vs (fun j u hj=>by
   rw[DX];simp only[World.cell?,h2]
   exact(g3 j u hj).1)
  rw[qU]at hl;refine⟨_,.agg vs.toArray,rfl,?_,?_⟩
  ·simp[loadVar,Lc hb,CW hn,hl]
  ·simp only[hn,cB0,Bt,rd];exact⟨vs.toArray,rfl,g2⟩
 | false =>
  match cs,h0 rfl,h3 with
  | d0::cs,_,h3 =>
   simp only[Ea]at h3;obtain⟨⟨u,k1,k2,k3⟩,_⟩:=h3;refine⟨_,u,rfl,?_,by simpa[Bt]using k3⟩;simp[loadVar,Lc hb,run_load,World.cell?,h2,k1]
theorem Gv_ (S:St s.own loc M0 w.heap) {t:TypeId} {d:DVal} {v:Value} {cs:List DVal} {b:Bool} (hb:tAgg P t=some b) (hd:Bt s loc M0 w d v) (hc:DU s.own d=some cs)
  (hn:b=true->∃n,tCells P t=some n/\n<=cs.length) (h0:b=false->0<cs.length) :
  Yields P s loc M0 w (Instr.loadAt t v) (match b with | true=> .agg (cs.take ((tCells P t).getD 0)) | false=>cs.headD .any):=by
 obtain⟨ad,u,rfl,h1,h2⟩:=OY S hb hd hc hn h0;exact Yields.same (v:=u) (by simp[Instr.loadAt,Instr.sureAddr,h1]) h2
theorem BL {t k bs:Nat} (h:tElem P t=some (k,bs)):∃e i,P.underlying t=some (.slice e)/\P.info? e=some i/\i.size=k/\i.bytes=bs/\tCells P e=some k:=by
 unfold tElem at h
 split at h
 ·rename_i e hu
  cases hi:P.info? e with
  | none=>simp[hi]at h
  | some i =>
   simp only[hi,dN0,aA0,aT0]at h;exact⟨e,i,hu,hi,h.1,h.2,by simp[tCells,hi,h.1]⟩
 ·simp at h
theorem DM_ (S:St s.own loc M0 w.heap) {t:TypeId} {d:DVal} {v:Value} {ik:IntKind} {n:Int} {k bs bs':Nat} {es:List (List DVal)} (ht:tElem P t=some (k,bs)) (hd:Bt s loc M0 w d v)
  (hr:Bn s.own d=some (k,bs',es)) (h0:0<=n) (h1:n<es.length) :
  Yields P s loc M0 w (Instr.indexAt t v (.int ik n)) (GW s.own d n):=by
 obtain⟨e,i,hu,hi,qH,_,hcells⟩:=BL ht
 have run:∀(a:Addr) (len cap:Nat),n<len->(Instr.indexAt t (.slice (some a) len cap) (.int ik n)).run P w= .ok (.pointer (some (a.add (n.toNat*k)))) w:=by
  intro a len cap qV;simp[Instr.indexAt,asIntOf,run_underlying hu,h0,qV,CW hcells]
 have qC:es≠[]:=by intro h;subst h;simp at h1;omega
 cases d with
 | sl k0 b0 es0 =>
  simp only[Bn,aA0,aT0]at hr;obtain⟨rfl,rfl,rfl⟩:=hr;simp only[Bt,rd]at hd;obtain⟨a,cap,rfl,g2,g3,g4,g5⟩:=hd
  rcases g5 with g5 | ⟨bb,off,arr,ty,fz,rfl,q1,q2,q3⟩
  ·exact absurd g5.1 qC
  ·refine Yields.same (run _ _ _ h1) ?_;rw[DX];simp only[GW,Bt,rd];have qV:n.toNat<es0.length:=by omega
   have yR:=Ec _ _ _ _ n.toNat (es0[n.toNat]) q3 (aH0 qV);refine⟨bb,off+n.toNat*k0,arr,ty,fz,rfl,q1,q2,?_⟩;rw[bJ0,aH0 qV];exact yR.2
 | osl id r =>
  have wL:=hr;unfold Bn at hr;simp only at hr
  split at hr
  ·rename_i e0 vI
   split at hr
   ·rename_i wO
    split at hr
    ·rename_i et0 k0 b0 es0 wE;simp only[aA0,aT0]at hr;obtain⟨rfl,rfl,rfl⟩:=hr;obtain⟨vE,hid⟩:=AN vI;have hk:=S.ok e0 vE;rw[wE]at hk;obtain⟨_,hk⟩:=hk;have qE:Ae s.own loc id r=some (loc id):=by unfold Ae;rw[vI];simp[wO]
     simp only[Bt,rd]at hd;have hv:=hd (loc id) qE;rw[<-hid]at hv
     rcases hk with ⟨rfl,_⟩ | ⟨b,arr,cap,p1,p2,p3,p4,p5,p6,p7⟩
     ·exact absurd rfl qC
     ·rw[p2]at hv;subst hv;refine Yields.same (run _ _ _ h1) ?_;rw[DX];simp only[GW,wL,Bt,rd];intro l hl;have wI:Ae s.own loc id r=some l:=hl;rw[qE]at wI;simp only[aA0]at wI;subst wI;exact⟨b,by rw[<-hid];exact p1,by simp⟩
    ·simp at hr
   ·simp at hr
  ·simp at hr
 | vw id r kk bb i0 n0 =>
  unfold Bn at hr;simp only at hr
  split at hr
  ·rename_i e0 vI
   split at hr
   ·rename_i wO
    split at hr
    ·rename_i et0 k0 b0 es0 wE
     split at hr
     ·rename_i hb;obtain⟨rfl,rfl,hb⟩:=hb;simp only[aA0,aT0]at hr;obtain⟨rfl,rfl,rfl⟩:=hr;have qE:Ae s.own loc id r=some (loc id):=by unfold Ae;rw[vI];simp[wO]
      simp only[Bt,rd]at hd;obtain⟨a,cap,rfl,g1,g2,_,g3,_⟩:=hd (loc id) qE;have qV:n<(n0:Int):=by simp at h1;omega
      obtain⟨b,wQ,rfl⟩:=g3 (by omega);refine Yields.same (run _ _ _ qV) ?_;rw[DX];simp only[GW,Bt,rd];intro l hl;have wI:Ae s.own loc id r=some l:=hl;rw[qE]at wI;simp only[aA0]at wI;subst wI;exact⟨b,wQ,by simp[bU0]⟩
     ·simp at hr
    ·simp at hr
   ·simp at hr
  ·simp at hr
 | _=>simp[Bn]at hr
theorem JV_ {t f off n:Nat} {b:Bool} {cs:List DVal} {v:Value} (hf:tField P t f=some (off,n,b)) (hd:Bt s loc M0 w (.agg cs) v) (hl:off+n<=cs.length) (h1:b=false->n=1) :
  Yields P s loc M0 w (Instr.field t v f) (if b then .agg ((cs.drop off).take n)else (cs.drop off).headD .any):=by
 unfold tField at hf
 split at hf
 rotate_left
 ·simp at hf
 rename_i fs hu
 split at hf
 rotate_left
 ·simp at hf
 rename_i fl zN
 split at hf
 rotate_left
 ·simp at hf
 rename_i n' b' hn' qD;simp only[aA0,aT0]at hf;obtain⟨rfl,rfl,rfl⟩:=hf;simp only[Bt,rd]at hd;obtain⟨us,rfl,vH⟩:=hd;have qU:=AJ _ _ vH;have hp:=Nc (P:=P) (w:=w) (us:=us) (o:=fl.offset) qD hn' h1 (by simp at qU;omega);have vT:=Ih n' _ _ (Ii fl.offset _ _ vH);refine Yields.same (v:=valOf b' ((us.toList.drop fl.offset).take n')) ?_ ?_
 ·simp[Instr.field,run_underlying hu,zN,asAgg,hp]
 ·cases b' with
  | true=>simp only[valOf,if_true,Bt,rd];exact⟨_,rfl,vT⟩
  | false =>
   have:=h1 rfl;subst this;simp only[valOf,aU0,if_false,Bt];have qV:fl.offset<cs.length:=by omega
   rw[aW0 qV]at vT |-;simp only[dK0,List.take_zero,AI]at vT;obtain⟨v,r,he,hv,rfl⟩:=vT;rw[he];simpa[aH0 qV]using hv
theorem Gt_ {cs:List DVal} {us:List Value} {ty:TypeId} (vH:AI (cu s loc) (hm s loc M0) w.heap cs us) (qP:∀u∈us,u.oneCell'=true) (S:St s.own loc M0 w.heap) :
  Upd [] w (w.alloc (.cells us.toArray ty))/\w.heap.size∉hm s loc M0/\(w.alloc (.cells us.toArray ty)).heap[w.heap.size]? =some (.cells us.toArray ty (0,0)) /\
   Ea (cu s loc) (hm s loc M0) (w.alloc (.cells us.toArray ty)).heap cs us.toArray 0:=by
 have hu:=Upd.alloc [] w (.cells us.toArray ty);have wD:(w.alloc (.cells us.toArray ty)).heap[w.heap.size]? =some (.cells us.toArray ty (0,0)):=heap_alloc_new w _;refine⟨hu,fun vE=>by have:=S.lt _ vE;omega,wD,?_⟩
 have W:Weak (cu s loc) (cu s loc) (hm s loc M0) (hm s loc M0) w.heap (w.alloc (.cells us.toArray ty)).heap (AR cs) :=
  Fh hu.nil (fun b hb=> .inl hb) (fun e' zJ _=>AV S.nd zJ)
 have hus':=Bd W cs us (Nat.le_refl _) vH
 have key:∀(H:Array Obj) (cs:List DVal) (us pre:List Value),AI (cu s loc) (hm s loc M0) H cs us->(∀u∈us,u.oneCell'=true)->Ea (cu s loc) (hm s loc M0) H cs (pre++us).toArray pre.length:=by
  intro H cs
  induction cs with
  | nil=>intros;simp[Ea]
  | cons d ds ih =>
   intro us pre hr ho;simp only[AI]at hr;obtain⟨v,r,rfl,h1,h2⟩:=hr;simp only[Ea];refine⟨⟨v,by simp,ho v aE0,h1⟩,?_⟩;have:=ih r (pre++[v]) h2 (fun u hu=>ho u (aC0 _ hu));simpa using this
 simpa using key _ cs us [] hus' qP
theorem ED {id r:Nat} (hc:Gc s.own id r=true):Ae s.own loc id r=some (loc id):=by
 unfold Gc at hc;unfold Ae
 split at hc
 ·rename_i e he
  try rw[he]
  have:e.r=r:=by simpa using hc
  simp[this]
 ·simp at hc
theorem BU_ (S:St s.own loc M0 w.heap) {d:DVal} {v:Value} (ho:EX s.own d=true) (hd:Bt s loc M0 w d v):v.oneCell'=true/\v.cells= #[v]:=by
 cases d<;>simp only[EX,aU0]at ho<;>simp only[Bt,rd]at hd
 case bool=>subst hd;exact⟨rfl,rfl⟩
 case int=>obtain⟨rfl,_⟩:=hd;exact⟨rfl,rfl⟩
 case str=>obtain⟨rfl,_⟩:=hd;exact⟨rfl,rfl⟩
 case nilp=>subst hd;exact⟨rfl,rfl⟩
 case ref=>obtain⟨_,_,_,_,_,rfl,_⟩:=hd;exact⟨rfl,rfl⟩
 case bx id r o=>obtain⟨b,_,rfl⟩:=hd _ (ED ho);exact⟨rfl,rfl⟩
 case rx id r k i j=>obtain⟨b,_,rfl⟩:=hd _ (ED ho);exact⟨rfl,rfl⟩
 case nilsl=>subst hd;exact⟨rfl,rfl⟩
 case esl=>obtain⟨_,_,rfl,_⟩:=hd;exact⟨rfl,rfl⟩
 case sl=>obtain⟨_,_,rfl,_⟩:=hd;exact⟨rfl,rfl⟩
 case osl id r =>
  obtain⟨x,hx⟩:=bL0.1 ho;obtain⟨a,cap,rfl,_⟩:=Le (k:=x.1) (bs:=x.2.1) (es:=x.2.2) (p:= .osl id r) S (by simp only[rd];exact hd) hx;exact⟨rfl,rfl⟩
 case vw id r k bs i n=>obtain⟨_,_,rfl,_⟩:=hd _ (ED ho);exact⟨rfl,rfl⟩
 case nilmp=>subst hd;exact⟨rfl,rfl⟩
 case omp id r=>obtain⟨b,_,rfl⟩:=hd _ (ED ho);exact⟨rfl,rfl⟩
 case nilfn=>subst hd;exact⟨rfl,rfl⟩
 case fn=>obtain⟨_,_,rfl,_⟩:=hd;exact⟨rfl,rfl⟩
 case nilifc=>subst hd;exact⟨rfl,rfl⟩
 case ifc=>obtain⟨_,rfl,_⟩:=hd;exact⟨rfl,rfl⟩
 case mp=>obtain⟨_,_,_,rfl,_⟩:=hd;exact⟨rfl,rfl⟩
 case pk id r =>
  split at ho
  ·rename_i e he;simp only[aM0,beq_iff_eq]at ho;obtain⟨h1,h2⟩:=ho;have hv:=hd (loc id) (by show Ae _ _ _ _=_;unfold Ae;rw[he];simp[h1]);obtain⟨vE,hid⟩:=AN he;have hk:=S.ok e vE
   split at h2
   ·rename_i A qW;rw[qW]at hk;rw[hv,<-hid];exact A.one _ _ _ _ hk
   ·simp at h2
  ·simp at ho
theorem GL (S:St s.own loc M0 w.heap):∀(ds:List DVal) (vs:List Value),ds.all (EX s.own)=true->AI (cu s loc) (hm s loc M0) w.heap ds vs->∀v∈vs,v.oneCell'=true
 | [],vs,_,hr=>by simp only[AI]at hr;subst hr;simp
 | d::ds,vs,ha,hr=>by
  simp only[AI]at hr;obtain⟨v,r,rfl,h1,h2⟩:=hr;simp only[dB0,aM0]at ha;intro u hu
  rcases aJ0.1 hu with rfl | hu
  ·exact(BU_ S ha.1 h1).1
  ·exact GL S ds r ha.2 h2 u hu
theorem IC (S:St s.own loc M0 w.heap) {d:DVal} {v:Value} (hp:CD s.own d=true) (hd:Bt s loc M0 w d v) :
  AI (cu s loc) (hm s loc M0) w.heap (AP d) v.cells.toList/\∀u∈v.cells.toList,u.oneCell'=true:=by
 have base:EX s.own d=true->AI (cu s loc) (hm s loc M0) w.heap [d] v.cells.toList/\∀u∈v.cells.toList,u.oneCell'=true:=by
  intro ho;obtain⟨h1,h2⟩:=BU_ S ho hd;rw[h2];refine⟨by simp only[AI];exact⟨v,[],rfl,hd,rfl⟩,by simpa using h1⟩
 cases d
 case agg cs =>
  simp only[Bt,rd]at hd;obtain⟨us,rfl,vH⟩:=hd;exact⟨vH,GL S cs _ hp vH⟩
 all_goals exact base (by simpa[CD,AP]using hp)
theorem Nl_ (S:St s.own loc M0 w.heap) {t:TypeId} {d:DVal} {v:Value} (hp:CD s.own d=true) (hd:Bt s loc M0 w d v):Yields P s loc M0 w (Instr.box t v) (.ref (AP d)):=by
 obtain⟨h1,h2⟩:=IC S hp hd;obtain⟨g1,g2,g3,g4⟩:=Gt_ (ty:=t) h1 h2 S;refine⟨.pointer (some ⟨w.heap.size,0,none⟩),_,?_,g1,?_⟩
 ·simp[Instr.box,newVar,newRow]
 ·simp only[rd];exact⟨_,0,_,_,_,rfl,g2,g3,g4⟩
theorem Ml : ∀(us:List Value) (arr:Array Value) (off i:Nat),off+i+us.length<=arr.size ->
  ((us.zipIdx i).foldl (fun cs (c,j)=>cs.setIfInBounds (off+j) c) arr).toList=arr.toList.take (off+i)++us++arr.toList.drop (off+i+us.length)
 | [],arr,off,i,_=>by simp
 | u::us,arr,off,i,h=>by
  simp only[List.length_cons]at h;simp only[fA0,cQ0];rw[Ml us _ off (i+1) (by simp;omega)];simp only[Array.toList_setIfInBounds,List.length_cons];have qV:off+i<arr.toList.length:=by simp;omega
  rw[List.set_eq_take_append_cons_drop,if_pos qV];have e1:(arr.toList.take (off+i)).length=off+i:=by simp;omega
  rw[show off+(i+1)=(off+i)+1 by omega,List.take_append,e1];simp only[aQ0,show off+i+1-(off+i)=1 by omega];rw[List.take_take,List.drop_append,e1];simp only[show min (off+i+1) (off+i)=off+i by omega];rw[List.drop_take];have e2:off+i+1+us.length-(off+i)=us.length+1:=by omega
  have e3:off+i-(off+i+1+us.length)=0:=by omega
  simp only[e2,e3,List.take_zero,List.nil_append,dY0,List.drop_drop,dK0,List.cons_append];simp
  congr 1
  omega
theorem Cr_ {placeD placeV:Nat->Option (Nat×Nat)} (yY:∀i x,placeD i=some x->placeV i=some x) :
  ∀(ds:List (Nat×DVal)) (vs:List (Nat×Value)) (cells:List DVal) (arr:Array Value) (out:List DVal),ds.map (·.1)=vs.map (·.1) ->
   (∀(i:Nat) (p:Nat×DVal) (q:Nat×Value),ds[i]? =some p->vs[i]? =some q->AI (cu s loc) (hm s loc M0) w.heap (AP p.2) q.2.cells.toList) ->
   AI (cu s loc) (hm s loc M0) w.heap cells arr.toList->JL placeD cells ds=some out->∃arr',Instr.fill placeV arr vs=some arr'/\AI (cu s loc) (hm s loc M0) w.heap out arr'.toList
 | [],vs,cells,arr,out,hi,_,hc,hf=>by
  simp only[List.map_nil]at hi;have:vs=[]:=by cases vs<;>simp_all
  subst this;simp only[JL,aA0]at hf;subst hf;exact⟨arr,rfl,hc⟩
 | (i,d)::ds,[],cells,arr,out,hi,_,_,_=>by simp at hi
 | (i,d)::ds,(i',v)::vs,cells,arr,out,hi,hr,hc,hf=>by
  simp only[List.map_cons,bG0]at hi;obtain⟨rfl,hi⟩:=hi;simp only[JL]at hf
  split at hf
  ·simp at hf
  rename_i off size hp
  split at hf
  rotate_left
  ·simp at hf
  rename_i qH;have h0:=hr 0 (i,d) (i,v) (by simp) (by simp);have bQ:=AJ _ _ h0;have hlc:=AJ _ _ hc;simp only[bQ0]at bQ hlc;have qB:=Ml v.cells.toList arr off 0 (by simp;omega)
  have key:AI (cu s loc) (hm s loc M0) w.heap (DG cells off (AP d)) (v.cells.zipIdx.foldl (fun cs (c,j)=>cs.setIfInBounds (off+j) c) arr).toList:=by
   rw[<-Array.foldl_toList,Array.toList_zipIdx,qB];unfold DG;refine Cr _ _ _ _ (Cr _ _ _ _ ?_ h0) ?_
   ·simpa using Ih off _ _ hc
   ·simpa[bQ]using Ii (off+(AP d).length) _ _ hc
  have ih:=Cr_ yY ds vs _ _ out hi (fun j p q hp hq=>hr (j+1) p q (by simpa using hp) (by simpa using hq)) key hf;obtain⟨arr',h1,h2⟩:=ih;refine⟨arr',?_,h2⟩;simp only[Instr.fill,yY _ _ hp];rw[if_neg (by simp;omega)];exact h1
theorem YZ {t:TypeId} {fs:Array Field} (hu:P.underlying t=some (.struct fs)) (wX:∀f∈fs.toList,(tCells P f.type).isSome=true) :
  (fs.mapM (m:=Sem) fun f=>do pure (f.offset,<-sizeOf f.type)).run P w= .ok (fs.map fun f=>(f.offset,(tCells P f.type).getD 0)) w:=by
 rw[<-Array.toArray_toList (xs:=fs)]
 generalize fs.toList=l at wX
 rw[List.mapM_toArray]
 have:∀(l:List Field),(∀f∈l,(tCells P f.type).isSome=true)->(l.mapM (m:=Sem) fun f=>do pure (f.offset,<-sizeOf f.type)).run P w= .ok (l.map fun f=>(f.offset,(tCells P f.type).getD 0)) w:=by
  intro l
  induction l with
  | nil=>intro _;simp
  | cons f l ih =>
   intro h;obtain⟨n,hn⟩:=bL0.1 (h f aE0);have ih':=ih (fun g hg=>h g (aC0 _ hg));simp only[List.mapM_cons,Sem.run_bind,CW hn,Result.andThen_ok,Sem.run_pure,ih',List.map_cons,hn,cB0]
 rw[Sem.run_map,this l wX];simp
theorem HY {t:TypeId} {z:List DVal} (hz:tZero P t=some z):∃v,(zeroValue t).run P w= .ok v w/\z=v.cells.toList.map Cm:=by
 unfold tZero at hz
 split at hz
 ·rename_i i hi
  cases hv:i.zero with
  | none=>simp[hv]at hz
  | some v =>
   simp only[hv,dN0,aA0]at hz;exact⟨v,by simp[zeroValue,typeInfo,hi,hv],hz.symm⟩
 ·simp at hz
theorem JW_ (S:St s.own loc M0 w.heap) {t:TypeId} {z out:List DVal} {fs:Array Field} {ds:List (Nat×DVal)} {vs:Array (Nat×Value)} (hz:tZero P t=some z) (hs:Dy P t=some fs)
  (wX:fs.toList.all (fun f=>(tCells P f.type).isSome)=true)
  (hi:ds.map (·.1)=vs.toList.map (·.1)) (hr:∀(i:Nat) (p:Nat×DVal) (q:Nat×Value),ds[i]? =some p->vs.toList[i]? =some q->AI (cu s loc) (hm s loc M0) w.heap (AP p.2) q.2.cells.toList)
  (hf:JL (Mi P t) z ds=some out):Yields P s loc M0 w (Instr.build t vs) (.agg out):=by
 obtain⟨zv,kK,rfl⟩:=HY (w:=w) hz
 have hu:P.underlying t=some (.struct fs):=by
  unfold Dy at hs
  split at hs
  ·simp only[aA0]at hs;subst hs;assumption
  ·simp at hs
 have vE:=YZ (P:=P) (w:=w) hu (aV0.1 wX)
 have yY:∀i x,Mi P t i=some x->((fs.map fun f=>(f.offset,(tCells P f.type).getD 0))[i]?)=some x:=by
  intro i x hx;unfold Mi tField at hx;rw[hu]at hx;simp only at hx
  cases hfi:fs[i]? with
  | none=>simp[hfi]at hx
  | some f =>
   simp only[hfi]at hx
   cases hc:tCells P f.type with
   | none=>simp[hc]at hx
   | some n =>
    cases ha:tAgg P f.type with
    | none=>simp[hc,ha]at hx
    | some b =>
     simp only[hc,ha,dN0,aA0]at hx;simp[hfi,hc,hx]
 obtain⟨arr',h1,h2⟩:=Cr_ yY ds vs.toList _ zv.cells out hi hr (BM _) hf;refine Yields.same (v:= .agg arr') ?_ (by simp only[Bt,rd];exact⟨arr',rfl,h2⟩);simp only[Instr.build,Sem.run_bind,kK,Result.andThen_ok,run_underlying hu,vE,h1,Sem.run_pure]
theorem Nk_ (S:St s.own loc M0 w.heap) {t ty:TypeId} {d:DVal} {v:Value} {k bs:Nat} {es:List (List DVal)} (ht:(tElem P t).isSome=true) (hd:Bt s loc M0 w d v) (hr:Bn s.own d=some (k,bs,es)) :
  Yields P s loc M0 w (Builtin.len_ #[t] ty #[v]) (.int .i64 es.length):=by
 obtain⟨x,hx⟩:=bL0.1 ht;obtain⟨e,i,hu,_⟩:=BL (k:=x.1) (bs:=x.2) hx;obtain⟨a,cap,rfl,h2,h3,_⟩:=Le S hd hr;refine Yields.same (v:= .int .i64 es.length) ?_ ?_
 ·simp[Builtin.len_,run_underlying hu,goInt]
 ·simp only[Bt,rd,JI,true_and];unfold maxLen at h3;omega
theorem eZ (k:Nat):∀(vs:List (Nat×Value)) (i0:Nat) (pre rest:List Value),vs.map (·.1)=List.range' i0 vs.length->(∀q∈vs,q.2.cells.size=k)->pre.length=i0*k->rest.length=vs.length*k ->
  Instr.fill (fun i=>some (i*k,k)) (pre++rest).toArray vs=some (pre++vs.flatMap fun q=>q.2.cells.toList).toArray
 | [],i0,pre,rest,_,_,_,hr=>by
  simp only[List.length_nil,Nat.zero_mul,eY0]at hr;subst hr;simp[Instr.fill]
 | (i,v)::vs,i0,pre,rest,hi,hk,hp,hr=>by
  simp only[List.map_cons,List.length_cons,List.range'_succ,bG0]at hi;obtain⟨rfl,hi⟩:=hi;have hv:v.cells.size=k:=hk _ aE0;simp only[List.length_cons,bU0,Nat.one_mul]at hr;simp only[Instr.fill];rw[if_neg (by simp;omega)];have qB:=Ml v.cells.toList (pre++rest).toArray (i*k) 0 (by simp;omega)
  have e:(v.cells.zipIdx.foldl (fun cs (c,j)=>cs.setIfInBounds (i*k+j) c) (pre++rest).toArray)=((pre++v.cells.toList)++rest.drop k).toArray:=by
   apply Array.ext'
   rw[<-Array.foldl_toList,Array.toList_zipIdx,qB];simp only[dQ0,aQ0];rw[eN0 (by omega),cL0 (by omega),bQ0,hv,<-hp,List.drop_append,dE0 (by omega)];simp
  rw[e,eZ k vs (i+1) (pre++v.cells.toList) (rest.drop k) hi (fun q hq=>hk q (aC0 _ hq)) (by simp[hp,hv,bU0]) (by simp;omega)];simp
theorem Zz {cur:Fb} {M:List Nat} {H:Array Obj} (k:Nat):∀(ds:List (List DVal)) (vs:List (List Value)) (pre:List Value),ds.length=vs.length ->
  (∀(i:Nat) (cs:List DVal) (us:List Value),ds[i]? =some cs->vs[i]? =some us->cs.length=k/\AI cur M H cs us/\∀u∈us,u.oneCell'=true)->EB cur M H k ds (pre++vs.flatten).toArray pre.length
 | [],vs,pre,_,_=>by simp[EB]
 | d::ds,[],pre,hl,_=>by simp at hl
 | d::ds,u::vs,pre,hl,h=>by
  have h0:=h 0 d u (by simp) (by simp);have qU:=AJ _ _ h0.2.1
  have key:∀(cs:List DVal) (us pre post:List Value),AI cur M H cs us->(∀u∈us,u.oneCell'=true)->Ea cur M H cs (pre++us++post).toArray pre.length:=by
   intro cs
   induction cs with
   | nil=>intros;simp[Ea]
   | cons d ds ih =>
    intro us pre post hr ho;simp only[AI]at hr;obtain⟨v,r,rfl,h1,h2⟩:=hr;simp only[Ea];refine⟨⟨v,by simp,ho v aE0,h1⟩,?_⟩;have:=ih r (pre++[v]) post h2 (fun u hu=>ho u (aC0 _ hu));simpa using this
  simp only[EB];refine⟨h0.1,?_,?_⟩
  ·have:=key d u pre vs.flatten h0.2.1 h0.2.2;simpa using this
  ·have ih:=Zz k ds vs (pre++u) (by simpa using hl) (fun i cs us h1 h2=>h (i+1) cs us (by simpa using h1) (by simpa using h2));have e:(pre++u).length=pre.length+k:=by simp[qU,h0.1]
   rw[e]at ih;simpa using ih
theorem Kg (S:St s.own loc M0 w.heap) {t len k bs:Nat} {ds:List DVal} {vs:Array (Nat×Value)} (ht:tElem P t=some (k,bs)) (zQ:0<k) (kY:len*k<=16777216) (vW:len*bs<=150000000000000) (kM:len<=16777216)
  (hi:vs.toList.map (·.1)=List.range len) (qU:ds.length=len) (hp:ds.all (fun d=>CD s.own d&&(AP d).length==k)=true)
  (hr:∀(i:Nat) (d:DVal) (q:Nat×Value),ds[i]? =some d->vs.toList[i]? =some q->Bt s loc M0 w d q.2)
  (hz:(match P.underlying t with | some (.slice e)=>(tZero P e).isSome | _=>false)=true):∃(e:TypeId) (us:List Value),P.underlying t=some (.slice e)/\(Instr.buildSlice t len vs).run P w= .ok (.slice (some ⟨w.heap.size,0,none⟩) len len) (w.alloc (.cells us.toArray e))/\us.length=len*k/\EB (cu s loc) (hm s loc M0) w.heap k (ds.map AP) us.toArray 0:=by
 obtain⟨e,ei,hu,hei,_,_,hce⟩:=BL ht;rw[hu]at hz;obtain⟨z,hz⟩:=bL0.1 hz;obtain⟨zv,kK,_⟩:=HY (w:=w) hz;have hvl:vs.toList.length=len:=by have:=congrArg List.length hi;simpa using this
 have vL:∀(i:Nat) (d:DVal) (q:Nat×Value),ds[i]? =some d->vs.toList[i]? =some q->(AP d).length=k/\AI (cu s loc) (hm s loc M0) w.heap (AP d) q.2.cells.toList/\∀u∈q.2.cells.toList,u.oneCell'=true:=by
  intro i d q hd hq;have h1:=aV0.1 hp d (bH0 hd);simp only[aM0,beq_iff_eq]at h1;exact⟨h1.2,IC S h1.1 (hr i d q hd hq)⟩
 have qH:∀q∈vs.toList,q.2.cells.size=k:=by
  intro q hq;obtain⟨i,yZ,yE⟩:=bK0 hq;have hid:i<ds.length:=by omega
  have:=vL i ds[i] q (aH0 hid) (by rw[aH0 yZ,yE]);have hl:=AJ _ _ this.2.1;simp only[bQ0]at hl;omega
 have rA:∀Z:Array Value,Z.size=len*k->Instr.fill (fun i=>some (i*k,k)) Z vs.toList=some (vs.toList.flatMap fun q=>q.2.cells.toList).toArray:=by
  intro Z hZs;have:=eZ k vs.toList 0 [] Z.toList (by rw[hi,hvl,List.range_eq_range']) qH (by simp) (by simp only[bQ0,hZs,hvl]);simpa using this
 let us:List Value:=vs.toList.flatMap fun q=>q.2.cells.toList
 have jT:∀l:List (Nat×Value),(∀q∈l,q.2.cells.size=k)->(l.flatMap fun q=>q.2.cells.toList).length=l.length*k:=by
  intro l
  induction l with
  | nil=>intro _;simp
  | cons q l ih =>
   intro hq;have h1:=hq q aE0;have h2:=ih fun x hx=>hq x (aC0 _ hx)
   simp only[cO0,aD0,List.length_cons,bQ0,h1,h2,bU0];omega
 refine⟨e,us,hu,?_,by rw[jT _ qH,hvl],?_⟩
 ·have h24':(2:Nat) ^ 24=16777216:=by decide
  have h24:¬(len*k > 2 ^ 24):=by omega
  simp only[Instr.buildSlice,Sem.run_bind,run_underlying hu,Result.andThen_ok,CW hce,h24,if_false]
  by_cases h0:len*k=0
  ·simp only[h0,if_true,Sem.run_bind,Sem.run_pure,Result.andThen_ok];rw[rA _ (by simp[h0])];simp[newRow,us]
  ·simp only[h0,if_false,Sem.run_bind,kK,Sem.run_pure,Result.andThen_ok];rw[rA _ (by simp)];simp[newRow,us]
 ·have:=Zz (cur:=cu s loc) (M:=hm s loc M0) (H:=w.heap) k (ds.map AP) (vs.toList.map fun q=>q.2.cells.toList) [] (by rw[aL0,aL0,qU,hvl]) (by
   intro i cs us h1 h2;simp only[bN0,bC0]at h1 h2;obtain⟨d,hd,rfl⟩:=h1;obtain⟨q,hq,rfl⟩:=h2
   exact vL i d q hd hq)
  simpa[us,List.flatMap]using this
theorem WJ (S:St s.own loc M0 w.heap) {t len k bs:Nat} {ds:List DVal} {vs:Array (Nat×Value)} (ht:tElem P t=some (k,bs)) (zQ:0<k) (kY:len*k<=16777216) (vW:len*bs<=150000000000000) (kM:len<=16777216)
  (hi:vs.toList.map (·.1)=List.range len) (qU:ds.length=len) (hp:ds.all (fun d=>CD s.own d&&(AP d).length==k)=true)
  (hr:∀(i:Nat) (d:DVal) (q:Nat×Value),ds[i]? =some d->vs.toList[i]? =some q->Bt s loc M0 w d q.2)
  (hz:(match P.underlying t with | some (.slice e)=>(tZero P e).isSome | _=>false)=true):Yields P s loc M0 w (Instr.buildSlice t len vs) (.sl k bs (ds.map AP)):=by
 obtain⟨e,us,_,h1,_,h2⟩:=Kg (M0:=M0) S ht zQ kY vW kM hi qU hp hr hz;have wD:(w.alloc (.cells us.toArray e)).heap[w.heap.size]? =some (.cells us.toArray e (0,0)):=heap_alloc_new w _;refine⟨_,_,h1,Upd.alloc _ _ _,?_⟩;simp only[rd];refine⟨_,len,by simp[qU];rfl,by simp[qU],by unfold maxLen;omega,by simpa[qU]using vW,?_⟩;refine .inr ⟨w.heap.size,0,us.toArray,e,(0,0),rfl,fun hmm=>by have:=S.lt _ hmm;omega,wD,?_⟩
 have W:Weak (cu s loc) (cu s loc) (hm s loc M0) (hm s loc M0) w.heap (w.alloc (.cells us.toArray e)).heap (Bx (ds.map AP)) :=
  Fh (Upd.alloc [] w _).nil (fun b hb=> .inl hb) (fun e' zJ _=>AV S.nd zJ)
 exact Cx W k _ _ 0 (Nat.le_refl _) h2
theorem aK (S:St s.own loc M0 w.heap) {p:DVal} {v:Value} {ks vs:List DVal} (hp:Bt s loc M0 w p v) (hc:GR s.own p=some (ks,vs)) :
  (v= .map none/\ks=[]/\vs=[])\/∃b es clk,v= .map (some b)/\w.heap[b]? =some (.map es clk)/\Pm es clk/\AI (cu s loc) (hm s loc M0) w.heap ks (es.toList.map (·.key))/\AI (cu s loc) (hm s loc M0) w.heap vs (es.toList.map (·.val)):=by
 unfold GR at hc
 split at hc
 ·simp only[aA0,aT0]at hc;obtain⟨rfl,rfl⟩:=hc;simp only[Bt,rd]at hp;obtain⟨b,es,clk,h1,_,h3,h4,h5,h6⟩:=hp;exact .inr ⟨b,es,clk,h1,h3,h4,h5,h6⟩
 ·simp only[aA0,aT0]at hc;obtain⟨rfl,rfl⟩:=hc;simp only[Bt,rd]at hp;exact .inl ⟨hp,rfl,rfl⟩
 ·rename_i id r
  split at hc
  ·rename_i e he
   split at hc
   ·rename_i wO
    split at hc
    ·rename_i ks0 vs0 wE;simp only[aA0,aT0]at hc;obtain⟨rfl,rfl⟩:=hc;obtain⟨vE,hid⟩:=AN he;have hk:=S.ok e vE;rw[wE]at hk;obtain⟨b,es,clk,h1,h2,h3,h4,h5⟩:=hk;simp only[Bt,rd]at hp;obtain⟨b',qD,hv⟩:=hp (loc id) (by unfold cu Ae;rw[he];simp[wO]);rw[<-hid,h1]at qD;simp only[bG0,and_true]at qD;subst qD;exact .inr ⟨b,es,clk,hv,h2,h3,h4,h5⟩
    ·simp at hc
   ·simp at hc
  ·simp at hc
 ·simp at hc
theorem YY {t:TypeId} {x:TypeId×TypeId} (h:tMap P t=some x):P.underlying t=some (.map x.1 x.2):=by
 unfold tMap at h
 split at h
 ·simp only[aA0]at h;subst h;assumption
 ·simp at h
theorem Gu_ (S:St s.own loc M0 w.heap) {t kt et:TypeId} {d x z:DVal} {v u:Value} {ks vs:List DVal} {ok:Bool} (ht:tMap P t=some (kt,et)) (hd:Bt s loc M0 w d v) (hc:GR s.own d=some (ks,vs)) (hx:Bt s loc M0 w x u)
  (hk:Ck P kt x=true) (zP:ks.all (Ck P kt)=true) (hz:tZeroD P et=some z) :
  Yields P s loc M0 w (Instr.lookup t v u ok) (if ok then .tup [(match AQ ks x with | some j=>vs.getD j .any | none=>z),.bool (AQ ks x).isSome]else (match AQ ks x with | some j=>vs.getD j .any | none=>z)):=by
 obtain⟨zv,kK,hzd⟩:=DS_ (P:=P) (cur:=cu s loc) (M:=hm s loc M0) (h:=w.heap) hz (w:=w);have hu:=YY ht;simp only at hu
 have fin:∀(es:Array MapEntry) (v1:Value) (b1:Bool) (d1:DVal),Bt s loc M0 w d1 v1->(Instr.lookup t v u ok).run P w= .ok (if ok then .tuple #[v1,.bool b1]else v1) w->Yields P s loc M0 w (Instr.lookup t v u ok) (if ok then .tup [d1,.bool b1]else d1):=by
  intro es v1 b1 d1 hd1 hr;refine Yields.same hr ?_;cases ok
  ·exact hd1
  ·simp only[if_true,Bt,rd];exact⟨_,rfl,by simp only[AI];exact⟨v1,[.bool b1],rfl,hd1,.bool b1,[],rfl,by simp only[rd],rfl⟩⟩
 rcases aK S hd hc with ⟨rfl,rfl,rfl⟩ | ⟨b,es,clk,rfl,hb,_,h5,h6⟩
 ·have nV:=Fz (w:=w) (e:=true) hk hx;refine fin #[] zv false _ ?_ ?_
  ·simpa[AQ]using hzd
  ·have hf:=Hq (w:=w) hk hx [] [] (by simp) (by simp[AI]);simp only[AQ,eP0]at hf;cases ok<;>simp[Instr.lookup,run_underlying hu,nV,hf,kK]
 ·have nV:=Fz (w:=w) (e:=es.isEmpty) hk hx;have hf:=Hq (w:=w) hk hx es.toList ks zP h5;have hg:(getObj b).run P w= .ok (.map es clk) w:=_root_.Go.run_getObj_map (P:=P) (w:=w) b es clk hb
  cases hl:AQ ks x with
  | none =>
   rw[hl]at hf;simp only[eP0]at hf;refine fin es zv false _ hzd ?_;cases ok<;>simp[Instr.lookup,run_underlying hu,hg,nV,hf,kK]
  | some j =>
   rw[hl]at hf;simp only[dN0]at hf;have hj:=aN hl;have wY:=AJ _ _ h5;have cO:=AJ _ _ h6;simp only[aL0,bQ0]at wY cO;have hjv:j<vs.length:=by omega
   obtain⟨v1,gY,nC⟩:=Sf _ _ j _ h6 (aH0 hjv);rw[bN0]at gY;refine fin es v1 true _ ?_ ?_
   ·simp only[bJ0,aH0 hjv,cB0];exact nC
   ·rw[gY]at hf;simp only[cB0]at hf;cases ok<;>simp[Instr.lookup,run_underlying hu,hg,nV,hf]
theorem Rj (S:St s.own loc M0 w.heap) {t ty:TypeId} {d:DVal} {v:Value} {ks vs:List DVal} (ht:(tMap P t).isSome=true) (hd:Bt s loc M0 w d v) (hc:GR s.own d=some (ks,vs)) (hl:(ks.length:Int)<=9223372036854775807) :
  Yields P s loc M0 w (Builtin.len_ #[t] ty #[v]) (.int .i64 ks.length):=by
 obtain⟨y,hy⟩:=bL0.1 ht;have hu:=YY hy
 rcases aK S hd hc with ⟨rfl,rfl,rfl⟩ | ⟨b,es,clk,rfl,hb,_,h5,_⟩
 ·exact Yields.same (v:= .int .i64 0) (by simp[Builtin.len_,run_underlying hu,goInt]) (by simp[Bt,rd,JI])
 ·have yX:=AJ _ _ h5;simp only[aL0,bQ0]at yX;have hg:(getObj b).run P w= .ok (.map es clk) w:=_root_.Go.run_getObj_map (P:=P) (w:=w) b es clk hb;refine Yields.same (v:= .int .i64 es.size) (by simp[Builtin.len_,run_underlying hu,goInt,hg]) ?_;simp only[Bt,rd,JI,yX];exact⟨trivial,by omega,hl⟩
theorem ZA {cur:Fb} {M:List Nat} {H:Array Obj} {k:Nat}:∀(n:Nat) (es:List (List DVal)) (arr:Array Value) (o:Nat),EB cur M H k es arr o->EB cur M H k (es.drop n) arr (o+n*k)
 | 0,es,arr,o,hr=>by simpa using hr
 | n+1,[],arr,o,hr=>by simp[EB]
 | n+1,c::es,arr,o,hr=>by
  simp only[EB]at hr;have:=ZA n es arr (o+k) hr.2.2;simp only[dY0]
  rwa[show o+k+n*k=o+(n+1)*k by rw[bU0];omega]at this
theorem Zx {cur:Fb} {M:List Nat} {H:Array Obj} {k:Nat}:∀(n:Nat) (es:List (List DVal)) (arr:Array Value) (o:Nat),EB cur M H k es arr o->EB cur M H k (es.take n) arr o
 | 0,es,arr,o,hr=>by simp[EB]
 | n+1,[],arr,o,hr=>by simp[EB]
 | n+1,c::es,arr,o,hr=>by
  simp only[EB,dK0]at hr |-;exact⟨hr.1,hr.2.1,Zx n es arr (o+k) hr.2.2⟩
theorem run_sliceBound {e:Operand->DVal} {x:Operand} (hρ:Bt s loc M0 w (e x) (ρ x)) {d:Int} {y:Nat} {c:BoundsCode} (h0:0<=Dh e d (some x)) (h1:Dh e d (some x)<=y):(Instr.sliceBound (ρ x) y c).run P w= .ok (Dh e d (some x)).toNat w:=by
 simp only[Dh]at h0 h1 |-
 split at h0
 ·rename_i ik n hx;simp only[hx]at h1 |-;rw[hx]at hρ;simp only[Bt,rd]at hρ;rw[hρ.1];simp[Instr.sliceBound,asIntOf,h0,h1]
 ·omega
theorem Ib {e:Operand->DVal} (hρ:∀x,Bt s loc M0 w (e x) (ρ x)) {b:Bool} {len cap:Nat} {l h:Option Operand} (hp:EK e len l h none) (hc:len<=cap) :
  (Instr.sliceBounds b len cap (l.map ρ) (h.map ρ) none).run P w= .ok ((Dh e 0 l).toNat,(Dh e len h).toNat,cap) w:=by
 obtain⟨h0,h1,h2,h3,h4⟩:=hp;have en:∀d,Dh e d none=d:=fun _=>rfl
 rw[en]at h2 h3
 cases h with
 | none =>
  rw[en]at h1 |-
  cases l with
  | none=>simp[Instr.sliceBounds,en]
  | some y =>
   have hb:=run_sliceBound (P:=P) (c:= .sliceB) (hρ y) (d:=0) (y:=len) h0 h1;simp[Instr.sliceBounds,hb]
 | some x =>
  have hh:=run_sliceBound (P:=P) (c:=if b then .sliceAcap else .sliceAlen) (hρ x) (d:=len) (y:=cap) (by omega) (by omega)
  cases l with
  | none=>simp[Instr.sliceBounds,en,hh]
  | some y =>
   have hb:=run_sliceBound (P:=P) (c:= .sliceB) (hρ y) (d:=0) (y:=(Dh e len (some x)).toNat) h0 (by omega);simp[Instr.sliceBounds,hb,hh]
theorem Ng (S:St s.own loc M0 w.heap) {id r et k bs:Nat} {es:List (List DVal)} {e:Ent} (he:Ar s.own id=some e) (wO:e.r=r) (qW:e.obj= .row et k bs es) :
  Ae s.own loc id r=some (loc id)/\∃a cap,(loc id).hdr= .slice a es.length cap/\es.length<=cap/\cap<=maxLen/\((es=[]/\(loc id).blks=[]/\a=none/\cap=0)\/∃b,(loc id).blks=[b]/\a=some ⟨b,0,none⟩):=by
 obtain⟨vE,hid⟩:=AN he;have hk:=S.ok e vE;rw[qW]at hk;obtain⟨_,hk⟩:=hk;rw[hid]at hk;refine⟨by unfold Ae;rw[he];simp[wO],?_⟩
 rcases hk with ⟨rfl,h1,h2⟩ | ⟨b,arr,cap,p1,p2,p3,p4,p5,p6,p7⟩
 ·exact⟨none,0,h2,by simp,by unfold maxLen;omega,.inl ⟨rfl,h1,rfl,rfl⟩⟩
 ·exact⟨_,cap,p2,p4,p5,.inr ⟨b,p1,rfl⟩⟩
theorem uQ {own:List Ent} {d:DVal} {id r k bs:Nat} {es:List (List DVal)} (hd:d= .osl id r) (h:Bn own d=some (k,bs,es)):∃e et,Ar own id=some e/\e.r=r/\e.obj= .row et k bs es:=by
 subst hd;unfold Bn at h;simp only at h
 split at h
 ·rename_i e he
  split at h
  ·rename_i wO
   split at h
   ·rename_i et k' bs' es' qW;simp only[aA0,aT0]at h;obtain⟨rfl,rfl,rfl⟩:=h;exact⟨e,et,he,wO,qW⟩
   ·simp at h
  ·simp at h
 ·simp at h
theorem Ej_ {own:List Ent} {d:DVal} {id r k bs i n:Nat} (hd:d= .vw id r k bs i n) (h:(Bn own d).isSome=true):∃e et es,Ar own id=some e/\e.r=r/\e.obj= .row et k bs es/\i+n<=es.length:=by
 subst hd;unfold Bn at h;simp only at h
 split at h
 ·rename_i e he
  split at h
  ·rename_i wO
   split at h
   ·rename_i et k' bs' es' qW
    split at h
    ·rename_i hb;obtain⟨rfl,rfl,hb⟩:=hb;exact⟨e,et,es',he,wO,qW,hb⟩
    ·simp at h
   ·simp at h
  ·simp at h
 ·simp at h
theorem FV {e:Operand->DVal} (hρ:∀x,Bt s loc M0 w (e x) (ρ x)) {b:Bool} {len cap:Nat} {l h m:Option Operand} (hp:EK e len l h m) (hc:len<=cap) :
  ∃mm,(Instr.sliceBounds b len cap (l.map ρ) (h.map ρ) (m.map ρ)).run P w= .ok ((Dh e 0 l).toNat,(Dh e len h).toNat,mm) w/\(Dh e len h).toNat<=mm/\mm<=cap:=by
 obtain⟨h0,h1,h2,h3,h4⟩:=hp;have en:∀d,Dh e d none=d:=fun _=>rfl
 cases m with
 | none =>
  rw[en]at h2 h3;refine⟨cap,?_,by omega,Nat.le_refl _⟩
  cases h with
  | none =>
   rw[en]at h1 |-
   cases l with
   | none=>simp[Instr.sliceBounds,en]
   | some y =>
    have hb:=run_sliceBound (P:=P) (c:= .sliceB) (hρ y) (d:=0) (y:=len) h0 h1;simp[Instr.sliceBounds,hb]
  | some x =>
   have hh:=run_sliceBound (P:=P) (c:=if b then .sliceAcap else .sliceAlen) (hρ x) (d:=len) (y:=cap) (by omega) (by omega)
   cases l with
   | none=>simp[Instr.sliceBounds,en,hh]
   | some y =>
    have hb:=run_sliceBound (P:=P) (c:= .sliceB) (hρ y) (d:=0) (y:=(Dh e len (some x)).toNat) h0 (by omega);simp[Instr.sliceBounds,hb,hh]
 | some z =>
  obtain⟨x,rfl⟩:=bL0.1 (h4 rfl);have hm:=run_sliceBound (P:=P) (c:=if b then .slice3Acap else .slice3Alen) (hρ z) (d:=len) (y:=cap) (by omega) (by omega);have hh:=run_sliceBound (P:=P) (c:= .slice3B) (hρ x) (d:=len) (y:=(Dh e len (some z)).toNat) (by omega) (by omega);refine⟨(Dh e len (some z)).toNat,?_,by omega,by omega⟩
  cases l with
  | none=>simp[Instr.sliceBounds,en,hm,hh]
  | some y =>
   have hb:=run_sliceBound (P:=P) (c:= .slice3C) (hρ y) (d:=0) (y:=(Dh e len (some x)).toNat) h0 (by omega);simp[Instr.sliceBounds,hb,hm,hh]
theorem EO_ {o:Oper} {e:Operand->DVal} (S:St s.own loc M0 w.heap) (hρ:∀x,Bt s loc M0 w (e x) (ρ x)) (hp:FY P s.own e o.op) :
  ∃v w',(execOp ρ o).run P w= .ok (.value v) w'/\Upd [] w w'/\rd (cu s loc) (hm s loc M0) w'.heap (BR P s.own e o.op) v:=by
 obtain⟨dst,op,type,pos,after,guard⟩:=o;simp only at hp |-
 have fin:∀(x:Sem Value) (d:DVal),Yields P s loc M0 w x d->∃v w',(do pure (.value (<-x)):Sem Next).run P w= .ok (.value v) w'/\Upd [] w w'/\rd (cu s loc) (hm s loc M0) w'.heap d v:=by
  rintro x d ⟨v,w',h1,h2,h3⟩;exact⟨v,w',by rw[Sem.run_bind,h1];rfl,h2,h3⟩
 have fin':∀(x:Sem Value) (d:DVal),Yields P s loc M0 w x d->∃v w',((x.run P w).andThen fun a w'=>Result.ok (Next.value a) w')= .ok (.value v) w'/\Upd [] w w'/\rd (cu s loc) (hm s loc M0) w'.heap d v:=by
  rintro x d ⟨v,w',h1,h2,h3⟩;exact⟨v,w',by rw[h1];rfl,h2,h3⟩
 have one:∀(v:Value) (d:DVal),Bt s loc M0 w d v->∃v' w',(pure (.value v):Sem Next).run P w= .ok (.value v') w'/\Upd [] w w'/\rd (cu s loc) (hm s loc M0) w'.heap d v' :=
  fun v d h=>⟨v,w,rfl,Upd.refl _ _,h⟩
 cases op<;>simp only[FY]at hp
 case move x=>exact one _ _ (hρ x)
 case assign x=>exact one _ _ (hρ x)
 case pick c a b =>
  have hc:=hρ c
  split at hp
  ·rename_i t ht;rw[ht]at hc;simp only[Bt,rd]at hc;simp only[BR,ht,execOp,hc];refine one (if t then ρ a else ρ b) _ ?_;have ha:=hρ a;have hb:=hρ b
   generalize e a=da at *
   generalize e b=db at *
   have plain:Bt s loc M0 w (if t then da else db) (if t then ρ a else ρ b):=by cases t<;>simp<;>assumption
   unfold Ko
   split
   ·cases t<;>simpa using plain
   ·rename_i p c q;simp only[Jg]at hp;simp only[Bt,rd]at ha hb |-;cases t
    ·exact hb.1 (hp rfl)
    ·exact ha
   ·rename_i c p q;simp only[Jg]at hp;simp only[Bt,rd]at ha hb |-;cases t
    ·exact hb
    ·exact ha.1 (hp rfl)
   ·exact plain
  ·exact hp.elim
 case fieldAddr t x f =>
  have hx:=hρ x;simp only[execOp];refine fin _ _ ?_
  split at hp
  ·rename_i off n b cs hf hd;rw[hd]at hx;have:=OB (P:=P) hf hp hx (.inl ⟨cs,rfl⟩);simpa only[BR,hf,hd]using this
  ·rename_i off n b id r o hf hd;rw[hd]at hx;have:=OB (P:=P) hf hp.1 hx (.inr (.inl ⟨id,r,o,rfl,by rw[ED hp.2];rfl⟩));simpa only[BR,hf,hd]using this
  ·rename_i off n b id r k i j hf hd;rw[hd]at hx;have:=OB (P:=P) hf hp.1 hx (.inr (.inr ⟨id,r,k,i,j,rfl,by rw[ED hp.2];rfl⟩));simpa only[BR,hf,hd]using this
  ·exact hp.elim
 case load t a =>
  have ha:=hρ a;simp only[execOp];refine fin _ _ ?_
  split at hp
  ·rename_i n cs hg hn hc;have:=Gv_ (P:=P) S (b:=true) hg ha hc (fun _=>⟨n,hn,hp⟩) (by simp);simpa only[BR,hg,hn,hc,cB0]using this
  ·rename_i cs hg hc;have:=Gv_ (P:=P) S (b:=false) hg ha hc (by simp) (fun _=>hp);cases hn:tCells P t<;>simpa only[BR,hg,hn,hc]using this
  ·exact hp.elim
 case indexAddr t x i =>
  have hx:=hρ x;have hi:=hρ i;simp only[execOp];refine fin _ _ ?_
  split at hp
  ·rename_i ik n k bs k' bs' es hei kP hr;obtain⟨rfl,h0,h1⟩:=hp;rw[hei]at hi;simp only[Bt,rd]at hi;rw[hi.1];have:=DM_ (P:=P) S (ik:=ik) kP hx hr h0 h1;simpa only[BR,hei]using this
  ·exact hp.elim
 case index t x i =>
  have hx:=hρ x;have hi:=hρ i;simp only[execOp];refine fin _ _ ?_
  split at hp
  ·rename_i str ik n hd hei;obtain⟨ht,h0,h1⟩:=hp;rw[hei]at hi;rw[hd]at hx;simp only[Bt,rd]at hi hx;rw[hi.1,hx.1];simp only[BR,hd,hei]
   have hu:P.underlying t=some .string:=by
    unfold tStr at ht
    split at ht
    ·assumption
    ·simp at ht
   have qV:n.toNat<str.size:=by omega
   refine Yields.same (v:= .int .u8 (str[n.toNat]).toNat) ?_ ?_
   ·simp[Instr.index,asIntOf,run_underlying hu,h0,qV]
   ·have e:str.data.toList.getD n.toNat 0=str[n.toNat]:=by
     have jJ:n.toNat<str.data.size:=qV;rw[bJ0,aH0 (by simpa using jJ)];rfl
    simp only[Bt,rd,e,JI,true_and];have:=(str[n.toNat]).toNat_lt;omega
  ·exact hp.elim
 case field t x f =>
  have hx:=hρ x;simp only[execOp];refine fin _ _ ?_
  split at hp
  ·rename_i off n b cs hf hd;rw[hd]at hx;have:=JV_ (P:=P) hf hx hp.1 hp.2;simpa only[BR,hf,hd]using this
  ·exact hp.elim
 case binOp op t x y ty =>
  obtain⟨d,hd⟩:=bL0.1 hp;obtain⟨r,h1,h2⟩:=Lj_ (P:=P) (w:=w) (xo:=x) (yo:=y) hd (hρ x) (hρ y);simp only[execOp];refine fin _ _ ?_;simp only[BR,hd,cB0];exact Yields.same h1 h2
 case unOp op t x =>
  have hx:=hρ x;simp only[execOp];refine fin _ _ ?_
  split at hp
  ·rename_i b hd;rw[hd]at hx;simp only[Bt,rd]at hx;rw[hx];simp only[BR,hd];exact Yields.same (v:= .bool (!b)) rfl (by simp only[Bt,rd])
  ·rename_i k n hd;rw[hd]at hx;simp only[Bt,rd]at hx;rw[hx.1];simp only[BR,hd];exact Yields.same (v:= .int k (k.wrap (0-n))) rfl (by simp only[Bt,rd,JU,and_self])
  ·exact hp.elim
 case convert src dst x =>
  have hx:=hρ x;obtain⟨hs,hp⟩:=hp;obtain⟨sd,hs⟩:=bL0.1 hs;simp only[execOp];refine fin _ _ ?_
  split at hp
  ·rename_i k n hd;rw[hd]at hx;simp only[Bt,rd]at hx;rw[hx.1];obtain⟨k',zZ⟩:=bL0.1 hp;simp only[BR,hd,zZ]
   have hu:P.underlying dst=some (.int k'):=by
    unfold Mg_ at zZ
    split at zZ
    ·simp only[aA0]at zZ;subst zZ;assumption
    ·simp at zZ
   refine Yields.same (v:= .int k' (k'.wrap n)) ?_ (by simp only[Bt,rd,JU,and_self]);simp[convert,run_underlying hs,run_underlying hu,Conv.intToInt]
  ·rename_i str hd;rw[hd]at hx;simp only[Bt,rd]at hx;simp only[BR,hd]
   have hu:P.underlying dst=some .string:=by
    unfold tStr at hp
    split at hp
    ·assumption
    ·simp at hp
   refine Yields.same (v:=ρ x) ?_ (by simp only[Bt,rd];exact hx);rw[hx.1];simp only[convert,Sem.run_bind,run_underlying hs,run_underlying hu,Result.andThen_ok];cases sd<;>rfl
  ·exact hp.elim
 case extract x i =>
  have hx:=hρ x;simp only[execOp];refine fin _ _ ?_
  split at hp
  ·rename_i vs hd;rw[hd]at hx;simp only[Bt,rd]at hx;obtain⟨us,hu,vH⟩:=hx;rw[hu];obtain⟨v,hv,hr⟩:=Sf _ _ i vs[i] vH (aH0 hp);simp only[BR,hd];refine Yields.same (v:=v) ?_ ?_
   ·have gG:us[i]? =some v:=by simpa using hv
    simp[Instr.extract,gG]
   ·rw[bJ0,aH0 hp];exact hr
  ·exact hp.elim
 case makeFunc f us cs =>
  have key:∀l:List Operand,AI (cu s loc) (hm s loc M0) w.heap (l.map e) (l.map ρ):=by
   intro l
   induction l with
   | nil=>simp[AI]
   | cons x l ih=>simp only[List.map_cons,AI];exact⟨_,_,rfl,hρ x,ih⟩
  simp only[execOp,BR];refine fin _ _ (Yields.same (v:= .func f (us.map ρ) (cs.map ρ)) rfl ?_);simp only[Bt,rd];exact⟨_,_,rfl,by simpa using key us.toList,by simpa using key cs.toList⟩
 case makeInterface t x =>
  simp only[execOp,BR];refine fin _ _ (Yields.same (v:= .iface t (ρ x)) ?_ (by simp only[Bt,rd];exact⟨_,rfl,hρ x⟩))
  cases hu:P.underlying t with
  | none=>simp[hu]at hp
  | some d=>cases d<;>simp[hu]at hp<;>simp[Instr.makeInterface,run_underlying hu]
 case nilCheck x =>
  have hx:=hρ x
  split at hp
  ·rename_i cs hd;rw[hd]at hx;simp only[Bt,rd]at hx;have qG:=hx;obtain⟨b,off,arr,ty,fz,hv,_⟩:=hx;simp only[execOp,hv,BR,hd];exact one _ _ (by rw[<-hv];simp only[Bt,rd];exact qG)
  ·rename_i id r off hd;rw[hd]at hx;have qG:=hx;simp only[Bt,rd]at hx;obtain⟨b,_,hv⟩:=hx _ (ED hp);simp only[execOp,hv,BR,hd];exact one _ _ (by rw[<-hv];exact qG)
  ·rename_i id r k i j hd;rw[hd]at hx;have qG:=hx;simp only[Bt,rd]at hx;obtain⟨b,_,hv⟩:=hx _ (ED hp);simp only[execOp,hv,BR,hd];exact one _ _ (by rw[<-hv];exact qG)
  ·rename_i f us cs hd;rw[hd]at hx;simp only[Bt,rd]at hx;have qG:=hx;obtain⟨us',cs',hv,_⟩:=hx;simp only[execOp,hv,BR,hd];exact one _ _ (by rw[<-hv];simp only[Bt,rd];exact qG)
  ·exact hp.elim
 case box t x =>
  simp only[execOp,BR];exact fin _ _ (Nl_ S hp (hρ x))
 case build t parts =>
  split at hp
  ·rename_i z hz;obtain⟨h1,h2,h3⟩:=hp;unfold tParts at h3
   split at h3
   ·rename_i fs hs;obtain⟨out,zB⟩:=bL0.1 h1;simp only[execOp,BR,hz,zB,cB0];refine fin _ _ (JW_ S hz hs h3 (ds:=parts.toList.map fun p=>(p.1,e p.2)) (by simp) ?_ zB);intro i p q qN yE;simp only[bN0,bC0,eE0]at qN yE;obtain⟨a,ha,rfl⟩:=qN;obtain⟨b,hb,rfl⟩:=yE;rw[ha]at hb;simp only[aA0]at hb;subst hb;exact(IC S (aV0.1 h2 a (bH0 ha)) (hρ a.2)).1
   ·simp at h3
  ·exact hp.elim
 case buildSlice t len parts =>
  split at hp
  ·rename_i k bs ht;obtain⟨h1,h2,h3,h4,h5,h6,h7⟩:=hp;simp only[execOp,BR,ht];have qU:parts.toList.length=len:=by have:=congrArg List.length h1;simpa using this
   have:=WJ (P:=P) (vs:=parts.map fun p=>(p.1,ρ p.2)) S ht h5 h2 h3 h4 (ds:=parts.toList.map fun p=>e p.2) (by rw[eE0,cC0];exact h1) (by simpa using qU) (by simpa[List.all_map,Function.comp_def]using h6) (by
    intro i d q hd hq;simp only[bN0,bC0,eE0]at hd hq;obtain⟨a,ha,rfl⟩:=hd;obtain⟨b,hb,rfl⟩:=hq;rw[ha]at hb;simp only[aA0]at hb;subst hb
    exact hρ a.2) h7
   refine fin _ _ ?_;simpa[cC0,Function.comp_def]using this
  ·exact hp.elim
 case slice t x l h m =>
  have hx:=hρ x;simp only[execOp];refine fin _ _ ?_
  split at hp
  ·rename_i k bs es hd;rw[hd]at hx;simp only[Bt,rd]at hx;obtain⟨a,cap,hv,g1,g2,g3,g4⟩:=hx;obtain⟨e',i,hu,hi,qH,_,_⟩:=BL hp.1;obtain⟨mm,hr,k1,k2⟩:=FV (P:=P) hρ (b:=true) hp.2 g1;obtain⟨p0,p1,p2,p3,_⟩:=hp.2;simp only[BR,hd];rw[hv]
   have qU:((es.drop (Dh e 0 l).toNat).take ((Dh e es.length h).toNat-(Dh e 0 l).toNat)).length=(Dh e es.length h).toNat-(Dh e 0 l).toNat:=by
    simp only[bE0,bW0];omega
   refine Yields.same (v:= .slice (if mm=(Dh e 0 l).toNat then a else a.map (·.add ((Dh e 0 l).toNat*k))) ((Dh e es.length h).toNat-(Dh e 0 l).toNat) (mm-(Dh e 0 l).toNat)) ?_ ?_
   ·simp[Instr.sliceAt,Instr.slice,run_underlying hu,hr,sizeOf,typeInfo,hi,qH]
   ·simp only[Bt,rd];refine⟨_,_,by rw[qU],by rw[qU];omega,by omega,?_,?_⟩
    ·refine Nat.le_trans (aS0 bs ?_) g3;rw[qU];omega
    ·by_cases hz:(Dh e es.length h).toNat-(Dh e 0 l).toNat=0
     ·refine .inl ⟨bO0 (by rw[qU];exact hz),?_⟩;intro hn
      rcases g4 with ⟨rfl,hc⟩ | ⟨b,off,arr,ty,fz,rfl,_⟩
      ·split at hn
       ·omega
       ·cases a with
        | none=>have:=hc rfl;omega
        | some a=>simp at hn
      ·split at hn<;>simp at hn
     ·right
      rcases g4 with ⟨rfl,_⟩ | ⟨b,off,arr,ty,fz,rfl,q1,q2,q3⟩
      ·simp only[List.length_nil]at hz qU p3 p2;simp at qU;omega
      ·refine⟨b,off+(Dh e 0 l).toNat*k,arr,ty,fz,?_,q1,q2,Zx _ _ _ _ (ZA _ _ _ _ q3)⟩;rw[if_neg (by omega)];simp[DX]
  ·rename_i hd;rw[hd]at hx;simp only[Bt,rd]at hx;obtain⟨y,hy⟩:=bL0.1 hp.1;obtain⟨e',i,hu,hi,qH,_,_⟩:=BL (k:=y.1) (bs:=y.2) hy;obtain⟨mm,hr,k1,k2⟩:=FV (P:=P) hρ (b:=true) hp.2 (Nat.le_refl 0);obtain⟨p0,p1,p2,p3,_⟩:=hp.2;simp only[BR,hd];rw[hx];have e0:((0:Nat):Int)=0:=rfl;rw[e0]at hr k1 p1 p2 p3;have z1:(Dh e 0 l).toNat=0:=by omega
   have z2:(Dh e 0 h).toNat=0:=by omega
   have z3:mm=0:=by omega
   subst z3;refine Yields.same (v:= .slice none 0 0) ?_ (by simp only[Bt,rd]);simp[Instr.sliceAt,Instr.slice,run_underlying hu,hr,sizeOf,typeInfo,hi,z1,z2]
  ·rename_i id r hd;obtain⟨rfl,hp⟩:=hp;rw[hd]at hx
   cases cH:Bn s.own (.osl id r)with
   | none=>rw[cH]at hp;exact hp.elim
   | some x =>
    obtain⟨k,bs,es⟩:=x;rw[cH]at hp;simp only at hp;obtain⟨e',i,hu,hi,qH,_,_⟩:=BL hp.1;obtain⟨e0,et,vI,wO,qW⟩:=uQ rfl cH;obtain⟨qE,a,cap,hh,g1,g2,g3⟩:=Ng S vI wO qW;simp only[Bt,rd]at hx;have hv:=hx _ qE;rw[hh]at hv;have hr:=Ib (P:=P) hρ (b:=true) hp.2 g1;obtain⟨p0,p1,p2,p3,_⟩:=hp.2;have en:Dh e es.length none=es.length:=rfl;rw[en]at p2 p3;simp only[BR,hd,cH];rw[hv];refine Yields.same (v:= .slice (if cap=(Dh e 0 l).toNat then a else a.map (·.add ((Dh e 0 l).toNat*k))) ((Dh e es.length h).toNat-(Dh e 0 l).toNat) (cap-(Dh e 0 l).toNat)) ?_ ?_
    ·simp[Instr.sliceAt,Instr.slice,run_underlying hu,hr,sizeOf,typeInfo,hi,qH]
    ·simp only[Bt,rd];intro lc hl;have wI:Ae s.own loc id r=some lc:=hl;rw[qE]at wI;simp only[aA0]at wI;subst wI;refine⟨_,_,rfl,by omega,by omega,fun hn=> ?_,fun hn=> ?_,fun hz=> ?_⟩
     ·rcases g3 with ⟨_,_,_,yW⟩ | ⟨b,wQ,rfl⟩
      ·omega
      ·split at hn<;>simp at hn
     ·rcases g3 with ⟨rfl,_⟩ | ⟨b,wQ,rfl⟩
      ·simp only[List.length_nil]at p2 hn;omega
      ·refine⟨b,wQ,?_⟩;rw[if_neg (by omega)];simp[DX]
     ·refine⟨es.length,?_⟩;rw[hh,hz]
      rcases g3 with ⟨rfl,_,rfl,rfl⟩ | ⟨b,wQ,rfl⟩
      ·simp
      ·simp[DX]
  ·rename_i id r k bs i0 n0 hd;obtain⟨rfl,cH,hp⟩:=hp;rw[hd]at hx;obtain⟨e0,et,es,vI,wO,qW,hbound⟩:=Ej_ rfl cH;obtain⟨e',i,hu,hi,qH,_,_⟩:=BL hp.1;obtain⟨qE,a0,cap0,hh,g1,g2,g3⟩:=Ng S vI wO qW;simp only[Bt,rd]at hx;obtain⟨a,cap,hv,q1,q2,q5,q3,q4⟩:=hx _ qE;have hr:=Ib (P:=P) hρ (b:=true) hp.2 q1;obtain⟨p0,p1,p2,p3,_⟩:=hp.2;have en:Dh e n0 none=n0:=rfl;rw[en]at p2 p3;simp only[BR,hd];rw[hv];refine Yields.same (v:= .slice (if cap=(Dh e 0 l).toNat then a else a.map (·.add ((Dh e 0 l).toNat*k))) ((Dh e n0 h).toNat-(Dh e 0 l).toNat) (cap-(Dh e 0 l).toNat)) ?_ ?_
   ·simp[Instr.sliceAt,Instr.slice,run_underlying hu,hr,sizeOf,typeInfo,hi,qH]
   ·simp only[Bt,rd];intro lc hl;have wI:Ae s.own loc id r=some lc:=hl;rw[qE]at wI;simp only[aA0]at wI;subst wI;refine⟨_,_,rfl,by omega,by omega,fun hn=> ?_,fun hn=> ?_,fun hz=> ?_⟩
    ·have ha:a=none:=by
      split at hn
      ·exact hn
      ·simpa using hn
     have:=q5 ha;omega
    ·obtain⟨b,wQ,rfl⟩:=q3 (by omega);refine⟨b,wQ,?_⟩;rw[if_neg (by omega)];simp[DX,bU0]
    ·obtain⟨n1,hh1⟩:=q4 (by omega);rw[hh]at hh1;simp only[Value.slice.injEq]at hh1;obtain⟨rfl,_,rfl⟩:=hh1;refine⟨es.length,?_⟩;have z0:(Dh e 0 l).toNat=0:=by omega
     rw[hh,z0]
     rcases g3 with ⟨rfl,_,rfl,rfl⟩ | ⟨b,wQ,rfl⟩
     ·simp
     ·simp[DX]
  ·rename_i str hd;obtain⟨ht,rfl,jE⟩:=hp;rw[hd]at hx;simp only[Bt,rd]at hx
   have hu:P.underlying t=some .string:=by
    unfold tStr at ht
    split at ht
    ·assumption
    ·simp at ht
   obtain⟨mm,hr,k1,k2⟩:=FV (P:=P) hρ (b:=false) (cap:=str.size) jE (Nat.le_refl _);simp only[BR,hd];rw[hx.1];refine Yields.same (v:= .string (str.extract (Dh e 0 l).toNat (Dh e str.size h).toNat)) ?_ ?_
   ·simp only[eP0]at hr;simp[Instr.sliceAt,Instr.slice,run_underlying hu,hr]
   ·simp only[Bt,rd,true_and];have h2:=hx.2
    have:(str.extract (Dh e 0 l).toNat (Dh e str.size h).toNat).size<=str.size:=by
     rw[ByteArray.size_extract];omega
    omega
  ·exact hp.elim
 case lookup t x i ok =>
  have hx:=hρ x;have hi:=hρ i;simp only[execOp];refine fin _ _ ?_
  split at hp
  ·rename_i kt et ks vs ht hc;obtain⟨z,hz⟩:=bL0.1 hp.2.2;have:=Gu_ (P:=P) (ok:=ok) S ht hx hc hi hp.1 hp.2.1 hz;simpa only[BR,ht,hc,hz,cB0]using this
  ·exact hp.elim
 case call c =>
  obtain⟨callee,args,ats⟩:=c;cases callee<;>simp only at hp
  case builtin b =>
   cases b<;>simp only[Vf]at hp
   case append =>
    obtain⟨al⟩:=args;obtain⟨tl⟩:=ats
    match al,tl,hp with
    | [x,y],[t,t'],hp =>
     have hx:=hρ x;have hy:=hρ y;simp only[List.map_cons,List.map_nil]at hp;simp only[BR,List.map_cons,List.map_nil,NV];simp only[execOp,resolve,Sem.run_bind,dS0,List.map_cons,List.map_nil,Sem.run_pure,Result.andThen_ok,invoke,builtin];refine fin' _ _ ?_
     split at hp
     ·rename_i ha hb;rw[ha]at hx;rw[hb]at hy;simp only[Bt,rd]at hx hy;obtain⟨rfl,h2⟩:=hp;obtain⟨y0,hy0⟩:=bL0.1 h2;obtain⟨e0,i,hu,hi,_⟩:=BL (k:=y0.1) (bs:=y0.2) hy0;rw[hx,hy];refine Yields.same (v:= .slice none 0 0) (by simp[Builtin.append_,run_underlying hu,sizeOf,typeInfo,hi,Builtin.lenOf,Builtin.firstCells,storeCells]) ?_;simp only[Bt,rd]
     ·exact hp.elim
   case min =>
    obtain⟨al⟩:=args;obtain⟨tl⟩:=ats
    match al,hp with
    | [x,y],hp =>
     have hx:=hρ x;have hy:=hρ y;simp only[List.map_cons,List.map_nil]at hp;simp only[BR,List.map_cons,List.map_nil,NV];simp only[execOp,resolve,Sem.run_bind,dS0,List.map_cons,List.map_nil,Sem.run_pure,Result.andThen_ok,invoke,builtin];refine fin' _ _ ?_
     split at hp
     ·rename_i k a k' b ha hb;rw[ha]at hx;rw[hb]at hy;simp only[Bt,rd]at hx hy;subst hp;rw[hx.1,hy.1];refine Yields.same (v:= .int k (if b<a then b else a)) (by simp[Builtin.min_,Builtin.min2]) ?_;simp only[Bt,rd,true_and]
      split
      ·exact hy.2
      ·exact hx.2
     ·exact hp.elim
    | [],hp=>simp at hp
    | [_],hp=>simp at hp
    | _::_::_::_,hp=>simp at hp
   case max =>
    obtain⟨al⟩:=args;obtain⟨tl⟩:=ats
    match al,hp with
    | [x,y],hp =>
     have hx:=hρ x;have hy:=hρ y;simp only[List.map_cons,List.map_nil]at hp;simp only[BR,List.map_cons,List.map_nil,NV];simp only[execOp,resolve,Sem.run_bind,dS0,List.map_cons,List.map_nil,Sem.run_pure,Result.andThen_ok,invoke,builtin];refine fin' _ _ ?_
     split at hp
     ·rename_i k a k' b ha hb;rw[ha]at hx;rw[hb]at hy;simp only[Bt,rd]at hx hy;subst hp;rw[hx.1,hy.1];refine Yields.same (v:= .int k (if a<b then b else a)) (by simp[Builtin.max_,Builtin.max2]) ?_;simp only[Bt,rd,true_and]
      split
      ·exact hy.2
      ·exact hx.2
     ·exact hp.elim
    | [],hp=>simp at hp
    | [_],hp=>simp at hp
    | _::_::_::_,hp=>simp at hp
   case len =>
    have qM:∀x∈args.toList,Bt s loc M0 w (e x) (ρ x):=fun x _=>hρ x
    obtain⟨al⟩:=args;obtain⟨tl⟩:=ats
    match al,tl,hp,qM with
    | [x],[t],hp,qM =>
     have hx:=hρ x;simp only[List.map_cons,List.map_nil]at hp;simp only[BR,List.map_cons,List.map_nil,NV];simp only[execOp,resolve,Sem.run_bind,dS0,List.map_cons,List.map_nil,Sem.run_pure,Result.andThen_ok,invoke,builtin];refine fin' _ _ ?_
     split at hp
     ·rename_i str hd;rw[hd]at hx;simp only[Bt,rd]at hx;rw[hx.1]
      have hu:P.underlying t=some .string:=by
       unfold tStr at hp
       split at hp
       ·assumption
       ·simp at hp
      have qH:=hx.2;refine Yields.same (v:= .int .i64 str.size) (by simp[Builtin.len_,run_underlying hu,goInt]) ?_;simp only[Bt,rd,JI,true_and];unfold maxLen at qH;omega
     ·rename_i hd;rw[hd]at hx;simp only[Bt,rd]at hx;rw[hx];obtain⟨y,hy⟩:=bL0.1 hp;obtain⟨e,i,hu,_⟩:=BL (k:=y.1) (bs:=y.2) hy;refine Yields.same (v:= .int .i64 0) (by simp[Builtin.len_,run_underlying hu,goInt]) ?_;simp only[Bt,rd,JI,true_and];omega
     ·rename_i ks vs hd;rw[hd]at hx;exact Rj (P:=P) S hp.1 hx rfl hp.2
     ·rename_i hd;rw[hd]at hx;have:=Rj (P:=P) (ty:=type) (ks:=[]) (vs:=[]) S hp hx rfl (by simp);simpa using this
     ·rename_i id r hd;rw[hd]at hx;obtain⟨h1,h2⟩:=hp
      cases hq:GR s.own (.omp id r)with
      | none=>rw[hq]at h2;exact h2.elim
      | some y =>
       rw[hq]at h2;exact Rj (P:=P) S h1 hx hq h2
     ·rename_i d h1 h2 h3 h4 h5;obtain⟨y,hy⟩:=bL0.1 hp.1;have:=Nk_ (P:=P) (ty:=type) S hp.2 hx (k:=y.1) (bs:=y.2.1) (es:=y.2.2) hy;cases hd:e x<;>rw[hd]at h1 h2 h3 h4 h5 hy<;>first | (exact(h1 _ rfl).elim) | (exact(h2 rfl).elim) | (exact(h3 _ _ rfl).elim) | (exact(h4 rfl).elim) | (exact(h5 _ _ rfl).elim) | (simp only[hy];exact this)
end
end Go.Dm
end
