/- Parts of a proof, laid together: EnA, EnB, EnC. -/
import Derived.WalkKit
import Derived.Laws.Rows
import Derived.Laws.Cells
set_option linter.unusedSimpArgs false
set_option maxHeartbeats 8000000
set_option linter.unusedVariables false
set_option linter.unusedSectionVars false
namespace Go.Dm
theorem aA0 : type_of% @Option.some.injEq:= @Option.some.injEq
theorem aB0 : type_of% @List.length_append:= @List.length_append
theorem aC0 : type_of% @Array.getElem?_eq_some_iff:= @Array.getElem?_eq_some_iff
theorem aD0 : type_of% @List.getElem?_eq_getElem:= @List.getElem?_eq_getElem
theorem aE0 : type_of% @List.mem_singleton:= @List.mem_singleton
theorem aF0 : type_of% @List.mem_cons_of_mem:= @List.mem_cons_of_mem
theorem aG0 : type_of% @List.getElem?_eq_some_iff:= @List.getElem?_eq_some_iff
theorem aH0 : type_of% @List.mem_cons_self:= @List.mem_cons_self
theorem aI0 : type_of% @List.mem_append:= @List.mem_append
theorem aJ0 : type_of% @List.mem_cons:= @List.mem_cons
theorem aK0 : type_of% @Array.getD_eq_getD_getElem?:= @Array.getD_eq_getD_getElem?
theorem aL0 : type_of% @List.mem_append_left:= @List.mem_append_left
theorem aM0 : type_of% @List.getD_eq_getElem?_getD:= @List.getD_eq_getElem?_getD
theorem aN0 : type_of% @Bool.and_eq_true:= @Bool.and_eq_true
theorem aO0 : type_of% @List.length_map:= @List.length_map
theorem aP0 : type_of% @List.mem_append_right:= @List.mem_append_right
theorem aQ0 : type_of% @ByteArray.size_append:= @ByteArray.size_append
theorem aR0 : type_of% @List.mem_map:= @List.mem_map
theorem aS0 : type_of% @Prod.mk.injEq:= @Prod.mk.injEq
theorem aT0 : type_of% @List.append_assoc:= @List.append_assoc
theorem aU0 : type_of% @Int.natCast_add:= @Int.natCast_add
theorem aV0 : type_of% @List.getElem?_append_left:= @List.getElem?_append_left
theorem aW0 : type_of% @List.drop_eq_getElem_cons:= @List.drop_eq_getElem_cons
theorem aX0 : type_of% @List.getElem?_append_right:= @List.getElem?_append_right
theorem aY0 : type_of% @Nat.mul_le_mul_right:= @Nat.mul_le_mul_right
theorem aZ0 : type_of% @List.getElem?_cons_zero:= @List.getElem?_cons_zero
theorem bA0 : type_of% @Option.map_eq_some_iff:= @Option.map_eq_some_iff
theorem bB0 : type_of% @List.all_eq_true:= @List.all_eq_true
theorem bC0 : type_of% @List.take_length:= @List.take_length
theorem bD0 : type_of% @List.length_take:= @List.length_take
theorem bE0 : type_of% @Option.isSome_iff_exists:= @Option.isSome_iff_exists
theorem bF0 : type_of% @List.map_append:= @List.map_append
theorem bG0 : type_of% @List.cons.injEq:= @List.cons.injEq
theorem bH0 : type_of% @Bool.false_eq_true:= @Bool.false_eq_true
theorem bI0 : type_of% @Array.length_toList:= @Array.length_toList
theorem bJ0 : type_of% @List.getElem?_cons_succ:= @List.getElem?_cons_succ
theorem bK0 : type_of% @List.eq_nil_of_length_eq_zero:= @List.eq_nil_of_length_eq_zero
theorem bL0 : type_of% @List.getElem?_take_of_lt:= @List.getElem?_take_of_lt
theorem bM0 : type_of% @List.getElem?_map:= @List.getElem?_map
theorem bN0 : type_of% @Nat.zero_add:= @Nat.zero_add
theorem bO0 : type_of% @Array.getElem?_push:= @Array.getElem?_push
theorem bP0 : type_of% @List.take_add_one:= @List.take_add_one
theorem bQ0 : type_of% @List.mem_flatMap:= @List.mem_flatMap
theorem bR0 : type_of% @Nat.add_mul:= @Nat.add_mul
theorem bS0 : type_of% @List.nodup_append:= @List.nodup_append
theorem bT0 : type_of% @List.getElem_mem:= @List.getElem_mem
theorem bU0 : type_of% @List.mem_of_getElem?:= @List.mem_of_getElem?
theorem bV0 : type_of% @List.map_congr_left:= @List.map_congr_left
theorem bW0 : type_of% @List.getElem_of_mem:= @List.getElem_of_mem
theorem bX0 : type_of% @List.append_nil:= @List.append_nil
theorem bY0 : type_of% @List.map_map:= @List.map_map
theorem bZ0 : type_of% @Option.getD_some:= @Option.getD_some
theorem cA0 : type_of% @Array.getElem?_eq_getElem:= @Array.getElem?_eq_getElem
theorem cB0 : type_of% @List.length_drop:= @List.length_drop
theorem cC0 : type_of% @List.mem_filter:= @List.mem_filter
theorem cD0 : type_of% @Array.getElem?_modify:= @Array.getElem?_modify
theorem cE0 : type_of% @List.take_of_length_le:= @List.take_of_length_le
theorem cF0 : type_of% @List.take_succ_cons:= @List.take_succ_cons
theorem cG0 : type_of% @Nat.lt_of_lt_of_le:= @Nat.lt_of_lt_of_le
theorem cH0 : type_of% @List.nodup_cons:= @List.nodup_cons
theorem cI0 : type_of% @List.length_filter_le:= @List.length_filter_le
theorem cJ0 : type_of% @List.getElem?_drop:= @List.getElem?_drop
theorem cK0 : type_of% @Array.getElem?_setIfInBounds_self_of_lt:= @Array.getElem?_setIfInBounds_self_of_lt
theorem cL0 : type_of% @List.any_eq_true:= @List.any_eq_true
theorem cM0 : type_of% @List.pairwise_cons:= @List.pairwise_cons
theorem cN0 : type_of% @List.drop_length:= @List.drop_length
theorem cO0 : type_of% @Array.getElem?_setIfInBounds:= @Array.getElem?_setIfInBounds
theorem cP0 : type_of% @List.mem_map_of_mem:= @List.mem_map_of_mem
theorem cQ0 : type_of% @List.foldl_cons:= @List.foldl_cons
theorem cR0 : type_of% @Nat.add_assoc:= @Nat.add_assoc
theorem cS0 : type_of% @List.length_eq_zero_iff:= @List.length_eq_zero_iff
theorem cT0 : type_of% @List.flatMap_cons:= @List.flatMap_cons
theorem cU0 : type_of% @List.drop_of_length_le:= @List.drop_of_length_le
theorem cV0 : type_of% @Bool.or_eq_true:= @Bool.or_eq_true
theorem cW0 : type_of% @List.sum_cons:= @List.sum_cons
theorem cX0 : type_of% @List.pairwise_map:= @List.pairwise_map
theorem cY0 : type_of% @List.length_replicate:= @List.length_replicate
theorem cZ0 : type_of% @List.getElem?_replicate:= @List.getElem?_replicate
theorem dA0 : type_of% @List.all_cons:= @List.all_cons
theorem dB0 : type_of% @Nat.zero_le:= @Nat.zero_le
theorem dC0 : type_of% @List.foldl_append:= @List.foldl_append
theorem dD0 : type_of% @Int.toNat_natCast:= @Int.toNat_natCast
theorem dE0 : type_of% @Array.getElem?_setIfInBounds_ne:= @Array.getElem?_setIfInBounds_ne
theorem dF0 : type_of% @Nat.le_of_eq:= @Nat.le_of_eq
theorem dG0 : type_of% @List.getElem?_toArray:= @List.getElem?_toArray
theorem dH0 : type_of% @List.filter_append:= @List.filter_append
theorem dI0 : type_of% @List.mem_of_mem_take:= @List.mem_of_mem_take
theorem dJ0 : type_of% @List.size_toArray:= @List.size_toArray
theorem dK0 : type_of% @Option.map_some:= @Option.map_some
theorem dL0 : type_of% @Array.getElem?_append_left:= @Array.getElem?_append_left
theorem dM0 : type_of% @List.map_toArray:= @List.map_toArray
theorem dN0 : type_of% @Nat.add_zero:= @Nat.add_zero
theorem dO0 : type_of% @Bool.true_and:= @Bool.true_and
theorem dP0 : type_of% @List.drop_succ_cons:= @List.drop_succ_cons
theorem dQ0 : type_of% @List.mem_range:= @List.mem_range
theorem dR0 : type_of% @Nat.max_le:= @Nat.max_le
theorem dS0 : type_of% @Array.toList_map:= @Array.toList_map
theorem dT0 : type_of% @Nat.mul_le_mul_left:= @Nat.mul_le_mul_left
theorem dU0 : type_of% @List.mergeSort_perm:= @List.mergeSort_perm
theorem dV0 : type_of% @Array.getElem?_replicate:= @Array.getElem?_replicate
theorem dW0 : type_of% @Nat.mod_lt:= @Nat.mod_lt
theorem dX0 : type_of% @List.any_eq_false:= @List.any_eq_false
theorem dY0 : type_of% @List.take_zero:= @List.take_zero
theorem dZ0 : type_of% @Array.getElem?_toList:= @Array.getElem?_toList
theorem eA0 : type_of% @Nat.mod_eq_of_lt:= @Nat.mod_eq_of_lt
theorem eB0 : type_of% @List.take_append_of_le_length:= @List.take_append_of_le_length
theorem eC0 : type_of% @List.drop_append_of_le_length:= @List.drop_append_of_le_length
theorem eD0 : type_of% @Bool.and_true:= @Bool.and_true
theorem eE0 : type_of% @Nat.not_lt_zero:= @Nat.not_lt_zero
theorem eF0 : type_of% @Bool.eq_iff_iff:= @Bool.eq_iff_iff
theorem eG0 : type_of% @Nat.sub_zero:= @Nat.sub_zero
theorem eH0 : type_of% @Nat.sub_self:= @Nat.sub_self
theorem eI0 : type_of% @List.set_cons_zero:= @List.set_cons_zero
theorem eJ0 : type_of% @List.map_set:= @List.map_set
theorem eK0 : type_of% @List.getElem?_take:= @List.getElem?_take
theorem eL0 : type_of% @List.mem_or_eq_of_mem_set:= @List.mem_or_eq_of_mem_set
theorem eM0 : type_of% @List.flatten_cons:= @List.flatten_cons
theorem eN0 : type_of% @List.ext_getElem?:= @List.ext_getElem?
theorem eO0 : type_of% @List.dropLast_singleton:= @List.dropLast_singleton
theorem eP0 : type_of% @List.dropLast_cons_cons:= @List.dropLast_cons_cons
theorem eQ0 : type_of% @List.countP_cons:= @List.countP_cons
theorem eR0 : type_of% @List.getElem?_set_self:= @List.getElem?_set_self
end Go.Dm
section
namespace Go.Dm
inductive DVal where
 | any
 | undef
 | sel (c:Bool) (d:DVal)
 | bool (b:Bool)
 | int (k:IntKind) (n:Int)
 | str (s:ByteArray)
 | nilp
 | ref (cs:List DVal)
 | bx (id r off:Nat)
 | rx (id r k i j:Nat)
 | nilsl
 | esl
 | sl (k bs:Nat) (es:List (List DVal))
 | osl (id r:Nat)
 | vw (id r k bs i n:Nat)
 | nilmp
 | mp (ks vs:List DVal)
 | omp (id r:Nat)
 | pk (id r:Nat)
 | nilfn
 | fn (f:Fn) (first caps:List DVal)
 | nilifc
 | ifc (t:TypeId) (d:DVal)
 | agg (cs:List DVal)
 | tup (vs:List DVal)
 deriving Inhabited
structure Loc where
 blks:List Nat
 hdr:Value
def MS (es:Array MapEntry) (clk:Nat):Prop:=(es.toList.map (·.born)).Nodup/\∀e∈es.toList,e.born<clk
def Kx : IntKind->Int->Prop
 | .i64,n=> -9223372036854775808<=n/\n<=9223372036854775807
 | .u64,n=>0<=n/\n<=18446744073709551615
 | .u8,n=>0<=n/\n<=255
 | .i8,n=> -128<=n/\n<=127
 | .i16,n=> -32768<=n/\n<=32767
 | .u16,n=>0<=n/\n<=65535
 | .i32,n=> -2147483648<=n/\n<=2147483647
 | .u32,n=>0<=n/\n<=4294967295
abbrev Er := Nat->Nat->Option Loc
section
variable (cur : Er) (M : List Nat) (h : Array Obj)
mutual
def rd : DVal->Value->Prop
 | .any,_=>True
 | .undef,v=>v=Go.undef
 | .sel c d,v=>(c=true->rd d v)/\(c=false->v=Go.undef)
 | .bool b,v=>v= .bool b
 | .int k n,v=>v= .int k n/\Kx k n
 | .str s,v=>v= .string s/\s.size<=maxLen
 | .nilp,v=>v= .pointer none
 | .ref cs,v=>∃b off arr ty fz,v= .pointer (some ⟨b,off,none⟩)/\b∉M/\h[b]? =some (.cells arr ty fz)/\Dz cs arr off
 | .bx id r off,v=>∀l,cur id r=some l->∃b,l.blks=[b]/\v= .pointer (some ⟨b,off,none⟩)
 | .rx id r k i j,v=>∀l,cur id r=some l->∃b,l.blks=[b]/\v= .pointer (some ⟨b,i*k+j,none⟩)
 | .nilsl,v=>v= .slice none 0 0
 | .esl,v=>∃ad cap,v= .slice (some ad) 0 cap/\cap<=maxLen
 | .sl k bs es,v=>∃a cap,v= .slice a es.length cap/\es.length<=cap/\cap<=maxLen/\es.length*bs<=150000000000000 /\
  ((es=[]/\(a=none->cap=0))\/∃b off arr ty fz,a=some ⟨b,off,none⟩/\b∉M/\h[b]? =some (.cells arr ty fz)/\Em k es arr off)
 | .osl id r,v=>∀l,cur id r=some l->v=l.hdr
 | .vw id r k _ i n,v=>∀l,cur id r=some l->∃a cap,v= .slice a n cap/\n<=cap/\cap<=maxLen/\(a=none->cap=0)/\(0<n->∃b,l.blks=[b]/\a=some ⟨b,i*k,none⟩)/\(i=0->∃n0,l.hdr= .slice a n0 cap)
 | .nilmp,v=>v= .map none
 | .mp ks vs,v=>∃b es clk,v= .map (some b)/\b∉M/\h[b]? =some (.map es clk)/\MS es clk/\Au ks (es.toList.map (·.key))/\Au vs (es.toList.map (·.val))
 | .omp id r,v=>∀l,cur id r=some l->∃b,l.blks=[b]/\v= .map (some b)
 | .pk id r,v=>∀l,cur id r=some l->v=l.hdr
 | .nilfn,v=>v= .nilFunc
 | .fn f us cs,v=>∃us' cs':Array Value,v= .func f us' cs'/\Au us us'.toList/\Au cs cs'.toList
 | .nilifc,v=>v= .nilIface
 | .ifc t d,v=>∃u,v= .iface t u/\rd d u
 | .agg cs,v=>∃us:Array Value,v= .agg us/\Au cs us.toList
 | .tup cs,v=>∃us:Array Value,v= .tuple us/\Au cs us.toList
def Dz : List DVal->Array Value->Nat->Prop
 | [],_,_=>True
 | d::ds,arr,o=>(∃v,arr[o]? =some v/\v.oneCell'=true/\rd d v)/\Dz ds arr (o+1)
def Em (k:Nat):List (List DVal)->Array Value->Nat->Prop
 | [],_,_=>True
 | cs::es,arr,o=>cs.length=k/\Dz cs arr o/\Em k es arr (o+k)
def Au : List DVal->List Value->Prop
 | [],vs=>vs=[]
 | d::ds,vs=>∃v r,vs=v::r/\rd d v/\Au ds r
end
end
mutual
def mx : DVal->Nat
 | .ref cs=>AH cs
 | .bx _ r _=>r+1
 | .rx _ r _ _ _=>r+1
 | .osl _ r=>r+1
 | .vw _ r _ _ _ _=>r+1
 | .mp ks vs=>max (AH ks) (AH vs)
 | .omp _ r=>r+1
 | .pk _ r=>r+1
 | .sl _ _ es=>Bo es
 | .fn _ us cs=>max (AH us) (AH cs)
 | .ifc _ d=>mx d
 | .sel c d=>if c then mx d else 0
 | .agg cs=>AH cs
 | .tup cs=>AH cs
 | _=>0
def AH : List DVal->Nat
 | []=>0
 | d::ds=>max (mx d) (AH ds)
def Bo : List (List DVal)->Nat
 | []=>0
 | cs::es=>max (AH cs) (Bo es)
end
section
variable {cur cur' : Er} {M M' : List Nat} {h h' : Array Obj} {n : Nat}
def FY : Obj->Bool
 | .cells _ _ _=>true
 | .map _ _=>true
 | _=>false
structure Weak (cur cur':Er) (M M':List Nat) (h h':Array Obj) (n:Nat):Prop where
 c:∀id r l,r<n->cur' id r=some l->cur id r=some l
 b:∀b o,b∉M->FY o=true->h[b]? =some o->h'[b]? =some o
 m:∀b o,b∉M->FY o=true->h[b]? =some o->b∉M'
mutual
theorem Cc (W:Weak cur cur' M M' h h' n):∀(d:DVal) (v:Value),mx d<=n->rd cur M h d v->rd cur' M' h' d v
 | .any,_,_,_=>by simp[rd]
 | .undef,_,_,hr=>by simpa[rd]using hr
 | .sel c d,v,hm,hr=>by
  simp only[mx]at hm;simp only[rd]at hr |-;exact⟨fun h=>Cc W d v (by rw[if_pos h]at hm;exact hm) (hr.1 h),hr.2⟩
 | .bool _,_,_,hr=>by simpa[rd]using hr
 | .int _ _,_,_,hr=>by simpa[rd]using hr
 | .str _,_,_,hr=>by simpa[rd]using hr
 | .nilp,_,_,hr=>by simpa[rd]using hr
 | .ref cs,v,hm,hr=>by
  simp only[mx]at hm;simp only[rd]at hr |-;obtain⟨b,off,arr,ty,fz,h1,h2,h3,h4⟩:=hr;exact⟨b,off,arr,ty,fz,h1,W.m b _ h2 rfl h3,W.b b _ h2 rfl h3,EL W cs arr off hm h4⟩
 | .bx id r off,v,hm,hr=>by
  simp only[mx]at hm;simp only[rd]at hr |-;exact fun l hl=>hr l (W.c id r l (by omega) hl)
 | .rx id r k i j,v,hm,hr=>by
  simp only[mx]at hm;simp only[rd]at hr |-;exact fun l hl=>hr l (W.c id r l (by omega) hl)
 | .nilsl,_,_,hr=>by simpa[rd]using hr
 | .esl,_,_,hr=>by simpa[rd]using hr
 | .sl k bs es,v,hm,hr=>by
  simp only[mx]at hm;simp only[rd]at hr |-;obtain⟨a,cap,h1,h2,kH,h2'',h3⟩:=hr;refine⟨a,cap,h1,h2,kH,h2'',h3.imp id ?_⟩;rintro⟨b,off,arr,ty,fz,g1,g2,g3,g4⟩;exact⟨b,off,arr,ty,fz,g1,W.m b _ g2 rfl g3,W.b b _ g2 rfl g3,Cj W k es arr off hm g4⟩
 | .osl id r,v,hm,hr=>by
  simp only[mx]at hm;simp only[rd]at hr |-;exact fun l hl=>hr l (W.c id r l (by omega) hl)
 | .vw id r k bs i n,v,hm,hr=>by
  simp only[mx]at hm;simp only[rd]at hr |-;exact fun l hl=>hr l (W.c id r l (by omega) hl)
 | .nilmp,_,_,hr=>by simpa[rd]using hr
 | .mp ks vs,v,hm,hr=>by
  simp only[mx]at hm;simp only[rd]at hr |-;obtain⟨b,es,clk,h1,h2,h3,h4,h5,h6⟩:=hr;exact⟨b,es,clk,h1,W.m b _ h2 rfl h3,W.b b _ h2 rfl h3,h4,AQ W ks _ (by omega) h5,AQ W vs _ (by omega) h6⟩
 | .omp id r,v,hm,hr=>by
  simp only[mx]at hm;simp only[rd]at hr |-;exact fun l hl=>hr l (W.c id r l (by omega) hl)
 | .pk id r,v,hm,hr=>by
  simp only[mx]at hm;simp only[rd]at hr |-;exact fun l hl=>hr l (W.c id r l (by omega) hl)
 | .nilfn,_,_,hr=>by simpa[rd]using hr
 | .fn f us cs,v,hm,hr=>by
  simp only[mx]at hm;simp only[rd]at hr |-;obtain⟨us',cs',h1,h2,h3⟩:=hr;exact⟨us',cs',h1,AQ W us _ (by omega) h2,AQ W cs _ (by omega) h3⟩
 | .nilifc,_,_,hr=>by simpa[rd]using hr
 | .ifc t d,v,hm,hr=>by
  simp only[mx]at hm;simp only[rd]at hr |-;obtain⟨u,h1,h2⟩:=hr;exact⟨u,h1,Cc W d u hm h2⟩
 | .agg cs,v,hm,hr=>by
  simp only[mx]at hm;simp only[rd]at hr |-;obtain⟨us,h1,h2⟩:=hr;exact⟨us,h1,AQ W cs _ hm h2⟩
 | .tup cs,v,hm,hr=>by
  simp only[mx]at hm;simp only[rd]at hr |-;obtain⟨us,h1,h2⟩:=hr;exact⟨us,h1,AQ W cs _ hm h2⟩
theorem EL (W:Weak cur cur' M M' h h' n):∀(ds:List DVal) (arr:Array Value) (o:Nat),AH ds<=n->Dz cur M h ds arr o->Dz cur' M' h' ds arr o
 | [],_,_,_,_=>by simp[Dz]
 | d::ds,arr,o,hm,hr=>by
  simp only[AH]at hm;simp only[Dz]at hr |-;obtain⟨⟨v,h1,kU,h2⟩,h3⟩:=hr;exact⟨⟨v,h1,kU,Cc W d v (by omega) h2⟩,EL W ds arr _ (by omega) h3⟩
theorem Cj (W:Weak cur cur' M M' h h' n):∀(k:Nat) (es:List (List DVal)) (arr:Array Value) (o:Nat),Bo es<=n->Em cur M h k es arr o->Em cur' M' h' k es arr o
 | _,[],_,_,_,_=>by simp[Em]
 | k,cs::es,arr,o,hm,hr=>by
  simp only[Bo]at hm;simp only[Em]at hr |-;obtain⟨h1,h2,h3⟩:=hr;exact⟨h1,EL W cs arr o (by omega) h2,Cj W k es arr _ (by omega) h3⟩
theorem AQ (W:Weak cur cur' M M' h h' n):∀(ds:List DVal) (vs:List Value),AH ds<=n->Au cur M h ds vs->Au cur' M' h' ds vs
 | [],_,_,hr=>by simpa[Au]using hr
 | d::ds,vs,hm,hr=>by
  simp only[AH]at hm;simp only[Au]at hr |-;obtain⟨v,r,h1,h2,h3⟩:=hr;exact⟨v,r,h1,Cc W d v (by omega) h2,AQ W ds r (by omega) h3⟩
end
end
class DMode where
 dr:Bool
instance (priority:=low) laxMode:DMode:=⟨false⟩
abbrev KP : DMode:=⟨true⟩
variable [DMode]
structure Abs where
 J:List Nat->List Nat->Value->Array Obj->Prop
 weak:∀M M' bl hd h h',(∀b o,b∉M->FY o=true->h[b]? =some o->h'[b]? =some o)->(∀b o,b∉M->FY o=true->h[b]? =some o->b∉M')->(∀b o,b∈bl->h[b]? =some o->h'[b]? =some o)->J M bl hd h->J M' bl hd h'
 one:∀M bl hd h,J M bl hd h->hd.oneCell'=true/\hd.cells= #[hd]
 nd:∀M bl hd h,J M bl hd h->∀b∈bl,∀c,h[b]? ≠some (.deferred c)
inductive DObj where
 | box (cs:List DVal)
 | row (et:TypeId) (k bs:Nat) (es:List (List DVal))
 | map (ks vs:List DVal)
 | abs (A:Abs)
structure Ent where
 id:Nat
 r:Nat
 obj:DObj
structure DS where
 slots:List (Nat×DVal)
 own:List Ent
def Be : List (Nat×DVal)->Nat->DVal
 | [],_=> .any
 | (j,d)::t,i=>if i=j then d else Be t i
def Aj : List Ent->Nat->Option Ent
 | [],_=>none
 | e::t,id=>if e.id=id then some e else Aj t id
def EU_ : List Ent->Nat->DObj->List Ent
 | [],_,_=>[]
 | e::t,id,o=>if e.id=id then ⟨e.id,e.r,o⟩::t else e::EU_ t id o
def CC : List Ent->Nat->List Ent
 | [],_=>[]
 | e::t,id=>if e.id=id then CC t id else e::CC t id
def Jp : List (Nat×DVal)->Nat
 | []=>0
 | p::t=>max (mx p.2) (Jp t)
def Ez : DObj->Nat
 | .box cs=>AH cs
 | .row _ _ _ es=>Bo es
 | .map ks vs=>max (AH ks) (AH vs)
 | .abs _=>0
def FZ : List Ent->Nat
 | []=>0
 | e::t=>max (max (e.r+1) (Ez e.obj)) (FZ t)
theorem Om (l:List (Nat×DVal)) (i:Nat):mx (Be l i)<=Jp l:=by
 induction l with
 | nil=>simp[Be,mx,Jp]
 | cons p t ih =>
  obtain⟨j,d⟩:=p;simp only[Be,Jp]
  split<;>omega
theorem Bi {own:List Ent} {e:Ent} (h:e∈own):e.r<FZ own/\Ez e.obj<=FZ own:=by
 induction own with
 | nil=>cases h
 | cons a t ih =>
  simp only[FZ]
  rcases aJ0.1 h with rfl | h
  ·omega
  ·have:=ih h;omega
def Ad (own:List Ent) (loc:Nat->Loc):Er:=fun id r =>
 match Aj own id with
 | some e=>if e.r=r then some (loc id)else none
 | none=>none
def Aa (own:List Ent) (loc:Nat->Loc):List Nat:=own.flatMap fun e=>(loc e.id).blks
section
variable (cur : Er) (M : List Nat) (h : Array Obj)
def Jd (l:Loc):DObj->Prop
 | .box cs=>∃b arr ty,l.blks=[b]/\h[b]? =some (.cells arr ty (0,0))/\arr.size=cs.length/\Dz cur M h cs arr 0
 | .row et k bs es=>es.length*bs<=150000000000000/\((es=[]/\l.blks=[]/\l.hdr= .slice none 0 0) \/
  ∃b arr cap,l.blks=[b]/\l.hdr= .slice (some ⟨b,0,none⟩) es.length cap/\h[b]? =some (.cells arr et (0,0))/\es.length<=cap/\cap<=maxLen/\cap*k=arr.size/\Em cur M h k es arr 0)
 | .map ks vs=>∃b es clk,l.blks=[b]/\h[b]? =some (.map es clk)/\MS es clk/\Au cur M h ks (es.toList.map (·.key))/\Au cur M h vs (es.toList.map (·.val))
 | .abs A=>A.J M l.blks l.hdr h
end
theorem Bd {cur cur':Er} {M M':List Nat} {h h':Array Obj} {n:Nat} {l:Loc} {obj:DObj} (W:Weak cur cur' M M' h h' n) (hn:Ez obj<=n)
  (keep:∀b o,b∈l.blks->h[b]? =some o->h'[b]? =some o) (hk:Jd cur M h l obj):Jd cur' M' h' l obj:=by
 cases obj with
 | box cs =>
  simp only[Ez]at hn;obtain⟨b,arr,ty,h1,h2,h3,h4⟩:=hk;exact⟨b,arr,ty,h1,keep b _ (by simp[h1]) h2,h3,EL W cs arr 0 hn h4⟩
 | row et k bs es =>
  simp only[Ez]at hn;obtain⟨h0,hk⟩:=hk;refine⟨h0,hk.imp id ?_⟩;rintro⟨b,arr,cap,h1,h2,h3,h4,h5,h6,h7⟩;exact⟨b,arr,cap,h1,h2,keep b _ (by simp[h1]) h3,h4,h5,h6,Cj W k es arr 0 hn h7⟩
 | map ks vs =>
  simp only[Ez]at hn;obtain⟨b,es,clk,h1,h2,h3,h4,h5⟩:=hk;exact⟨b,es,clk,h1,keep b _ (by simp[h1]) h2,h3,AQ W ks _ (by omega) h4,AQ W vs _ (by omega) h5⟩
 | abs A=>exact A.weak M M' l.blks l.hdr h h' W.b W.m keep hk
structure St (own:List Ent) (loc:Nat->Loc) (M0:List Nat) (h:Array Obj):Prop where
 nd:(own.map (·.id)).Nodup
 bl:(Aa own loc).Nodup
 ap:∀b∈Aa own loc,b∉M0
 lt:∀b∈Aa own loc++M0,b<h.size
 ok:∀e∈own,Jd (Ad own loc) (Aa own loc++M0) h (loc e.id) e.obj
structure Upd (H:List Nat) (w w':World):Prop where
 os:w'.os=w.os
 tape:w'.tape=w.tape
 output:w'.output=w.output
 drawn:DMode.dr=true->w.drawn<=w'.drawn
 size:w.heap.size<=w'.heap.size
 blk:∀b,b<w.heap.size->b∉H->w'.heap[b]? =w.heap[b]?
theorem Upd.refl (H:List Nat) (w:World):Upd H w w:=⟨rfl,rfl,rfl,fun _=>Nat.le_refl _,Nat.le_refl _,fun _ _ _=>rfl⟩
theorem Upd.trans {H H':List Nat} {a b c:World} (h:Upd H a b) (k:Upd H' b c) (hh:∀x∈H',x∈H\/a.heap.size<=x):Upd H a c :=
 ⟨k.os.trans h.os,k.tape.trans h.tape,k.output.trans h.output,fun hd=>Nat.le_trans (h.drawn hd) (k.drawn hd),Nat.le_trans h.size k.size,fun x hx hn =>
  (k.blk x (cG0 hx h.size) (fun hm=>by rcases hh x hm with h1 | h1;exact hn h1;omega)).trans (h.blk x hx hn)⟩
theorem Upd.alloc (H:List Nat) (w:World) (o:Obj):Upd H w (w.alloc o) :=
 ⟨rfl,rfl,rfl,fun _=>Nat.le_refl _,by simp,fun b hb _=>by simp only[World.alloc,bO0];rw[if_neg (by omega)]⟩
theorem Upd.drew (H:List Nat) (w:World):Upd H w w.drew:=⟨rfl,rfl,rfl,fun _=>by simp,Nat.le_refl _,fun _ _ _=>rfl⟩
theorem Upd.nil {H:List Nat} {w w':World} (h:Upd [] w w'):Upd H w w':=⟨h.os,h.tape,h.output,h.drawn,h.size,fun b hb _=>h.blk b hb (by simp)⟩
structure Base where
 own0:List Ent
 loc0:Nat->Loc
 M0:List Nat
 N:Nat
 w0:World
 nt:Nat
 ro:Option Nat:=none
 hN:N<=1:=by decide
 nd:Nat
 hnd:nd<=w0.heap.size
def Dy_ (B:Base) (M:List Nat) (a:Act) (h:Array Obj):Prop :=
 ∃rs:List Nat,a.defers=rs.map (fun r=>{ target:= .collected r,args:= #[] })/\rs.Nodup/\(∀r∈rs,h[r]? =some (.deferred (some []))/\B.nd<=r/\r∉M)/\(B.ro≠none->rs=[])
theorem Dy_.keep {B:Base} {M M' H:List Nat} {a a':Act} {w w':World} (hd:Dy_ B M a w.heap) (ha:a'.defers=a.defers)
  (hu:Upd H w w') (hH:∀x∈H,x∈M) (hm:∀b∈M',b∈M\/w.heap.size<=b):Dy_ B M' a' w'.heap:=by
 obtain⟨rs,h1,h0,h2,h3⟩:=hd;refine⟨rs,ha.trans h1,h0,fun r hr=> ?_,h3⟩;obtain⟨g1,g2,g3⟩:=h2 r hr;have qV:=(aC0.1 g1).1;refine⟨by rw[hu.blk r qV (fun h=>g3 (hH r h))];exact g1,g2,fun h=> ?_⟩
 rcases hm r h with h | h
 ·exact g3 h
 ·omega
structure Rel (B:Base) (s:DS) (a:Act) (w:World) (loc:Nat->Loc):Prop where
 st:St s.own loc B.M0 w.heap
 upd:Upd (Aa B.own0 B.loc0) B.w0 w
 new:∀b∈Aa s.own loc,b∈Aa B.own0 B.loc0\/B.w0.heap.size<=b
 ver:∀e∈s.own,e.r<B.N->Ad B.own0 B.loc0 e.id e.r=some (loc e.id)
 sl:∀i,rd (Ad s.own loc) (Aa s.own loc++B.M0) w.heap (Be s.slots i) (a.tmps.getD i Go.undef)
 nt:a.tmps.size=B.nt
 df:Dy_ B (Aa s.own loc++B.M0) a w.heap
theorem AA {own:List Ent} {id:Nat} {e:Ent} (h:Aj own id=some e):e∈own/\e.id=id:=by
 induction own with
 | nil=>simp[Aj]at h
 | cons a t ih =>
  simp only[Aj]at h
  split at h
  ·simp only[aA0]at h;subst h;exact⟨aH0,by assumption⟩
  ·have:=ih h;exact⟨aF0 _ this.1,this.2⟩
theorem Cp {own:List Ent} (nd:(own.map (·.id)).Nodup) {e:Ent} (h:e∈own):Aj own e.id=some e:=by
 induction own with
 | nil=>cases h
 | cons a t ih =>
  simp only[List.map_cons,cH0]at nd;simp only[Aj]
  rcases aJ0.1 h with rfl | h
  ·simp
  ·rw[if_neg,ih nd.2 h];intro he;exact nd.1 (he▸cP0 (f:=(·.id)) h)
theorem BC {own:List Ent} {loc:Nat->Loc} {id r:Nat} {l:Loc} (h:Ad own loc id r=some l):∃e∈own,e.id=id/\e.r=r/\l=loc id:=by
 unfold Ad at h
 split at h
 ·rename_i e he
  split at h
  ·simp only[aA0]at h;obtain⟨h1,h2⟩:=AA he;exact⟨e,h1,h2,by assumption,h.symm⟩
  ·simp at h
 ·simp at h
theorem AZ {own:List Ent} {loc:Nat->Loc} {e:Ent} {b:Nat} (h:e∈own) (hb:b∈(loc e.id).blks):b∈Aa own loc :=
 bQ0.2 ⟨e,h,hb⟩
theorem Et {own own':List Ent} {loc loc':Nat->Loc} {M0:List Nat} {w w':World} {n:Nat}
  (jQ:Upd (Aa own loc) w w') (wZ:∀b∈Aa own' loc',b∈Aa own loc\/w.heap.size<=b)
  (vC:∀e∈own',e.r<n->Ad own loc e.id e.r=some (loc' e.id)) :
  Weak (Ad own loc) (Ad own' loc') (Aa own loc++M0) (Aa own' loc'++M0) w.heap w'.heap n where
 c:=by
  intro id r l hr hl;obtain⟨e,he,rfl,rfl,rfl⟩:=BC hl;exact vC e he hr
 b:=by
  intro b o hb _ ho;have qV:b<w.heap.size:=(aC0.1 ho).1;rw[jQ.blk b qV (fun h=>hb (aL0 _ h))];exact ho
 m:=by
  intro b o hb _ ho hm;have qV:b<w.heap.size:=(aC0.1 ho).1
  rcases aI0.1 hm with h | h
  ·rcases wZ b h with h1 | h1
   ·exact hb (aL0 _ h1)
   ·omega
  ·exact hb (aP0 _ h)
theorem AK_ (a:Act) (dst:Option Nat) (v:Value) (i:Nat) (hd:∀d,dst=some d->d<a.tmps.size) :
  (a.put dst v).tmps.getD i Go.undef=if dst=some i then v else a.tmps.getD i Go.undef:=by
 cases dst with
 | none=>simp[Act.put]
 | some d =>
  have:=hd d rfl;simp only[Act.put,aK0,cO0,aA0]
  by_cases h:d=i
  ·subst h;simp[this]
  ·simp[h]
theorem size_put (a:Act) (dst:Option Nat) (v:Value):(a.put dst v).tmps.size=a.tmps.size:=by
 cases dst<;>simp[Act.put]
theorem ZN (a:Act) (dst:Option Nat) (v:Value):(a.put dst v).defers=a.defers:=by
 cases dst<;>rfl
def Bs (l:List (Nat×DVal)):Option Nat->DVal->List (Nat×DVal)
 | some i,d=>(i,d)::l
 | none,_=>l
theorem Rel.step {B:Base} {s:DS} {a:Act} {w w':World} {loc loc':Nat->Loc} {own':List Ent} {n:Nat} {v:Value} {d:DVal} {dst:Option Nat}
  (R:Rel B s a w loc) (hn:B.N<=n) (hs:Jp s.slots<=n) (qH:∀i,dst=some i->i<B.nt)
  (qK:St own' loc' B.M0 w'.heap) (jQ:Upd (Aa s.own loc) w w')
  (wZ:∀b∈Aa own' loc',b∈Aa s.own loc\/w.heap.size<=b)
  (vC:∀e∈own',e.r<n->Ad s.own loc e.id e.r=some (loc' e.id))
  (hd:rd (Ad own' loc') (Aa own' loc'++B.M0) w'.heap d v) :
  Rel B ⟨Bs s.slots dst d,own'⟩ (a.put dst v) w' loc' where
 st:=qK
 upd:=R.upd.trans jQ R.new
 new:=by
  intro b hb
  rcases wZ b hb with h | h
  ·exact R.new b h
  ·exact .inr (Nat.le_trans R.upd.size h)
 ver:=by
  intro e he hr;obtain⟨e',vE,h1,h2,h3⟩:=BC (vC e he (cG0 hr hn));have:=R.ver e' vE (by omega);rw[h1,h2]at this;rw[this,h3]
 sl:=by
  intro i;have zI:=AK_ a dst v i (fun d hd=>by rw[R.nt];exact qH d hd);rw[zI];have W:=Et (M0:=B.M0) jQ wZ vC
  have jU:rd (Ad own' loc') (Aa own' loc'++B.M0) w'.heap (Be s.slots i) (a.tmps.getD i Go.undef) :=
   Cc W _ _ (Nat.le_trans (Om _ _) hs) (R.sl i)
  cases dst with
  | none=>simpa[Bs]using jU
  | some j =>
   simp only[Bs,Be]
   by_cases yU:i=j
   ·subst yU;simpa using hd
   ·rw[if_neg yU,if_neg (fun h=>yU (Option.some.inj h).symm)];exact jU
 nt:=by rw[size_put];exact R.nt
 df:=by
  refine R.df.keep (ZN a dst v) jQ (fun x hx=>aL0 _ hx) ?_;intro b hb
  rcases aI0.1 hb with h | h
  ·rcases wZ b h with h | h
   ·exact .inl (aL0 _ h)
   ·exact .inr h
  ·exact .inl (aP0 _ h)
theorem St.keep {own:List Ent} {loc:Nat->Loc} {M0:List Nat} {w w':World} (h:St own loc M0 w.heap) (u:Upd [] w w'):St own loc M0 w'.heap where
 nd:=h.nd
 bl:=h.bl
 ap:=h.ap
 lt:=fun b hb=>cG0 (h.lt b hb) u.size
 ok:=by
  intro e he
  have W:Weak (Ad own loc) (Ad own loc) (Aa own loc++M0) (Aa own loc++M0) w.heap w'.heap (Ez e.obj):=by
   refine Et u.nil (fun b hb=> .inl hb) ?_;intro e' vE _;unfold Ad;rw[Cp h.nd vE];simp
  have hb:∀b o,w.heap[b]? =some o->w'.heap[b]? =some o:=fun b o ho=>by
   rw[u.blk b (aC0.1 ho).1 (by simp)];exact ho
  exact Bd W (Nat.le_refl _) (fun b o _ ho=>hb b o ho) (h.ok e he)
theorem AG {own:List Ent} {loc:Nat->Loc} (nd:(own.map (·.id)).Nodup) {e:Ent} (he:e∈own):Ad own loc e.id e.r=some (loc e.id):=by
 unfold Ad;rw[Cp nd he];simp
theorem Rel.put {B:Base} {s:DS} {a:Act} {w w':World} {loc:Nat->Loc} {v:Value} {d:DVal} {dst:Option Nat}
  (R:Rel B s a w loc) (qH:∀i,dst=some i->i<B.nt) (jQ:Upd [] w w')
  (hd:rd (Ad s.own loc) (Aa s.own loc++B.M0) w'.heap d v):Rel B ⟨Bs s.slots dst d,s.own⟩ (a.put dst v) w' loc :=
 R.step (n:=max B.N (Jp s.slots)) (by omega) (by omega) qH (R.st.keep jQ) jQ.nil (fun b hb=> .inl hb) (fun e he _=>AG R.st.nd he) hd
end Go.Dm
end
section
namespace Go.Dm
variable [DMode]
section
variable (P : Program)
def tAgg (t:TypeId):Option Bool :=
 match P.underlying t with
 | some (.struct _)=>some true
 | some (.array _ _)=>some true
 | some _=>some false
 | none=>none
def tCells (t:TypeId):Option Nat:=(P.info? t).map (·.size)
def tField (t f:Nat):Option (Nat×Nat×Bool) :=
 match P.underlying t with
 | some (.struct fs) =>
  match fs[f]? with
  | some fl=>match tCells P fl.type,tAgg P fl.type with
   | some n,some b=>some (fl.offset,n,b)
   | _,_=>none
  | none=>none
 | _=>none
def tElem (t:TypeId):Option (Nat×Nat) :=
 match P.underlying t with
 | some (.slice e)=>(P.info? e).map fun i=>(i.size,i.bytes)
 | _=>none
def tArrS (t:TypeId):Option Nat :=
 match P.underlying t with
 | some (.array n e)=>if tCells P e=some 1/\tAgg P e=some false then some n else none
 | _=>none
def tArr (t:TypeId):Option (Nat×Nat) :=
 match P.underlying t with
 | some (.array n e)=>(P.info? e).map fun i=>(n,i.size)
 | _=>none
end
instance (k:IntKind) (n:Int):Decidable (Kx k n):=by cases k<;>unfold Kx<;>infer_instance
def BQ : Value->DVal
 | .bool b=> .bool b
 | .int k n=>if Kx k n then .int k n else .any
 | .string s=>if s.size<=maxLen then .str s else .any
 | .pointer none=> .nilp
 | .slice none 0 0=> .nilsl
 | .map none=> .nilmp
 | .nilFunc=> .nilfn
 | .nilIface=> .nilifc
 | _=> .any
def ofV : Value->DVal
 | .agg cs=> .agg (cs.toList.map BQ)
 | v=>BQ v
def ev (l:List (Nat×DVal)):Operand->DVal
 | .tmp t=>Be l t
 | .const v=>ofV v
 | .global _=> .any
 | .func f=> .fn (.func f) [] []
def Du (own:List Ent):DVal->Option (List DVal)
 | .ref cs=>some cs
 | .bx id r off=>match Aj own id with
  | some e=>if e.r=r then (match e.obj with | .box cs=>some (cs.drop off) | _=>none)else none
  | none=>none
 | .rx id r k i j=>match Aj own id with
  | some e=>if e.r=r then (match e.obj with | .row _ k' _ es=>if k=k' then (es[i]?).map (·.drop j)else none | _=>none)else none
  | none=>none
 | _=>none
def Ba (own:List Ent):DVal->Option (Nat×Nat×List (List DVal))
 | .sl k bs es=>some (k,bs,es)
 | .osl id r=>match Aj own id with
  | some e=>if e.r=r then (match e.obj with | .row _ k bs es=>some (k,bs,es) | _=>none)else none
  | none=>none
 | .vw id r k bs i n=>match Aj own id with
  | some e=>if e.r=r then (match e.obj with | .row _ k' bs' es=>if k'=k/\bs'=bs/\i+n<=es.length then some (k,bs,(es.drop i).take n)else none | _=>none)else none
  | none=>none
 | _=>none
section
variable {P : Program} {cur : Er} {M : List Nat} {h : Array Obj}
theorem aX (v:Value):rd cur M h (BQ v) v:=by
 unfold BQ
 split<;>(try split)<;>simp_all [rd]
theorem Bn : ∀l:List Value,Au cur M h (l.map BQ) l
 | []=>by simp[Au]
 | v::l=>by
  simp only[List.map_cons,Au];exact⟨v,l,rfl,aX v,Bn l⟩
theorem xH (v:Value):rd cur M h (ofV v) v:=by
 unfold ofV
 split
 ·simp only[rd];exact⟨_,rfl,Bn _⟩
 ·exact aX v
theorem EM : ∀(n:Nat) (cs:List DVal) (arr:Array Value) (o:Nat),Dz cur M h cs arr o->Dz cur M h (cs.drop n) arr (o+n)
 | 0,cs,arr,o,hr=>by simpa using hr
 | n+1,[],arr,o,hr=>by simp[Dz]
 | n+1,d::cs,arr,o,hr=>by
  simp only[Dz]at hr;simpa[cR0,Nat.add_comm 1 n]using EM n cs arr (o+1) hr.2
theorem GR : ∀(cs:List DVal) (arr:Array Value) (o:Nat),Dz cur M h cs arr o->∃vs:List Value,vs.length=cs.length/\Au cur M h cs vs/\∀j v,vs[j]? =some v->arr[o+j]? =some v/\v.oneCell'=true
 | [],arr,o,_=>⟨[],rfl,by simp[Au],by simp⟩
 | d::cs,arr,o,hr=>by
  simp only[Dz]at hr;obtain⟨⟨v,h1,h2,h3⟩,h4⟩:=hr;obtain⟨vs,g1,g2,g3⟩:=GR cs arr (o+1) h4;refine⟨v::vs,by simp[g1],by simp only[Au];exact⟨v,vs,rfl,h3,g2⟩,?_⟩;intro j u hj
  cases j with
  | zero=>simp only[aZ0,aA0]at hj;subst hj;exact⟨h1,h2⟩
  | succ j =>
   simp only[bJ0]at hj;have:=g3 j u hj
   rwa[show o+1+j=o+(j+1) by omega]at this
theorem Lc : ∀(n:Nat) (cs:List DVal) (arr:Array Value) (o:Nat),Dz cur M h cs arr o->Dz cur M h (cs.take n) arr o
 | 0,cs,arr,o,_=>by simp[Dz]
 | n+1,[],arr,o,_=>by simp[Dz]
 | n+1,d::cs,arr,o,hr=>by
  simp only[Dz,cF0]at hr |-;exact⟨hr.1,Lc n cs arr (o+1) hr.2⟩
theorem DZ : ∀(k:Nat) (es:List (List DVal)) (arr:Array Value) (o i:Nat) (cs:List DVal),Em cur M h k es arr o->es[i]? =some cs->cs.length=k/\Dz cur M h cs arr (o+i*k)
 | k,[],arr,o,i,cs,_,hi=>by simp at hi
 | k,c::es,arr,o,0,cs,hr,hi=>by
  simp only[aZ0,aA0]at hi;subst hi;simp only[Em]at hr;exact⟨hr.1,by simpa using hr.2.1⟩
 | k,c::es,arr,o,i+1,cs,hr,hi=>by
  simp only[bJ0]at hi;simp only[Em]at hr;have:=DZ k es arr (o+k) i cs hr.2.2 hi
  rwa[show o+k+i*k=o+(i+1)*k by rw[bR0];omega]at this
theorem FD : ∀(k:Nat) (es:List (List DVal)) (arr:Array Value) (o:Nat),(∀(i:Nat) (cs:List DVal),es[i]? =some cs->cs.length=k/\Dz cur M h cs arr (o+i*k))->Em cur M h k es arr o
 | _,[],_,_,_=>by simp[Em]
 | k,c::es,arr,o,hr=>by
  simp only[Em];refine⟨(hr 0 c (by simp)).1,by simpa using (hr 0 c (by simp)).2,FD k es arr (o+k) fun i cs hi=> ?_⟩;have:=hr (i+1) cs (by simpa using hi)
  rwa[show o+(i+1)*k=o+k+i*k by rw[bR0];omega]at this
end
section
variable {P : Program} {s : DS} {loc : Nat -> Loc} {M0 : List Nat} {w : World}
abbrev cu (s:DS) (loc:Nat->Loc):Er:=Ad s.own loc
abbrev hm (s:DS) (loc:Nat->Loc) (M0:List Nat):List Nat:=Aa s.own loc++M0
theorem ZS (S:St s.own loc M0 w.heap) {p:DVal} {v:Value} {cs:List DVal} (hp:rd (cu s loc) (hm s loc M0) w.heap p v) (hc:Du s.own p=some cs) :
  ∃b off arr ty fz,v= .pointer (some ⟨b,off,none⟩)/\w.heap[b]? =some (.cells arr ty fz)/\Dz (cu s loc) (hm s loc M0) w.heap cs arr off:=by
 unfold Du at hc
 split at hc
 ·simp only[aA0]at hc;subst hc;simp only[rd]at hp;obtain⟨b,off,arr,ty,fz,h1,_,h3,h4⟩:=hp;exact⟨b,off,arr,ty,fz,h1,h3,h4⟩
 ·rename_i id r off
  split at hc
  ·rename_i e he
   split at hc
   ·rename_i qS
    split at hc
    ·rename_i cs0 wO;simp only[aA0]at hc;subst hc;obtain⟨vV,hid⟩:=AA he;have hk:=S.ok e vV;rw[wO]at hk;obtain⟨b,arr,ty,h1,h2,h3,h4⟩:=hk;simp only[rd]at hp;obtain⟨b',qG,hv⟩:=hp (loc id) (by unfold cu Ad;rw[he];simp[qS]);rw[<-hid,h1]at qG;simp only[bG0,and_true]at qG;subst qG;refine⟨b,off,arr,ty,(0,0),hv,h2,?_⟩;simpa using EM off cs0 arr 0 h4
    ·simp at hc
   ·simp at hc
  ·simp at hc
 ·rename_i id r k i j
  split at hc
  ·rename_i e he
   split at hc
   ·rename_i qS
    split at hc
    ·rename_i et k' bs es wO
     split at hc
     ·rename_i qZ;subst qZ;obtain⟨vV,hid⟩:=AA he;have hk:=S.ok e vV;rw[wO]at hk;obtain⟨_,hk⟩:=hk;simp only[bA0]at hc;obtain⟨c0,yN,rfl⟩:=hc
      rcases hk with ⟨rfl,_⟩ | ⟨b,arr,cap,h1,h2,h3,h4,h5,h6,h7⟩
      ·simp at yN
      ·simp only[rd]at hp;obtain⟨b',qG,hv⟩:=hp (loc id) (by unfold cu Ad;rw[he];simp[qS]);rw[<-hid,h1]at qG;simp only[bG0,and_true]at qG;subst qG;have:=DZ k es arr 0 i c0 h7 yN;refine⟨b,i*k+j,arr,et,(0,0),hv,h3,?_⟩;have h8:=EM j c0 arr _ this.2;simpa using h8
     ·simp at hc
    ·simp at hc
   ·simp at hc
  ·simp at hc
 ·simp at hc
theorem Jl (S:St s.own loc M0 w.heap) {p:DVal} {v:Value} {k bs:Nat} {es:List (List DVal)} (hp:rd (cu s loc) (hm s loc M0) w.heap p v) (hc:Ba s.own p=some (k,bs,es)) :
  ∃a cap,v= .slice a es.length cap/\es.length<=cap/\cap<=maxLen/\es.length*bs<=150000000000000 /\
   (es=[]\/∃b off arr ty fz,a=some ⟨b,off,none⟩/\w.heap[b]? =some (.cells arr ty fz)/\Em (cu s loc) (hm s loc M0) w.heap k es arr off):=by
 unfold Ba at hc
 split at hc
 ·simp only[aA0,aS0]at hc;obtain⟨rfl,rfl,rfl⟩:=hc;simp only[rd]at hp;obtain⟨a,cap,h1,h2,h3,h4,h5⟩:=hp;refine⟨a,cap,h1,h2,h3,h4,?_⟩
  rcases h5 with h5 | ⟨b,off,arr,ty,fz,g1,g2,g3,g4⟩
  ·exact .inl h5.1
  ·exact .inr ⟨b,off,arr,ty,fz,g1,g3,g4⟩
 ·rename_i id r
  split at hc
  ·rename_i e he
   split at hc
   ·rename_i qS
    split at hc
    ·rename_i et k' bs' es' wO;simp only[aA0,aS0]at hc;obtain⟨rfl,rfl,rfl⟩:=hc;obtain⟨vV,hid⟩:=AA he;have hk:=S.ok e vV;rw[wO]at hk;obtain⟨vX,hk⟩:=hk;simp only[rd]at hp;have hv:=hp (loc id) (by unfold cu Ad;rw[he];simp[qS]);rw[<-hid]at hv
     rcases hk with ⟨rfl,_,h2⟩ | ⟨b,arr,cap,h1,h2,h3,h4,h5,h6,h7⟩
     ·refine⟨none,0,by rw[hv,h2];rfl,by simp,by unfold maxLen;omega,by simp,.inl rfl⟩
     ·exact⟨_,cap,by rw[hv,h2],h4,h5,vX,.inr ⟨b,0,arr,et,(0,0),rfl,h3,h7⟩⟩
    ·simp at hc
   ·simp at hc
  ·simp at hc
 ·rename_i id r k0 bs0 i n
  split at hc
  ·rename_i e he
   split at hc
   ·rename_i qS
    split at hc
    ·rename_i et k' bs' es' wO
     split at hc
     ·rename_i hb;obtain⟨rfl,rfl,hb⟩:=hb;simp only[aA0,aS0]at hc;obtain⟨rfl,rfl,rfl⟩:=hc;obtain⟨vV,hid⟩:=AA he;have hk:=S.ok e vV;rw[wO]at hk;obtain⟨vX,hk⟩:=hk;simp only[rd]at hp;obtain⟨a,cap,rfl,g1,g2,_,g3,_⟩:=hp (loc id) (by unfold cu Ad;rw[he];simp[qS]);have qU:((es'.drop i).take n).length=n:=by simp;omega
      refine⟨a,cap,by rw[qU],by omega,g2,by rw[qU];exact Nat.le_trans (aY0 _ (by omega:n<=es'.length)) vX,?_⟩
      by_cases h0:n=0
      ·subst h0;exact .inl (by simp)
      ·obtain⟨b,qR,rfl⟩:=g3 (by omega);rw[<-hid]at qR
       rcases hk with ⟨rfl,_⟩ | ⟨b',arr,cap',h1,h2,h3,h4,h5,h6,h7⟩
       ·simp at hb;omega
       ·rw[h1]at qR;simp only[bG0,and_true]at qR;subst qR;refine .inr ⟨b',i*k',arr,et,(0,0),rfl,h3,FD _ _ _ _ fun q cs hq=> ?_⟩;rw[eK0]at hq
        split at hq
        ·rw[cJ0]at hq;have:=DZ k' es' arr 0 (i+q) cs h7 hq
         rwa[bR0,bN0]at this
        ·simp at hq
     ·simp at hc
    ·simp at hc
   ·simp at hc
  ·simp at hc
 ·simp at hc
theorem EW_ {a:Act} (hs:∀i,rd (cu s loc) (hm s loc M0) w.heap (Be s.slots i) (a.tmps.getD i Go.undef)) (x:Operand) :
  rd (cu s loc) (hm s loc M0) w.heap (ev s.slots x) (a.eval x):=by
 cases x with
 | tmp t=>exact hs t
 | const v=>exact xH v
 | global g=>simp[ev,rd]
 | func f=>simp only[ev,rd,Act.eval];exact⟨#[], #[],rfl,by simp[Au],by simp[Au]⟩
theorem Jk {t:TypeId} {b:Bool} (ht:tAgg P t=some b) (w:World):(isAgg t).run P w= .ok b w:=by
 unfold isAgg
 cases hu:P.underlying t with
 | none=>simp[tAgg,hu]at ht
 | some d =>
  rw[Sem.run_bind,run_underlying hu w];cases d<;>simp[tAgg,hu]at ht<;>subst ht<;>rfl
theorem BE {t:TypeId} {n:Nat} (ht:tCells P t=some n) (w:World):(sizeOf t).run P w= .ok n w:=by
 unfold tCells at ht
 cases hi:P.info? t with
 | none=>simp[hi]at ht
 | some i =>
  simp only[hi,dK0,aA0]at ht;simp[sizeOf,typeInfo,hi,ht]
theorem Da (b o n:Nat):Addr.add ⟨b,o,none⟩ n=⟨b,o+n,none⟩:=by unfold Addr.add;split<;>simp_all
end
end Go.Dm
end
