/- Parts of a proof, laid together: EnA, DH, EnC. -/
import Derived.WalkKit
import Derived.Laws.Rows
import Derived.Laws.Cells
set_option linter.unusedSimpArgs false
set_option maxHeartbeats 8000000
set_option linter.unusedVariables false
set_option linter.unusedSectionVars false
namespace Go.Dm
theorem aA0 : type_of% @Option.some.injEq:= @Option.some.injEq
theorem aB0 : type_of% @List.getElem?_eq_getElem:= @List.getElem?_eq_getElem
theorem aC0 : type_of% @List.mem_append:= @List.mem_append
theorem aD0 : type_of% @Array.getElem?_eq_some_iff:= @Array.getElem?_eq_some_iff
theorem aE0 : type_of% @List.length_append:= @List.length_append
theorem aF0 : type_of% @List.getElem?_eq_some_iff:= @List.getElem?_eq_some_iff
theorem aG0 : type_of% @List.mem_singleton:= @List.mem_singleton
theorem aH0 : type_of% @List.mem_append_left:= @List.mem_append_left
theorem aI0 : type_of% @List.mem_cons_of_mem:= @List.mem_cons_of_mem
theorem aJ0 : type_of% @List.mem_append_right:= @List.mem_append_right
theorem aK0 : type_of% @List.mem_cons_self:= @List.mem_cons_self
theorem aL0 : type_of% @List.mem_cons:= @List.mem_cons
theorem aM0 : type_of% @Bool.and_eq_true:= @Bool.and_eq_true
theorem aN0 : type_of% @Array.getD_eq_getD_getElem?:= @Array.getD_eq_getD_getElem?
theorem aO0 : type_of% @List.length_map:= @List.length_map
theorem aP0 : type_of% @ByteArray.size_append:= @ByteArray.size_append
theorem aQ0 : type_of% @List.mem_map:= @List.mem_map
theorem aR0 : type_of% @Prod.mk.injEq:= @Prod.mk.injEq
theorem aS0 : type_of% @List.append_assoc:= @List.append_assoc
theorem aT0 : type_of% @List.take_length:= @List.take_length
theorem aU0 : type_of% @List.drop_eq_getElem_cons:= @List.drop_eq_getElem_cons
theorem aV0 : type_of% @Int.natCast_add:= @Int.natCast_add
theorem aW0 : type_of% @List.length_take:= @List.length_take
theorem aX0 : type_of% @List.all_eq_true:= @List.all_eq_true
theorem aY0 : type_of% @Option.map_eq_some_iff:= @Option.map_eq_some_iff
theorem aZ0 : type_of% @Nat.mul_le_mul_right:= @Nat.mul_le_mul_right
theorem bA0 : type_of% @List.getD_eq_getElem?_getD:= @List.getD_eq_getElem?_getD
theorem bB0 : type_of% @List.getElem?_cons_zero:= @List.getElem?_cons_zero
theorem bC0 : type_of% @List.getElem?_append_left:= @List.getElem?_append_left
theorem bD0 : type_of% @List.getElem?_append_right:= @List.getElem?_append_right
theorem bE0 : type_of% @Bool.false_eq_true:= @Bool.false_eq_true
theorem bF0 : type_of% @List.cons.injEq:= @List.cons.injEq
theorem bG0 : type_of% @Option.isSome_iff_exists:= @Option.isSome_iff_exists
theorem bH0 : type_of% @List.getElem?_map:= @List.getElem?_map
theorem bI0 : type_of% @List.map_append:= @List.map_append
theorem bJ0 : type_of% @List.mem_of_getElem?:= @List.mem_of_getElem?
theorem bK0 : type_of% @Array.length_toList:= @Array.length_toList
theorem bL0 : type_of% @List.getElem?_cons_succ:= @List.getElem?_cons_succ
theorem bM0 : type_of% @List.eq_nil_of_length_eq_zero:= @List.eq_nil_of_length_eq_zero
theorem bN0 : type_of% @Nat.zero_add:= @Nat.zero_add
theorem bO0 : type_of% @List.append_nil:= @List.append_nil
theorem bP0 : type_of% @Array.getElem?_push:= @Array.getElem?_push
theorem bQ0 : type_of% @Nat.add_mul:= @Nat.add_mul
theorem bR0 : type_of% @List.take_add_one:= @List.take_add_one
theorem bS0 : type_of% @List.nodup_append:= @List.nodup_append
theorem bT0 : type_of% @List.getElem?_take_of_lt:= @List.getElem?_take_of_lt
theorem bU0 : type_of% @List.getElem_of_mem:= @List.getElem_of_mem
theorem bV0 : type_of% @Option.getD_some:= @Option.getD_some
theorem bW0 : type_of% @List.mem_flatMap:= @List.mem_flatMap
theorem bX0 : type_of% @Array.getElem?_eq_getElem:= @Array.getElem?_eq_getElem
theorem bY0 : type_of% @List.map_congr_left:= @List.map_congr_left
theorem bZ0 : type_of% @List.length_drop:= @List.length_drop
theorem cA0 : type_of% @List.map_map:= @List.map_map
theorem cB0 : type_of% @Int.toNat_natCast:= @Int.toNat_natCast
theorem cC0 : type_of% @Array.getElem?_modify:= @Array.getElem?_modify
theorem cD0 : type_of% @Nat.lt_of_lt_of_le:= @Nat.lt_of_lt_of_le
theorem cE0 : type_of% @Nat.add_assoc:= @Nat.add_assoc
theorem cF0 : type_of% @List.any_eq_true:= @List.any_eq_true
theorem cG0 : type_of% @List.nodup_cons:= @List.nodup_cons
theorem cH0 : type_of% @List.foldl_cons:= @List.foldl_cons
theorem cI0 : type_of% @Array.getElem?_setIfInBounds_self_of_lt:= @Array.getElem?_setIfInBounds_self_of_lt
theorem cJ0 : type_of% @List.take_succ_cons:= @List.take_succ_cons
theorem cK0 : type_of% @List.pairwise_cons:= @List.pairwise_cons
theorem cL0 : type_of% @List.drop_length:= @List.drop_length
theorem cM0 : type_of% @Array.getElem?_setIfInBounds:= @Array.getElem?_setIfInBounds
theorem cN0 : type_of% @List.mem_map_of_mem:= @List.mem_map_of_mem
theorem cO0 : type_of% @Bool.or_eq_true:= @Bool.or_eq_true
theorem cP0 : type_of% @List.all_cons:= @List.all_cons
theorem cQ0 : type_of% @List.getElem?_drop:= @List.getElem?_drop
theorem cR0 : type_of% @List.take_of_length_le:= @List.take_of_length_le
theorem cS0 : type_of% @List.mem_filter:= @List.mem_filter
theorem cT0 : type_of% @Bool.true_and:= @Bool.true_and
theorem cU0 : type_of% @Nat.le_of_eq:= @Nat.le_of_eq
theorem cV0 : type_of% @List.foldl_append:= @List.foldl_append
theorem cW0 : type_of% @Nat.zero_le:= @Nat.zero_le
theorem cX0 : type_of% @List.length_eq_zero_iff:= @List.length_eq_zero_iff
theorem cY0 : type_of% @List.getElem_mem:= @List.getElem_mem
theorem cZ0 : type_of% @List.flatten_cons:= @List.flatten_cons
theorem dA0 : type_of% @Array.getElem?_setIfInBounds_ne:= @Array.getElem?_setIfInBounds_ne
theorem dB0 : type_of% @Option.map_some:= @Option.map_some
theorem dC0 : type_of% @Nat.add_zero:= @Nat.add_zero
theorem dD0 : type_of% @List.length_filter_le:= @List.length_filter_le
theorem dE0 : type_of% @List.getElem?_toArray:= @List.getElem?_toArray
theorem dF0 : type_of% @List.getElem?_eq_none:= @List.getElem?_eq_none
theorem dG0 : type_of% @List.getElem?_replicate:= @List.getElem?_replicate
theorem dH0 : type_of% @List.size_toArray:= @List.size_toArray
theorem dI0 : type_of% @List.pairwise_map:= @List.pairwise_map
theorem dJ0 : type_of% @List.flatMap_cons:= @List.flatMap_cons
theorem dK0 : type_of% @List.drop_of_length_le:= @List.drop_of_length_le
theorem dL0 : type_of% @Array.getElem?_append_left:= @Array.getElem?_append_left
theorem dM0 : type_of% @List.map_toArray:= @List.map_toArray
theorem dN0 : type_of% @List.countP_cons:= @List.countP_cons
theorem dO0 : type_of% @List.length_replicate:= @List.length_replicate
theorem dP0 : type_of% @List.mem_range:= @List.mem_range
theorem dQ0 : type_of% @List.drop_succ_cons:= @List.drop_succ_cons
theorem dR0 : type_of% @List.filter_append:= @List.filter_append
theorem dS0 : type_of% @Nat.max_le:= @Nat.max_le
theorem dT0 : type_of% @Bool.and_true:= @Bool.and_true
theorem dU0 : type_of% @List.take_zero:= @List.take_zero
theorem dV0 : type_of% @Array.toList_map:= @Array.toList_map
theorem dW0 : type_of% @List.mergeSort_perm:= @List.mergeSort_perm
theorem dX0 : type_of% @List.getElem?_range:= @List.getElem?_range
theorem dY0 : type_of% @Array.getElem?_replicate:= @Array.getElem?_replicate
theorem dZ0 : type_of% @List.any_eq_false:= @List.any_eq_false
theorem eA0 : type_of% @Bool.false_and:= @Bool.false_and
theorem eB0 : type_of% @Nat.sub_self:= @Nat.sub_self
theorem eC0 : type_of% @Array.getElem?_toList:= @Array.getElem?_toList
theorem eD0 : type_of% @List.ext_getElem:= @List.ext_getElem
theorem eE0 : type_of% @List.drop_append_of_le_length:= @List.drop_append_of_le_length
theorem eF0 : type_of% @List.mem_of_mem_take:= @List.mem_of_mem_take
theorem eG0 : type_of% @List.sum_cons:= @List.sum_cons
theorem eH0 : type_of% @List.range_succ:= @List.range_succ
theorem eI0 : type_of% @Nat.add_sub_cancel:= @Nat.add_sub_cancel
theorem eJ0 : type_of% @List.set_cons_zero:= @List.set_cons_zero
theorem eK0 : type_of% @List.getElem?_take:= @List.getElem?_take
theorem eL0 : type_of% @List.drop_drop:= @List.drop_drop
theorem eM0 : type_of% @Bool.and_assoc:= @Bool.and_assoc
theorem eN0 : type_of% @Nat.add_sub_cancel_left:= @Nat.add_sub_cancel_left
theorem eO0 : type_of% @List.dropLast_singleton:= @List.dropLast_singleton
theorem eP0 : type_of% @List.dropLast_cons_cons:= @List.dropLast_cons_cons
end Go.Dm
section
namespace Go.Dm
inductive DVal where
 | any
 | undef
 | sel (c:Bool) (d:DVal)
 | bool (b:Bool)
 | int (k:IntKind) (n:Int)
 | str (s:ByteArray)
 | nilp
 | ref (cs:List DVal)
 | bx (id r off:Nat)
 | rx (id r k i j:Nat)
 | nilsl
 | esl
 | sl (k bs:Nat) (es:List (List DVal))
 | osl (id r:Nat)
 | vw (id r k bs i n:Nat)
 | nilmp
 | mp (ks vs:List DVal)
 | omp (id r:Nat)
 | pk (id r:Nat)
 | nilfn
 | fn (f:Fn) (first caps:List DVal)
 | nilifc
 | ifc (t:TypeId) (d:DVal)
 | agg (cs:List DVal)
 | tup (vs:List DVal)
 deriving Inhabited
structure Loc where
 blks:List Nat
 hdr:Value
def Nk (es:Array MapEntry) (clk:Nat):Prop:=(es.toList.map (·.born)).Nodup/\∀e∈es.toList,e.born<clk
def Kx : IntKind->Int->Prop
 | .i64,n=> -9223372036854775808<=n/\n<=9223372036854775807
 | .u64,n=>0<=n/\n<=18446744073709551615
 | .u8,n=>0<=n/\n<=255
 | .i8,n=> -128<=n/\n<=127
 | .i16,n=> -32768<=n/\n<=32767
 | .u16,n=>0<=n/\n<=65535
 | .i32,n=> -2147483648<=n/\n<=2147483647
 | .u32,n=>0<=n/\n<=4294967295
abbrev EF := Nat->Nat->Option Loc
section
variable (cur : EF) (M : List Nat) (h : Array Obj)
mutual
def rd : DVal->Value->Prop
 | .any,_=>True
 | .undef,v=>v=Go.undef
 | .sel c d,v=>(c=true->rd d v)/\(c=false->v=Go.undef)
 | .bool b,v=>v= .bool b
 | .int k n,v=>v= .int k n/\Kx k n
 | .str s,v=>v= .string s/\s.size<=maxLen
 | .nilp,v=>v= .pointer none
 | .ref cs,v=>∃b off arr ty fz,v= .pointer (some ⟨b,off,none⟩)/\b∉M/\h[b]? =some (.cells arr ty fz)/\Dv cs arr off
 | .bx id r off,v=>∀l,cur id r=some l->∃b,l.blks=[b]/\v= .pointer (some ⟨b,off,none⟩)
 | .rx id r k i j,v=>∀l,cur id r=some l->∃b,l.blks=[b]/\v= .pointer (some ⟨b,i*k+j,none⟩)
 | .nilsl,v=>v= .slice none 0 0
 | .esl,v=>∃ad cap,v= .slice (some ad) 0 cap/\cap<=maxLen
 | .sl k bs es,v=>∃a cap,v= .slice a es.length cap/\es.length<=cap/\cap<=maxLen/\es.length*bs<=150000000000000 /\
  ((es=[]/\(a=none->cap=0))\/∃b off arr ty fz,a=some ⟨b,off,none⟩/\b∉M/\h[b]? =some (.cells arr ty fz)/\Ec k es arr off)
 | .osl id r,v=>∀l,cur id r=some l->v=l.hdr
 | .vw id r k _ i n,v=>∀l,cur id r=some l->∃a cap,v= .slice a n cap/\n<=cap/\cap<=maxLen/\(a=none->cap=0)/\(0<n->∃b,l.blks=[b]/\a=some ⟨b,i*k,none⟩)/\(i=0->∃n0,l.hdr= .slice a n0 cap)
 | .nilmp,v=>v= .map none
 | .mp ks vs,v=>∃b es clk,v= .map (some b)/\b∉M/\h[b]? =some (.map es clk)/\Nk es clk/\Aw ks (es.toList.map (·.key))/\Aw vs (es.toList.map (·.val))
 | .omp id r,v=>∀l,cur id r=some l->∃b,l.blks=[b]/\v= .map (some b)
 | .pk id r,v=>∀l,cur id r=some l->v=l.hdr
 | .nilfn,v=>v= .nilFunc
 | .fn f us cs,v=>∃us' cs':Array Value,v= .func f us' cs'/\Aw us us'.toList/\Aw cs cs'.toList
 | .nilifc,v=>v= .nilIface
 | .ifc t d,v=>∃u,v= .iface t u/\rd d u
 | .agg cs,v=>∃us:Array Value,v= .agg us/\Aw cs us.toList
 | .tup cs,v=>∃us:Array Value,v= .tuple us/\Aw cs us.toList
def Dv : List DVal->Array Value->Nat->Prop
 | [],_,_=>True
 | d::ds,arr,o=>(∃v,arr[o]? =some v/\v.oneCell'=true/\rd d v)/\Dv ds arr (o+1)
def Ec (k:Nat):List (List DVal)->Array Value->Nat->Prop
 | [],_,_=>True
 | cs::es,arr,o=>cs.length=k/\Dv cs arr o/\Ec k es arr (o+k)
def Aw : List DVal->List Value->Prop
 | [],vs=>vs=[]
 | d::ds,vs=>∃v r,vs=v::r/\rd d v/\Aw ds r
end
end
mutual
def mx : DVal->Nat
 | .ref cs=>AJ cs
 | .bx _ r _=>r+1
 | .rx _ r _ _ _=>r+1
 | .osl _ r=>r+1
 | .vw _ r _ _ _ _=>r+1
 | .mp ks vs=>max (AJ ks) (AJ vs)
 | .omp _ r=>r+1
 | .pk _ r=>r+1
 | .sl _ _ es=>Bq es
 | .fn _ us cs=>max (AJ us) (AJ cs)
 | .ifc _ d=>mx d
 | .sel c d=>if c then mx d else 0
 | .agg cs=>AJ cs
 | .tup cs=>AJ cs
 | _=>0
def AJ : List DVal->Nat
 | []=>0
 | d::ds=>max (mx d) (AJ ds)
def Bq : List (List DVal)->Nat
 | []=>0
 | cs::es=>max (AJ cs) (Bq es)
end
section
variable {cur cur' : EF} {M M' : List Nat} {h h' : Array Obj} {n : Nat}
def Gh : Obj->Bool
 | .cells _ _ _=>true
 | .map _ _=>true
 | _=>false
structure Weak (cur cur':EF) (M M':List Nat) (h h':Array Obj) (n:Nat):Prop where
 c:∀id r l,r<n->cur' id r=some l->cur id r=some l
 b:∀b o,b∉M->Gh o=true->h[b]? =some o->h'[b]? =some o
 m:∀b o,b∉M->Gh o=true->h[b]? =some o->b∉M'
mutual
theorem Ch (W:Weak cur cur' M M' h h' n):∀(d:DVal) (v:Value),mx d<=n->rd cur M h d v->rd cur' M' h' d v
 | .any,_,_,_=>by simp[rd]
 | .undef,_,_,hr=>by simpa[rd]using hr
 | .sel c d,v,hm,hr=>by
  simp only[mx]at hm;simp only[rd]at hr |-;exact⟨fun h=>Ch W d v (by rw[if_pos h]at hm;exact hm) (hr.1 h),hr.2⟩
 | .bool _,_,_,hr=>by simpa[rd]using hr
 | .int _ _,_,_,hr=>by simpa[rd]using hr
 | .str _,_,_,hr=>by simpa[rd]using hr
 | .nilp,_,_,hr=>by simpa[rd]using hr
 | .ref cs,v,hm,hr=>by
  simp only[mx]at hm;simp only[rd]at hr |-;obtain⟨b,off,arr,ty,fz,h1,h2,h3,h4⟩:=hr;exact⟨b,off,arr,ty,fz,h1,W.m b _ h2 rfl h3,W.b b _ h2 rfl h3,Fa W cs arr off hm h4⟩
 | .bx id r off,v,hm,hr=>by
  simp only[mx]at hm;simp only[rd]at hr |-;exact fun l hl=>hr l (W.c id r l (by omega) hl)
 | .rx id r k i j,v,hm,hr=>by
  simp only[mx]at hm;simp only[rd]at hr |-;exact fun l hl=>hr l (W.c id r l (by omega) hl)
 | .nilsl,_,_,hr=>by simpa[rd]using hr
 | .esl,_,_,hr=>by simpa[rd]using hr
 | .sl k bs es,v,hm,hr=>by
  simp only[mx]at hm;simp only[rd]at hr |-;obtain⟨a,cap,h1,h2,kW,h2'',h3⟩:=hr;refine⟨a,cap,h1,h2,kW,h2'',h3.imp id ?_⟩;rintro⟨b,off,arr,ty,fz,g1,g2,g3,g4⟩;exact⟨b,off,arr,ty,fz,g1,W.m b _ g2 rfl g3,W.b b _ g2 rfl g3,Cd W k es arr off hm g4⟩
 | .osl id r,v,hm,hr=>by
  simp only[mx]at hm;simp only[rd]at hr |-;exact fun l hl=>hr l (W.c id r l (by omega) hl)
 | .vw id r k bs i n,v,hm,hr=>by
  simp only[mx]at hm;simp only[rd]at hr |-;exact fun l hl=>hr l (W.c id r l (by omega) hl)
 | .nilmp,_,_,hr=>by simpa[rd]using hr
 | .mp ks vs,v,hm,hr=>by
  simp only[mx]at hm;simp only[rd]at hr |-;obtain⟨b,es,clk,h1,h2,h3,h4,h5,h6⟩:=hr;exact⟨b,es,clk,h1,W.m b _ h2 rfl h3,W.b b _ h2 rfl h3,h4,AL W ks _ (by omega) h5,AL W vs _ (by omega) h6⟩
 | .omp id r,v,hm,hr=>by
  simp only[mx]at hm;simp only[rd]at hr |-;exact fun l hl=>hr l (W.c id r l (by omega) hl)
 | .pk id r,v,hm,hr=>by
  simp only[mx]at hm;simp only[rd]at hr |-;exact fun l hl=>hr l (W.c id r l (by omega) hl)
 | .nilfn,_,_,hr=>by simpa[rd]using hr
 | .fn f us cs,v,hm,hr=>by
  simp only[mx]at hm;simp only[rd]at hr |-;obtain⟨us',cs',h1,h2,h3⟩:=hr;exact⟨us',cs',h1,AL W us _ (by omega) h2,AL W cs _ (by omega) h3⟩
 | .nilifc,_,_,hr=>by simpa[rd]using hr
 | .ifc t d,v,hm,hr=>by
  simp only[mx]at hm;simp only[rd]at hr |-;obtain⟨u,h1,h2⟩:=hr;exact⟨u,h1,Ch W d u hm h2⟩
 | .agg cs,v,hm,hr=>by
  simp only[mx]at hm;simp only[rd]at hr |-;obtain⟨us,h1,h2⟩:=hr;exact⟨us,h1,AL W cs _ hm h2⟩
 | .tup cs,v,hm,hr=>by
  simp only[mx]at hm;simp only[rd]at hr |-;obtain⟨us,h1,h2⟩:=hr;exact⟨us,h1,AL W cs _ hm h2⟩
theorem Fa (W:Weak cur cur' M M' h h' n):∀(ds:List DVal) (arr:Array Value) (o:Nat),AJ ds<=n->Dv cur M h ds arr o->Dv cur' M' h' ds arr o
 | [],_,_,_,_=>by simp[Dv]
 | d::ds,arr,o,hm,hr=>by
  simp only[AJ]at hm;simp only[Dv]at hr |-;obtain⟨⟨v,h1,yG,h2⟩,h3⟩:=hr;exact⟨⟨v,h1,yG,Ch W d v (by omega) h2⟩,Fa W ds arr _ (by omega) h3⟩
theorem Cd (W:Weak cur cur' M M' h h' n):∀(k:Nat) (es:List (List DVal)) (arr:Array Value) (o:Nat),Bq es<=n->Ec cur M h k es arr o->Ec cur' M' h' k es arr o
 | _,[],_,_,_,_=>by simp[Ec]
 | k,cs::es,arr,o,hm,hr=>by
  simp only[Bq]at hm;simp only[Ec]at hr |-;obtain⟨h1,h2,h3⟩:=hr;exact⟨h1,Fa W cs arr o (by omega) h2,Cd W k es arr _ (by omega) h3⟩
theorem AL (W:Weak cur cur' M M' h h' n):∀(ds:List DVal) (vs:List Value),AJ ds<=n->Aw cur M h ds vs->Aw cur' M' h' ds vs
 | [],_,_,hr=>by simpa[Aw]using hr
 | d::ds,vs,hm,hr=>by
  simp only[AJ]at hm;simp only[Aw]at hr |-;obtain⟨v,r,h1,h2,h3⟩:=hr;exact⟨v,r,h1,Ch W d v (by omega) h2,AL W ds r (by omega) h3⟩
end
end
class DMode where
 dr:Bool
instance (priority:=low) laxMode:DMode:=⟨false⟩
abbrev Lp : DMode:=⟨true⟩
variable [DMode]
structure Abs where
 J:List Nat->List Nat->Value->Array Obj->Prop
 weak:∀M M' bl hd h h',(∀b o,b∉M->Gh o=true->h[b]? =some o->h'[b]? =some o)->(∀b o,b∉M->Gh o=true->h[b]? =some o->b∉M')->(∀b o,b∈bl->h[b]? =some o->h'[b]? =some o)->J M bl hd h->J M' bl hd h'
 one:∀M bl hd h,J M bl hd h->hd.oneCell'=true/\hd.cells= #[hd]
 nd:∀M bl hd h,J M bl hd h->∀b∈bl,∀c,h[b]? ≠some (.deferred c)
inductive DObj where
 | box (cs:List DVal)
 | row (et:TypeId) (k bs:Nat) (es:List (List DVal))
 | map (ks vs:List DVal)
 | abs (A:Abs)
structure Ent where
 id:Nat
 r:Nat
 obj:DObj
structure DS where
 slots:List (Nat×DVal)
 own:List Ent
def Bg : List (Nat×DVal)->Nat->DVal
 | [],_=> .any
 | (j,d)::t,i=>if i=j then d else Bg t i
def Aj : List Ent->Nat->Option Ent
 | [],_=>none
 | e::t,id=>if e.id=id then some e else Aj t id
def Fc_ : List Ent->Nat->DObj->List Ent
 | [],_,_=>[]
 | e::t,id,o=>if e.id=id then ⟨e.id,e.r,o⟩::t else e::Fc_ t id o
def CE : List Ent->Nat->List Ent
 | [],_=>[]
 | e::t,id=>if e.id=id then CE t id else e::CE t id
def JK : List (Nat×DVal)->Nat
 | []=>0
 | p::t=>max (mx p.2) (JK t)
def EP : DObj->Nat
 | .box cs=>AJ cs
 | .row _ _ _ es=>Bq es
 | .map ks vs=>max (AJ ks) (AJ vs)
 | .abs _=>0
def Gj : List Ent->Nat
 | []=>0
 | e::t=>max (max (e.r+1) (EP e.obj)) (Gj t)
theorem OU (l:List (Nat×DVal)) (i:Nat):mx (Bg l i)<=JK l:=by
 induction l with
 | nil=>simp[Bg,mx,JK]
 | cons p t ih =>
  obtain⟨j,d⟩:=p;simp only[Bg,JK]
  split<;>omega
theorem Be {own:List Ent} {e:Ent} (h:e∈own):e.r<Gj own/\EP e.obj<=Gj own:=by
 induction own with
 | nil=>cases h
 | cons a t ih =>
  simp only[Gj]
  rcases aL0.1 h with rfl | h
  ·omega
  ·have:=ih h;omega
def Ab (own:List Ent) (loc:Nat->Loc):EF:=fun id r =>
 match Aj own id with
 | some e=>if e.r=r then some (loc id)else none
 | none=>none
def Aa (own:List Ent) (loc:Nat->Loc):List Nat:=own.flatMap fun e=>(loc e.id).blks
section
variable (cur : EF) (M : List Nat) (h : Array Obj)
def Gy (l:Loc):DObj->Prop
 | .box cs=>∃b arr ty,l.blks=[b]/\h[b]? =some (.cells arr ty (0,0))/\arr.size=cs.length/\Dv cur M h cs arr 0
 | .row et k bs es=>es.length*bs<=150000000000000/\((es=[]/\l.blks=[]/\l.hdr= .slice none 0 0) \/
  ∃b arr cap,l.blks=[b]/\l.hdr= .slice (some ⟨b,0,none⟩) es.length cap/\h[b]? =some (.cells arr et (0,0))/\es.length<=cap/\cap<=maxLen/\cap*k=arr.size/\Ec cur M h k es arr 0)
 | .map ks vs=>∃b es clk,l.blks=[b]/\h[b]? =some (.map es clk)/\Nk es clk/\Aw cur M h ks (es.toList.map (·.key))/\Aw cur M h vs (es.toList.map (·.val))
 | .abs A=>A.J M l.blks l.hdr h
end
theorem Bd {cur cur':EF} {M M':List Nat} {h h':Array Obj} {n:Nat} {l:Loc} {obj:DObj} (W:Weak cur cur' M M' h h' n) (hn:EP obj<=n)
  (keep:∀b o,b∈l.blks->h[b]? =some o->h'[b]? =some o) (hk:Gy cur M h l obj):Gy cur' M' h' l obj:=by
 cases obj with
 | box cs =>
  simp only[EP]at hn;obtain⟨b,arr,ty,h1,h2,h3,h4⟩:=hk;exact⟨b,arr,ty,h1,keep b _ (by simp[h1]) h2,h3,Fa W cs arr 0 hn h4⟩
 | row et k bs es =>
  simp only[EP]at hn;obtain⟨h0,hk⟩:=hk;refine⟨h0,hk.imp id ?_⟩;rintro⟨b,arr,cap,h1,h2,h3,h4,h5,h6,h7⟩;exact⟨b,arr,cap,h1,h2,keep b _ (by simp[h1]) h3,h4,h5,h6,Cd W k es arr 0 hn h7⟩
 | map ks vs =>
  simp only[EP]at hn;obtain⟨b,es,clk,h1,h2,h3,h4,h5⟩:=hk;exact⟨b,es,clk,h1,keep b _ (by simp[h1]) h2,h3,AL W ks _ (by omega) h4,AL W vs _ (by omega) h5⟩
 | abs A=>exact A.weak M M' l.blks l.hdr h h' W.b W.m keep hk
structure St (own:List Ent) (loc:Nat->Loc) (M0:List Nat) (h:Array Obj):Prop where
 nd:(own.map (·.id)).Nodup
 bl:(Aa own loc).Nodup
 ap:∀b∈Aa own loc,b∉M0
 lt:∀b∈Aa own loc++M0,b<h.size
 ok:∀e∈own,Gy (Ab own loc) (Aa own loc++M0) h (loc e.id) e.obj
structure Upd (H:List Nat) (w w':World):Prop where
 os:w'.os=w.os
 tape:w'.tape=w.tape
 output:w'.output=w.output
 drawn:DMode.dr=true->w.drawn<=w'.drawn
 size:w.heap.size<=w'.heap.size
 blk:∀b,b<w.heap.size->b∉H->w'.heap[b]? =w.heap[b]?
theorem Upd.refl (H:List Nat) (w:World):Upd H w w:=⟨rfl,rfl,rfl,fun _=>Nat.le_refl _,Nat.le_refl _,fun _ _ _=>rfl⟩
theorem Upd.trans {H H':List Nat} {a b c:World} (h:Upd H a b) (k:Upd H' b c) (hh:∀x∈H',x∈H\/a.heap.size<=x):Upd H a c :=
 ⟨k.os.trans h.os,k.tape.trans h.tape,k.output.trans h.output,fun hd=>Nat.le_trans (h.drawn hd) (k.drawn hd),Nat.le_trans h.size k.size,fun x hx hn =>
  (k.blk x (cD0 hx h.size) (fun hm=>by rcases hh x hm with h1 | h1;exact hn h1;omega)).trans (h.blk x hx hn)⟩
theorem Upd.alloc (H:List Nat) (w:World) (o:Obj):Upd H w (w.alloc o) :=
 ⟨rfl,rfl,rfl,fun _=>Nat.le_refl _,by simp,fun b hb _=>by simp only[World.alloc,bP0];rw[if_neg (by omega)]⟩
theorem Upd.drew (H:List Nat) (w:World):Upd H w w.drew:=⟨rfl,rfl,rfl,fun _=>by simp,Nat.le_refl _,fun _ _ _=>rfl⟩
theorem Upd.nil {H:List Nat} {w w':World} (h:Upd [] w w'):Upd H w w':=⟨h.os,h.tape,h.output,h.drawn,h.size,fun b hb _=>h.blk b hb (by simp)⟩
structure Base where
 own0:List Ent
 loc0:Nat->Loc
 M0:List Nat
 N:Nat
 w0:World
 nt:Nat
 ro:Option Nat:=none
 hN:N<=1:=by decide
 nd:Nat
 hnd:nd<=w0.heap.size
def DI_ (B:Base) (M:List Nat) (a:Act) (h:Array Obj):Prop :=
 ∃rs:List Nat,a.defers=rs.map (fun r=>{ target:= .collected r,args:= #[] })/\rs.Nodup/\(∀r∈rs,h[r]? =some (.deferred (some []))/\B.nd<=r/\r∉M)/\(B.ro≠none->rs=[])
theorem DI_.keep {B:Base} {M M' H:List Nat} {a a':Act} {w w':World} (hd:DI_ B M a w.heap) (ha:a'.defers=a.defers)
  (hu:Upd H w w') (hH:∀x∈H,x∈M) (hm:∀b∈M',b∈M\/w.heap.size<=b):DI_ B M' a' w'.heap:=by
 obtain⟨rs,h1,h0,h2,h3⟩:=hd;refine⟨rs,ha.trans h1,h0,fun r hr=> ?_,h3⟩;obtain⟨g1,g2,g3⟩:=h2 r hr;have qV:=(aD0.1 g1).1;refine⟨by rw[hu.blk r qV (fun h=>g3 (hH r h))];exact g1,g2,fun h=> ?_⟩
 rcases hm r h with h | h
 ·exact g3 h
 ·omega
structure Rel (B:Base) (s:DS) (a:Act) (w:World) (loc:Nat->Loc):Prop where
 st:St s.own loc B.M0 w.heap
 upd:Upd (Aa B.own0 B.loc0) B.w0 w
 new:∀b∈Aa s.own loc,b∈Aa B.own0 B.loc0\/B.w0.heap.size<=b
 ver:∀e∈s.own,e.r<B.N->Ab B.own0 B.loc0 e.id e.r=some (loc e.id)
 sl:∀i,rd (Ab s.own loc) (Aa s.own loc++B.M0) w.heap (Bg s.slots i) (a.tmps.getD i Go.undef)
 nt:a.tmps.size=B.nt
 df:DI_ B (Aa s.own loc++B.M0) a w.heap
theorem Ay {own:List Ent} {id:Nat} {e:Ent} (h:Aj own id=some e):e∈own/\e.id=id:=by
 induction own with
 | nil=>simp[Aj]at h
 | cons a t ih =>
  simp only[Aj]at h
  split at h
  ·simp only[aA0]at h;subst h;exact⟨aK0,by assumption⟩
  ·have:=ih h;exact⟨aI0 _ this.1,this.2⟩
theorem Cr {own:List Ent} (nd:(own.map (·.id)).Nodup) {e:Ent} (h:e∈own):Aj own e.id=some e:=by
 induction own with
 | nil=>cases h
 | cons a t ih =>
  simp only[List.map_cons,cG0]at nd;simp only[Aj]
  rcases aL0.1 h with rfl | h
  ·simp
  ·rw[if_neg,ih nd.2 h];intro he;exact nd.1 (he▸cN0 (f:=(·.id)) h)
theorem Bn {own:List Ent} {loc:Nat->Loc} {id r:Nat} {l:Loc} (h:Ab own loc id r=some l):∃e∈own,e.id=id/\e.r=r/\l=loc id:=by
 unfold Ab at h
 split at h
 ·rename_i e he
  split at h
  ·simp only[aA0]at h;obtain⟨h1,h2⟩:=Ay he;exact⟨e,h1,h2,by assumption,h.symm⟩
  ·simp at h
 ·simp at h
theorem AY {own:List Ent} {loc:Nat->Loc} {e:Ent} {b:Nat} (h:e∈own) (hb:b∈(loc e.id).blks):b∈Aa own loc :=
 bW0.2 ⟨e,h,hb⟩
theorem EK {own own':List Ent} {loc loc':Nat->Loc} {M0:List Nat} {w w':World} {n:Nat}
  (jO:Upd (Aa own loc) w w') (wZ:∀b∈Aa own' loc',b∈Aa own loc\/w.heap.size<=b)
  (vD:∀e∈own',e.r<n->Ab own loc e.id e.r=some (loc' e.id)) :
  Weak (Ab own loc) (Ab own' loc') (Aa own loc++M0) (Aa own' loc'++M0) w.heap w'.heap n where
 c:=by
  intro id r l hr hl;obtain⟨e,he,rfl,rfl,rfl⟩:=Bn hl;exact vD e he hr
 b:=by
  intro b o hb _ ho;have qV:b<w.heap.size:=(aD0.1 ho).1;rw[jO.blk b qV (fun h=>hb (aH0 _ h))];exact ho
 m:=by
  intro b o hb _ ho hm;have qV:b<w.heap.size:=(aD0.1 ho).1
  rcases aC0.1 hm with h | h
  ·rcases wZ b h with h1 | h1
   ·exact hb (aH0 _ h1)
   ·omega
  ·exact hb (aJ0 _ h)
theorem Bh_ (a:Act) (dst:Option Nat) (v:Value) (i:Nat) (hd:∀d,dst=some d->d<a.tmps.size) :
  (a.put dst v).tmps.getD i Go.undef=if dst=some i then v else a.tmps.getD i Go.undef:=by
 cases dst with
 | none=>simp[Act.put]
 | some d =>
  have:=hd d rfl;simp only[Act.put,aN0,cM0,aA0]
  by_cases h:d=i
  ·subst h;simp[this]
  ·simp[h]
theorem size_put (a:Act) (dst:Option Nat) (v:Value):(a.put dst v).tmps.size=a.tmps.size:=by
 cases dst<;>simp[Act.put]
theorem aW (a:Act) (dst:Option Nat) (v:Value):(a.put dst v).defers=a.defers:=by
 cases dst<;>rfl
def Bv (l:List (Nat×DVal)):Option Nat->DVal->List (Nat×DVal)
 | some i,d=>(i,d)::l
 | none,_=>l
theorem Rel.step {B:Base} {s:DS} {a:Act} {w w':World} {loc loc':Nat->Loc} {own':List Ent} {n:Nat} {v:Value} {d:DVal} {dst:Option Nat}
  (R:Rel B s a w loc) (hn:B.N<=n) (hs:JK s.slots<=n) (qC:∀i,dst=some i->i<B.nt)
  (qR:St own' loc' B.M0 w'.heap) (jO:Upd (Aa s.own loc) w w')
  (wZ:∀b∈Aa own' loc',b∈Aa s.own loc\/w.heap.size<=b)
  (vD:∀e∈own',e.r<n->Ab s.own loc e.id e.r=some (loc' e.id))
  (hd:rd (Ab own' loc') (Aa own' loc'++B.M0) w'.heap d v) :
  Rel B ⟨Bv s.slots dst d,own'⟩ (a.put dst v) w' loc' where
 st:=qR
 upd:=R.upd.trans jO R.new
 new:=by
  intro b hb
  rcases wZ b hb with h | h
  ·exact R.new b h
  ·exact .inr (Nat.le_trans R.upd.size h)
 ver:=by
  intro e he hr;obtain⟨e',vG,h1,h2,h3⟩:=Bn (vD e he (cD0 hr hn));have:=R.ver e' vG (by omega);rw[h1,h2]at this;rw[this,h3]
 sl:=by
  intro i;have zT:=Bh_ a dst v i (fun d hd=>by rw[R.nt];exact qC d hd);rw[zT];have W:=EK (M0:=B.M0) jO wZ vD
  have jL:rd (Ab own' loc') (Aa own' loc'++B.M0) w'.heap (Bg s.slots i) (a.tmps.getD i Go.undef) :=
   Ch W _ _ (Nat.le_trans (OU _ _) hs) (R.sl i)
  cases dst with
  | none=>simpa[Bv]using jL
  | some j =>
   simp only[Bv,Bg]
   by_cases zO:i=j
   ·subst zO;simpa using hd
   ·rw[if_neg zO,if_neg (fun h=>zO (Option.some.inj h).symm)];exact jL
 nt:=by rw[size_put];exact R.nt
 df:=by
  refine R.df.keep (aW a dst v) jO (fun x hx=>aH0 _ hx) ?_;intro b hb
  rcases aC0.1 hb with h | h
  ·rcases wZ b h with h | h
   ·exact .inl (aH0 _ h)
   ·exact .inr h
  ·exact .inl (aJ0 _ h)
theorem St.keep {own:List Ent} {loc:Nat->Loc} {M0:List Nat} {w w':World} (h:St own loc M0 w.heap) (u:Upd [] w w'):St own loc M0 w'.heap where
 nd:=h.nd
 bl:=h.bl
 ap:=h.ap
 lt:=fun b hb=>cD0 (h.lt b hb) u.size
 ok:=by
  intro e he
  have W:Weak (Ab own loc) (Ab own loc) (Aa own loc++M0) (Aa own loc++M0) w.heap w'.heap (EP e.obj):=by
   refine EK u.nil (fun b hb=> .inl hb) ?_;intro e' vG _;unfold Ab;rw[Cr h.nd vG];simp
  have hb:∀b o,w.heap[b]? =some o->w'.heap[b]? =some o:=fun b o ho=>by
   rw[u.blk b (aD0.1 ho).1 (by simp)];exact ho
  exact Bd W (Nat.le_refl _) (fun b o _ ho=>hb b o ho) (h.ok e he)
theorem AG {own:List Ent} {loc:Nat->Loc} (nd:(own.map (·.id)).Nodup) {e:Ent} (he:e∈own):Ab own loc e.id e.r=some (loc e.id):=by
 unfold Ab;rw[Cr nd he];simp
theorem Rel.put {B:Base} {s:DS} {a:Act} {w w':World} {loc:Nat->Loc} {v:Value} {d:DVal} {dst:Option Nat}
  (R:Rel B s a w loc) (qC:∀i,dst=some i->i<B.nt) (jO:Upd [] w w')
  (hd:rd (Ab s.own loc) (Aa s.own loc++B.M0) w'.heap d v):Rel B ⟨Bv s.slots dst d,s.own⟩ (a.put dst v) w' loc :=
 R.step (n:=max B.N (JK s.slots)) (by omega) (by omega) qC (R.st.keep jO) jO.nil (fun b hb=> .inl hb) (fun e he _=>AG R.st.nd he) hd
end Go.Dm
end
section
namespace Go.Dm
variable [DMode]
section
variable (P : Program)
def tAgg (t:TypeId):Option Bool :=
 match P.underlying t with
 | some (.struct _)=>some true
 | some (.array _ _)=>some true
 | some _=>some false
 | none=>none
def tCells (t:TypeId):Option Nat:=(P.info? t).map (·.size)
def tField (t f:Nat):Option (Nat×Nat×Bool) :=
 match P.underlying t with
 | some (.struct fs) =>
  match fs[f]? with
  | some fl=>match tCells P fl.type,tAgg P fl.type with
   | some n,some b=>some (fl.offset,n,b)
   | _,_=>none
  | none=>none
 | _=>none
def tElem (t:TypeId):Option (Nat×Nat) :=
 match P.underlying t with
 | some (.slice e)=>(P.info? e).map fun i=>(i.size,i.bytes)
 | _=>none
def xO (t:TypeId):Option Nat :=
 match P.underlying t with
 | some (.array n e)=>if tCells P e=some 1/\tAgg P e=some false then some n else none
 | _=>none
def Zo (t:TypeId):Option (Nat×Nat) :=
 match P.underlying t with
 | some (.array n e)=>(P.info? e).map fun i=>(n,i.size)
 | _=>none
end
instance (k:IntKind) (n:Int):Decidable (Kx k n):=by cases k<;>unfold Kx<;>infer_instance
def BZ : Value->DVal
 | .bool b=> .bool b
 | .int k n=>if Kx k n then .int k n else .any
 | .string s=>if s.size<=maxLen then .str s else .any
 | .pointer none=> .nilp
 | .slice none 0 0=> .nilsl
 | .map none=> .nilmp
 | .nilFunc=> .nilfn
 | .nilIface=> .nilifc
 | _=> .any
def ofV : Value->DVal
 | .agg cs=> .agg (cs.toList.map BZ)
 | v=>BZ v
def ev (l:List (Nat×DVal)):Operand->DVal
 | .tmp t=>Bg l t
 | .const v=>ofV v
 | .global _=> .any
 | .func f=> .fn (.func f) [] []
def DA (own:List Ent):DVal->Option (List DVal)
 | .ref cs=>some cs
 | .bx id r off=>match Aj own id with
  | some e=>if e.r=r then (match e.obj with | .box cs=>some (cs.drop off) | _=>none)else none
  | none=>none
 | .rx id r k i j=>match Aj own id with
  | some e=>if e.r=r then (match e.obj with | .row _ k' _ es=>if k=k' then (es[i]?).map (·.drop j)else none | _=>none)else none
  | none=>none
 | _=>none
def AZ (own:List Ent):DVal->Option (Nat×Nat×List (List DVal))
 | .sl k bs es=>some (k,bs,es)
 | .osl id r=>match Aj own id with
  | some e=>if e.r=r then (match e.obj with | .row _ k bs es=>some (k,bs,es) | _=>none)else none
  | none=>none
 | .vw id r k bs i n=>match Aj own id with
  | some e=>if e.r=r then (match e.obj with | .row _ k' bs' es=>if k'=k/\bs'=bs/\i+n<=es.length then some (k,bs,(es.drop i).take n)else none | _=>none)else none
  | none=>none
 | _=>none
section
variable {P : Program} {cur : EF} {M : List Nat} {h : Array Obj}
theorem iH (v:Value):rd cur M h (BZ v) v:=by
 unfold BZ
 split<;>(try split)<;>simp_all [rd]
theorem Br : ∀l:List Value,Aw cur M h (l.map BZ) l
 | []=>by simp[Aw]
 | v::l=>by
  simp only[List.map_cons,Aw];exact⟨v,l,rfl,iH v,Br l⟩
theorem Ad_ (v:Value):rd cur M h (ofV v) v:=by
 unfold ofV
 split
 ·simp only[rd];exact⟨_,rfl,Br _⟩
 ·exact iH v
theorem Fb : ∀(n:Nat) (cs:List DVal) (arr:Array Value) (o:Nat),Dv cur M h cs arr o->Dv cur M h (cs.drop n) arr (o+n)
 | 0,cs,arr,o,hr=>by simpa using hr
 | n+1,[],arr,o,hr=>by simp[Dv]
 | n+1,d::cs,arr,o,hr=>by
  simp only[Dv]at hr;simpa[cE0,Nat.add_comm 1 n]using Fb n cs arr (o+1) hr.2
theorem GX : ∀(cs:List DVal) (arr:Array Value) (o:Nat),Dv cur M h cs arr o->∃vs:List Value,vs.length=cs.length/\Aw cur M h cs vs/\∀j v,vs[j]? =some v->arr[o+j]? =some v/\v.oneCell'=true
 | [],arr,o,_=>⟨[],rfl,by simp[Aw],by simp⟩
 | d::cs,arr,o,hr=>by
  simp only[Dv]at hr;obtain⟨⟨v,h1,h2,h3⟩,h4⟩:=hr;obtain⟨vs,g1,g2,g3⟩:=GX cs arr (o+1) h4;refine⟨v::vs,by simp[g1],by simp only[Aw];exact⟨v,vs,rfl,h3,g2⟩,?_⟩;intro j u hj
  cases j with
  | zero=>simp only[bB0,aA0]at hj;subst hj;exact⟨h1,h2⟩
  | succ j =>
   simp only[bL0]at hj;have:=g3 j u hj
   rwa[show o+1+j=o+(j+1) by omega]at this
theorem LD : ∀(n:Nat) (cs:List DVal) (arr:Array Value) (o:Nat),Dv cur M h cs arr o->Dv cur M h (cs.take n) arr o
 | 0,cs,arr,o,_=>by simp[Dv]
 | n+1,[],arr,o,_=>by simp[Dv]
 | n+1,d::cs,arr,o,hr=>by
  simp only[Dv,cJ0]at hr |-;exact⟨hr.1,LD n cs arr (o+1) hr.2⟩
theorem El : ∀(k:Nat) (es:List (List DVal)) (arr:Array Value) (o i:Nat) (cs:List DVal),Ec cur M h k es arr o->es[i]? =some cs->cs.length=k/\Dv cur M h cs arr (o+i*k)
 | k,[],arr,o,i,cs,_,hi=>by simp at hi
 | k,c::es,arr,o,0,cs,hr,hi=>by
  simp only[bB0,aA0]at hi;subst hi;simp only[Ec]at hr;exact⟨hr.1,by simpa using hr.2.1⟩
 | k,c::es,arr,o,i+1,cs,hr,hi=>by
  simp only[bL0]at hi;simp only[Ec]at hr;have:=El k es arr (o+k) i cs hr.2.2 hi
  rwa[show o+k+i*k=o+(i+1)*k by rw[bQ0];omega]at this
theorem FN : ∀(k:Nat) (es:List (List DVal)) (arr:Array Value) (o:Nat),(∀(i:Nat) (cs:List DVal),es[i]? =some cs->cs.length=k/\Dv cur M h cs arr (o+i*k))->Ec cur M h k es arr o
 | _,[],_,_,_=>by simp[Ec]
 | k,c::es,arr,o,hr=>by
  simp only[Ec];refine⟨(hr 0 c (by simp)).1,by simpa using (hr 0 c (by simp)).2,FN k es arr (o+k) fun i cs hi=> ?_⟩;have:=hr (i+1) cs (by simpa using hi)
  rwa[show o+(i+1)*k=o+k+i*k by rw[bQ0];omega]at this
end
section
variable {P : Program} {s : DS} {loc : Nat -> Loc} {M0 : List Nat} {w : World}
abbrev cu (s:DS) (loc:Nat->Loc):EF:=Ab s.own loc
abbrev hm (s:DS) (loc:Nat->Loc) (M0:List Nat):List Nat:=Aa s.own loc++M0
theorem eB (S:St s.own loc M0 w.heap) {p:DVal} {v:Value} {cs:List DVal} (hp:rd (cu s loc) (hm s loc M0) w.heap p v) (hc:DA s.own p=some cs) :
  ∃b off arr ty fz,v= .pointer (some ⟨b,off,none⟩)/\w.heap[b]? =some (.cells arr ty fz)/\Dv (cu s loc) (hm s loc M0) w.heap cs arr off:=by
 unfold DA at hc
 split at hc
 ·simp only[aA0]at hc;subst hc;simp only[rd]at hp;obtain⟨b,off,arr,ty,fz,h1,_,h3,h4⟩:=hp;exact⟨b,off,arr,ty,fz,h1,h3,h4⟩
 ·rename_i id r off
  split at hc
  ·rename_i e he
   split at hc
   ·rename_i qT
    split at hc
    ·rename_i cs0 wO;simp only[aA0]at hc;subst hc;obtain⟨vX,hid⟩:=Ay he;have hk:=S.ok e vX;rw[wO]at hk;obtain⟨b,arr,ty,h1,h2,h3,h4⟩:=hk;simp only[rd]at hp;obtain⟨b',qL,hv⟩:=hp (loc id) (by unfold cu Ab;rw[he];simp[qT]);rw[<-hid,h1]at qL;simp only[bF0,and_true]at qL;subst qL;refine⟨b,off,arr,ty,(0,0),hv,h2,?_⟩;simpa using Fb off cs0 arr 0 h4
    ·simp at hc
   ·simp at hc
  ·simp at hc
 ·rename_i id r k i j
  split at hc
  ·rename_i e he
   split at hc
   ·rename_i qT
    split at hc
    ·rename_i et k' bs es wO
     split at hc
     ·rename_i qN;subst qN;obtain⟨vX,hid⟩:=Ay he;have hk:=S.ok e vX;rw[wO]at hk;obtain⟨_,hk⟩:=hk;simp only[aY0]at hc;obtain⟨c0,yL,rfl⟩:=hc
      rcases hk with ⟨rfl,_⟩ | ⟨b,arr,cap,h1,h2,h3,h4,h5,h6,h7⟩
      ·simp at yL
      ·simp only[rd]at hp;obtain⟨b',qL,hv⟩:=hp (loc id) (by unfold cu Ab;rw[he];simp[qT]);rw[<-hid,h1]at qL;simp only[bF0,and_true]at qL;subst qL;have:=El k es arr 0 i c0 h7 yL;refine⟨b,i*k+j,arr,et,(0,0),hv,h3,?_⟩;have h8:=Fb j c0 arr _ this.2;simpa using h8
     ·simp at hc
    ·simp at hc
   ·simp at hc
  ·simp at hc
 ·simp at hc
theorem JF (S:St s.own loc M0 w.heap) {p:DVal} {v:Value} {k bs:Nat} {es:List (List DVal)} (hp:rd (cu s loc) (hm s loc M0) w.heap p v) (hc:AZ s.own p=some (k,bs,es)) :
  ∃a cap,v= .slice a es.length cap/\es.length<=cap/\cap<=maxLen/\es.length*bs<=150000000000000 /\
   (es=[]\/∃b off arr ty fz,a=some ⟨b,off,none⟩/\w.heap[b]? =some (.cells arr ty fz)/\Ec (cu s loc) (hm s loc M0) w.heap k es arr off):=by
 unfold AZ at hc
 split at hc
 ·simp only[aA0,aR0]at hc;obtain⟨rfl,rfl,rfl⟩:=hc;simp only[rd]at hp;obtain⟨a,cap,h1,h2,h3,h4,h5⟩:=hp;refine⟨a,cap,h1,h2,h3,h4,?_⟩
  rcases h5 with h5 | ⟨b,off,arr,ty,fz,g1,g2,g3,g4⟩
  ·exact .inl h5.1
  ·exact .inr ⟨b,off,arr,ty,fz,g1,g3,g4⟩
 ·rename_i id r
  split at hc
  ·rename_i e he
   split at hc
   ·rename_i qT
    split at hc
    ·rename_i et k' bs' es' wO;simp only[aA0,aR0]at hc;obtain⟨rfl,rfl,rfl⟩:=hc;obtain⟨vX,hid⟩:=Ay he;have hk:=S.ok e vX;rw[wO]at hk;obtain⟨wT,hk⟩:=hk;simp only[rd]at hp;have hv:=hp (loc id) (by unfold cu Ab;rw[he];simp[qT]);rw[<-hid]at hv
     rcases hk with ⟨rfl,_,h2⟩ | ⟨b,arr,cap,h1,h2,h3,h4,h5,h6,h7⟩
     ·refine⟨none,0,by rw[hv,h2];rfl,by simp,by unfold maxLen;omega,by simp,.inl rfl⟩
     ·exact⟨_,cap,by rw[hv,h2],h4,h5,wT,.inr ⟨b,0,arr,et,(0,0),rfl,h3,h7⟩⟩
    ·simp at hc
   ·simp at hc
  ·simp at hc
 ·rename_i id r k0 bs0 i n
  split at hc
  ·rename_i e he
   split at hc
   ·rename_i qT
    split at hc
    ·rename_i et k' bs' es' wO
     split at hc
     ·rename_i hb;obtain⟨rfl,rfl,hb⟩:=hb;simp only[aA0,aR0]at hc;obtain⟨rfl,rfl,rfl⟩:=hc;obtain⟨vX,hid⟩:=Ay he;have hk:=S.ok e vX;rw[wO]at hk;obtain⟨wT,hk⟩:=hk;simp only[rd]at hp;obtain⟨a,cap,rfl,g1,g2,_,g3,_⟩:=hp (loc id) (by unfold cu Ab;rw[he];simp[qT]);have qY:((es'.drop i).take n).length=n:=by simp;omega
      refine⟨a,cap,by rw[qY],by omega,g2,by rw[qY];exact Nat.le_trans (aZ0 _ (by omega:n<=es'.length)) wT,?_⟩
      by_cases h0:n=0
      ·subst h0;exact .inl (by simp)
      ·obtain⟨b,qS,rfl⟩:=g3 (by omega);rw[<-hid]at qS
       rcases hk with ⟨rfl,_⟩ | ⟨b',arr,cap',h1,h2,h3,h4,h5,h6,h7⟩
       ·simp at hb;omega
       ·rw[h1]at qS;simp only[bF0,and_true]at qS;subst qS;refine .inr ⟨b',i*k',arr,et,(0,0),rfl,h3,FN _ _ _ _ fun q cs hq=> ?_⟩;rw[eK0]at hq
        split at hq
        ·rw[cQ0]at hq;have:=El k' es' arr 0 (i+q) cs h7 hq
         rwa[bQ0,bN0]at this
        ·simp at hq
     ·simp at hc
    ·simp at hc
   ·simp at hc
  ·simp at hc
 ·simp at hc
theorem Fe_ {a:Act} (hs:∀i,rd (cu s loc) (hm s loc M0) w.heap (Bg s.slots i) (a.tmps.getD i Go.undef)) (x:Operand) :
  rd (cu s loc) (hm s loc M0) w.heap (ev s.slots x) (a.eval x):=by
 cases x with
 | tmp t=>exact hs t
 | const v=>exact Ad_ v
 | global g=>simp[ev,rd]
 | func f=>simp only[ev,rd,Act.eval];exact⟨#[], #[],rfl,by simp[Aw],by simp[Aw]⟩
theorem JE {t:TypeId} {b:Bool} (ht:tAgg P t=some b) (w:World):(isAgg t).run P w= .ok b w:=by
 unfold isAgg
 cases hu:P.underlying t with
 | none=>simp[tAgg,hu]at ht
 | some d =>
  rw[Sem.run_bind,run_underlying hu w];cases d<;>simp[tAgg,hu]at ht<;>subst ht<;>rfl
theorem BE {t:TypeId} {n:Nat} (ht:tCells P t=some n) (w:World):(sizeOf t).run P w= .ok n w:=by
 unfold tCells at ht
 cases hi:P.info? t with
 | none=>simp[hi]at ht
 | some i =>
  simp only[hi,dB0,aA0]at ht;simp[sizeOf,typeInfo,hi,ht]
theorem Dh (b o n:Nat):Addr.add ⟨b,o,none⟩ n=⟨b,o+n,none⟩:=by unfold Addr.add;split<;>simp_all
end
end Go.Dm
end
