/- Parts of a proof, laid together: EnA, EnB, EnC, EnD, EnD1, EnE. -/
import Derived.WalkKit
import Derived.Laws.Rows
import Derived.Laws.Cells
import Derived.Laws.StructEq
import Derived.MapKept
set_option linter.unusedSimpArgs false
set_option maxHeartbeats 8000000
set_option linter.unusedVariables false
set_option linter.unusedSectionVars false
namespace Go.Dm
theorem aA0 : type_of% @Option.some.injEq:= @Option.some.injEq
theorem aB0 : type_of% @List.getElem?_eq_some_iff:= @List.getElem?_eq_some_iff
theorem aC0 : type_of% @List.length_append:= @List.length_append
theorem aD0 : type_of% @List.getElem?_eq_getElem:= @List.getElem?_eq_getElem
theorem aE0 : type_of% @List.mem_cons_of_mem:= @List.mem_cons_of_mem
theorem aF0 : type_of% @List.mem_cons_self:= @List.mem_cons_self
theorem aG0 : type_of% @List.mem_singleton:= @List.mem_singleton
theorem aH0 : type_of% @Array.getElem?_eq_some_iff:= @Array.getElem?_eq_some_iff
theorem aI0 : type_of% @List.mem_append:= @List.mem_append
theorem aJ0 : type_of% @List.length_map:= @List.length_map
theorem aK0 : type_of% @Bool.false_eq_true:= @Bool.false_eq_true
theorem aL0 : type_of% @List.mem_cons:= @List.mem_cons
theorem aM0 : type_of% @Bool.and_eq_true:= @Bool.and_eq_true
theorem aN0 : type_of% @List.take_length:= @List.take_length
theorem aO0 : type_of% @ByteArray.size_append:= @ByteArray.size_append
theorem aP0 : type_of% @List.drop_eq_getElem_cons:= @List.drop_eq_getElem_cons
theorem aQ0 : type_of% @Nat.mul_le_mul_right:= @Nat.mul_le_mul_right
theorem aR0 : type_of% @List.append_assoc:= @List.append_assoc
theorem aS0 : type_of% @List.mem_append_left:= @List.mem_append_left
theorem aT0 : type_of% @List.length_take:= @List.length_take
theorem aU0 : type_of% @List.mem_map:= @List.mem_map
theorem aV0 : type_of% @List.mem_append_right:= @List.mem_append_right
theorem aW0 : type_of% @Array.getD_eq_getD_getElem?:= @Array.getD_eq_getD_getElem?
theorem aX0 : type_of% @List.map_append:= @List.map_append
theorem aY0 : type_of% @Prod.mk.injEq:= @Prod.mk.injEq
theorem aZ0 : type_of% @List.getD_eq_getElem?_getD:= @List.getD_eq_getElem?_getD
theorem bA0 : type_of% @List.all_eq_true:= @List.all_eq_true
theorem bB0 : type_of% @Int.natCast_add:= @Int.natCast_add
theorem bC0 : type_of% @List.getElem?_append_left:= @List.getElem?_append_left
theorem bD0 : type_of% @List.take_add_one:= @List.take_add_one
theorem bE0 : type_of% @List.drop_length:= @List.drop_length
theorem bF0 : type_of% @List.getElem?_cons_zero:= @List.getElem?_cons_zero
theorem bG0 : type_of% @List.getElem?_append_right:= @List.getElem?_append_right
theorem bH0 : type_of% @Option.map_eq_some_iff:= @Option.map_eq_some_iff
theorem bI0 : type_of% @List.mem_of_getElem?:= @List.mem_of_getElem?
theorem bJ0 : type_of% @List.getElem_of_mem:= @List.getElem_of_mem
theorem bK0 : type_of% @List.getElem?_map:= @List.getElem?_map
theorem bL0 : type_of% @List.cons.injEq:= @List.cons.injEq
theorem bM0 : type_of% @List.append_nil:= @List.append_nil
theorem bN0 : type_of% @Bool.false_and:= @Bool.false_and
theorem bO0 : type_of% @Bool.true_and:= @Bool.true_and
theorem bP0 : type_of% @List.eq_nil_of_length_eq_zero:= @List.eq_nil_of_length_eq_zero
theorem bQ0 : type_of% @Option.isSome_iff_exists:= @Option.isSome_iff_exists
theorem bR0 : type_of% @List.take_succ_eq_append_getElem:= @List.take_succ_eq_append_getElem
theorem bS0 : type_of% @List.pairwise_cons:= @List.pairwise_cons
theorem bT0 : type_of% @List.getElem?_cons_succ:= @List.getElem?_cons_succ
theorem bU0 : type_of% @Array.length_toList:= @Array.length_toList
theorem bV0 : type_of% @List.mem_flatMap:= @List.mem_flatMap
theorem bW0 : type_of% @List.any_eq_true:= @List.any_eq_true
theorem bX0 : type_of% @Nat.zero_add:= @Nat.zero_add
theorem bY0 : type_of% @Nat.mul_le_mul_left:= @Nat.mul_le_mul_left
theorem bZ0 : type_of% @Array.getElem?_push:= @Array.getElem?_push
theorem cA0 : type_of% @Nat.add_mul:= @Nat.add_mul
theorem cB0 : type_of% @List.nodup_append:= @List.nodup_append
theorem cC0 : type_of% @Option.getD_some:= @Option.getD_some
theorem cD0 : type_of% @List.length_drop:= @List.length_drop
theorem cE0 : type_of% @List.getElem?_take_of_lt:= @List.getElem?_take_of_lt
theorem cF0 : type_of% @List.map_map:= @List.map_map
theorem cG0 : type_of% @List.length_filter_le:= @List.length_filter_le
theorem cH0 : type_of% @List.foldl_append:= @List.foldl_append
theorem cI0 : type_of% @Int.toNat_natCast:= @Int.toNat_natCast
theorem cJ0 : type_of% @Array.getElem?_eq_getElem:= @Array.getElem?_eq_getElem
theorem cK0 : type_of% @List.mem_of_mem_take:= @List.mem_of_mem_take
theorem cL0 : type_of% @List.take_of_length_le:= @List.take_of_length_le
theorem cM0 : type_of% @List.foldl_cons:= @List.foldl_cons
theorem cN0 : type_of% @Nat.lt_of_lt_of_le:= @Nat.lt_of_lt_of_le
theorem cO0 : type_of% @Array.getElem?_modify:= @Array.getElem?_modify
theorem cP0 : type_of% @List.mem_range:= @List.mem_range
theorem cQ0 : type_of% @List.mem_filter:= @List.mem_filter
theorem cR0 : type_of% @List.map_congr_left:= @List.map_congr_left
theorem cS0 : type_of% @List.flatMap_cons:= @List.flatMap_cons
theorem cT0 : type_of% @Nat.add_zero:= @Nat.add_zero
theorem cU0 : type_of% @List.drop_of_length_le:= @List.drop_of_length_le
theorem cV0 : type_of% @Nat.zero_le:= @Nat.zero_le
theorem cW0 : type_of% @List.nodup_cons:= @List.nodup_cons
theorem cX0 : type_of% @List.all_cons:= @List.all_cons
theorem cY0 : type_of% @List.getElem_mem:= @List.getElem_mem
theorem cZ0 : type_of% @List.any_eq_false:= @List.any_eq_false
theorem dA0 : type_of% @Nat.add_assoc:= @Nat.add_assoc
theorem dB0 : type_of% @List.getElem?_drop:= @List.getElem?_drop
theorem dC0 : type_of% @List.filter_append:= @List.filter_append
theorem dD0 : type_of% @Array.getElem?_setIfInBounds:= @Array.getElem?_setIfInBounds
theorem dE0 : type_of% @List.range_succ:= @List.range_succ
theorem dF0 : type_of% @List.mem_map_of_mem:= @List.mem_map_of_mem
theorem dG0 : type_of% @List.length_replicate:= @List.length_replicate
theorem dH0 : type_of% @List.getElem?_eq_none:= @List.getElem?_eq_none
theorem dI0 : type_of% @Bool.or_eq_true:= @Bool.or_eq_true
theorem dJ0 : type_of% @Option.map_some:= @Option.map_some
theorem dK0 : type_of% @Bool.and_false:= @Bool.and_false
theorem dL0 : type_of% @List.take_succ_cons:= @List.take_succ_cons
theorem dM0 : type_of% @List.size_toArray:= @List.size_toArray
theorem dN0 : type_of% @List.pairwise_map:= @List.pairwise_map
theorem dO0 : type_of% @List.sum_cons:= @List.sum_cons
theorem dP0 : type_of% @Nat.le_of_eq:= @Nat.le_of_eq
theorem dQ0 : type_of% @List.getElem?_toArray:= @List.getElem?_toArray
theorem dR0 : type_of% @List.map_set:= @List.map_set
theorem dS0 : type_of% @Bool.eq_false_iff:= @Bool.eq_false_iff
theorem dT0 : type_of% @List.flatMap_append:= @List.flatMap_append
theorem dU0 : type_of% @List.any_append:= @List.any_append
theorem dV0 : type_of% @Array.getElem?_append_left:= @Array.getElem?_append_left
theorem dW0 : type_of% @List.map_toArray:= @List.map_toArray
theorem dX0 : type_of% @Bool.not_eq_true:= @Bool.not_eq_true
theorem dY0 : type_of% @List.length_range:= @List.length_range
theorem dZ0 : type_of% @Array.getElem?_setIfInBounds_ne:= @Array.getElem?_setIfInBounds_ne
theorem eA0 : type_of% @Nat.sub_self:= @Nat.sub_self
theorem eB0 : type_of% @Nat.mul_comm:= @Nat.mul_comm
theorem eC0 : type_of% @List.mergeSort_perm:= @List.mergeSort_perm
theorem eD0 : type_of% @List.getElem?_replicate:= @List.getElem?_replicate
theorem eE0 : type_of% @List.getElem?_range:= @List.getElem?_range
theorem eF0 : type_of% @List.drop_succ_cons:= @List.drop_succ_cons
theorem eG0 : type_of% @List.take_append_of_le_length:= @List.take_append_of_le_length
theorem eH0 : type_of% @List.not_mem_nil:= @List.not_mem_nil
theorem eI0 : type_of% @List.drop_append_of_le_length:= @List.drop_append_of_le_length
theorem eJ0 : type_of% @Nat.mul_le_mul:= @Nat.mul_le_mul
theorem eK0 : type_of% @Array.getElem?_setIfInBounds_self_of_lt:= @Array.getElem?_setIfInBounds_self_of_lt
theorem eL0 : type_of% @Nat.max_le:= @Nat.max_le
theorem eM0 : type_of% @List.map_take:= @List.map_take
theorem eN0 : type_of% @Bool.not_eq_true':= @Bool.not_eq_true'
theorem eO0 : type_of% @Bool.false_or:= @Bool.false_or
theorem eP0 : type_of% @List.take_zero:= @List.take_zero
theorem eQ0 : type_of% @List.drop_zero:= @List.drop_zero
theorem eR0 : type_of% @Nat.mod_eq_of_lt:= @Nat.mod_eq_of_lt
theorem eS0 : type_of% @Array.toList_map:= @Array.toList_map
theorem eT0 : type_of% @Nat.sub_zero:= @Nat.sub_zero
theorem eU0 : type_of% @Array.getElem?_replicate:= @Array.getElem?_replicate
theorem eV0 : type_of% @Nat.not_lt_zero:= @Nat.not_lt_zero
theorem eW0 : type_of% @List.set_cons_zero:= @List.set_cons_zero
theorem eX0 : type_of% @List.getElem?_set_self:= @List.getElem?_set_self
theorem eY0 : type_of% @List.ext_getElem?:= @List.ext_getElem?
theorem eZ0 : type_of% @ByteArray.data_append:= @ByteArray.data_append
theorem fA0 : type_of% @Array.getElem?_toList:= @Array.getElem?_toList
theorem fB0 : type_of% @Bool.and_true:= @Bool.and_true
theorem fC0 : type_of% @Option.map_none:= @Option.map_none
theorem fD0 : type_of% @List.findIdx_eq:= @List.findIdx_eq
theorem fE0 : type_of% @List.all_append:= @List.all_append
theorem fF0 : type_of% @Bool.eq_iff_iff:= @Bool.eq_iff_iff
theorem fG0 : type_of% @Nat.eq_zero_or_pos:= @Nat.eq_zero_or_pos
theorem fH0 : type_of% @List.getElem?_take:= @List.getElem?_take
theorem fI0 : type_of% @List.all_nil:= @List.all_nil
theorem fJ0 : type_of% @List.take_take:= @List.take_take
theorem fK0 : type_of% @List.pairwise_iff_getElem:= @List.pairwise_iff_getElem
theorem fL0 : type_of% @List.drop_drop:= @List.drop_drop
theorem fM0 : type_of% @List.flatten_cons:= @List.flatten_cons
theorem fN0 : type_of% @List.length_eq_zero_iff:= @List.length_eq_zero_iff
theorem fO0 : type_of% @List.dropLast_singleton:= @List.dropLast_singleton
theorem fP0 : type_of% @List.dropLast_cons_cons:= @List.dropLast_cons_cons
theorem fQ0 : type_of% @List.zipIdx_cons:= @List.zipIdx_cons
theorem fR0 : type_of% @List.countP_cons:= @List.countP_cons
end Go.Dm
section
namespace Go.Dm
inductive DVal where
 | any
 | undef
 | sel (c:Bool) (d:DVal)
 | bool (b:Bool)
 | int (k:IntKind) (n:Int)
 | str (s:ByteArray)
 | nilp
 | ref (cs:List DVal)
 | bx (id r off:Nat)
 | rx (id r k i j:Nat)
 | nilsl
 | esl
 | sl (k bs:Nat) (es:List (List DVal))
 | osl (id r:Nat)
 | vw (id r k bs i n:Nat)
 | nilmp
 | mp (ks vs:List DVal)
 | omp (id r:Nat)
 | pk (id r:Nat)
 | nilfn
 | fn (f:Fn) (first caps:List DVal)
 | nilifc
 | ifc (t:TypeId) (d:DVal)
 | agg (cs:List DVal)
 | tup (vs:List DVal)
 deriving Inhabited
structure Loc where
 blks:List Nat
 hdr:Value
def Sc (es:Array MapEntry) (clk:Nat):Prop:=(es.toList.map (·.born)).Nodup/\∀e∈es.toList,e.born<clk
def MF : IntKind->Int->Prop
 | .i64,n=> -9223372036854775808<=n/\n<=9223372036854775807
 | .u64,n=>0<=n/\n<=18446744073709551615
 | .u8,n=>0<=n/\n<=255
 | .i8,n=> -128<=n/\n<=127
 | .i16,n=> -32768<=n/\n<=32767
 | .u16,n=>0<=n/\n<=65535
 | .i32,n=> -2147483648<=n/\n<=2147483647
 | .u32,n=>0<=n/\n<=4294967295
abbrev Gp := Nat->Nat->Option Loc
section
variable (cur : Gp) (M : List Nat) (h : Array Obj)
mutual
def rd : DVal->Value->Prop
 | .any,_=>True
 | .undef,v=>v=Go.undef
 | .sel c d,v=>(c=true->rd d v)/\(c=false->v=Go.undef)
 | .bool b,v=>v= .bool b
 | .int k n,v=>v= .int k n/\MF k n
 | .str s,v=>v= .string s/\s.size<=maxLen
 | .nilp,v=>v= .pointer none
 | .ref cs,v=>∃b off arr ty fz,v= .pointer (some ⟨b,off,none⟩)/\b∉M/\h[b]? =some (.cells arr ty fz)/\ET cs arr off
 | .bx id r off,v=>∀l,cur id r=some l->∃b,l.blks=[b]/\v= .pointer (some ⟨b,off,none⟩)
 | .rx id r k i j,v=>∀l,cur id r=some l->∃b,l.blks=[b]/\v= .pointer (some ⟨b,i*k+j,none⟩)
 | .nilsl,v=>v= .slice none 0 0
 | .esl,v=>∃ad cap,v= .slice (some ad) 0 cap/\cap<=maxLen
 | .sl k bs es,v=>∃a cap,v= .slice a es.length cap/\es.length<=cap/\cap<=maxLen/\es.length*bs<=150000000000000 /\
  ((es=[]/\(a=none->cap=0))\/∃b off arr ty fz,a=some ⟨b,off,none⟩/\b∉M/\h[b]? =some (.cells arr ty fz)/\Fz k es arr off)
 | .osl id r,v=>∀l,cur id r=some l->v=l.hdr
 | .vw id r k _ i n,v=>∀l,cur id r=some l->∃a cap,v= .slice a n cap/\n<=cap/\cap<=maxLen/\(a=none->cap=0)/\(0<n->∃b,l.blks=[b]/\a=some ⟨b,i*k,none⟩)/\(i=0->∃n0,l.hdr= .slice a n0 cap)
 | .nilmp,v=>v= .map none
 | .mp ks vs,v=>∃b es clk,v= .map (some b)/\b∉M/\h[b]? =some (.map es clk)/\Sc es clk/\AL ks (es.toList.map (·.key))/\AL vs (es.toList.map (·.val))
 | .omp id r,v=>∀l,cur id r=some l->∃b,l.blks=[b]/\v= .map (some b)
 | .pk id r,v=>∀l,cur id r=some l->v=l.hdr
 | .nilfn,v=>v= .nilFunc
 | .fn f us cs,v=>∃us' cs':Array Value,v= .func f us' cs'/\AL us us'.toList/\AL cs cs'.toList
 | .nilifc,v=>v= .nilIface
 | .ifc t d,v=>∃u,v= .iface t u/\rd d u
 | .agg cs,v=>∃us:Array Value,v= .agg us/\AL cs us.toList
 | .tup cs,v=>∃us:Array Value,v= .tuple us/\AL cs us.toList
def ET : List DVal->Array Value->Nat->Prop
 | [],_,_=>True
 | d::ds,arr,o=>(∃v,arr[o]? =some v/\v.oneCell'=true/\rd d v)/\ET ds arr (o+1)
def Fz (k:Nat):List (List DVal)->Array Value->Nat->Prop
 | [],_,_=>True
 | cs::es,arr,o=>cs.length=k/\ET cs arr o/\Fz k es arr (o+k)
def AL : List DVal->List Value->Prop
 | [],vs=>vs=[]
 | d::ds,vs=>∃v r,vs=v::r/\rd d v/\AL ds r
end
end
mutual
def mx : DVal->Nat
 | .ref cs=>AV cs
 | .bx _ r _=>r+1
 | .rx _ r _ _ _=>r+1
 | .osl _ r=>r+1
 | .vw _ r _ _ _ _=>r+1
 | .mp ks vs=>max (AV ks) (AV vs)
 | .omp _ r=>r+1
 | .pk _ r=>r+1
 | .sl _ _ es=>BK es
 | .fn _ us cs=>max (AV us) (AV cs)
 | .ifc _ d=>mx d
 | .sel c d=>if c then mx d else 0
 | .agg cs=>AV cs
 | .tup cs=>AV cs
 | _=>0
def AV : List DVal->Nat
 | []=>0
 | d::ds=>max (mx d) (AV ds)
def BK : List (List DVal)->Nat
 | []=>0
 | cs::es=>max (AV cs) (BK es)
end
section
variable {cur cur' : Gp} {M M' : List Nat} {h h' : Array Obj} {n : Nat}
def IZ : Obj->Bool
 | .cells _ _ _=>true
 | .map _ _=>true
 | _=>false
structure Weak (cur cur':Gp) (M M':List Nat) (h h':Array Obj) (n:Nat):Prop where
 c:∀id r l,r<n->cur' id r=some l->cur id r=some l
 b:∀b o,b∉M->IZ o=true->h[b]? =some o->h'[b]? =some o
 m:∀b o,b∉M->IZ o=true->h[b]? =some o->b∉M'
mutual
theorem Db (W:Weak cur cur' M M' h h' n):∀(d:DVal) (v:Value),mx d<=n->rd cur M h d v->rd cur' M' h' d v
 | .any,_,_,_=>by simp[rd]
 | .undef,_,_,hr=>by simpa[rd]using hr
 | .sel c d,v,hm,hr=>by
  simp only[mx]at hm;simp only[rd]at hr |-;exact⟨fun h=>Db W d v (by rw[if_pos h]at hm;exact hm) (hr.1 h),hr.2⟩
 | .bool _,_,_,hr=>by simpa[rd]using hr
 | .int _ _,_,_,hr=>by simpa[rd]using hr
 | .str _,_,_,hr=>by simpa[rd]using hr
 | .nilp,_,_,hr=>by simpa[rd]using hr
 | .ref cs,v,hm,hr=>by
  simp only[mx]at hm;simp only[rd]at hr |-;obtain⟨b,off,arr,ty,fz,h1,h2,h3,h4⟩:=hr;exact⟨b,off,arr,ty,fz,h1,W.m b _ h2 rfl h3,W.b b _ h2 rfl h3,GX W cs arr off hm h4⟩
 | .bx id r off,v,hm,hr=>by
  simp only[mx]at hm;simp only[rd]at hr |-;exact fun l hl=>hr l (W.c id r l (by omega) hl)
 | .rx id r k i j,v,hm,hr=>by
  simp only[mx]at hm;simp only[rd]at hr |-;exact fun l hl=>hr l (W.c id r l (by omega) hl)
 | .nilsl,_,_,hr=>by simpa[rd]using hr
 | .esl,_,_,hr=>by simpa[rd]using hr
 | .sl k bs es,v,hm,hr=>by
  simp only[mx]at hm;simp only[rd]at hr |-;obtain⟨a,cap,h1,h2,yU,h2'',h3⟩:=hr;refine⟨a,cap,h1,h2,yU,h2'',h3.imp id ?_⟩;rintro⟨b,off,arr,ty,fz,g1,g2,g3,g4⟩;exact⟨b,off,arr,ty,fz,g1,W.m b _ g2 rfl g3,W.b b _ g2 rfl g3,Dk W k es arr off hm g4⟩
 | .osl id r,v,hm,hr=>by
  simp only[mx]at hm;simp only[rd]at hr |-;exact fun l hl=>hr l (W.c id r l (by omega) hl)
 | .vw id r k bs i n,v,hm,hr=>by
  simp only[mx]at hm;simp only[rd]at hr |-;exact fun l hl=>hr l (W.c id r l (by omega) hl)
 | .nilmp,_,_,hr=>by simpa[rd]using hr
 | .mp ks vs,v,hm,hr=>by
  simp only[mx]at hm;simp only[rd]at hr |-;obtain⟨b,es,clk,h1,h2,h3,h4,h5,h6⟩:=hr;exact⟨b,es,clk,h1,W.m b _ h2 rfl h3,W.b b _ h2 rfl h3,h4,Bn W ks _ (by omega) h5,Bn W vs _ (by omega) h6⟩
 | .omp id r,v,hm,hr=>by
  simp only[mx]at hm;simp only[rd]at hr |-;exact fun l hl=>hr l (W.c id r l (by omega) hl)
 | .pk id r,v,hm,hr=>by
  simp only[mx]at hm;simp only[rd]at hr |-;exact fun l hl=>hr l (W.c id r l (by omega) hl)
 | .nilfn,_,_,hr=>by simpa[rd]using hr
 | .fn f us cs,v,hm,hr=>by
  simp only[mx]at hm;simp only[rd]at hr |-;obtain⟨us',cs',h1,h2,h3⟩:=hr;exact⟨us',cs',h1,Bn W us _ (by omega) h2,Bn W cs _ (by omega) h3⟩
 | .nilifc,_,_,hr=>by simpa[rd]using hr
 | .ifc t d,v,hm,hr=>by
  simp only[mx]at hm;simp only[rd]at hr |-;obtain⟨u,h1,h2⟩:=hr;exact⟨u,h1,Db W d u hm h2⟩
 | .agg cs,v,hm,hr=>by
  simp only[mx]at hm;simp only[rd]at hr |-;obtain⟨us,h1,h2⟩:=hr;exact⟨us,h1,Bn W cs _ hm h2⟩
 | .tup cs,v,hm,hr=>by
  simp only[mx]at hm;simp only[rd]at hr |-;obtain⟨us,h1,h2⟩:=hr;exact⟨us,h1,Bn W cs _ hm h2⟩
theorem GX (W:Weak cur cur' M M' h h' n):∀(ds:List DVal) (arr:Array Value) (o:Nat),AV ds<=n->ET cur M h ds arr o->ET cur' M' h' ds arr o
 | [],_,_,_,_=>by simp[ET]
 | d::ds,arr,o,hm,hr=>by
  simp only[AV]at hm;simp only[ET]at hr |-;obtain⟨⟨v,h1,kY,h2⟩,h3⟩:=hr;exact⟨⟨v,h1,kY,Db W d v (by omega) h2⟩,GX W ds arr _ (by omega) h3⟩
theorem Dk (W:Weak cur cur' M M' h h' n):∀(k:Nat) (es:List (List DVal)) (arr:Array Value) (o:Nat),BK es<=n->Fz cur M h k es arr o->Fz cur' M' h' k es arr o
 | _,[],_,_,_,_=>by simp[Fz]
 | k,cs::es,arr,o,hm,hr=>by
  simp only[BK]at hm;simp only[Fz]at hr |-;obtain⟨h1,h2,h3⟩:=hr;exact⟨h1,GX W cs arr o (by omega) h2,Dk W k es arr _ (by omega) h3⟩
theorem Bn (W:Weak cur cur' M M' h h' n):∀(ds:List DVal) (vs:List Value),AV ds<=n->AL cur M h ds vs->AL cur' M' h' ds vs
 | [],_,_,hr=>by simpa[AL]using hr
 | d::ds,vs,hm,hr=>by
  simp only[AV]at hm;simp only[AL]at hr |-;obtain⟨v,r,h1,h2,h3⟩:=hr;exact⟨v,r,h1,Db W d v (by omega) h2,Bn W ds r (by omega) h3⟩
end
end
class DMode where
 dr:Bool
instance (priority:=low) laxMode:DMode:=⟨false⟩
abbrev LX : DMode:=⟨true⟩
variable [DMode]
structure Abs where
 J:List Nat->List Nat->Value->Array Obj->Prop
 weak:∀M M' bl hd h h',(∀b o,b∉M->IZ o=true->h[b]? =some o->h'[b]? =some o)->(∀b o,b∉M->IZ o=true->h[b]? =some o->b∉M')->(∀b o,b∈bl->h[b]? =some o->h'[b]? =some o)->J M bl hd h->J M' bl hd h'
 one:∀M bl hd h,J M bl hd h->hd.oneCell'=true/\hd.cells= #[hd]
 nd:∀M bl hd h,J M bl hd h->∀b∈bl,∀c,h[b]? ≠some (.deferred c)
inductive DObj where
 | box (cs:List DVal)
 | row (et:TypeId) (k bs:Nat) (es:List (List DVal))
 | map (ks vs:List DVal)
 | abs (A:Abs)
structure Ent where
 id:Nat
 r:Nat
 obj:DObj
structure DS where
 slots:List (Nat×DVal)
 own:List Ent
def BL : List (Nat×DVal)->Nat->DVal
 | [],_=> .any
 | (j,d)::t,i=>if i=j then d else BL t i
def Ax : List Ent->Nat->Option Ent
 | [],_=>none
 | e::t,id=>if e.id=id then some e else Ax t id
def Tu_ : List Ent->Nat->DObj->List Ent
 | [],_,_=>[]
 | e::t,id,o=>if e.id=id then ⟨e.id,e.r,o⟩::t else e::Tu_ t id o
def DH : List Ent->Nat->List Ent
 | [],_=>[]
 | e::t,id=>if e.id=id then DH t id else e::DH t id
def Nv : List (Nat×DVal)->Nat
 | []=>0
 | p::t=>max (mx p.2) (Nv t)
def GC : DObj->Nat
 | .box cs=>AV cs
 | .row _ _ _ es=>BK es
 | .map ks vs=>max (AV ks) (AV vs)
 | .abs _=>0
def Jc : List Ent->Nat
 | []=>0
 | e::t=>max (max (e.r+1) (GC e.obj)) (Jc t)
theorem TQ (l:List (Nat×DVal)) (i:Nat):mx (BL l i)<=Nv l:=by
 induction l with
 | nil=>simp[BL,mx,Nv]
 | cons p t ih =>
  obtain⟨j,d⟩:=p;simp only[BL,Nv]
  split<;>omega
theorem BG {own:List Ent} {e:Ent} (h:e∈own):e.r<Jc own/\GC e.obj<=Jc own:=by
 induction own with
 | nil=>cases h
 | cons a t ih =>
  simp only[Jc]
  rcases aL0.1 h with rfl | h
  ·omega
  ·have:=ih h;omega
def Aj (own:List Ent) (loc:Nat->Loc):Gp:=fun id r =>
 match Ax own id with
 | some e=>if e.r=r then some (loc id)else none
 | none=>none
def Ad (own:List Ent) (loc:Nat->Loc):List Nat:=own.flatMap fun e=>(loc e.id).blks
section
variable (cur : Gp) (M : List Nat) (h : Array Obj)
def Nh (l:Loc):DObj->Prop
 | .box cs=>∃b arr ty,l.blks=[b]/\h[b]? =some (.cells arr ty (0,0))/\arr.size=cs.length/\ET cur M h cs arr 0
 | .row et k bs es=>es.length*bs<=150000000000000/\((es=[]/\l.blks=[]/\l.hdr= .slice none 0 0) \/
  ∃b arr cap,l.blks=[b]/\l.hdr= .slice (some ⟨b,0,none⟩) es.length cap/\h[b]? =some (.cells arr et (0,0))/\es.length<=cap/\cap<=maxLen/\cap*k=arr.size/\Fz cur M h k es arr 0)
 | .map ks vs=>∃b es clk,l.blks=[b]/\h[b]? =some (.map es clk)/\Sc es clk/\AL cur M h ks (es.toList.map (·.key))/\AL cur M h vs (es.toList.map (·.val))
 | .abs A=>A.J M l.blks l.hdr h
end
theorem BF {cur cur':Gp} {M M':List Nat} {h h':Array Obj} {n:Nat} {l:Loc} {obj:DObj} (W:Weak cur cur' M M' h h' n) (hn:GC obj<=n)
  (keep:∀b o,b∈l.blks->h[b]? =some o->h'[b]? =some o) (hk:Nh cur M h l obj):Nh cur' M' h' l obj:=by
 cases obj with
 | box cs =>
  simp only[GC]at hn;obtain⟨b,arr,ty,h1,h2,h3,h4⟩:=hk;exact⟨b,arr,ty,h1,keep b _ (by simp[h1]) h2,h3,GX W cs arr 0 hn h4⟩
 | row et k bs es =>
  simp only[GC]at hn;obtain⟨h0,hk⟩:=hk;refine⟨h0,hk.imp id ?_⟩;rintro⟨b,arr,cap,h1,h2,h3,h4,h5,h6,h7⟩;exact⟨b,arr,cap,h1,h2,keep b _ (by simp[h1]) h3,h4,h5,h6,Dk W k es arr 0 hn h7⟩
 | map ks vs =>
  simp only[GC]at hn;obtain⟨b,es,clk,h1,h2,h3,h4,h5⟩:=hk;exact⟨b,es,clk,h1,keep b _ (by simp[h1]) h2,h3,Bn W ks _ (by omega) h4,Bn W vs _ (by omega) h5⟩
 | abs A=>exact A.weak M M' l.blks l.hdr h h' W.b W.m keep hk
structure St (own:List Ent) (loc:Nat->Loc) (M0:List Nat) (h:Array Obj):Prop where
 nd:(own.map (·.id)).Nodup
 bl:(Ad own loc).Nodup
 ap:∀b∈Ad own loc,b∉M0
 lt:∀b∈Ad own loc++M0,b<h.size
 ok:∀e∈own,Nh (Aj own loc) (Ad own loc++M0) h (loc e.id) e.obj
structure Upd (H:List Nat) (w w':World):Prop where
 os:w'.os=w.os
 tape:w'.tape=w.tape
 output:w'.output=w.output
 drawn:DMode.dr=true->w.drawn<=w'.drawn
 size:w.heap.size<=w'.heap.size
 blk:∀b,b<w.heap.size->b∉H->w'.heap[b]? =w.heap[b]?
theorem Upd.refl (H:List Nat) (w:World):Upd H w w:=⟨rfl,rfl,rfl,fun _=>Nat.le_refl _,Nat.le_refl _,fun _ _ _=>rfl⟩
theorem Upd.trans {H H':List Nat} {a b c:World} (h:Upd H a b) (k:Upd H' b c) (hh:∀x∈H',x∈H\/a.heap.size<=x):Upd H a c :=
 ⟨k.os.trans h.os,k.tape.trans h.tape,k.output.trans h.output,fun hd=>Nat.le_trans (h.drawn hd) (k.drawn hd),Nat.le_trans h.size k.size,fun x hx hn =>
  (k.blk x (cN0 hx h.size) (fun hm=>by rcases hh x hm with h1 | h1;exact hn h1;omega)).trans (h.blk x hx hn)⟩
theorem Upd.alloc (H:List Nat) (w:World) (o:Obj):Upd H w (w.alloc o) :=
 ⟨rfl,rfl,rfl,fun _=>Nat.le_refl _,by simp,fun b hb _=>by simp only[World.alloc,bZ0];rw[if_neg (by omega)]⟩
theorem Upd.drew (H:List Nat) (w:World):Upd H w w.drew:=⟨rfl,rfl,rfl,fun _=>by simp,Nat.le_refl _,fun _ _ _=>rfl⟩
theorem Upd.nil {H:List Nat} {w w':World} (h:Upd [] w w'):Upd H w w':=⟨h.os,h.tape,h.output,h.drawn,h.size,fun b hb _=>h.blk b hb (by simp)⟩
structure Base where
 own0:List Ent
 loc0:Nat->Loc
 M0:List Nat
 N:Nat
 w0:World
 nt:Nat
 ro:Option Nat:=none
 hN:N<=1:=by decide
 nd:Nat
 hnd:nd<=w0.heap.size
def RX_ (B:Base) (M:List Nat) (a:Act) (h:Array Obj):Prop :=
 ∃rs:List Nat,a.defers=rs.map (fun r=>{ target:= .collected r,args:= #[] })/\rs.Nodup/\(∀r∈rs,h[r]? =some (.deferred (some []))/\B.nd<=r/\r∉M)/\(B.ro≠none->rs=[])
theorem RX_.keep {B:Base} {M M' H:List Nat} {a a':Act} {w w':World} (hd:RX_ B M a w.heap) (ha:a'.defers=a.defers)
  (hu:Upd H w w') (hH:∀x∈H,x∈M) (hm:∀b∈M',b∈M\/w.heap.size<=b):RX_ B M' a' w'.heap:=by
 obtain⟨rs,h1,h0,h2,h3⟩:=hd;refine⟨rs,ha.trans h1,h0,fun r hr=> ?_,h3⟩;obtain⟨g1,g2,g3⟩:=h2 r hr;have qV:=(aH0.1 g1).1;refine⟨by rw[hu.blk r qV (fun h=>g3 (hH r h))];exact g1,g2,fun h=> ?_⟩
 rcases hm r h with h | h
 ·exact g3 h
 ·omega
structure Rel (B:Base) (s:DS) (a:Act) (w:World) (loc:Nat->Loc):Prop where
 st:St s.own loc B.M0 w.heap
 upd:Upd (Ad B.own0 B.loc0) B.w0 w
 new:∀b∈Ad s.own loc,b∈Ad B.own0 B.loc0\/B.w0.heap.size<=b
 ver:∀e∈s.own,e.r<B.N->Aj B.own0 B.loc0 e.id e.r=some (loc e.id)
 sl:∀i,rd (Aj s.own loc) (Ad s.own loc++B.M0) w.heap (BL s.slots i) (a.tmps.getD i Go.undef)
 nt:a.tmps.size=B.nt
 df:RX_ B (Ad s.own loc++B.M0) a w.heap
theorem AN {own:List Ent} {id:Nat} {e:Ent} (h:Ax own id=some e):e∈own/\e.id=id:=by
 induction own with
 | nil=>simp[Ax]at h
 | cons a t ih =>
  simp only[Ax]at h
  split at h
  ·simp only[aA0]at h;subst h;exact⟨aF0,by assumption⟩
  ·have:=ih h;exact⟨aE0 _ this.1,this.2⟩
theorem CP {own:List Ent} (nd:(own.map (·.id)).Nodup) {e:Ent} (h:e∈own):Ax own e.id=some e:=by
 induction own with
 | nil=>cases h
 | cons a t ih =>
  simp only[List.map_cons,cW0]at nd;simp only[Ax]
  rcases aL0.1 h with rfl | h
  ·simp
  ·rw[if_neg,ih nd.2 h];intro he;exact nd.1 (he▸dF0 (f:=(·.id)) h)
theorem Cj {own:List Ent} {loc:Nat->Loc} {id r:Nat} {l:Loc} (h:Aj own loc id r=some l):∃e∈own,e.id=id/\e.r=r/\l=loc id:=by
 unfold Aj at h
 split at h
 ·rename_i e he
  split at h
  ·simp only[aA0]at h;obtain⟨h1,h2⟩:=AN he;exact⟨e,h1,h2,by assumption,h.symm⟩
  ·simp at h
 ·simp at h
theorem Bw {own:List Ent} {loc:Nat->Loc} {e:Ent} {b:Nat} (h:e∈own) (hb:b∈(loc e.id).blks):b∈Ad own loc :=
 bV0.2 ⟨e,h,hb⟩
theorem Gt {own own':List Ent} {loc loc':Nat->Loc} {M0:List Nat} {w w':World} {n:Nat}
  (gH:Upd (Ad own loc) w w') (wV:∀b∈Ad own' loc',b∈Ad own loc\/w.heap.size<=b)
  (yQ:∀e∈own',e.r<n->Aj own loc e.id e.r=some (loc' e.id)) :
  Weak (Aj own loc) (Aj own' loc') (Ad own loc++M0) (Ad own' loc'++M0) w.heap w'.heap n where
 c:=by
  intro id r l hr hl;obtain⟨e,he,rfl,rfl,rfl⟩:=Cj hl;exact yQ e he hr
 b:=by
  intro b o hb _ ho;have qV:b<w.heap.size:=(aH0.1 ho).1;rw[gH.blk b qV (fun h=>hb (aS0 _ h))];exact ho
 m:=by
  intro b o hb _ ho hm;have qV:b<w.heap.size:=(aH0.1 ho).1
  rcases aI0.1 hm with h | h
  ·rcases wV b h with h1 | h1
   ·exact hb (aS0 _ h1)
   ·omega
  ·exact hb (aV0 _ h)
theorem Pd_ (a:Act) (dst:Option Nat) (v:Value) (i:Nat) (hd:∀d,dst=some d->d<a.tmps.size) :
  (a.put dst v).tmps.getD i Go.undef=if dst=some i then v else a.tmps.getD i Go.undef:=by
 cases dst with
 | none=>simp[Act.put]
 | some d =>
  have:=hd d rfl;simp only[Act.put,aW0,dD0,aA0]
  by_cases h:d=i
  ·subst h;simp[this]
  ·simp[h]
theorem size_put (a:Act) (dst:Option Nat) (v:Value):(a.put dst v).tmps.size=a.tmps.size:=by
 cases dst<;>simp[Act.put]
theorem GS_ (a:Act) (dst:Option Nat) (v:Value):(a.put dst v).defers=a.defers:=by
 cases dst<;>rfl
def Ce (l:List (Nat×DVal)):Option Nat->DVal->List (Nat×DVal)
 | some i,d=>(i,d)::l
 | none,_=>l
theorem Rel.step {B:Base} {s:DS} {a:Act} {w w':World} {loc loc':Nat->Loc} {own':List Ent} {n:Nat} {v:Value} {d:DVal} {dst:Option Nat}
  (R:Rel B s a w loc) (hn:B.N<=n) (hs:Nv s.slots<=n) (wY:∀i,dst=some i->i<B.nt)
  (qD:St own' loc' B.M0 w'.heap) (gH:Upd (Ad s.own loc) w w')
  (wV:∀b∈Ad own' loc',b∈Ad s.own loc\/w.heap.size<=b)
  (yQ:∀e∈own',e.r<n->Aj s.own loc e.id e.r=some (loc' e.id))
  (hd:rd (Aj own' loc') (Ad own' loc'++B.M0) w'.heap d v) :
  Rel B ⟨Ce s.slots dst d,own'⟩ (a.put dst v) w' loc' where
 st:=qD
 upd:=R.upd.trans gH R.new
 new:=by
  intro b hb
  rcases wV b hb with h | h
  ·exact R.new b h
  ·exact .inr (Nat.le_trans R.upd.size h)
 ver:=by
  intro e he hr;obtain⟨e',zT,h1,h2,h3⟩:=Cj (yQ e he (cN0 hr hn));have:=R.ver e' zT (by omega);rw[h1,h2]at this;rw[this,h3]
 sl:=by
  intro i;have kK:=Pd_ a dst v i (fun d hd=>by rw[R.nt];exact wY d hd);rw[kK];have W:=Gt (M0:=B.M0) gH wV yQ
  have bQ:rd (Aj own' loc') (Ad own' loc'++B.M0) w'.heap (BL s.slots i) (a.tmps.getD i Go.undef) :=
   Db W _ _ (Nat.le_trans (TQ _ _) hs) (R.sl i)
  cases dst with
  | none=>simpa[Ce]using bQ
  | some j =>
   simp only[Ce,BL]
   by_cases zJ:i=j
   ·subst zJ;simpa using hd
   ·rw[if_neg zJ,if_neg (fun h=>zJ (Option.some.inj h).symm)];exact bQ
 nt:=by rw[size_put];exact R.nt
 df:=by
  refine R.df.keep (GS_ a dst v) gH (fun x hx=>aS0 _ hx) ?_;intro b hb
  rcases aI0.1 hb with h | h
  ·rcases wV b h with h | h
   ·exact .inl (aS0 _ h)
   ·exact .inr h
  ·exact .inl (aV0 _ h)
theorem St.keep {own:List Ent} {loc:Nat->Loc} {M0:List Nat} {w w':World} (h:St own loc M0 w.heap) (u:Upd [] w w'):St own loc M0 w'.heap where
 nd:=h.nd
 bl:=h.bl
 ap:=h.ap
 lt:=fun b hb=>cN0 (h.lt b hb) u.size
 ok:=by
  intro e he
  have W:Weak (Aj own loc) (Aj own loc) (Ad own loc++M0) (Ad own loc++M0) w.heap w'.heap (GC e.obj):=by
   refine Gt u.nil (fun b hb=> .inl hb) ?_;intro e' zT _;unfold Aj;rw[CP h.nd zT];simp
  have hb:∀b o,w.heap[b]? =some o->w'.heap[b]? =some o:=fun b o ho=>by
   rw[u.blk b (aH0.1 ho).1 (by simp)];exact ho
  exact BF W (Nat.le_refl _) (fun b o _ ho=>hb b o ho) (h.ok e he)
theorem Ba {own:List Ent} {loc:Nat->Loc} (nd:(own.map (·.id)).Nodup) {e:Ent} (he:e∈own):Aj own loc e.id e.r=some (loc e.id):=by
 unfold Aj;rw[CP nd he];simp
theorem Rel.put {B:Base} {s:DS} {a:Act} {w w':World} {loc:Nat->Loc} {v:Value} {d:DVal} {dst:Option Nat}
  (R:Rel B s a w loc) (wY:∀i,dst=some i->i<B.nt) (gH:Upd [] w w')
  (hd:rd (Aj s.own loc) (Ad s.own loc++B.M0) w'.heap d v):Rel B ⟨Ce s.slots dst d,s.own⟩ (a.put dst v) w' loc :=
 R.step (n:=max B.N (Nv s.slots)) (by omega) (by omega) wY (R.st.keep gH) gH.nil (fun b hb=> .inl hb) (fun e he _=>Ba R.st.nd he) hd
end Go.Dm
end
section
namespace Go.Dm
variable [DMode]
section
variable (P : Program)
def tAgg (t:TypeId):Option Bool :=
 match P.underlying t with
 | some (.struct _)=>some true
 | some (.array _ _)=>some true
 | some _=>some false
 | none=>none
def tCells (t:TypeId):Option Nat:=(P.info? t).map (·.size)
def tField (t f:Nat):Option (Nat×Nat×Bool) :=
 match P.underlying t with
 | some (.struct fs) =>
  match fs[f]? with
  | some fl=>match tCells P fl.type,tAgg P fl.type with
   | some n,some b=>some (fl.offset,n,b)
   | _,_=>none
  | none=>none
 | _=>none
def tElem (t:TypeId):Option (Nat×Nat) :=
 match P.underlying t with
 | some (.slice e)=>(P.info? e).map fun i=>(i.size,i.bytes)
 | _=>none
end
instance (k:IntKind) (n:Int):Decidable (MF k n):=by cases k<;>unfold MF<;>infer_instance
def CO : Value->DVal
 | .bool b=> .bool b
 | .int k n=>if MF k n then .int k n else .any
 | .string s=>if s.size<=maxLen then .str s else .any
 | .pointer none=> .nilp
 | .slice none 0 0=> .nilsl
 | .map none=> .nilmp
 | .nilFunc=> .nilfn
 | .nilIface=> .nilifc
 | _=> .any
def ofV : Value->DVal
 | .agg cs=> .agg (cs.toList.map CO)
 | v=>CO v
def ev (l:List (Nat×DVal)):Operand->DVal
 | .tmp t=>BL l t
 | .const v=>ofV v
 | .global _=> .any
 | .func f=> .fn (.func f) [] []
def EQ (own:List Ent):DVal->Option (List DVal)
 | .ref cs=>some cs
 | .bx id r off=>match Ax own id with
  | some e=>if e.r=r then (match e.obj with | .box cs=>some (cs.drop off) | _=>none)else none
  | none=>none
 | .rx id r k i j=>match Ax own id with
  | some e=>if e.r=r then (match e.obj with | .row _ k' _ es=>if k=k' then (es[i]?).map (·.drop j)else none | _=>none)else none
  | none=>none
 | _=>none
def Bz (own:List Ent):DVal->Option (Nat×Nat×List (List DVal))
 | .sl k bs es=>some (k,bs,es)
 | .osl id r=>match Ax own id with
  | some e=>if e.r=r then (match e.obj with | .row _ k bs es=>some (k,bs,es) | _=>none)else none
  | none=>none
 | .vw id r k bs i n=>match Ax own id with
  | some e=>if e.r=r then (match e.obj with | .row _ k' bs' es=>if k'=k/\bs'=bs/\i+n<=es.length then some (k,bs,(es.drop i).take n)else none | _=>none)else none
  | none=>none
 | _=>none
section
variable {P : Program} {cur : Gp} {M : List Nat} {h : Array Obj}
theorem HT_ (v:Value):rd cur M h (CO v) v:=by
 unfold CO
 split<;>(try split)<;>simp_all [rd]
theorem Cd : ∀l:List Value,AL cur M h (l.map CO) l
 | []=>by simp[AL]
 | v::l=>by
  simp only[List.map_cons,AL];exact⟨v,l,rfl,HT_ v,Cd l⟩
theorem NM_ (v:Value):rd cur M h (ofV v) v:=by
 unfold ofV
 split
 ·simp only[rd];exact⟨_,rfl,Cd _⟩
 ·exact HT_ v
theorem Ir : ∀(n:Nat) (cs:List DVal) (arr:Array Value) (o:Nat),ET cur M h cs arr o->ET cur M h (cs.drop n) arr (o+n)
 | 0,cs,arr,o,hr=>by simpa using hr
 | n+1,[],arr,o,hr=>by simp[ET]
 | n+1,d::cs,arr,o,hr=>by
  simp only[ET]at hr;simpa[dA0,Nat.add_comm 1 n]using Ir n cs arr (o+1) hr.2
theorem GY : ∀(cs:List DVal) (arr:Array Value) (o:Nat),ET cur M h cs arr o->∃vs:List Value,vs.length=cs.length/\AL cur M h cs vs/\∀j v,vs[j]? =some v->arr[o+j]? =some v/\v.oneCell'=true
 | [],arr,o,_=>⟨[],rfl,by simp[AL],by simp⟩
 | d::cs,arr,o,hr=>by
  simp only[ET]at hr;obtain⟨⟨v,h1,h2,h3⟩,h4⟩:=hr;obtain⟨vs,g1,g2,g3⟩:=GY cs arr (o+1) h4;refine⟨v::vs,by simp[g1],by simp only[AL];exact⟨v,vs,rfl,h3,g2⟩,?_⟩;intro j u hj
  cases j with
  | zero=>simp only[bF0,aA0]at hj;subst hj;exact⟨h1,h2⟩
  | succ j =>
   simp only[bT0]at hj;have:=g3 j u hj
   rwa[show o+1+j=o+(j+1) by omega]at this
theorem PE : ∀(n:Nat) (cs:List DVal) (arr:Array Value) (o:Nat),ET cur M h cs arr o->ET cur M h (cs.take n) arr o
 | 0,cs,arr,o,_=>by simp[ET]
 | n+1,[],arr,o,_=>by simp[ET]
 | n+1,d::cs,arr,o,hr=>by
  simp only[ET,dL0]at hr |-;exact⟨hr.1,PE n cs arr (o+1) hr.2⟩
theorem EW : ∀(k:Nat) (es:List (List DVal)) (arr:Array Value) (o i:Nat) (cs:List DVal),Fz cur M h k es arr o->es[i]? =some cs->cs.length=k/\ET cur M h cs arr (o+i*k)
 | k,[],arr,o,i,cs,_,hi=>by simp at hi
 | k,c::es,arr,o,0,cs,hr,hi=>by
  simp only[bF0,aA0]at hi;subst hi;simp only[Fz]at hr;exact⟨hr.1,by simpa using hr.2.1⟩
 | k,c::es,arr,o,i+1,cs,hr,hi=>by
  simp only[bT0]at hi;simp only[Fz]at hr;have:=EW k es arr (o+k) i cs hr.2.2 hi
  rwa[show o+k+i*k=o+(i+1)*k by rw[cA0];omega]at this
theorem Hq : ∀(k:Nat) (es:List (List DVal)) (arr:Array Value) (o:Nat),(∀(i:Nat) (cs:List DVal),es[i]? =some cs->cs.length=k/\ET cur M h cs arr (o+i*k))->Fz cur M h k es arr o
 | _,[],_,_,_=>by simp[Fz]
 | k,c::es,arr,o,hr=>by
  simp only[Fz];refine⟨(hr 0 c (by simp)).1,by simpa using (hr 0 c (by simp)).2,Hq k es arr (o+k) fun i cs hi=> ?_⟩;have:=hr (i+1) cs (by simpa using hi)
  rwa[show o+(i+1)*k=o+k+i*k by rw[cA0];omega]at this
end
section
variable {P : Program} {s : DS} {loc : Nat -> Loc} {M0 : List Nat} {w : World}
abbrev cu (s:DS) (loc:Nat->Loc):Gp:=Aj s.own loc
abbrev hm (s:DS) (loc:Nat->Loc) (M0:List Nat):List Nat:=Ad s.own loc++M0
theorem Hb_ (S:St s.own loc M0 w.heap) {p:DVal} {v:Value} {cs:List DVal} (hp:rd (cu s loc) (hm s loc M0) w.heap p v) (hc:EQ s.own p=some cs) :
  ∃b off arr ty fz,v= .pointer (some ⟨b,off,none⟩)/\w.heap[b]? =some (.cells arr ty fz)/\ET (cu s loc) (hm s loc M0) w.heap cs arr off:=by
 unfold EQ at hc
 split at hc
 ·simp only[aA0]at hc;subst hc;simp only[rd]at hp;obtain⟨b,off,arr,ty,fz,h1,_,h3,h4⟩:=hp;exact⟨b,off,arr,ty,fz,h1,h3,h4⟩
 ·rename_i id r off
  split at hc
  ·rename_i e he
   split at hc
   ·rename_i wB
    split at hc
    ·rename_i cs0 vX;simp only[aA0]at hc;subst hc;obtain⟨zA,hid⟩:=AN he;have hk:=S.ok e zA;rw[vX]at hk;obtain⟨b,arr,ty,h1,h2,h3,h4⟩:=hk;simp only[rd]at hp;obtain⟨b',qG,hv⟩:=hp (loc id) (by unfold cu Aj;rw[he];simp[wB]);rw[<-hid,h1]at qG;simp only[bL0,and_true]at qG;subst qG;refine⟨b,off,arr,ty,(0,0),hv,h2,?_⟩;simpa using Ir off cs0 arr 0 h4
    ·simp at hc
   ·simp at hc
  ·simp at hc
 ·rename_i id r k i j
  split at hc
  ·rename_i e he
   split at hc
   ·rename_i wB
    split at hc
    ·rename_i et k' bs es vX
     split at hc
     ·rename_i qY;subst qY;obtain⟨zA,hid⟩:=AN he;have hk:=S.ok e zA;rw[vX]at hk;obtain⟨_,hk⟩:=hk;simp only[bH0]at hc;obtain⟨c0,yG,rfl⟩:=hc
      rcases hk with ⟨rfl,_⟩ | ⟨b,arr,cap,h1,h2,h3,h4,h5,h6,h7⟩
      ·simp at yG
      ·simp only[rd]at hp;obtain⟨b',qG,hv⟩:=hp (loc id) (by unfold cu Aj;rw[he];simp[wB]);rw[<-hid,h1]at qG;simp only[bL0,and_true]at qG;subst qG;have:=EW k es arr 0 i c0 h7 yG;refine⟨b,i*k+j,arr,et,(0,0),hv,h3,?_⟩;have h8:=Ir j c0 arr _ this.2;simpa using h8
     ·simp at hc
    ·simp at hc
   ·simp at hc
  ·simp at hc
 ·simp at hc
theorem No (S:St s.own loc M0 w.heap) {p:DVal} {v:Value} {k bs:Nat} {es:List (List DVal)} (hp:rd (cu s loc) (hm s loc M0) w.heap p v) (hc:Bz s.own p=some (k,bs,es)) :
  ∃a cap,v= .slice a es.length cap/\es.length<=cap/\cap<=maxLen/\es.length*bs<=150000000000000 /\
   (es=[]\/∃b off arr ty fz,a=some ⟨b,off,none⟩/\w.heap[b]? =some (.cells arr ty fz)/\Fz (cu s loc) (hm s loc M0) w.heap k es arr off):=by
 unfold Bz at hc
 split at hc
 ·simp only[aA0,aY0]at hc;obtain⟨rfl,rfl,rfl⟩:=hc;simp only[rd]at hp;obtain⟨a,cap,h1,h2,h3,h4,h5⟩:=hp;refine⟨a,cap,h1,h2,h3,h4,?_⟩
  rcases h5 with h5 | ⟨b,off,arr,ty,fz,g1,g2,g3,g4⟩
  ·exact .inl h5.1
  ·exact .inr ⟨b,off,arr,ty,fz,g1,g3,g4⟩
 ·rename_i id r
  split at hc
  ·rename_i e he
   split at hc
   ·rename_i wB
    split at hc
    ·rename_i et k' bs' es' vX;simp only[aA0,aY0]at hc;obtain⟨rfl,rfl,rfl⟩:=hc;obtain⟨zA,hid⟩:=AN he;have hk:=S.ok e zA;rw[vX]at hk;obtain⟨wC,hk⟩:=hk;simp only[rd]at hp;have hv:=hp (loc id) (by unfold cu Aj;rw[he];simp[wB]);rw[<-hid]at hv
     rcases hk with ⟨rfl,_,h2⟩ | ⟨b,arr,cap,h1,h2,h3,h4,h5,h6,h7⟩
     ·refine⟨none,0,by rw[hv,h2];rfl,by simp,by unfold maxLen;omega,by simp,.inl rfl⟩
     ·exact⟨_,cap,by rw[hv,h2],h4,h5,wC,.inr ⟨b,0,arr,et,(0,0),rfl,h3,h7⟩⟩
    ·simp at hc
   ·simp at hc
  ·simp at hc
 ·rename_i id r k0 bs0 i n
  split at hc
  ·rename_i e he
   split at hc
   ·rename_i wB
    split at hc
    ·rename_i et k' bs' es' vX
     split at hc
     ·rename_i hb;obtain⟨rfl,rfl,hb⟩:=hb;simp only[aA0,aY0]at hc;obtain⟨rfl,rfl,rfl⟩:=hc;obtain⟨zA,hid⟩:=AN he;have hk:=S.ok e zA;rw[vX]at hk;obtain⟨wC,hk⟩:=hk;simp only[rd]at hp;obtain⟨a,cap,rfl,g1,g2,_,g3,_⟩:=hp (loc id) (by unfold cu Aj;rw[he];simp[wB]);have qZ:((es'.drop i).take n).length=n:=by simp;omega
      refine⟨a,cap,by rw[qZ],by omega,g2,by rw[qZ];exact Nat.le_trans (aQ0 _ (by omega:n<=es'.length)) wC,?_⟩
      by_cases h0:n=0
      ·subst h0;exact .inl (by simp)
      ·obtain⟨b,qE,rfl⟩:=g3 (by omega);rw[<-hid]at qE
       rcases hk with ⟨rfl,_⟩ | ⟨b',arr,cap',h1,h2,h3,h4,h5,h6,h7⟩
       ·simp at hb;omega
       ·rw[h1]at qE;simp only[bL0,and_true]at qE;subst qE;refine .inr ⟨b',i*k',arr,et,(0,0),rfl,h3,Hq _ _ _ _ fun q cs hq=> ?_⟩;rw[fH0]at hq
        split at hq
        ·rw[dB0]at hq;have:=EW k' es' arr 0 (i+q) cs h7 hq
         rwa[cA0,bX0]at this
        ·simp at hq
     ·simp at hc
    ·simp at hc
   ·simp at hc
  ·simp at hc
 ·simp at hc
theorem Tv_ {a:Act} (hs:∀i,rd (cu s loc) (hm s loc M0) w.heap (BL s.slots i) (a.tmps.getD i Go.undef)) (x:Operand) :
  rd (cu s loc) (hm s loc M0) w.heap (ev s.slots x) (a.eval x):=by
 cases x with
 | tmp t=>exact hs t
 | const v=>exact NM_ v
 | global g=>simp[ev,rd]
 | func f=>simp only[ev,rd,Act.eval];exact⟨#[], #[],rfl,by simp[AL],by simp[AL]⟩
theorem Nn {t:TypeId} {b:Bool} (ht:tAgg P t=some b) (w:World):(isAgg t).run P w= .ok b w:=by
 unfold isAgg
 cases hu:P.underlying t with
 | none=>simp[tAgg,hu]at ht
 | some d =>
  rw[Sem.run_bind,run_underlying hu w];cases d<;>simp[tAgg,hu]at ht<;>subst ht<;>rfl
theorem DJ {t:TypeId} {n:Nat} (ht:tCells P t=some n) (w:World):(sizeOf t).run P w= .ok n w:=by
 unfold tCells at ht
 cases hi:P.info? t with
 | none=>simp[hi]at ht
 | some i =>
  simp only[hi,dJ0,aA0]at ht;simp[sizeOf,typeInfo,hi,ht]
theorem ES (b o n:Nat):Addr.add ⟨b,o,none⟩ n=⟨b,o+n,none⟩:=by unfold Addr.add;split<;>simp_all
end
section
variable (P : Program)
def Ss_ (t:TypeId):Option IntKind:=match P.underlying t with | some (.int k)=>some k | _=>none
def tStr (t:TypeId):Bool:=match P.underlying t with | some .string=>true | _=>false
def tBool (t:TypeId):Bool:=match P.underlying t with | some .bool=>true | _=>false
def tSl (t:TypeId):Bool:=match P.underlying t with | some (.slice _)=>true | _=>false
def tMp (t:TypeId):Bool:=match P.underlying t with | some (.map _ _)=>true | _=>false
def tPtr (t:TypeId):Bool:=match P.underlying t with | some (.pointer _)=>true | _=>false
def tZero (t:TypeId):Option (List DVal):=match P.info? t with
 | some i=>i.zero.map fun v=>v.cells.toList.map CO
 | none=>none
def Eo (t:TypeId):Option (Array Field):=match P.underlying t with | some (.struct fs)=>some fs | _=>none
end
inductive CK where
 | b
 | i (k:IntKind)
 | s
section
variable (P : Program)
def Wd (g:TypeId->Option (List CK)):Nat->List Field->Option (List CK)
 | _,[]=>some []
 | o,f::fs=>if f.name= "_" then none else if f.offset≠o then none else
  match g f.type with
  | some ks=>if tCells P f.type=some ks.length then (Wd g (o+ks.length) fs).map (ks++ ·)else none
  | none=>none
def flat : Nat->TypeId->Option (List CK)
 | 0,_=>none
 | d+1,t=>match P.underlying t with
  | some .bool=>some [.b]
  | some (.int k)=>some [.i k]
  | some .string=>some [.s]
  | some (.struct fs)=>if P.stoodInHeld t then none else Wd P (flat d) 0 fs.toList
  | _=>none
end
def Tq : CK->DVal->Bool
 | .b,.bool _=>true
 | .i k,.int k' _=>k==k'
 | .s,.str _=>true
 | _,_=>false
def BI : List CK->List DVal->Bool
 | [],[]=>true
 | k::ks,d::ds=>Tq k d&&BI ks ds
 | _,_=>false
def eqC : DVal->DVal->Bool
 | .bool a,.bool b=>a==b
 | .int _ a,.int _ b=>a==b
 | .str a,.str b=>a==b
 | _,_=>false
def Ek : List DVal->List DVal->Bool
 | [],[]=>true
 | x::xs,y::ys=>eqC x y&&Ek xs ys
 | _,_=>false
def TR_ (k:IntKind) (a b:Int):Int:=k.wrap (BitVec.ofInt k.bits a &&& BitVec.ofInt k.bits b).toNat
def iOr (k:IntKind) (a b:Int):Int:=k.wrap (BitVec.ofInt k.bits a ||| BitVec.ofInt k.bits b).toNat
def TO_ (k:IntKind) (a b:Int):Int:=k.wrap (BitVec.ofInt k.bits a ^^^ BitVec.ofInt k.bits b).toNat
def Ix_ (k:IntKind) (a b:Int):Int:=k.wrap (BitVec.ofInt k.bits a &&& ~~~(BitVec.ofInt k.bits b)).toNat
def TQ_ (k:IntKind) (a b:Int):Int:=k.wrap (a*2 ^ (min b.toNat k.bits))
def TP_ (k:IntKind) (a b:Int):Int:=a.fdiv (2 ^ (min b.toNat k.bits))
def Jf (P:Program) (op:BinOp) (t:TypeId):DVal->DVal->Option DVal
 | .int k a,.int k' b=>match op with
  | .shl=>if b<0 then none else some (.int k (TQ_ k a b))
  | .shr=>if b<0 then none else some (.int k (TP_ k a b))
  | _=>if k≠k' then none else match op with
   | .add=>some (.int k (k.wrap (a+b)))
   | .sub=>some (.int k (k.wrap (a-b)))
   | .mul=>some (.int k (k.wrap (a*b)))
   | .quo=>if b=0 then none else some (.int k (k.wrap (a.tdiv b)))
   | .rem=>if b=0 then none else some (.int k (a.tmod b))
   | .and=>some (.int k (TR_ k a b))
   | .or=>some (.int k (iOr k a b))
   | .xor=>some (.int k (TO_ k a b))
   | .andNot=>some (.int k (Ix_ k a b))
   | .eql=>some (.bool (a==b))
   | .neq=>some (.bool (a != b))
   | .lss=>some (.bool (decide (a<b)))
   | .leq=>some (.bool (decide (a<=b)))
   | .gtr=>some (.bool (decide (b<a)))
   | .geq=>some (.bool (decide (b<=a)))
   | _=>none
 | .str a,.str b=>match op with
  | .add=>if a.size+b.size<=maxLen then some (.str (a++b))else none
  | .eql=>some (.bool (a==b))
  | .neq=>some (.bool (!(a==b)))
  | .lss=>some (.bool (Op.bytesLess a.data.toList b.data.toList))
  | .leq=>some (.bool (Op.bytesLess a.data.toList b.data.toList||a==b))
  | .gtr=>some (.bool (!(Op.bytesLess a.data.toList b.data.toList||a==b)))
  | .geq=>some (.bool (!Op.bytesLess a.data.toList b.data.toList))
  | _=>none
 | .bool a,.bool b=>if tBool P t then (match op with
  | .eql=>some (.bool (a==b))
  | .neq=>some (.bool (!(a==b)))
  | _=>none)else none
 | .agg xs,.agg ys=>if P.eqGuardType P.depth t then none else if tAgg P t≠some true then none else match flat P 10000 t with
  | some ks=>if BI ks xs&&BI ks ys then (match op with
   | .eql=>some (.bool (Ek xs ys))
   | .neq=>some (.bool (!Ek xs ys))
   | _=>none)else none
  | none=>none
 | .nilp,.nilp=>if tPtr P t then (match op with | .eql=>some (.bool true) | .neq=>some (.bool false) | _=>none)else none
 | .nilsl,.nilsl=>if tSl P t then (match op with | .eql=>some (.bool true) | .neq=>some (.bool false) | _=>none)else none
 | .esl,.nilsl=>if tSl P t then (match op with | .eql=>some (.bool false) | .neq=>some (.bool true) | _=>none)else none
 | .sl _ _ (_::_),.nilsl=>if tSl P t then (match op with | .eql=>some (.bool false) | .neq=>some (.bool true) | _=>none)else none
 | .ref _,.nilp=>if tPtr P t then (match op with | .eql=>some (.bool false) | .neq=>some (.bool true) | _=>none)else none
 | .mp _ _,.nilmp=>if tMp P t then (match op with | .eql=>some (.bool false) | .neq=>some (.bool true) | _=>none)else none
 | .nilmp,.nilmp=>if tMp P t then (match op with | .eql=>some (.bool true) | .neq=>some (.bool false) | _=>none)else none
 | _,_=>none
theorem LV (k:IntKind) (n:Int):MF k (k.wrap n):=by
 cases k<;>simp only[IntKind.wrap,IntKind.bits,IntKind.signed,MF]<;>simp<;>(try split)<;>omega
section
variable {P : Program} {cur : Gp} {M : List Nat} {h : Array Obj} {w : World}
theorem US_ (a b:ByteArray):(a.toList==b.toList)=(a==b):=(beq_toListBytes a b).symm
theorem Ta {d:Nat} {t:TypeId} {c:CK} {x y:DVal} {u v:Value} (hf:flat P (d+1) t=some [c]) (hns:Eo P t=none) (hx:Tq c x=true) (hy:Tq c y=true)
  (rx:rd cur M h x u) (ry:rd cur M h y v):(Op.equalIn (d+1) t u v).run P w= .ok (eqC x y) w:=by
 simp only[flat]at hf
 split at hf<;>rename_i hu
 ·simp only[aA0,bL0,and_true]at hf;subst hf;cases x<;>simp[Tq]at hx;cases y<;>simp[Tq]at hy;simp only[rd]at rx ry;subst rx;subst ry;simpa[eqC]using run_equalIn_bool' (P:=P) w d t _ _ hu
 ·simp only[aA0,bL0,and_true]at hf;subst hf;cases x<;>simp[Tq]at hx;cases y<;>simp[Tq]at hy;simp only[rd]at rx ry;obtain⟨rfl,_⟩:=rx;obtain⟨rfl,_⟩:=ry;subst hx;subst hy;simpa[eqC]using run_equalIn_int (P:=P) w d t _ _ _ _ hu
 ·simp only[aA0,bL0,and_true]at hf;subst hf;cases x<;>simp[Tq]at hx;cases y<;>simp[Tq]at hy;simp only[rd]at rx ry;obtain⟨rfl,_⟩:=rx;obtain⟨rfl,_⟩:=ry;rw[run_equalIn_string (P:=P) w d t _ _ hu,US_];rfl
 ·simp[Eo,hu]at hns
 ·simp at hf
theorem SN : ∀(a b c d:List DVal),a.length=b.length->Ek (a++c) (b++d)=(Ek a b&&Ek c d)
 | [],[],_,_,_=>by simp[Ek]
 | x::a,y::b,c,d,h=>by
  simp only[List.cons_append,Ek,SN a b c d (by simpa using h),Bool.and_assoc]
theorem EP : ∀(ks:List CK) (ds:List DVal),BI ks ds=true->ds.length=ks.length
 | [],[],_=>rfl
 | [],_::_,h=>by simp[BI]at h
 | _::_,[],h=>by simp[BI]at h
 | k::ks,d::ds,h=>by
  simp only[BI,aM0]at h;simp[EP ks ds h.2]
theorem Jz : ∀(k1 k2:List CK) (ds:List DVal),BI (k1++k2) ds=true->BI k1 (ds.take k1.length)=true/\BI k2 (ds.drop k1.length)=true
 | [],k2,ds,h=>by simpa[BI]using h
 | k::k1,k2,[],h=>by simp[BI]at h
 | k::k1,k2,d::ds,h=>by
  simp only[List.cons_append,BI,aM0]at h;have:=Jz k1 k2 ds h.2;simpa[BI,h.1]using this
theorem AM : ∀(ds:List DVal) (vs:List Value),AL cur M h ds vs->vs.length=ds.length
 | [],vs,hr=>by simp only[AL]at hr;subst hr;rfl
 | d::ds,vs,hr=>by
  simp only[AL]at hr;obtain⟨v,r,rfl,_,h3⟩:=hr;simp[AM ds r h3]
theorem UW : ∀(ds:List DVal) (vs:List Value) (i:Nat) (d:DVal),AL cur M h ds vs->ds[i]? =some d->∃v,vs[i]? =some v/\rd cur M h d v
 | [],vs,i,d,_,hi=>by simp at hi
 | d::ds,vs,0,d',hr,hi=>by
  simp only[AL]at hr;obtain⟨v,r,rfl,h2,_⟩:=hr;simp only[bF0,aA0]at hi;subst hi;exact⟨v,by simp,h2⟩
 | d::ds,vs,i+1,d',hr,hi=>by
  simp only[AL]at hr;obtain⟨v,r,rfl,_,h3⟩:=hr;simpa using UW ds r i d' h3 (by simpa using hi)
theorem Kc : ∀(n:Nat) (ds:List DVal) (vs:List Value),AL cur M h ds vs->AL cur M h (ds.drop n) (vs.drop n)
 | 0,ds,vs,hr=>by simpa using hr
 | n+1,[],vs,hr=>by simp only[AL]at hr;subst hr;simp[AL]
 | n+1,d::ds,vs,hr=>by
  simp only[AL]at hr;obtain⟨v,r,rfl,_,h3⟩:=hr;simpa using Kc n ds r h3
theorem Kb : ∀(n:Nat) (ds:List DVal) (vs:List Value),AL cur M h ds vs->AL cur M h (ds.take n) (vs.take n)
 | 0,ds,vs,hr=>by simp[AL]
 | n+1,[],vs,hr=>by simp only[AL]at hr;subst hr;simp[AL]
 | n+1,d::ds,vs,hr=>by
  simp only[AL]at hr;obtain⟨v,r,rfl,h2,h3⟩:=hr;simp only[dL0,AL];exact⟨v,_,rfl,h2,Kb n ds r h3⟩
theorem CU : ∀(a b:List DVal) (u v:List Value),AL cur M h a u->AL cur M h b v->AL cur M h (a++b) (u++v)
 | [],b,u,v,h1,h2=>by simp only[AL]at h1;subst h1;simpa using h2
 | d::a,b,u,v,h1,h2=>by
  simp only[AL]at h1;obtain⟨x,r,rfl,h3,h4⟩:=h1;simp only[List.cons_append,AL];exact⟨x,_,rfl,h3,CU a b r v h4 h2⟩
def valOf (agg:Bool) (us:List Value):Value:=if agg then .agg us.toArray else us.headD Go.undef
theorem Px {t:TypeId} {b:Bool} {n:Nat} {us:Array Value} {o:Nat} (hb:tAgg P t=some b) (hn:tCells P t=some n) (zP:b=false->n=1) (hl:o+n<=us.size) :
  (part t us o).run P w= .ok (valOf b ((us.toList.drop o).take n)) w:=by
 unfold part;rw[Sem.run_bind,Nn hb]
 cases b with
 | true =>
  simp only[Result.andThen_ok,if_true,Sem.run_bind,DJ hn,Sem.run_pure,valOf]
  congr 2
  apply Array.ext'
  simp[List.extract,Nat.add_sub_cancel_left]
 | false =>
  have:=zP rfl;subst this;have ho:o<us.size:=by omega
  simp only[Result.andThen_ok,aK0,if_false,cJ0 ho,Sem.run_pure,valOf]
  congr 1
  rw[aP0 (by simpa using ho)];simp
theorem Qd {d:Nat} {t:TypeId} {ks:List CK} (hf:flat P d t=some ks):∃b,tAgg P t=some b/\(b=false->ks.length=1)/\(b=true->Eo P t≠none)/\(b=false->Eo P t=none):=by
 cases d with
 | zero=>simp[flat]at hf
 | succ d =>
  simp only[flat]at hf
  split at hf<;>rename_i hu
  ·exact⟨false,by simp[tAgg,hu],fun _=>by simp only[aA0]at hf;subst hf;rfl,by simp,fun _=>by simp[Eo,hu]⟩
  ·exact⟨false,by simp[tAgg,hu],fun _=>by simp only[aA0]at hf;subst hf;rfl,by simp,fun _=>by simp[Eo,hu]⟩
  ·exact⟨false,by simp[tAgg,hu],fun _=>by simp only[aA0]at hf;subst hf;rfl,by simp,fun _=>by simp[Eo,hu]⟩
  ·exact⟨true,by simp[tAgg,hu],by simp,fun _=>by simp[Eo,hu],by simp⟩
  ·simp at hf
def EO_ (P:Program) (cur:Gp) (M:List Nat) (h:Array Obj) (d:Nat):Prop :=
 ∀(t:TypeId) (ks:List CK) (b:Bool) (xs ys:List DVal) (us vs:List Value) (w:World),flat P d t=some ks->tAgg P t=some b->BI ks xs=true->BI ks ys=true ->
  AL cur M h xs us->AL cur M h ys vs->(Op.equalIn d t (valOf b us) (valOf b vs)).run P w= .ok (Ek xs ys) w
theorem Ka {d:Nat} (H:EO_ P cur M h d):∀(fs:List Field) (o:Nat) (ks:List CK) (xs ys:List DVal) (us0 vs0 us vs:List Value) (w:World),Wd P (flat P d) o fs=some ks->BI ks xs=true->BI ks ys=true ->
  AL cur M h xs us->AL cur M h ys vs->us0.length=o->vs0.length=o->(Op.eqFields d (us0++us).toArray (vs0++vs).toArray fs).run P w= .ok (Ek xs ys) w
 | [],o,ks,xs,ys,us0,vs0,us,vs,w,hf,hx,hy,_,_,_,_=>by
  simp only[Wd,aA0]at hf;subst hf;have e1:=EP [] xs hx;have e2:=EP [] ys hy;simp only[List.length_nil,fN0]at e1 e2;subst e1;subst e2;simp[Op.eqFields,Ek]
 | f::fs,o,ks,xs,ys,us0,vs0,us,vs,w,hf,hx,hy,rx,ry,l1,l2=>by
  simp only[Wd]at hf
  split at hf
  ·simp at hf
  rename_i hnm
  split at hf
  ·simp at hf
  rename_i hof;simp only[ne_eq,Decidable.not_not]at hof
  split at hf
  rotate_left
  ·simp at hf
  rename_i k1 jE
  split at hf
  rotate_left
  ·simp at hf
  rename_i qM;simp only[bH0]at hf;obtain⟨k2,jM,rfl⟩:=hf;obtain⟨b,hb,qE,_,_⟩:=Qd jE;have sx:=Jz k1 k2 xs hx;have sy:=Jz k1 k2 ys hy;have lx:=EP _ _ hx;have ly:=EP _ _ hy;have rlx:=AM _ _ rx;have rly:=AM _ _ ry;simp only[aC0]at lx ly;have p1:=Px (P:=P) (w:=w) (us:=(us0++us).toArray) (o:=o) hb qM qE (by simp;omega);have p2:=Px (P:=P) (w:=w) (us:=(vs0++vs).toArray) (o:=o) hb qM qE (by simp;omega);have d1:((us0++us).toArray.toList.drop o).take k1.length=us.take k1.length:=by subst l1;simp
  have d2:((vs0++vs).toArray.toList.drop o).take k1.length=vs.take k1.length:=by subst l2;simp
  rw[d1]at p1;rw[d2]at p2;have e1:=H f.type k1 b (xs.take k1.length) (ys.take k1.length) _ _ w jE hb sx.1 sy.1 (Kb _ _ _ rx) (Kb _ _ _ ry)
  have ih:=Ka H fs (o+k1.length) k2 (xs.drop k1.length) (ys.drop k1.length) (us0++us.take k1.length) (vs0++vs.take k1.length) (us.drop k1.length) (vs.drop k1.length) w jM sx.2 sy.2
   (Kc _ _ _ rx) (Kc _ _ _ ry) (by simp;omega) (by simp;omega)
  rw[aR0,aR0,List.take_append_drop,List.take_append_drop]at ih
  have heq:Ek xs ys=(Ek (xs.take k1.length) (ys.take k1.length)&&Ek (xs.drop k1.length) (ys.drop k1.length)):=by
   have ex:=SN (xs.take k1.length) (ys.take k1.length) (xs.drop k1.length) (ys.drop k1.length) (by simp;omega)
   rwa[List.take_append_drop,List.take_append_drop]at ex
  simp only[Op.eqFields,ne_eq,hnm,not_false_eq_true,if_true,Sem.run_bind,hof,p1,p2,Result.andThen_ok,e1];rw[heq];cases hq:Ek (xs.take k1.length) (ys.take k1.length)
  ·simp
  ·simp only[Bool.not_true,aK0,if_false,bO0];exact ih
theorem Ik : ∀(d:Nat),EO_ P cur M h d
 | 0=>by intro t ks b xs ys us vs w hf;simp[flat]at hf
 | d+1=>by
  intro t ks b xs ys us vs w hf hb hx hy rx ry;obtain⟨b',qG,h1,h2,h3⟩:=Qd hf;rw[hb]at qG;simp only[aA0]at qG;subst qG
  cases b with
  | false =>
   have hl:=h1 rfl
   match ks,hl with
   | [c],_ =>
    match xs,ys,hx,hy with
    | [x],[y],hx,hy =>
     simp only[BI,fB0]at hx hy;simp only[AL]at rx ry;obtain⟨u,_,rfl,rx,rfl⟩:=rx;obtain⟨v,_,rfl,ry,rfl⟩:=ry;simp only[valOf,aK0,if_false,List.headD_cons];rw[Ta hf (h3 rfl) hx hy rx ry];simp[Ek]
    | [],_,hx,_=>simp[BI]at hx
    | _::_::_,_,hx,_=>simp[BI]at hx
    | [_],[],_,hy=>simp[BI]at hy
    | [_],_::_::_,_,hy=>simp[BI]at hy
  | true =>
   have qD:=h2 rfl
   obtain⟨fs,hu⟩:∃fs,P.underlying t=some (.struct fs):=by
    unfold Eo at qD
    split at qD
    ·exact⟨_,by assumption⟩
    ·simp at qD
   simp only[flat,hu]at hf
   split at hf
   ·simp at hf
   rename_i hsi;have hfo:P.fieldsOf t=fs:=by simp[Program.fieldsOf,hu]
   simp only[valOf,if_true];rw[run_equalIn_struct w d t _ _ (by rw[hfo];exact hu) (by simpa using hsi),hfo];exact Ka (Ik d) fs.toList 0 ks xs ys [] [] us vs w hf hx hy rx ry rfl rfl
theorem OA (t:TypeId) (a b:Option Addr):binOp .eql t (.pointer a) (.pointer b)=(do pure (.bool (<-Op.equal t (.pointer a) (.pointer b)))):=rfl
theorem Oz (t:TypeId) (a b:Option Addr):binOp .neq t (.pointer a) (.pointer b)=(do pure (.bool (!(<-Op.equal t (.pointer a) (.pointer b))))):=rfl
theorem Kt_ {t:TypeId} (hb:tPtr P t=true):∃e,P.underlying t=some (.pointer e):=by
 unfold tPtr at hb
 split at hb
 ·exact⟨_,by assumption⟩
 ·simp at hb
theorem NR {t:TypeId} (hb:tPtr P t=true) (a:Option Addr) (d:Nat):(Op.equalIn (d+1) t (.pointer a) (.pointer none)).run P w= .ok a.isNone w:=by
 obtain⟨e,ht⟩:=Kt_ hb;cases a<;>simp[Op.equalIn,run_underlying ht]
theorem Jo {t:TypeId} (hb:tPtr P t=true) (a:Option Addr):(Op.equal t (.pointer a) (.pointer none)).run P w= .ok a.isNone w :=
 NR hb a 9999
theorem SM (op:BinOp) (t:TypeId) (x y:Operand) (a b:Option Addr):(eqGuard op t x y (.pointer a) (.pointer b)).run P w= .ok () w:=by
 cases op<;>rfl
theorem oK {op:BinOp} {t:TypeId} {xo yo:Operand} {d:DVal} (a:Option Addr) (n cap:Nat) (hb:tSl P t=true) (hd:(match op with | .eql=>some (DVal.bool a.isNone) | .neq=>some (.bool (!a.isNone)) | _=>none)=some d) :
  ∃r,(do eqGuard op t xo yo (.slice a n cap) (.slice none 0 0);binOp op t (.slice a n cap) (.slice none 0 0):Sem Value).run P w= .ok r w/\rd cur M h d r:=by
 obtain⟨e,ht⟩:∃e,P.underlying t=some (.slice e):=by
  unfold tSl at hb
  split at hb
  ·exact⟨_,by assumption⟩
  ·simp at hb
 have he:(Op.equal t (.slice a n cap) (.slice none 0 0)).run P w= .ok a.isNone w:=by
  have gen:∀d:Nat,(Op.equalIn (d+1) t (.slice a n cap) (.slice none 0 0)).run P w= .ok a.isNone w:=by
   intro d;cases a<;>simp[Op.equalIn,run_underlying ht]
  exact gen 9999
 cases op<;>simp only[aA0,reduceCtorEq]at hd<;>subst hd
 ·have:binOp .eql t (.slice a n cap) (.slice none 0 0)=(do pure (.bool (<-Op.equal t (.slice a n cap) (.slice none 0 0)))):=rfl;rw[this];have g:(eqGuard .eql t xo yo (.slice a n cap) (.slice none 0 0)).run P w= .ok () w:=rfl;simp only[Sem.run_bind,g,Result.andThen_ok,he,Sem.run_pure];exact⟨_,rfl,by simp[rd]⟩
 ·have:binOp .neq t (.slice a n cap) (.slice none 0 0)=(do pure (.bool (!(<-Op.equal t (.slice a n cap) (.slice none 0 0))))):=rfl;rw[this];have g:(eqGuard .neq t xo yo (.slice a n cap) (.slice none 0 0)).run P w= .ok () w:=rfl;simp only[Sem.run_bind,g,Result.andThen_ok,he,Sem.run_pure];exact⟨_,rfl,by simp[rd]⟩
theorem IH_ {op:BinOp} {t:TypeId} {xo yo:Operand} {d:DVal} (a:Option Nat) (hb:tMp P t=true) (hd:(match op with | .eql=>some (DVal.bool a.isNone) | .neq=>some (.bool (!a.isNone)) | _=>none)=some d) :
  ∃r,(do eqGuard op t xo yo (.map a) (.map none);binOp op t (.map a) (.map none):Sem Value).run P w= .ok r w/\rd cur M h d r:=by
 obtain⟨_,e,ht⟩:∃k e,P.underlying t=some (.map k e):=by
  unfold tMp at hb
  split at hb
  ·exact⟨_,_,by assumption⟩
  ·simp at hb
 have he:(Op.equal t (.map a) (.map none)).run P w= .ok a.isNone w:=by
  have gen:∀d:Nat,(Op.equalIn (d+1) t (.map a) (.map none)).run P w= .ok a.isNone w:=by
   intro d;cases a<;>simp[Op.equalIn,run_underlying ht]
  exact gen 9999
 cases op<;>simp only[aA0,reduceCtorEq]at hd<;>subst hd
 ·have:binOp .eql t (.map a) (.map none)=(do pure (.bool (<-Op.equal t (.map a) (.map none)))):=rfl;rw[this];have g:(eqGuard .eql t xo yo (.map a) (.map none)).run P w= .ok () w:=rfl;simp only[Sem.run_bind,g,Result.andThen_ok,he,Sem.run_pure];exact⟨_,rfl,by simp[rd]⟩
 ·have:binOp .neq t (.map a) (.map none)=(do pure (.bool (!(<-Op.equal t (.map a) (.map none))))):=rfl;rw[this];have g:(eqGuard .neq t xo yo (.map a) (.map none)).run P w= .ok () w:=rfl;simp only[Sem.run_bind,g,Result.andThen_ok,he,Sem.run_pure];exact⟨_,rfl,by simp[rd]⟩
theorem Qm (a b:ByteArray):(a.data==b.data)=(a==b):=by
 obtain⟨x⟩:=a;obtain⟨y⟩:=b;rfl
theorem Pt_ (k:IntKind) (a:Int) (n:Nat) (ha:MF k a):MF k (a.fdiv (2 ^ n)):=by
 have hp:(1:Int)<=2 ^ n:=by have:(0:Int)<2 ^ n:=Int.pow_pos (by decide);omega
 rw[Int.fdiv_eq_ediv_of_nonneg _ (by omega)];have h1:0<=a->0<=a/2 ^ n/\a/2 ^ n<=a:=fun h=>⟨Int.ediv_nonneg h (by omega),Int.ediv_le_self _ h⟩
 have h2:a<0->a/2 ^ n<0/\a<=a/2 ^ n:=fun h=>⟨Int.ediv_neg_of_neg_of_pos h (by omega),(Int.le_ediv_iff_mul_le (by omega)).2 (by
  have:=Int.mul_le_mul_of_nonpos_left (a:=a) (by omega) hp
  omega)⟩
 cases k<;>simp only[MF]at ha |- <;>(rcases Int.lt_or_le a 0 with h | h<;>first | (have:=h1 h;omega) | (have:=h2 h;omega) | omega)
theorem Nf_ (k:IntKind) (a b:Int) (ha:MF k a):MF k (a.tmod b):=by
 have h1:0<=a->0<=a.tmod b/\a.tmod b<=a:=fun h=>⟨Int.tmod_nonneg b h,by
  by_cases hb:b=0
  ·subst hb;simp
  ·have:=Int.natAbs_tmod a b;have h5:(a.natAbs%b.natAbs)<=a.natAbs:=Nat.mod_le _ _;have h6:=Int.tmod_nonneg b h
   omega⟩
 have h2:a<0->a.tmod b<=0/\a<=a.tmod b:=fun h=>by
  have e:a.tmod b= -((-a).tmod b):=by rw[Int.neg_tmod];omega
  have h3:=Int.tmod_nonneg b (show 0<= -a by omega);have h4:=Int.natAbs_tmod (-a) b;have h5:((-a).natAbs%b.natAbs)<=(-a).natAbs:=Nat.mod_le _ _;omega
 cases k<;>simp only[MF]at ha |- <;>(rcases Int.lt_or_le a 0 with h | h<;>first | (have:=h1 h;omega) | (have:=h2 h;omega) | omega)
theorem PB_ {op:BinOp} {t:TypeId} {xo yo:Operand} {k k':IntKind} {a b:Int} {d:DVal} (ha:MF k a) (hd:Jf P op t (.int k a) (.int k' b)=some d) :
  ∃r,(do eqGuard op t xo yo (.int k a) (.int k' b);binOp op t (.int k a) (.int k' b):Sem Value).run P w= .ok r w/\rd cur M h d r:=by
 cases op<;>simp only[Jf,ne_eq,ite_not]at hd<;>split at hd<;>(try split at hd)<;>(try (simp at hd;done))<;>simp only[aA0,reduceCtorEq]at hd<;>subst hd<;>rename_i hk
 case shl=>simp[eqGuard,binOp,Op.shift,hk,rd,LV,TQ_]
 case shr=>simp[eqGuard,binOp,Op.shift,hk,rd,Pt_ _ _ _ ha,TP_]
 case quo=>rename_i jE;subst jE;simp[eqGuard,binOp,Op.intDiv,hk,rd,LV]
 case rem=>rename_i jE;subst jE;simp[eqGuard,binOp,Op.intDiv,hk,rd,Nf_ _ _ _ ha]
 all_goals (subst hk;simp[eqGuard,binOp,Op.intArith,Op.intCmp,Op.intBits,rd,LV,TR_,iOr,TO_,Ix_])
theorem PA_ {op:BinOp} {t:TypeId} {xo yo:Operand} {a b:ByteArray} {d:DVal} (hd:Jf P op t (.str a) (.str b)=some d) :
  ∃r,(do eqGuard op t xo yo (.string a) (.string b);binOp op t (.string a) (.string b):Sem Value).run P w= .ok r w/\rd cur M h d r:=by
 simp only[Jf]at hd;cases op<;>simp at hd
 case add =>
  obtain⟨h1,rfl⟩:=hd;have h2:(a.size:Int)+(b.size:Int)<=9223372036854775807:=by unfold maxLen at h1;omega
  simp[eqGuard,binOp,Op.stringOp,rd,h2,h1]
 all_goals (subst hd;simp[eqGuard,binOp,Op.stringOp,rd,ByteArray.toList_eq,Qm, -beq_iff_eq])
theorem RE_ {op:BinOp} {t:TypeId} {xo yo:Operand} {x y d:DVal} {u v:Value} (hd:Jf P op t x y=some d) (rx:rd cur M h x u) (ry:rd cur M h y v) :
  ∃r,(do eqGuard op t xo yo u v;binOp op t u v:Sem Value).run P w= .ok r w/\rd cur M h d r:=by
 cases x<;>cases y<;>(try (simp[Jf]at hd;done))
 case bool.bool a b =>
  simp only[rd]at rx ry;subst rx;subst ry;simp only[Jf]at hd
  split at hd
  ·rename_i hb
   have ht:P.underlying t=some .bool:=by
    unfold tBool at hb
    split at hb
    ·assumption
    ·simp at hb
   cases op<;>simp at hd<;>subst hd <;>
    simp[eqGuard,binOp,Op.equal,Op.maxDepth,run_equalIn_bool' w _ t _ _ ht,rd]
  ·simp at hd
 case int.int k a k' b =>
  simp only[rd]at rx ry;obtain⟨rfl,rx⟩:=rx;obtain⟨rfl,ry⟩:=ry;exact PB_ rx hd
 case str.str a b =>
  simp only[rd]at rx ry;obtain⟨rfl,rx⟩:=rx;obtain⟨rfl,ry⟩:=ry;exact PA_ hd
 case nilp.nilp =>
  simp only[rd]at rx ry;subst rx;subst ry;simp only[Jf]at hd
  split at hd
  ·rename_i hb;have he:=Jo (P:=P) (w:=w) hb none
   cases op<;>simp only[aA0,reduceCtorEq]at hd<;>subst hd <;>
    simp only[Sem.run_bind,SM,Result.andThen_ok,OA,Oz,he,Sem.run_pure]<;>exact⟨_,rfl,by simp[rd]⟩
  ·simp at hd
 case nilsl.nilsl =>
  simp only[rd]at rx ry;subst rx;subst ry;simp only[Jf]at hd
  split at hd
  ·rename_i hb;exact oK none 0 0 hb (by simpa using hd)
  ·simp at hd
 case esl.nilsl =>
  simp only[rd]at rx ry;subst ry;obtain⟨ad,cap,rfl,_⟩:=rx;simp only[Jf]at hd
  split at hd
  ·rename_i hb;exact oK (some ad) 0 cap hb (by simpa using hd)
  ·simp at hd
 case sl.nilsl k bs es =>
  cases es with
  | nil=>simp[Jf]at hd
  | cons e0 es =>
   simp only[rd]at rx ry;subst ry;obtain⟨a,cap,rfl,_,_,_,h5⟩:=rx;simp only[Jf]at hd
   split at hd
   ·rename_i hb
    rcases h5 with h5 | ⟨b,off,arr,ty,fz,rfl,_⟩
    ·simp at h5
    ·exact oK _ _ cap hb (by simpa using hd)
   ·simp at hd
 case nilmp.nilmp =>
  simp only[rd]at rx ry;subst rx;subst ry;simp only[Jf]at hd
  split at hd
  ·rename_i hb;exact IH_ none hb (by simpa using hd)
  ·simp at hd
 case mp.nilmp ks vs =>
  simp only[rd]at rx ry;subst ry;obtain⟨b,es,clk,rfl,_⟩:=rx;simp only[Jf]at hd
  split at hd
  ·rename_i hb;exact IH_ (some b) hb (by simpa using hd)
  ·simp at hd
 case ref.nilp =>
  simp only[rd]at rx ry;subst ry;obtain⟨b,off,arr,ty,fz,rfl,_,_,_⟩:=rx;simp only[Jf]at hd
  split at hd
  ·rename_i hb;have he:=Jo (P:=P) (w:=w) hb (some ⟨b,off,none⟩)
   cases op<;>simp only[aA0,reduceCtorEq]at hd<;>subst hd <;>
    simp only[Sem.run_bind,SM,Result.andThen_ok,OA,Oz,he,Sem.run_pure]<;>exact⟨_,rfl,by simp[rd]⟩
  ·simp at hd
 case agg.agg xs ys =>
  simp only[rd]at rx ry;obtain⟨us,rfl,rx⟩:=rx;obtain⟨vs,rfl,ry⟩:=ry;simp only[Jf]at hd
  split at hd
  ·simp at hd
  rename_i kL
  split at hd
  ·simp at hd
  rename_i tE;simp only[ne_eq,Decidable.not_not]at tE
  split at hd
  ·rename_i ks vH
   split at hd
   ·rename_i fY;simp only[aM0]at fY;have e:=Ik (P:=P) 10000 t ks true xs ys us.toList vs.toList w vH tE fY.1 fY.2 rx ry;simp only[valOf,if_true,Array.toArray_toList]at e;have g:(eqGuard op t xo yo (.agg us) (.agg vs)).run P w= .ok () w:=run_eqGuard_agg w op t xo yo us vs (by simpa using kL)
    cases op<;>simp only[aA0,reduceCtorEq]at hd<;>subst hd <;>
     simp only[Sem.run_bind,g,Result.andThen_ok,run_eql_struct,run_neq_struct,e]<;>exact⟨_,rfl,by simp[rd]⟩
   ·simp at hd
  ·simp at hd
end
section
variable (P : Program)
def tMap (t:TypeId):Option (TypeId×TypeId):=match P.underlying t with | some (.map k e)=>some (k,e) | _=>none
def VM : DVal->Bool
 | .agg _=>true
 | _=>false
def BY : DVal->List DVal
 | .agg cs=>cs
 | d=>[d]
def CS (kt:TypeId) (d:DVal):Bool:=match flat P 10000 kt,tAgg P kt with
 | some cks,some b=>BI cks (BY d)&&(b==VM d)
 | _,_=>false
def tZeroD (t:TypeId):Option DVal:=match P.info? t with
 | some i=>i.zero.map ofV
 | none=>none
end
def AZ : List DVal->DVal->Option Nat
 | [],_=>none
 | k::ks,x=>if Ek (BY x) (BY k)then some 0 else (AZ ks x).map (· +1)
section
variable {P : Program} {cur : Gp} {M : List Nat} {h : Array Obj}
theorem IQ {d:DVal} {v:Value} {b:Bool} (hb:b=VM d) (hr:rd cur M h d v):∃us,AL cur M h (BY d) us/\v=valOf b us:=by
 cases d<;>simp only[VM]at hb<;>subst hb<;>simp only[BY]
 case agg cs =>
  simp only[rd]at hr;obtain⟨us,rfl,h2⟩:=hr;exact⟨us.toList,h2,by simp[valOf]⟩
 all_goals exact⟨[v],by simp only[AL];exact⟨v,[],rfl,hr,rfl⟩,by simp[valOf]⟩
theorem Oj {kt:TypeId} {x k:DVal} {u v:Value} {w:World} (hx:CS P kt x=true) (hk:CS P kt k=true) (rx:rd cur M h x u) (rk:rd cur M h k v) :
  (Op.equal kt u v).run P w= .ok (Ek (BY x) (BY k)) w:=by
 unfold CS at hx hk
 split at hx
 ·rename_i cks b hf hb;rw[hf,hb]at hk;simp only[aM0,beq_iff_eq]at hx hk;obtain⟨us,h1,rfl⟩:=IQ hx.2 rx;obtain⟨vs,h2,rfl⟩:=IQ hk.2 rk;exact Ik (P:=P) 10000 kt cks b _ _ us vs w hf hb hx.1 hk.1 h1 h2
 ·simp at hx
theorem Py : ∀(d:Nat) (t:TypeId) (cks:List CK) (b:Bool) (xs:List DVal) (us:List Value) (w:World) (e:Bool),flat P d t=some cks->tAgg P t=some b->BI cks xs=true->AL cur M h xs us ->
  (Instr.checkKey e d t (valOf b us)).run P w= .ok () w
 | 0,t,cks,b,xs,us,w,e,hf,_,_,_=>by simp[flat]at hf
 | d+1,t,cks,b,xs,us,w,e,hf,hb,hx,rx=>by
  obtain⟨b',qG,h1,h2,h3⟩:=Qd hf;rw[hb]at qG;simp only[aA0]at qG;subst qG
  cases b with
  | false =>
   have hns:=h3 rfl;rw[flat]at hf
   split at hf
   ·rename_i hu;simp[Instr.checkKey,run_underlying hu]
   ·rename_i hu;simp[Instr.checkKey,run_underlying hu]
   ·rename_i hu;simp[Instr.checkKey,run_underlying hu]
   ·rename_i fs hu;simp[Eo,hu]at hns
   ·simp at hf
  | true =>
   have qD:=h2 rfl
   obtain⟨fs,hu⟩:∃fs,P.underlying t=some (.struct fs):=by
    unfold Eo at qD
    split at qD
    ·exact⟨_,by assumption⟩
    ·simp at qD
   simp only[flat,hu]at hf
   split at hf
   ·simp at hf
   have vY:∀(fl:List Field) (o:Nat) (ks:List CK) (xs:List DVal) (us0 us:List Value),Wd P (flat P d) o fl=some ks->BI ks xs=true->AL cur M h xs us->us0.length=o ->
     (forIn fl PUnit.unit (fun(f:Field) (_:PUnit)=>(if f.name≠ "_" then (do let v <-part f.type (us0++us).toArray f.offset;Instr.checkKey e d f.type v;pure (ForInStep.yield PUnit.unit))else pure (ForInStep.yield PUnit.unit):Sem (ForInStep PUnit)))).run P w= .ok PUnit.unit w:=by
    intro fl
    induction fl with
    | nil=>intros;simp
    | cons f fl ih =>
     intro o ks xs us0 us hf hx rx l1;simp only[Wd]at hf
     split at hf
     ·simp at hf
     rename_i hnm
     split at hf
     ·simp at hf
     rename_i hof;simp only[ne_eq,Decidable.not_not]at hof
     split at hf
     rotate_left
     ·simp at hf
     rename_i k1 jE
     split at hf
     rotate_left
     ·simp at hf
     rename_i qM;simp only[bH0]at hf;obtain⟨k2,jM,rfl⟩:=hf;obtain⟨b,hb,qE,_,_⟩:=Qd jE;have sx:=Jz k1 k2 xs hx;have lx:=EP _ _ hx;have rlx:=AM _ _ rx;simp only[aC0]at lx;have p1:=Px (P:=P) (w:=w) (us:=(us0++us).toArray) (o:=o) hb qM qE (by simp;omega);have d1:((us0++us).toArray.toList.drop o).take k1.length=us.take k1.length:=by subst l1;simp
     rw[d1]at p1;have e1:=Py d f.type k1 b (xs.take k1.length) (us.take k1.length) w e jE hb sx.1 (Kb _ _ _ rx);have ih':=ih (o+k1.length) k2 (xs.drop k1.length) (us0++us.take k1.length) (us.drop k1.length) jM sx.2 (Kc _ _ _ rx) (by simp;omega);rw[aR0,List.take_append_drop]at ih';simp only[List.forIn_cons,ne_eq,hnm,not_false_eq_true,if_true,Sem.run_bind,hof,p1,Result.andThen_ok,e1,Sem.run_pure];exact ih'
   have:=vY fs.toList 0 cks xs [] us hf hx rx rfl;simp only[List.nil_append]at this;simp only[valOf,if_true,Instr.checkKey,Sem.run_bind,run_underlying hu,Result.andThen_ok];rw[<-Array.forIn_toList];rw[this];rfl
theorem GO {kt:TypeId} {x:DVal} {u:Value} {w:World} {e:Bool} (hx:CS P kt x=true) (rx:rd cur M h x u):(Instr.checkKey e 10000 kt u).run P w= .ok () w:=by
 unfold CS at hx
 split at hx
 ·rename_i cks b hf hb;simp only[aM0,beq_iff_eq]at hx;obtain⟨us,h1,rfl⟩:=IQ hx.2 rx;exact Py 10000 kt cks b _ us w e hf hb hx.1 h1
 ·simp at hx
theorem Mf {kt:TypeId} {x:DVal} {u:Value} {w:World} (hx:CS P kt x=true) (rx:rd cur M h x u):∀(es:List MapEntry) (ks:List DVal) (i:Nat),ks.all (CS P kt)=true->AL cur M h ks (es.map (·.key)) ->
  (Instr.findAsking kt u es i).run P w= .ok ((AZ ks x).map fun j=>(i+j,(es[j]?.map (·.val)).getD Go.undef)) w
 | [],ks,i,_,hr=>by
  have:=AM _ _ hr;have:ks=[]:=bP0 (by simpa using this.symm);subst this;simp[Instr.findAsking,AZ]
 | e::es,ks,i,hk,hr=>by
  cases ks with
  | nil=>have:=AM _ _ hr;simp at this
  | cons k ks =>
   simp only[List.map_cons,AL]at hr;obtain⟨v,r,heq,h1,h2⟩:=hr;simp only[bL0]at heq;obtain⟨rfl,rfl⟩:=heq;simp only[cX0,aM0]at hk;have he:=Oj (w:=w) hx hk.1 rx h1;simp only[Instr.findAsking,Sem.run_bind,he,Result.andThen_ok,AZ]
   cases hq:Ek (BY x) (BY k)with
   | true=>simp
   | false =>
    simp only[aK0,if_false];rw[Mf hx rx es ks (i+1) hk.2 h2]
    cases AZ ks x with
    | none=>simp
    | some j=>simp;omega
theorem Jn {kt:TypeId} {x:DVal} {u:Value} {w:World} (hx:CS P kt x=true) (rx:rd cur M h x u) (es:List MapEntry) (ks:List DVal) (hk:ks.all (CS P kt)=true) (hr:AL cur M h ks (es.map (·.key))) :
  (Instr.findKey kt u es).run P w= .ok ((AZ ks x).map fun j=>(j,(es[j]?.map (·.val)).getD Go.undef)) w:=by
 have hask:=Mf (w:=w) hx rx es ks 0 hk hr;simp only[bX0]at hask
 obtain⟨d,hd⟩:∃d,P.underlying kt=some d:=by
  unfold CS at hx
  split at hx
  ·rename_i cks b hf hb;unfold tAgg at hb
   split at hb<;>first | exact⟨_,by assumption⟩ | simp at hb
  ·simp at hx
 simp only[Instr.findKey,Sem.run_bind,run_underlying hd,Result.andThen_ok]
 -- where the types decide at once, they decide alike
 have now:∀(es:List MapEntry) (ks:List DVal) (i:Nat) (r:Option (Nat×Value)),ks.all (CS P kt)=true->AL cur M h ks (es.map (·.key))->Instr.findNow d u es i=some r->r=(AZ ks x).map fun j=>(i+j,(es[j]?.map (·.val)).getD Go.undef):=by
  intro es
  induction es with
  | nil =>
   intro ks i r _ hr hn;have:=AM _ _ hr;have:ks=[]:=bP0 (by simpa using this.symm);subst this;simp only[Instr.findNow,aA0]at hn;subst hn;simp[AZ]
  | cons e es ih =>
   intro ks i r hk hr hn
   cases ks with
   | nil=>have:=AM _ _ hr;simp at this
   | cons k ks =>
    simp only[List.map_cons,AL]at hr;obtain⟨v,r',heq,h1,h2⟩:=hr;simp only[bL0]at heq;obtain⟨rfl,rfl⟩:=heq;simp only[cX0,aM0]at hk;have he:=Oj (w:=⟨#[],fun _ _=>0,0,default, #[]⟩) hx hk.1 rx h1
    have jW:∀b,Instr.sameNow d u e.key=some b->b=Ek (BY x) (BY k):=by
     intro b hb;have e0:Op.equal kt u e.key=Op.equalIn (9999+1) kt u e.key:=rfl;rw[e0]at he;unfold Instr.sameNow at hb
     split at hb
     ·rename_i k1 a k2 b2 heq
      split at hb
      ·rename_i qY;subst qY;simp only[aA0]at hb;subst hb;rw[heq]at he;have gen:∀n w k,(Op.equalIn (n+1) kt (.int k a) (.int k b2)).run P w= .ok (a==b2) w:=by intro n w k;simp[Op.equalIn,run_underlying hd]
       rw[gen]at he;simp only[Result.ok.injEq,and_true]at he;exact he
      ·simp at hb
     ·rename_i a b2 heq;simp only[aA0]at hb;subst hb;rw[heq]at he;have gen:∀n w,(Op.equalIn (n+1) kt (.string a) (.string b2)).run P w= .ok (a==b2) w:=by intro n w;simp[Op.equalIn,run_underlying hd]
      rw[gen]at he;simp only[Result.ok.injEq,and_true]at he;exact he
     ·rename_i a b2 heq;simp only[aA0]at hb;subst hb;rw[heq]at he;have gen:∀n w,(Op.equalIn (n+1) kt (.bool a) (.bool b2)).run P w= .ok (a==b2) w:=by intro n w;simp[Op.equalIn,run_underlying hd]
      rw[gen]at he;simp only[Result.ok.injEq,and_true]at he;exact he
     ·simp at hb
    simp only[Instr.findNow]at hn
    split at hn
    ·rename_i hs;simp only[aA0]at hn;subst hn;simp[AZ,<-jW true hs]
    ·rename_i hs;have:=ih ks (i+1) r hk.2 h2 hn;rw[this];simp only[AZ,<-jW false hs,aK0,if_false]
     cases AZ ks x with
     | none=>simp
     | some j=>simp;omega
    ·simp at hn
 cases hn:Instr.findNow d u es 0 with
 | some r =>
  have:=now es ks 0 r hk hr hn;simp only[bX0]at this;simp[this]
 | none=>exact hask
theorem AL_ : ∀{ks:List DVal} {x:DVal} {j:Nat},AZ ks x=some j->j<ks.length
 | [],x,j,h=>by simp[AZ]at h
 | k::ks,x,j,h=>by
  simp only[AZ]at h
  split at h
  ·simp only[aA0]at h;subst h;simp
  ·rw[bH0]at h;obtain⟨i,h1,rfl⟩:=h;have:=AL_ h1;simp;omega
theorem Kr_ {t:TypeId} {z:DVal} (hz:tZeroD P t=some z) {w:World}:∃v,(zeroValue t).run P w= .ok v w/\rd cur M h z v:=by
 unfold tZeroD at hz
 split at hz
 ·rename_i i hi;rw[bH0]at hz;obtain⟨v,hv,rfl⟩:=hz;exact⟨v,by simp[zeroValue,typeInfo,hi,hv],NM_ v⟩
 ·simp at hz
end
def AU : DVal->List DVal
 | .agg cs=>cs
 | d=>[d]
def EF (cells:List DVal) (off:Nat) (cs:List DVal):List DVal:=cells.take off++cs++cells.drop (off+cs.length)
def LK (place:Nat->Option (Nat×Nat)) (cells:List DVal):List (Nat×DVal)->Option (List DVal)
 | []=>some cells
 | (i,d)::rest=>match place i with
  | none=>none
  | some (off,size)=>if (AU d).length=size/\off+size<=cells.length then LK place (EF cells off (AU d)) rest else none
def HC (own:List Ent) (id r:Nat):Bool:=match Ax own id with | some e=>e.r==r | none=>false
def Hs (own:List Ent):DVal->Bool
 | .any | .undef | .sel _ _ | .tup _ | .agg _=>false
 | .bx id r _=>HC own id r
 | .rx id r _ _ _=>HC own id r
 | .omp id r=>HC own id r
 | .osl id r=>(Bz own (.osl id r)).isSome
 | .vw id r _ _ _ _=>HC own id r
 | .pk id r=>match Ax own id with | some e=>e.r==r&&(match e.obj with | .abs _=>true | _=>false) | none=>false
 | _=>true
def Dr (own:List Ent) (d:DVal):Bool:=(AU d).all (Hs own)
def Mq (t:Bool):DVal->DVal->DVal
 | .bool p,.bool q=> .bool (if t then p else q)
 | .bool p,.sel _ (.bool q)=> .bool (if t then p else q)
 | .sel _ (.bool p),.bool q=> .bool (if t then p else q)
 | a,b=>if t then a else b
def La (t:Bool):DVal->DVal->Prop
 | .bool _,.sel c (.bool _)=>t=false->c=true
 | .sel c (.bool _),.bool _=>t=true->c=true
 | _,_=>True
def IF (own:List Ent) (d:DVal) (n:Int):DVal :=
 match d with
 | .sl _ _ es=> .ref (es.getD n.toNat [])
 | .osl id r=>match Bz own (.osl id r)with | some (k,_,_)=> .rx id r k n.toNat 0 | none=> .any
 | .vw id r k _ i _=> .rx id r k (i+n.toNat) 0
 | _=> .any
def IB (own:List Ent):DVal->Option (List DVal×List DVal)
 | .mp ks vs=>some (ks,vs)
 | .nilmp=>some ([],[])
 | .omp id r=>match Ax own id with
  | some e=>if e.r=r then (match e.obj with | .map ks vs=>some (ks,vs) | _=>none)else none
  | none=>none
 | _=>none
def DY (e:Operand->DVal) (dflt:Int):Option Operand->Int
 | none=>dflt
 | some x=>match e x with | .int _ n=>n | _=> -1
def FS (e:Operand->DVal) (len:Nat) (l h m:Option Operand):Prop :=
 0<=DY e 0 l/\DY e 0 l<=DY e len h/\DY e len h<=DY e len m/\DY e len m<=len/\(m.isSome=true->h.isSome=true)
section
variable (P : Program) (own : List Ent) (e : Operand -> DVal)
def Yn : Builtin->List DVal->List TypeId->Prop
 | .len,[d],[t]=>match d with
  | .str _=>tStr P t=true
  | .nilsl=>(tElem P t).isSome=true
  | .mp ks _=>(tMap P t).isSome=true/\(ks.length:Int)<=9223372036854775807
  | .nilmp=>(tMap P t).isSome=true
  | .omp id r=>(tMap P t).isSome=true/\match IB own (.omp id r)with | some (ks,_)=>(ks.length:Int)<=9223372036854775807 | none=>False
  | d=>(Bz own d).isSome=true/\(tElem P t).isSome=true
 | .min,[x,y],_=>match x,y with | .int k _,.int k' _=>k=k' | _,_=>False
 | .max,[x,y],_=>match x,y with | .int k _,.int k' _=>k=k' | _,_=>False
 | .append,[x,y],[t,t']=>match x,y with | .nilsl,.nilsl=>t'=t/\(tElem P t).isSome=true | _,_=>False
 | _,_,_=>False
def Qw : Builtin->List DVal->DVal
 | .len,[d]=>match d with
  | .str s=> .int .i64 s.size
  | .nilsl=> .int .i64 0
  | .mp ks _=> .int .i64 ks.length
  | .nilmp=> .int .i64 0
  | .omp id r=>match IB own (.omp id r)with | some (ks,_)=> .int .i64 ks.length | none=> .any
  | d=>match Bz own d with | some (_,_,es)=> .int .i64 es.length | none=> .any
 | .min,[x,y]=>match x,y with | .int k a,.int _ b=> .int k (if b<a then b else a) | _,_=> .any
 | .max,[x,y]=>match x,y with | .int k a,.int _ b=> .int k (if a<b then b else a) | _,_=> .any
 | .append,[x,y]=>match x,y with | .nilsl,.nilsl=> .nilsl | _,_=> .any
 | _,_=> .any
def OH (t:TypeId) (i:Nat):Option (Nat×Nat):=(tField P t i).map fun x=>(x.1,x.2.1)
def tParts (t:TypeId):Bool:=match Eo P t with | some fs=>fs.toList.all fun f=>(tCells P f.type).isSome | none=>false
def tElemZ (t:TypeId):Bool:=match P.underlying t with | some (.slice e)=>(tZero P e).isSome | _=>false
def Hu : Op->Prop
 | .move _=>True
 | .assign _=>True
 | .pick c a b=>match e c with | .bool t=>La t (e a) (e b) | _=>False
 | .fieldAddr t x f=>match tField P t f,e x with
  | some (_,n,_),.ref _=>n≠0
  | some (_,n,_),.bx id r _=>n≠0/\HC own id r=true
  | some (_,n,_),.rx id r _ _ _=>n≠0/\HC own id r=true
  | _,_=>False
 | .load t a=>match tAgg P t,tCells P t,EQ own (e a)with
  | some true,some n,some cs=>n<=cs.length
  | some false,_,some cs=>0<cs.length
  | _,_,_=>False
 | .indexAddr t x i=>match e i,tElem P t,Bz own (e x)with
  | .int _ n,some (k,_),some (k',_,es)=>k=k'/\0<=n/\n<es.length
  | _,_,_=>False
 | .index t x i=>match e x,e i with
  | .str s,.int _ n=>tStr P t=true/\0<=n/\n<s.size
  | _,_=>False
 | .field t x f=>match tField P t f,e x with
  | some (off,n,b),.agg cs=>off+n<=cs.length/\(b=false->n=1)
  | _,_=>False
 | .binOp op t x y _=>(Jf P op t (e x) (e y)).isSome=true
 | .unOp op _ x=>match op,e x with
  | .not,.bool _=>True
  | .neg,.int _ _=>True
  | _,_=>False
 | .convert src dst x=>(P.underlying src).isSome=true/\match e x with
  | .int _ _=>(Ss_ P dst).isSome=true
  | .str _=>tStr P dst=true
  | _=>False
 | .extract x i=>match e x with
  | .tup vs=>i<vs.length
  | _=>False
 | .makeFunc _ _ _=>True
 | .makeInterface t _=>(match P.underlying t with | some (.interface _)=>False | some _=>True | none=>False)
 | .nilCheck x=>match e x with
  | .ref _=>True
  | .bx id r _=>HC own id r=true
  | .rx id r _ _ _=>HC own id r=true
  | .fn (.func _) _ _=>True
  | _=>False
 | .box _ x=>Dr own (e x)=true
 | .build t parts=>match tZero P t with
  | some z=>(LK (OH P t) z (parts.toList.map fun p=>(p.1,e p.2))).isSome=true/\(parts.toList.all fun p=>Dr own (e p.2))=true/\tParts P t=true
  | none=>False
 | .buildSlice t len parts=>match tElem P t with
  | some (k,bs)=>parts.toList.map (·.1)=List.range len/\len*k<=16777216/\len*bs<=150000000000000/\len<=16777216/\0<k/\(parts.toList.all fun p=>Dr own (e p.2)&&(AU (e p.2)).length==k)=true/\tElemZ P t=true
  | none=>False
 | .call c=>match c.callee with
  | .builtin b=>Yn P own b (c.args.toList.map e) c.argTypes.toList
  | _=>False
 | .slice t x l h m=>match e x with
  | .sl k _ es=>tElem P t=some (k,(tElem P t).elim 0 (·.2))/\FS e es.length l h m
  | .nilsl=>(tElem P t).isSome=true/\FS e 0 l h m
  | .osl id r=>m=none/\match Bz own (.osl id r)with | some (k,_,es)=>tElem P t=some (k,(tElem P t).elim 0 (·.2))/\FS e es.length l h none | none=>False
  | .vw id r k bs i n=>m=none/\(Bz own (.vw id r k bs i n)).isSome=true/\tElem P t=some (k,(tElem P t).elim 0 (·.2))/\FS e n l h none
  | .str str=>tStr P t=true/\m=none/\FS e str.size l h none
  | _=>False
 | .lookup t x i _=>match tMap P t,IB own (e x)with
  | some (kt,et),some (ks,_)=>CS P kt (e i)=true/\ks.all (CS P kt)=true/\(tZeroD P et).isSome=true
  | _,_=>False
 | _=>False
def Ck : Op->DVal
 | .move x=>e x
 | .assign x=>e x
 | .pick c a b=>match e c with | .bool t=>Mq t (e a) (e b) | _=> .any
 | .fieldAddr t x f=>match tField P t f,e x with
  | some (off,_,_),.ref cs=> .ref (cs.drop off)
  | some (off,_,_),.bx id r o=> .bx id r (o+off)
  | some (off,_,_),.rx id r k i j=> .rx id r k i (j+off)
  | _,_=> .any
 | .load t a=>match tAgg P t,tCells P t,EQ own (e a)with
  | some true,some n,some cs=> .agg (cs.take n)
  | some false,_,some cs=>cs.headD .any
  | _,_,_=> .any
 | .indexAddr _ x i=>match e i with
  | .int _ n=>IF own (e x) n
  | _=> .any
 | .index _ x i=>match e x,e i with
  | .str s,.int _ n=> .int .u8 (s.data.toList.getD n.toNat 0).toNat
  | _,_=> .any
 | .field t x f=>match tField P t f,e x with
  | some (off,n,b),.agg cs=>if b then .agg ((cs.drop off).take n)else (cs.drop off).headD .any
  | _,_=> .any
 | .binOp op t x y _=>(Jf P op t (e x) (e y)).getD .any
 | .unOp op _ x=>match op,e x with
  | .not,.bool b=> .bool (!b)
  | .neg,.int k n=> .int k (k.wrap (0-n))
  | _,_=> .any
 | .convert _ dst x=>match e x with
  | .int _ n=>match Ss_ P dst with | some k=> .int k (k.wrap n) | none=> .any
  | d=>d
 | .extract x i=>match e x with
  | .tup vs=>vs.getD i .any
  | _=> .any
 | .makeFunc f us cs=> .fn f (us.toList.map e) (cs.toList.map e)
 | .makeInterface t x=> .ifc t (e x)
 | .nilCheck x=>e x
 | .box _ x=> .ref (AU (e x))
 | .build t parts=>match tZero P t with
  | some z=> .agg ((LK (OH P t) z (parts.toList.map fun p=>(p.1,e p.2))).getD [])
  | none=> .any
 | .buildSlice t _ parts=>match tElem P t with
  | some (k,bs)=> .sl k bs (parts.toList.map fun p=>AU (e p.2))
  | none=> .any
 | .call c=>match c.callee with
  | .builtin b=>Qw own b (c.args.toList.map e)
  | _=> .any
 | .slice _ x l h _=>match e x with
  | .sl k bs es=> .sl k bs ((es.drop (DY e 0 l).toNat).take ((DY e es.length h).toNat-(DY e 0 l).toNat))
  | .nilsl=> .nilsl
  | .osl id r=>match Bz own (.osl id r)with | some (k,bs,es)=> .vw id r k bs (DY e 0 l).toNat ((DY e es.length h).toNat-(DY e 0 l).toNat) | none=> .any
  | .vw id r k bs i n=> .vw id r k bs (i+(DY e 0 l).toNat) ((DY e n h).toNat-(DY e 0 l).toNat)
  | .str str=> .str (str.extract (DY e 0 l).toNat (DY e str.size h).toNat)
  | _=> .any
 | .lookup t x i ok=>match tMap P t,IB own (e x)with
  | some (_,et),some (ks,vs) =>
   let r:=AZ ks (e i)
   let v:=match r with | some j=>vs.getD j .any | none=>(tZeroD P et).getD .any
   if ok then .tup [v,.bool r.isSome]else v
  | _,_=> .any
 | _=> .any
end
section
variable {P : Program} {s : DS} {loc : Nat -> Loc} {M0 : List Nat} {w : World} {ρ : Operand -> Value}
abbrev BJ (s:DS) (loc:Nat->Loc) (M0:List Nat) (w:World) (d:DVal) (v:Value):Prop:=rd (cu s loc) (hm s loc M0) w.heap d v
def Yields (P:Program) (s:DS) (loc:Nat->Loc) (M0:List Nat) (w:World) (x:Sem Value) (d:DVal):Prop :=
 ∃v w',x.run P w= .ok v w'/\Upd [] w w'/\rd (cu s loc) (hm s loc M0) w'.heap d v
theorem Yields.same {x:Sem Value} {d:DVal} {v:Value} (hr:x.run P w= .ok v w) (hd:BJ s loc M0 w d v):Yields P s loc M0 w x d:=⟨v,w,hr,Upd.refl _ _,hd⟩
theorem Rh {t f off n:Nat} {b:Bool} {d:DVal} {v:Value} (hf:tField P t f=some (off,n,b)) (hn:n≠0) (hd:BJ s loc M0 w d v)
  (hk:(∃cs,d= .ref cs)\/(∃id r o,d= .bx id r o/\(Aj s.own loc id r).isSome=true)\/(∃id r k i j,d= .rx id r k i j/\(Aj s.own loc id r).isSome=true)) :
  Yields P s loc M0 w (Instr.fieldAt t v f) (match d with | .ref cs=> .ref (cs.drop off) | .bx id r o=> .bx id r (o+off) | .rx id r k i j=> .rx id r k i (j+off) | _=> .any):=by
 unfold tField at hf
 split at hf
 ·rename_i fs hu
  split at hf
  ·rename_i fl vC
   split at hf
   ·rename_i n' b' hn' qG;simp only[aA0,aY0]at hf;obtain⟨rfl,rfl,rfl⟩:=hf
    have main:∀a:Addr,a.spot=none->(Instr.fieldAt t (.pointer (some a)) f).run P w= .ok (.pointer (some ⟨a.block,a.off+fl.offset,none⟩)) w:=by
     intro a ha;obtain⟨ab,ao,asp⟩:=a;simp only at ha;subst ha;simp[Instr.fieldAt,run_underlying hu,vC,Instr.sureAddr,fieldPlace,DJ hn',hn,ES]
    rcases hk with ⟨cs,rfl⟩ | ⟨id,r,o,rfl,hc⟩ | ⟨id,r,k,i,j,rfl,hc⟩
    ·simp only[BJ,rd]at hd;obtain⟨bb,oo,arr,ty,fz,rfl,h2,h3,h4⟩:=hd;refine Yields.same (main _ rfl) ?_;simp only[BJ,rd];exact⟨bb,oo+fl.offset,arr,ty,fz,rfl,h2,h3,Ir _ _ _ _ h4⟩
    ·obtain⟨l,hl⟩:=bQ0.1 hc;simp only[BJ,rd]at hd;obtain⟨bb,qE,rfl⟩:=hd l hl;refine Yields.same (main _ rfl) ?_;simp only[BJ,rd];intro l' wD;have:l'=l:=by have h':Aj s.own loc id r=some l':=wD;rw[hl]at h';exact(Option.some.inj h').symm
     subst this;exact⟨bb,qE,rfl⟩
    ·obtain⟨l,hl⟩:=bQ0.1 hc;simp only[BJ,rd]at hd;obtain⟨bb,qE,rfl⟩:=hd l hl;refine Yields.same (main _ rfl) ?_;simp only[BJ,rd];intro l' wD;have:l'=l:=by have h':Aj s.own loc id r=some l':=wD;rw[hl]at h';exact(Option.some.inj h').symm
     subst this;exact⟨bb,qE,by simp[dA0]⟩
   ·simp at hf
  ·simp at hf
 ·simp at hf
theorem RD (S:St s.own loc M0 w.heap) {t:TypeId} {d:DVal} {v:Value} {cs:List DVal} {b:Bool} (hb:tAgg P t=some b) (hd:BJ s loc M0 w d v) (hc:EQ s.own d=some cs)
  (hn:b=true->∃n,tCells P t=some n/\n<=cs.length) (h0:b=false->0<cs.length) :
  ∃ad u,v= .pointer (some ad)/\(loadVar t ad).run P w= .ok u w/\BJ s loc M0 w (match b with | true=> .agg (cs.take ((tCells P t).getD 0)) | false=>cs.headD .any) u:=by
 obtain⟨bb,off,arr,ty,fz,rfl,h2,h3⟩:=Hb_ S hd hc
 cases b with
 | true =>
  obtain⟨n,hn,vS⟩:=hn rfl;obtain⟨vs,g1,g2,g3⟩:=GY _ _ _ (PE n cs arr off h3);have qZ:vs.length=n:=by rw[g1];simp;omega
  have hl:=run_loadCells_list (P:=P) w ⟨bb,off,none⟩ vs (fun j u hj=>by
   rw[ES];simp only[World.cell?,h2]
   exact(g3 j u hj).1)
  rw[qZ]at hl;refine⟨_,.agg vs.toArray,rfl,?_,?_⟩
  ·simp[loadVar,Nn hb,DJ hn,hl]
  ·simp only[hn,cC0,BJ,rd];exact⟨vs.toArray,rfl,g2⟩
 | false =>
  match cs,h0 rfl,h3 with
  | d0::cs,_,h3 =>
   simp only[ET]at h3;obtain⟨⟨u,k1,k2,k3⟩,_⟩:=h3;refine⟨_,u,rfl,?_,by simpa[BJ]using k3⟩;simp[loadVar,Nn hb,run_load,World.cell?,h2,k1]
theorem MQ_ (S:St s.own loc M0 w.heap) {t:TypeId} {d:DVal} {v:Value} {cs:List DVal} {b:Bool} (hb:tAgg P t=some b) (hd:BJ s loc M0 w d v) (hc:EQ s.own d=some cs)
  (hn:b=true->∃n,tCells P t=some n/\n<=cs.length) (h0:b=false->0<cs.length) :
  Yields P s loc M0 w (Instr.loadAt t v) (match b with | true=> .agg (cs.take ((tCells P t).getD 0)) | false=>cs.headD .any):=by
 obtain⟨ad,u,rfl,h1,h2⟩:=RD S hb hd hc hn h0;exact Yields.same (v:=u) (by simp[Instr.loadAt,Instr.sureAddr,h1]) h2
theorem Cc {t k bs:Nat} (h:tElem P t=some (k,bs)):∃e i,P.underlying t=some (.slice e)/\P.info? e=some i/\i.size=k/\i.bytes=bs/\tCells P e=some k:=by
 unfold tElem at h
 split at h
 ·rename_i e hu
  cases hi:P.info? e with
  | none=>simp[hi]at h
  | some i =>
   simp only[hi,dJ0,aA0,aY0]at h;exact⟨e,i,hu,hi,h.1,h.2,by simp[tCells,hi,h.1]⟩
 ·simp at h
theorem Ki_ (S:St s.own loc M0 w.heap) {t:TypeId} {d:DVal} {v:Value} {ik:IntKind} {n:Int} {k bs bs':Nat} {es:List (List DVal)} (ht:tElem P t=some (k,bs)) (hd:BJ s loc M0 w d v)
  (hr:Bz s.own d=some (k,bs',es)) (h0:0<=n) (h1:n<es.length) :
  Yields P s loc M0 w (Instr.indexAt t v (.int ik n)) (IF s.own d n):=by
 obtain⟨e,i,hu,hi,qM,_,hcells⟩:=Cc ht
 have run:∀(a:Addr) (len cap:Nat),n<len->(Instr.indexAt t (.slice (some a) len cap) (.int ik n)).run P w= .ok (.pointer (some (a.add (n.toNat*k)))) w:=by
  intro a len cap qV;simp[Instr.indexAt,asIntOf,run_underlying hu,h0,qV,DJ hcells]
 have qK:es≠[]:=by intro h;subst h;simp at h1;omega
 cases d with
 | sl k0 b0 es0 =>
  simp only[Bz,aA0,aY0]at hr;obtain⟨rfl,rfl,rfl⟩:=hr;simp only[BJ,rd]at hd;obtain⟨a,cap,rfl,g2,g3,g4,g5⟩:=hd
  rcases g5 with g5 | ⟨bb,off,arr,ty,fz,rfl,q1,q2,q3⟩
  ·exact absurd g5.1 qK
  ·refine Yields.same (run _ _ _ h1) ?_;rw[ES];simp only[IF,BJ,rd];have qV:n.toNat<es0.length:=by omega
   have zV:=EW _ _ _ _ n.toNat (es0[n.toNat]) q3 (aD0 qV);refine⟨bb,off+n.toNat*k0,arr,ty,fz,rfl,q1,q2,?_⟩;rw[aZ0,aD0 qV];exact zV.2
 | osl id r =>
  have qC:=hr;unfold Bz at hr;simp only at hr
  split at hr
  ·rename_i e0 zG
   split at hr
   ·rename_i wB
    split at hr
    ·rename_i et0 k0 b0 es0 vX;simp only[aA0,aY0]at hr;obtain⟨rfl,rfl,rfl⟩:=hr;obtain⟨zA,hid⟩:=AN zG;have hk:=S.ok e0 zA;rw[vX]at hk;obtain⟨_,hk⟩:=hk;have qB:Aj s.own loc id r=some (loc id):=by unfold Aj;rw[zG];simp[wB]
     simp only[BJ,rd]at hd;have hv:=hd (loc id) qB;rw[<-hid]at hv
     rcases hk with ⟨rfl,_⟩ | ⟨b,arr,cap,p1,p2,p3,p4,p5,p6,p7⟩
     ·exact absurd rfl qK
     ·rw[p2]at hv;subst hv;refine Yields.same (run _ _ _ h1) ?_;rw[ES];simp only[IF,qC,BJ,rd];intro l hl;have wD:Aj s.own loc id r=some l:=hl;rw[qB]at wD;simp only[aA0]at wD;subst wD;exact⟨b,by rw[<-hid];exact p1,by simp⟩
    ·simp at hr
   ·simp at hr
  ·simp at hr
 | vw id r kk bb i0 n0 =>
  unfold Bz at hr;simp only at hr
  split at hr
  ·rename_i e0 zG
   split at hr
   ·rename_i wB
    split at hr
    ·rename_i et0 k0 b0 es0 vX
     split at hr
     ·rename_i hb;obtain⟨rfl,rfl,hb⟩:=hb;simp only[aA0,aY0]at hr;obtain⟨rfl,rfl,rfl⟩:=hr;have qB:Aj s.own loc id r=some (loc id):=by unfold Aj;rw[zG];simp[wB]
      simp only[BJ,rd]at hd;obtain⟨a,cap,rfl,g1,g2,_,g3,_⟩:=hd (loc id) qB;have qV:n<(n0:Int):=by simp at h1;omega
      obtain⟨b,qE,rfl⟩:=g3 (by omega);refine Yields.same (run _ _ _ qV) ?_;rw[ES];simp only[IF,BJ,rd];intro l hl;have wD:Aj s.own loc id r=some l:=hl;rw[qB]at wD;simp only[aA0]at wD;subst wD;exact⟨b,qE,by simp[cA0]⟩
     ·simp at hr
    ·simp at hr
   ·simp at hr
  ·simp at hr
 | _=>simp[Bz]at hr
theorem QE_ {t f off n:Nat} {b:Bool} {cs:List DVal} {v:Value} (hf:tField P t f=some (off,n,b)) (hd:BJ s loc M0 w (.agg cs) v) (hl:off+n<=cs.length) (h1:b=false->n=1) :
  Yields P s loc M0 w (Instr.field t v f) (if b then .agg ((cs.drop off).take n)else (cs.drop off).headD .any):=by
 unfold tField at hf
 split at hf
 rotate_left
 ·simp at hf
 rename_i fs hu
 split at hf
 rotate_left
 ·simp at hf
 rename_i fl vC
 split at hf
 rotate_left
 ·simp at hf
 rename_i n' b' hn' qG;simp only[aA0,aY0]at hf;obtain⟨rfl,rfl,rfl⟩:=hf;simp only[BJ,rd]at hd;obtain⟨us,rfl,zF⟩:=hd;have qZ:=AM _ _ zF;have hp:=Px (P:=P) (w:=w) (us:=us) (o:=fl.offset) qG hn' h1 (by simp at qZ;omega);have zK:=Kb n' _ _ (Kc fl.offset _ _ zF);refine Yields.same (v:=valOf b' ((us.toList.drop fl.offset).take n')) ?_ ?_
 ·simp[Instr.field,run_underlying hu,vC,asAgg,hp]
 ·cases b' with
  | true=>simp only[valOf,if_true,BJ,rd];exact⟨_,rfl,zK⟩
  | false =>
   have:=h1 rfl;subst this;simp only[valOf,aK0,if_false,BJ];have qV:fl.offset<cs.length:=by omega
   rw[aP0 qV]at zK |-;simp only[dL0,eP0,AL]at zK;obtain⟨v,r,he,hv,rfl⟩:=zK;rw[he];simpa[aD0 qV]using hv
theorem MO_ {cs:List DVal} {us:List Value} {ty:TypeId} (zF:AL (cu s loc) (hm s loc M0) w.heap cs us) (wW:∀u∈us,u.oneCell'=true) (S:St s.own loc M0 w.heap) :
  Upd [] w (w.alloc (.cells us.toArray ty))/\w.heap.size∉hm s loc M0/\(w.alloc (.cells us.toArray ty)).heap[w.heap.size]? =some (.cells us.toArray ty (0,0)) /\
   ET (cu s loc) (hm s loc M0) (w.alloc (.cells us.toArray ty)).heap cs us.toArray 0:=by
 have hu:=Upd.alloc [] w (.cells us.toArray ty);have wV:(w.alloc (.cells us.toArray ty)).heap[w.heap.size]? =some (.cells us.toArray ty (0,0)):=heap_alloc_new w _;refine⟨hu,fun zA=>by have:=S.lt _ zA;omega,wV,?_⟩
 have W:Weak (cu s loc) (cu s loc) (hm s loc M0) (hm s loc M0) w.heap (w.alloc (.cells us.toArray ty)).heap (AV cs) :=
  Gt hu.nil (fun b hb=> .inl hb) (fun e' zT _=>Ba S.nd zT)
 have hus':=Bn W cs us (Nat.le_refl _) zF
 have key:∀(H:Array Obj) (cs:List DVal) (us pre:List Value),AL (cu s loc) (hm s loc M0) H cs us->(∀u∈us,u.oneCell'=true)->ET (cu s loc) (hm s loc M0) H cs (pre++us).toArray pre.length:=by
  intro H cs
  induction cs with
  | nil=>intros;simp[ET]
  | cons d ds ih =>
   intro us pre hr ho;simp only[AL]at hr;obtain⟨v,r,rfl,h1,h2⟩:=hr;simp only[ET];refine⟨⟨v,by simp,ho v aF0,h1⟩,?_⟩;have:=ih r (pre++[v]) h2 (fun u hu=>ho u (aE0 _ hu));simpa using this
 simpa using key _ cs us [] hus' wW
theorem FD {id r:Nat} (hc:HC s.own id r=true):Aj s.own loc id r=some (loc id):=by
 unfold HC at hc;unfold Aj
 split at hc
 ·rename_i e he
  try rw[he]
  have:e.r=r:=by simpa using hc
  simp[this]
 ·simp at hc
theorem Ic_ (S:St s.own loc M0 w.heap) {d:DVal} {v:Value} (ho:Hs s.own d=true) (hd:BJ s loc M0 w d v):v.oneCell'=true/\v.cells= #[v]:=by
 cases d<;>simp only[Hs,aK0]at ho<;>simp only[BJ,rd]at hd
 case bool=>subst hd;exact⟨rfl,rfl⟩
 case int=>obtain⟨rfl,_⟩:=hd;exact⟨rfl,rfl⟩
 case str=>obtain⟨rfl,_⟩:=hd;exact⟨rfl,rfl⟩
 case nilp=>subst hd;exact⟨rfl,rfl⟩
 case ref=>obtain⟨_,_,_,_,_,rfl,_⟩:=hd;exact⟨rfl,rfl⟩
 case bx id r o=>obtain⟨b,_,rfl⟩:=hd _ (FD ho);exact⟨rfl,rfl⟩
 case rx id r k i j=>obtain⟨b,_,rfl⟩:=hd _ (FD ho);exact⟨rfl,rfl⟩
 case nilsl=>subst hd;exact⟨rfl,rfl⟩
 case esl=>obtain⟨_,_,rfl,_⟩:=hd;exact⟨rfl,rfl⟩
 case sl=>obtain⟨_,_,rfl,_⟩:=hd;exact⟨rfl,rfl⟩
 case osl id r =>
  obtain⟨x,hx⟩:=bQ0.1 ho;obtain⟨a,cap,rfl,_⟩:=No (k:=x.1) (bs:=x.2.1) (es:=x.2.2) (p:= .osl id r) S (by simp only[rd];exact hd) hx;exact⟨rfl,rfl⟩
 case vw id r k bs i n=>obtain⟨_,_,rfl,_⟩:=hd _ (FD ho);exact⟨rfl,rfl⟩
 case nilmp=>subst hd;exact⟨rfl,rfl⟩
 case omp id r=>obtain⟨b,_,rfl⟩:=hd _ (FD ho);exact⟨rfl,rfl⟩
 case nilfn=>subst hd;exact⟨rfl,rfl⟩
 case fn=>obtain⟨_,_,rfl,_⟩:=hd;exact⟨rfl,rfl⟩
 case nilifc=>subst hd;exact⟨rfl,rfl⟩
 case ifc=>obtain⟨_,rfl,_⟩:=hd;exact⟨rfl,rfl⟩
 case mp=>obtain⟨_,_,_,rfl,_⟩:=hd;exact⟨rfl,rfl⟩
 case pk id r =>
  split at ho
  ·rename_i e he;simp only[aM0,beq_iff_eq]at ho;obtain⟨h1,h2⟩:=ho;have hv:=hd (loc id) (by show Aj _ _ _ _=_;unfold Aj;rw[he];simp[h1]);obtain⟨zA,hid⟩:=AN he;have hk:=S.ok e zA
   split at h2
   ·rename_i A qA;rw[qA]at hk;rw[hv,<-hid];exact A.one _ _ _ _ hk
   ·simp at h2
  ·simp at ho
theorem Iv (S:St s.own loc M0 w.heap):∀(ds:List DVal) (vs:List Value),ds.all (Hs s.own)=true->AL (cu s loc) (hm s loc M0) w.heap ds vs->∀v∈vs,v.oneCell'=true
 | [],vs,_,hr=>by simp only[AL]at hr;subst hr;simp
 | d::ds,vs,ha,hr=>by
  simp only[AL]at hr;obtain⟨v,r,rfl,h1,h2⟩:=hr;simp only[cX0,aM0]at ha;intro u hu
  rcases aL0.1 hu with rfl | hu
  ·exact(Ic_ S ha.1 h1).1
  ·exact Iv S ds r ha.2 h2 u hu
theorem Ky (S:St s.own loc M0 w.heap) {d:DVal} {v:Value} (hp:Dr s.own d=true) (hd:BJ s loc M0 w d v) :
  AL (cu s loc) (hm s loc M0) w.heap (AU d) v.cells.toList/\∀u∈v.cells.toList,u.oneCell'=true:=by
 have base:Hs s.own d=true->AL (cu s loc) (hm s loc M0) w.heap [d] v.cells.toList/\∀u∈v.cells.toList,u.oneCell'=true:=by
  intro ho;obtain⟨h1,h2⟩:=Ic_ S ho hd;rw[h2];refine⟨by simp only[AL];exact⟨v,[],rfl,hd,rfl⟩,by simpa using h1⟩
 cases d
 case agg cs =>
  simp only[BJ,rd]at hd;obtain⟨us,rfl,zF⟩:=hd;exact⟨zF,Iv S cs _ hp zF⟩
 all_goals exact base (by simpa[Dr,AU]using hp)
theorem Tq_ (S:St s.own loc M0 w.heap) {t:TypeId} {d:DVal} {v:Value} (hp:Dr s.own d=true) (hd:BJ s loc M0 w d v):Yields P s loc M0 w (Instr.box t v) (.ref (AU d)):=by
 obtain⟨h1,h2⟩:=Ky S hp hd;obtain⟨g1,g2,g3,g4⟩:=MO_ (ty:=t) h1 h2 S;refine⟨.pointer (some ⟨w.heap.size,0,none⟩),_,?_,g1,?_⟩
 ·simp[Instr.box,newVar,newRow]
 ·simp only[rd];exact⟨_,0,_,_,_,rfl,g2,g3,g4⟩
theorem OJ : ∀(us:List Value) (arr:Array Value) (off i:Nat),off+i+us.length<=arr.size ->
  ((us.zipIdx i).foldl (fun cs (c,j)=>cs.setIfInBounds (off+j) c) arr).toList=arr.toList.take (off+i)++us++arr.toList.drop (off+i+us.length)
 | [],arr,off,i,_=>by simp
 | u::us,arr,off,i,h=>by
  simp only[List.length_cons]at h;simp only[fQ0,cM0];rw[OJ us _ off (i+1) (by simp;omega)];simp only[Array.toList_setIfInBounds,List.length_cons];have qV:off+i<arr.toList.length:=by simp;omega
  rw[List.set_eq_take_append_cons_drop,if_pos qV];have e1:(arr.toList.take (off+i)).length=off+i:=by simp;omega
  rw[show off+(i+1)=(off+i)+1 by omega,List.take_append,e1];simp only[aR0,show off+i+1-(off+i)=1 by omega];rw[fJ0,List.drop_append,e1];simp only[show min (off+i+1) (off+i)=off+i by omega];rw[List.drop_take];have e2:off+i+1+us.length-(off+i)=us.length+1:=by omega
  have e3:off+i-(off+i+1+us.length)=0:=by omega
  simp only[e2,e3,eP0,List.nil_append,eF0,fL0,dL0,List.cons_append];simp
  congr 1
  omega
theorem ID_ {placeD placeV:Nat->Option (Nat×Nat)} (yJ:∀i x,placeD i=some x->placeV i=some x) :
  ∀(ds:List (Nat×DVal)) (vs:List (Nat×Value)) (cells:List DVal) (arr:Array Value) (out:List DVal),ds.map (·.1)=vs.map (·.1) ->
   (∀(i:Nat) (p:Nat×DVal) (q:Nat×Value),ds[i]? =some p->vs[i]? =some q->AL (cu s loc) (hm s loc M0) w.heap (AU p.2) q.2.cells.toList) ->
   AL (cu s loc) (hm s loc M0) w.heap cells arr.toList->LK placeD cells ds=some out->∃arr',Instr.fill placeV arr vs=some arr'/\AL (cu s loc) (hm s loc M0) w.heap out arr'.toList
 | [],vs,cells,arr,out,hi,_,hc,hf=>by
  simp only[List.map_nil]at hi;have:vs=[]:=by cases vs<;>simp_all
  subst this;simp only[LK,aA0]at hf;subst hf;exact⟨arr,rfl,hc⟩
 | (i,d)::ds,[],cells,arr,out,hi,_,_,_=>by simp at hi
 | (i,d)::ds,(i',v)::vs,cells,arr,out,hi,hr,hc,hf=>by
  simp only[List.map_cons,bL0]at hi;obtain⟨rfl,hi⟩:=hi;simp only[LK]at hf
  split at hf
  ·simp at hf
  rename_i off size hp
  split at hf
  rotate_left
  ·simp at hf
  rename_i qM;have h0:=hr 0 (i,d) (i,v) (by simp) (by simp);have mI:=AM _ _ h0;have hlc:=AM _ _ hc;simp only[bU0]at mI hlc;have qR:=OJ v.cells.toList arr off 0 (by simp;omega)
  have key:AL (cu s loc) (hm s loc M0) w.heap (EF cells off (AU d)) (v.cells.zipIdx.foldl (fun cs (c,j)=>cs.setIfInBounds (off+j) c) arr).toList:=by
   rw[<-Array.foldl_toList,Array.toList_zipIdx,qR];unfold EF;refine CU _ _ _ _ (CU _ _ _ _ ?_ h0) ?_
   ·simpa using Kb off _ _ hc
   ·simpa[mI]using Kc (off+(AU d).length) _ _ hc
  have ih:=ID_ yJ ds vs _ _ out hi (fun j p q hp hq=>hr (j+1) p q (by simpa using hp) (by simpa using hq)) key hf;obtain⟨arr',h1,h2⟩:=ih;refine⟨arr',?_,h2⟩;simp only[Instr.fill,yJ _ _ hp];rw[if_neg (by simp;omega)];exact h1
theorem uX {t:TypeId} {fs:Array Field} (hu:P.underlying t=some (.struct fs)) (wT:∀f∈fs.toList,(tCells P f.type).isSome=true) :
  (fs.mapM (m:=Sem) fun f=>do pure (f.offset,<-sizeOf f.type)).run P w= .ok (fs.map fun f=>(f.offset,(tCells P f.type).getD 0)) w:=by
 rw[<-Array.toArray_toList (xs:=fs)]
 generalize fs.toList=l at wT
 rw[List.mapM_toArray]
 have:∀(l:List Field),(∀f∈l,(tCells P f.type).isSome=true)->(l.mapM (m:=Sem) fun f=>do pure (f.offset,<-sizeOf f.type)).run P w= .ok (l.map fun f=>(f.offset,(tCells P f.type).getD 0)) w:=by
  intro l
  induction l with
  | nil=>intro _;simp
  | cons f l ih =>
   intro h;obtain⟨n,hn⟩:=bQ0.1 (h f aF0);have ih':=ih (fun g hg=>h g (aE0 _ hg));simp only[List.mapM_cons,Sem.run_bind,DJ hn,Result.andThen_ok,Sem.run_pure,ih',List.map_cons,hn,cC0]
 rw[Sem.run_map,this l wT];simp
theorem JV {t:TypeId} {z:List DVal} (hz:tZero P t=some z):∃v,(zeroValue t).run P w= .ok v w/\z=v.cells.toList.map CO:=by
 unfold tZero at hz
 split at hz
 ·rename_i i hi
  cases hv:i.zero with
  | none=>simp[hv]at hz
  | some v =>
   simp only[hv,dJ0,aA0]at hz;exact⟨v,by simp[zeroValue,typeInfo,hi,hv],hz.symm⟩
 ·simp at hz
theorem QF_ (S:St s.own loc M0 w.heap) {t:TypeId} {z out:List DVal} {fs:Array Field} {ds:List (Nat×DVal)} {vs:Array (Nat×Value)} (hz:tZero P t=some z) (hs:Eo P t=some fs)
  (wT:fs.toList.all (fun f=>(tCells P f.type).isSome)=true)
  (hi:ds.map (·.1)=vs.toList.map (·.1)) (hr:∀(i:Nat) (p:Nat×DVal) (q:Nat×Value),ds[i]? =some p->vs.toList[i]? =some q->AL (cu s loc) (hm s loc M0) w.heap (AU p.2) q.2.cells.toList)
  (hf:LK (OH P t) z ds=some out):Yields P s loc M0 w (Instr.build t vs) (.agg out):=by
 obtain⟨zv,jS,rfl⟩:=JV (w:=w) hz
 have hu:P.underlying t=some (.struct fs):=by
  unfold Eo at hs
  split at hs
  ·simp only[aA0]at hs;subst hs;assumption
  ·simp at hs
 have zA:=uX (P:=P) (w:=w) hu (bA0.1 wT)
 have yJ:∀i x,OH P t i=some x->((fs.map fun f=>(f.offset,(tCells P f.type).getD 0))[i]?)=some x:=by
  intro i x hx;unfold OH tField at hx;rw[hu]at hx;simp only at hx
  cases hfi:fs[i]? with
  | none=>simp[hfi]at hx
  | some f =>
   simp only[hfi]at hx
   cases hc:tCells P f.type with
   | none=>simp[hc]at hx
   | some n =>
    cases ha:tAgg P f.type with
    | none=>simp[hc,ha]at hx
    | some b =>
     simp only[hc,ha,dJ0,aA0]at hx;simp[hfi,hc,hx]
 obtain⟨arr',h1,h2⟩:=ID_ yJ ds vs.toList _ zv.cells out hi hr (Cd _) hf;refine Yields.same (v:= .agg arr') ?_ (by simp only[BJ,rd];exact⟨arr',rfl,h2⟩);simp only[Instr.build,Sem.run_bind,jS,Result.andThen_ok,run_underlying hu,zA,h1,Sem.run_pure]
theorem Tp_ (S:St s.own loc M0 w.heap) {t ty:TypeId} {d:DVal} {v:Value} {k bs:Nat} {es:List (List DVal)} (ht:(tElem P t).isSome=true) (hd:BJ s loc M0 w d v) (hr:Bz s.own d=some (k,bs,es)) :
  Yields P s loc M0 w (Builtin.len_ #[t] ty #[v]) (.int .i64 es.length):=by
 obtain⟨x,hx⟩:=bQ0.1 ht;obtain⟨e,i,hu,_⟩:=Cc (k:=x.1) (bs:=x.2) hx;obtain⟨a,cap,rfl,h2,h3,_⟩:=No S hd hr;refine Yields.same (v:= .int .i64 es.length) ?_ ?_
 ·simp[Builtin.len_,run_underlying hu,goInt]
 ·simp only[BJ,rd,MF,true_and];unfold maxLen at h3;omega
theorem Bw_ (k:Nat):∀(vs:List (Nat×Value)) (i0:Nat) (pre rest:List Value),vs.map (·.1)=List.range' i0 vs.length->(∀q∈vs,q.2.cells.size=k)->pre.length=i0*k->rest.length=vs.length*k ->
  Instr.fill (fun i=>some (i*k,k)) (pre++rest).toArray vs=some (pre++vs.flatMap fun q=>q.2.cells.toList).toArray
 | [],i0,pre,rest,_,_,_,hr=>by
  simp only[List.length_nil,Nat.zero_mul,fN0]at hr;subst hr;simp[Instr.fill]
 | (i,v)::vs,i0,pre,rest,hi,hk,hp,hr=>by
  simp only[List.map_cons,List.length_cons,List.range'_succ,bL0]at hi;obtain⟨rfl,hi⟩:=hi;have hv:v.cells.size=k:=hk _ aF0;simp only[List.length_cons,cA0,Nat.one_mul]at hr;simp only[Instr.fill];rw[if_neg (by simp;omega)];have qR:=OJ v.cells.toList (pre++rest).toArray (i*k) 0 (by simp;omega)
  have e:(v.cells.zipIdx.foldl (fun cs (c,j)=>cs.setIfInBounds (i*k+j) c) (pre++rest).toArray)=((pre++v.cells.toList)++rest.drop k).toArray:=by
   apply Array.ext'
   rw[<-Array.foldl_toList,Array.toList_zipIdx,qR];simp only[cT0,aR0];rw[eG0 (by omega),cL0 (by omega),bU0,hv,<-hp,List.drop_append,cU0 (by omega)];simp
  rw[e,Bw_ k vs (i+1) (pre++v.cells.toList) (rest.drop k) hi (fun q hq=>hk q (aE0 _ hq)) (by simp[hp,hv,cA0]) (by simp;omega)];simp
theorem xZ {cur:Gp} {M:List Nat} {H:Array Obj} (k:Nat):∀(ds:List (List DVal)) (vs:List (List Value)) (pre:List Value),ds.length=vs.length ->
  (∀(i:Nat) (cs:List DVal) (us:List Value),ds[i]? =some cs->vs[i]? =some us->cs.length=k/\AL cur M H cs us/\∀u∈us,u.oneCell'=true)->Fz cur M H k ds (pre++vs.flatten).toArray pre.length
 | [],vs,pre,_,_=>by simp[Fz]
 | d::ds,[],pre,hl,_=>by simp at hl
 | d::ds,u::vs,pre,hl,h=>by
  have h0:=h 0 d u (by simp) (by simp);have qZ:=AM _ _ h0.2.1
  have key:∀(cs:List DVal) (us pre post:List Value),AL cur M H cs us->(∀u∈us,u.oneCell'=true)->ET cur M H cs (pre++us++post).toArray pre.length:=by
   intro cs
   induction cs with
   | nil=>intros;simp[ET]
   | cons d ds ih =>
    intro us pre post hr ho;simp only[AL]at hr;obtain⟨v,r,rfl,h1,h2⟩:=hr;simp only[ET];refine⟨⟨v,by simp,ho v aF0,h1⟩,?_⟩;have:=ih r (pre++[v]) post h2 (fun u hu=>ho u (aE0 _ hu));simpa using this
  simp only[Fz];refine⟨h0.1,?_,?_⟩
  ·have:=key d u pre vs.flatten h0.2.1 h0.2.2;simpa using this
  ·have ih:=xZ k ds vs (pre++u) (by simpa using hl) (fun i cs us h1 h2=>h (i+1) cs us (by simpa using h1) (by simpa using h2));have e:(pre++u).length=pre.length+k:=by simp[qZ,h0.1]
   rw[e]at ih;simpa using ih
theorem Mg (S:St s.own loc M0 w.heap) {t len k bs:Nat} {ds:List DVal} {vs:Array (Nat×Value)} (ht:tElem P t=some (k,bs)) (vT:0<k) (zD:len*k<=16777216) (wS:len*bs<=150000000000000) (kZ:len<=16777216)
  (hi:vs.toList.map (·.1)=List.range len) (qZ:ds.length=len) (hp:ds.all (fun d=>Dr s.own d&&(AU d).length==k)=true)
  (hr:∀(i:Nat) (d:DVal) (q:Nat×Value),ds[i]? =some d->vs.toList[i]? =some q->BJ s loc M0 w d q.2)
  (hz:(match P.underlying t with | some (.slice e)=>(tZero P e).isSome | _=>false)=true):∃(e:TypeId) (us:List Value),P.underlying t=some (.slice e)/\(Instr.buildSlice t len vs).run P w= .ok (.slice (some ⟨w.heap.size,0,none⟩) len len) (w.alloc (.cells us.toArray e))/\us.length=len*k/\Fz (cu s loc) (hm s loc M0) w.heap k (ds.map AU) us.toArray 0:=by
 obtain⟨e,ei,hu,hei,_,_,hce⟩:=Cc ht;rw[hu]at hz;obtain⟨z,hz⟩:=bQ0.1 hz;obtain⟨zv,jS,_⟩:=JV (w:=w) hz;have hvl:vs.toList.length=len:=by have:=congrArg List.length hi;simpa using this
 have zQ:∀(i:Nat) (d:DVal) (q:Nat×Value),ds[i]? =some d->vs.toList[i]? =some q->(AU d).length=k/\AL (cu s loc) (hm s loc M0) w.heap (AU d) q.2.cells.toList/\∀u∈q.2.cells.toList,u.oneCell'=true:=by
  intro i d q hd hq;have h1:=bA0.1 hp d (bI0 hd);simp only[aM0,beq_iff_eq]at h1;exact⟨h1.2,Ky S h1.1 (hr i d q hd hq)⟩
 have qM:∀q∈vs.toList,q.2.cells.size=k:=by
  intro q hq;obtain⟨i,kI,vV⟩:=bJ0 hq;have hid:i<ds.length:=by omega
  have:=zQ i ds[i] q (aD0 hid) (by rw[aD0 kI,vV]);have hl:=AM _ _ this.2.1;simp only[bU0]at hl;omega
 have tZ:∀Z:Array Value,Z.size=len*k->Instr.fill (fun i=>some (i*k,k)) Z vs.toList=some (vs.toList.flatMap fun q=>q.2.cells.toList).toArray:=by
  intro Z hZs;have:=Bw_ k vs.toList 0 [] Z.toList (by rw[hi,hvl,List.range_eq_range']) qM (by simp) (by simp only[bU0,hZs,hvl]);simpa using this
 let us:List Value:=vs.toList.flatMap fun q=>q.2.cells.toList
 have cH:∀l:List (Nat×Value),(∀q∈l,q.2.cells.size=k)->(l.flatMap fun q=>q.2.cells.toList).length=l.length*k:=by
  intro l
  induction l with
  | nil=>intro _;simp
  | cons q l ih =>
   intro hq;have h1:=hq q aF0;have h2:=ih fun x hx=>hq x (aE0 _ hx)
   simp only[cS0,aC0,List.length_cons,bU0,h1,h2,cA0];omega
 refine⟨e,us,hu,?_,by rw[cH _ qM,hvl],?_⟩
 ·have h24':(2:Nat) ^ 24=16777216:=by decide
  have h24:¬(len*k > 2 ^ 24):=by omega
  simp only[Instr.buildSlice,Sem.run_bind,run_underlying hu,Result.andThen_ok,DJ hce,h24,if_false]
  by_cases h0:len*k=0
  ·simp only[h0,if_true,Sem.run_bind,Sem.run_pure,Result.andThen_ok];rw[tZ _ (by simp[h0])];simp[newRow,us]
  ·simp only[h0,if_false,Sem.run_bind,jS,Sem.run_pure,Result.andThen_ok];rw[tZ _ (by simp)];simp[newRow,us]
 ·have:=xZ (cur:=cu s loc) (M:=hm s loc M0) (H:=w.heap) k (ds.map AU) (vs.toList.map fun q=>q.2.cells.toList) [] (by rw[aJ0,aJ0,qZ,hvl]) (by
   intro i cs us h1 h2;simp only[bK0,bH0]at h1 h2;obtain⟨d,hd,rfl⟩:=h1;obtain⟨q,hq,rfl⟩:=h2
   exact zQ i d q hd hq)
  simpa[us,List.flatMap]using this
theorem aA (S:St s.own loc M0 w.heap) {t len k bs:Nat} {ds:List DVal} {vs:Array (Nat×Value)} (ht:tElem P t=some (k,bs)) (vT:0<k) (zD:len*k<=16777216) (wS:len*bs<=150000000000000) (kZ:len<=16777216)
  (hi:vs.toList.map (·.1)=List.range len) (qZ:ds.length=len) (hp:ds.all (fun d=>Dr s.own d&&(AU d).length==k)=true)
  (hr:∀(i:Nat) (d:DVal) (q:Nat×Value),ds[i]? =some d->vs.toList[i]? =some q->BJ s loc M0 w d q.2)
  (hz:(match P.underlying t with | some (.slice e)=>(tZero P e).isSome | _=>false)=true):Yields P s loc M0 w (Instr.buildSlice t len vs) (.sl k bs (ds.map AU)):=by
 obtain⟨e,us,_,h1,_,h2⟩:=Mg (M0:=M0) S ht vT zD wS kZ hi qZ hp hr hz;have wV:(w.alloc (.cells us.toArray e)).heap[w.heap.size]? =some (.cells us.toArray e (0,0)):=heap_alloc_new w _;refine⟨_,_,h1,Upd.alloc _ _ _,?_⟩;simp only[rd];refine⟨_,len,by simp[qZ];rfl,by simp[qZ],by unfold maxLen;omega,by simpa[qZ]using wS,?_⟩;refine .inr ⟨w.heap.size,0,us.toArray,e,(0,0),rfl,fun hmm=>by have:=S.lt _ hmm;omega,wV,?_⟩
 have W:Weak (cu s loc) (cu s loc) (hm s loc M0) (hm s loc M0) w.heap (w.alloc (.cells us.toArray e)).heap (BK (ds.map AU)) :=
  Gt (Upd.alloc [] w _).nil (fun b hb=> .inl hb) (fun e' zT _=>Ba S.nd zT)
 exact Dk W k _ _ 0 (Nat.le_refl _) h2
theorem AJ_ (S:St s.own loc M0 w.heap) {p:DVal} {v:Value} {ks vs:List DVal} (hp:BJ s loc M0 w p v) (hc:IB s.own p=some (ks,vs)) :
  (v= .map none/\ks=[]/\vs=[])\/∃b es clk,v= .map (some b)/\w.heap[b]? =some (.map es clk)/\Sc es clk/\AL (cu s loc) (hm s loc M0) w.heap ks (es.toList.map (·.key))/\AL (cu s loc) (hm s loc M0) w.heap vs (es.toList.map (·.val)):=by
 unfold IB at hc
 split at hc
 ·simp only[aA0,aY0]at hc;obtain⟨rfl,rfl⟩:=hc;simp only[BJ,rd]at hp;obtain⟨b,es,clk,h1,_,h3,h4,h5,h6⟩:=hp;exact .inr ⟨b,es,clk,h1,h3,h4,h5,h6⟩
 ·simp only[aA0,aY0]at hc;obtain⟨rfl,rfl⟩:=hc;simp only[BJ,rd]at hp;exact .inl ⟨hp,rfl,rfl⟩
 ·rename_i id r
  split at hc
  ·rename_i e he
   split at hc
   ·rename_i wB
    split at hc
    ·rename_i ks0 vs0 vX;simp only[aA0,aY0]at hc;obtain⟨rfl,rfl⟩:=hc;obtain⟨zA,hid⟩:=AN he;have hk:=S.ok e zA;rw[vX]at hk;obtain⟨b,es,clk,h1,h2,h3,h4,h5⟩:=hk;simp only[BJ,rd]at hp;obtain⟨b',qG,hv⟩:=hp (loc id) (by unfold cu Aj;rw[he];simp[wB]);rw[<-hid,h1]at qG;simp only[bL0,and_true]at qG;subst qG;exact .inr ⟨b,es,clk,hv,h2,h3,h4,h5⟩
    ·simp at hc
   ·simp at hc
  ·simp at hc
 ·simp at hc
theorem uW {t:TypeId} {x:TypeId×TypeId} (h:tMap P t=some x):P.underlying t=some (.map x.1 x.2):=by
 unfold tMap at h
 split at h
 ·simp only[aA0]at h;subst h;assumption
 ·simp at h
theorem MP_ (S:St s.own loc M0 w.heap) {t kt et:TypeId} {d x z:DVal} {v u:Value} {ks vs:List DVal} {ok:Bool} (ht:tMap P t=some (kt,et)) (hd:BJ s loc M0 w d v) (hc:IB s.own d=some (ks,vs)) (hx:BJ s loc M0 w x u)
  (hk:CS P kt x=true) (vH:ks.all (CS P kt)=true) (hz:tZeroD P et=some z) :
  Yields P s loc M0 w (Instr.lookup t v u ok) (if ok then .tup [(match AZ ks x with | some j=>vs.getD j .any | none=>z),.bool (AZ ks x).isSome]else (match AZ ks x with | some j=>vs.getD j .any | none=>z)):=by
 obtain⟨zv,jS,hzd⟩:=Kr_ (P:=P) (cur:=cu s loc) (M:=hm s loc M0) (h:=w.heap) hz (w:=w);have hu:=uW ht;simp only at hu
 have fin:∀(es:Array MapEntry) (v1:Value) (b1:Bool) (d1:DVal),BJ s loc M0 w d1 v1->(Instr.lookup t v u ok).run P w= .ok (if ok then .tuple #[v1,.bool b1]else v1) w->Yields P s loc M0 w (Instr.lookup t v u ok) (if ok then .tup [d1,.bool b1]else d1):=by
  intro es v1 b1 d1 hd1 hr;refine Yields.same hr ?_;cases ok
  ·exact hd1
  ·simp only[if_true,BJ,rd];exact⟨_,rfl,by simp only[AL];exact⟨v1,[.bool b1],rfl,hd1,.bool b1,[],rfl,by simp only[rd],rfl⟩⟩
 rcases AJ_ S hd hc with ⟨rfl,rfl,rfl⟩ | ⟨b,es,clk,rfl,hb,_,h5,h6⟩
 ·have fJ:=GO (w:=w) (e:=true) hk hx;refine fin #[] zv false _ ?_ ?_
  ·simpa[AZ]using hzd
  ·have hf:=Jn (w:=w) hk hx [] [] (by simp) (by simp[AL]);simp only[AZ,fC0]at hf;cases ok<;>simp[Instr.lookup,run_underlying hu,fJ,hf,jS]
 ·have fJ:=GO (w:=w) (e:=es.isEmpty) hk hx;have hf:=Jn (w:=w) hk hx es.toList ks vH h5;have hg:(getObj b).run P w= .ok (.map es clk) w:=_root_.Go.run_getObj_map (P:=P) (w:=w) b es clk hb
  cases hl:AZ ks x with
  | none =>
   rw[hl]at hf;simp only[fC0]at hf;refine fin es zv false _ hzd ?_;cases ok<;>simp[Instr.lookup,run_underlying hu,hg,fJ,hf,jS]
  | some j =>
   rw[hl]at hf;simp only[dJ0]at hf;have hj:=AL_ hl;have vS:=AM _ _ h5;have dX:=AM _ _ h6;simp only[aJ0,bU0]at vS dX;have hjv:j<vs.length:=by omega
   obtain⟨v1,dD,dB⟩:=UW _ _ j _ h6 (aD0 hjv);rw[bK0]at dD;refine fin es v1 true _ ?_ ?_
   ·simp only[aZ0,aD0 hjv,cC0];exact dB
   ·rw[dD]at hf;simp only[cC0]at hf;cases ok<;>simp[Instr.lookup,run_underlying hu,hg,fJ,hf]
theorem Ul (S:St s.own loc M0 w.heap) {t ty:TypeId} {d:DVal} {v:Value} {ks vs:List DVal} (ht:(tMap P t).isSome=true) (hd:BJ s loc M0 w d v) (hc:IB s.own d=some (ks,vs)) (hl:(ks.length:Int)<=9223372036854775807) :
  Yields P s loc M0 w (Builtin.len_ #[t] ty #[v]) (.int .i64 ks.length):=by
 obtain⟨y,hy⟩:=bQ0.1 ht;have hu:=uW hy
 rcases AJ_ S hd hc with ⟨rfl,rfl,rfl⟩ | ⟨b,es,clk,rfl,hb,_,h5,_⟩
 ·exact Yields.same (v:= .int .i64 0) (by simp[Builtin.len_,run_underlying hu,goInt]) (by simp[BJ,rd,MF])
 ·have hln:=AM _ _ h5;simp only[aJ0,bU0]at hln;have hg:(getObj b).run P w= .ok (.map es clk) w:=_root_.Go.run_getObj_map (P:=P) (w:=w) b es clk hb;refine Yields.same (v:= .int .i64 es.size) (by simp[Builtin.len_,run_underlying hu,goInt,hg]) ?_;simp only[BJ,rd,MF,hln];exact⟨trivial,by omega,hl⟩
theorem Aa_ {cur:Gp} {M:List Nat} {H:Array Obj} {k:Nat}:∀(n:Nat) (es:List (List DVal)) (arr:Array Value) (o:Nat),Fz cur M H k es arr o->Fz cur M H k (es.drop n) arr (o+n*k)
 | 0,es,arr,o,hr=>by simpa using hr
 | n+1,[],arr,o,hr=>by simp[Fz]
 | n+1,c::es,arr,o,hr=>by
  simp only[Fz]at hr;have:=Aa_ n es arr (o+k) hr.2.2;simp only[eF0]
  rwa[show o+k+n*k=o+(n+1)*k by rw[cA0];omega]at this
theorem xX {cur:Gp} {M:List Nat} {H:Array Obj} {k:Nat}:∀(n:Nat) (es:List (List DVal)) (arr:Array Value) (o:Nat),Fz cur M H k es arr o->Fz cur M H k (es.take n) arr o
 | 0,es,arr,o,hr=>by simp[Fz]
 | n+1,[],arr,o,hr=>by simp[Fz]
 | n+1,c::es,arr,o,hr=>by
  simp only[Fz,dL0]at hr |-;exact⟨hr.1,hr.2.1,xX n es arr (o+k) hr.2.2⟩
theorem run_sliceBound {e:Operand->DVal} {x:Operand} (hρ:BJ s loc M0 w (e x) (ρ x)) {d:Int} {y:Nat} {c:BoundsCode} (h0:0<=DY e d (some x)) (h1:DY e d (some x)<=y):(Instr.sliceBound (ρ x) y c).run P w= .ok (DY e d (some x)).toNat w:=by
 simp only[DY]at h0 h1 |-
 split at h0
 ·rename_i ik n hx;simp only[hx]at h1 |-;rw[hx]at hρ;simp only[BJ,rd]at hρ;rw[hρ.1];simp[Instr.sliceBound,asIntOf,h0,h1]
 ·omega
theorem JZ {e:Operand->DVal} (hρ:∀x,BJ s loc M0 w (e x) (ρ x)) {b:Bool} {len cap:Nat} {l h:Option Operand} (hp:FS e len l h none) (hc:len<=cap) :
  (Instr.sliceBounds b len cap (l.map ρ) (h.map ρ) none).run P w= .ok ((DY e 0 l).toNat,(DY e len h).toNat,cap) w:=by
 obtain⟨h0,h1,h2,h3,h4⟩:=hp;have en:∀d,DY e d none=d:=fun _=>rfl
 rw[en]at h2 h3
 cases h with
 | none =>
  rw[en]at h1 |-
  cases l with
  | none=>simp[Instr.sliceBounds,en]
  | some y =>
   have hb:=run_sliceBound (P:=P) (c:= .sliceB) (hρ y) (d:=0) (y:=len) h0 h1;simp[Instr.sliceBounds,hb]
 | some x =>
  have hh:=run_sliceBound (P:=P) (c:=if b then .sliceAcap else .sliceAlen) (hρ x) (d:=len) (y:=cap) (by omega) (by omega)
  cases l with
  | none=>simp[Instr.sliceBounds,en,hh]
  | some y =>
   have hb:=run_sliceBound (P:=P) (c:= .sliceB) (hρ y) (d:=0) (y:=(DY e len (some x)).toNat) h0 (by omega);simp[Instr.sliceBounds,hb,hh]
theorem PA (S:St s.own loc M0 w.heap) {id r et k bs:Nat} {es:List (List DVal)} {e:Ent} (he:Ax s.own id=some e) (wB:e.r=r) (qA:e.obj= .row et k bs es) :
  Aj s.own loc id r=some (loc id)/\∃a cap,(loc id).hdr= .slice a es.length cap/\es.length<=cap/\cap<=maxLen/\((es=[]/\(loc id).blks=[]/\a=none/\cap=0)\/∃b,(loc id).blks=[b]/\a=some ⟨b,0,none⟩):=by
 obtain⟨zA,hid⟩:=AN he;have hk:=S.ok e zA;rw[qA]at hk;obtain⟨_,hk⟩:=hk;rw[hid]at hk;refine⟨by unfold Aj;rw[he];simp[wB],?_⟩
 rcases hk with ⟨rfl,h1,h2⟩ | ⟨b,arr,cap,p1,p2,p3,p4,p5,p6,p7⟩
 ·exact⟨none,0,h2,by simp,by unfold maxLen;omega,.inl ⟨rfl,h1,rfl,rfl⟩⟩
 ·exact⟨_,cap,p2,p4,p5,.inr ⟨b,p1,rfl⟩⟩
theorem Fx_ {own:List Ent} {d:DVal} {id r k bs:Nat} {es:List (List DVal)} (hd:d= .osl id r) (h:Bz own d=some (k,bs,es)):∃e et,Ax own id=some e/\e.r=r/\e.obj= .row et k bs es:=by
 subst hd;unfold Bz at h;simp only at h
 split at h
 ·rename_i e he
  split at h
  ·rename_i wB
   split at h
   ·rename_i et k' bs' es' qA;simp only[aA0,aY0]at h;obtain⟨rfl,rfl,rfl⟩:=h;exact⟨e,et,he,wB,qA⟩
   ·simp at h
  ·simp at h
 ·simp at h
theorem KF_ {own:List Ent} {d:DVal} {id r k bs i n:Nat} (hd:d= .vw id r k bs i n) (h:(Bz own d).isSome=true):∃e et es,Ax own id=some e/\e.r=r/\e.obj= .row et k bs es/\i+n<=es.length:=by
 subst hd;unfold Bz at h;simp only at h
 split at h
 ·rename_i e he
  split at h
  ·rename_i wB
   split at h
   ·rename_i et k' bs' es' qA
    split at h
    ·rename_i hb;obtain⟨rfl,rfl,hb⟩:=hb;exact⟨e,et,es',he,wB,qA,hb⟩
    ·simp at h
   ·simp at h
  ·simp at h
 ·simp at h
theorem Hp {e:Operand->DVal} (hρ:∀x,BJ s loc M0 w (e x) (ρ x)) {b:Bool} {len cap:Nat} {l h m:Option Operand} (hp:FS e len l h m) (hc:len<=cap) :
  ∃mm,(Instr.sliceBounds b len cap (l.map ρ) (h.map ρ) (m.map ρ)).run P w= .ok ((DY e 0 l).toNat,(DY e len h).toNat,mm) w/\(DY e len h).toNat<=mm/\mm<=cap:=by
 obtain⟨h0,h1,h2,h3,h4⟩:=hp;have en:∀d,DY e d none=d:=fun _=>rfl
 cases m with
 | none =>
  rw[en]at h2 h3;refine⟨cap,?_,by omega,Nat.le_refl _⟩
  cases h with
  | none =>
   rw[en]at h1 |-
   cases l with
   | none=>simp[Instr.sliceBounds,en]
   | some y =>
    have hb:=run_sliceBound (P:=P) (c:= .sliceB) (hρ y) (d:=0) (y:=len) h0 h1;simp[Instr.sliceBounds,hb]
  | some x =>
   have hh:=run_sliceBound (P:=P) (c:=if b then .sliceAcap else .sliceAlen) (hρ x) (d:=len) (y:=cap) (by omega) (by omega)
   cases l with
   | none=>simp[Instr.sliceBounds,en,hh]
   | some y =>
    have hb:=run_sliceBound (P:=P) (c:= .sliceB) (hρ y) (d:=0) (y:=(DY e len (some x)).toNat) h0 (by omega);simp[Instr.sliceBounds,hb,hh]
 | some z =>
  obtain⟨x,rfl⟩:=bQ0.1 (h4 rfl);have hm:=run_sliceBound (P:=P) (c:=if b then .slice3Acap else .slice3Alen) (hρ z) (d:=len) (y:=cap) (by omega) (by omega);have hh:=run_sliceBound (P:=P) (c:= .slice3B) (hρ x) (d:=len) (y:=(DY e len (some z)).toNat) (by omega) (by omega);refine⟨(DY e len (some z)).toNat,?_,by omega,by omega⟩
  cases l with
  | none=>simp[Instr.sliceBounds,en,hm,hh]
  | some y =>
   have hb:=run_sliceBound (P:=P) (c:= .slice3C) (hρ y) (d:=0) (y:=(DY e len (some x)).toNat) h0 (by omega);simp[Instr.sliceBounds,hb,hm,hh]
theorem Lg_ {o:Oper} {e:Operand->DVal} (S:St s.own loc M0 w.heap) (hρ:∀x,BJ s loc M0 w (e x) (ρ x)) (hp:Hu P s.own e o.op) :
  ∃v w',(execOp ρ o).run P w= .ok (.value v) w'/\Upd [] w w'/\rd (cu s loc) (hm s loc M0) w'.heap (Ck P s.own e o.op) v:=by
 obtain⟨dst,op,type,pos,after,guard⟩:=o;simp only at hp |-
 have fin:∀(x:Sem Value) (d:DVal),Yields P s loc M0 w x d->∃v w',(do pure (.value (<-x)):Sem Next).run P w= .ok (.value v) w'/\Upd [] w w'/\rd (cu s loc) (hm s loc M0) w'.heap d v:=by
  rintro x d ⟨v,w',h1,h2,h3⟩;exact⟨v,w',by rw[Sem.run_bind,h1];rfl,h2,h3⟩
 have fin':∀(x:Sem Value) (d:DVal),Yields P s loc M0 w x d->∃v w',((x.run P w).andThen fun a w'=>Result.ok (Next.value a) w')= .ok (.value v) w'/\Upd [] w w'/\rd (cu s loc) (hm s loc M0) w'.heap d v:=by
  rintro x d ⟨v,w',h1,h2,h3⟩;exact⟨v,w',by rw[h1];rfl,h2,h3⟩
 have one:∀(v:Value) (d:DVal),BJ s loc M0 w d v->∃v' w',(pure (.value v):Sem Next).run P w= .ok (.value v') w'/\Upd [] w w'/\rd (cu s loc) (hm s loc M0) w'.heap d v' :=
  fun v d h=>⟨v,w,rfl,Upd.refl _ _,h⟩
 cases op<;>simp only[Hu]at hp
 case move x=>exact one _ _ (hρ x)
 case assign x=>exact one _ _ (hρ x)
 case pick c a b =>
  have hc:=hρ c
  split at hp
  ·rename_i t ht;rw[ht]at hc;simp only[BJ,rd]at hc;simp only[Ck,ht,execOp,hc];refine one (if t then ρ a else ρ b) _ ?_;have ha:=hρ a;have hb:=hρ b
   generalize e a=da at *
   generalize e b=db at *
   have plain:BJ s loc M0 w (if t then da else db) (if t then ρ a else ρ b):=by cases t<;>simp<;>assumption
   unfold Mq
   split
   ·cases t<;>simpa using plain
   ·rename_i p c q;simp only[La]at hp;simp only[BJ,rd]at ha hb |-;cases t
    ·exact hb.1 (hp rfl)
    ·exact ha
   ·rename_i c p q;simp only[La]at hp;simp only[BJ,rd]at ha hb |-;cases t
    ·exact hb
    ·exact ha.1 (hp rfl)
   ·exact plain
  ·exact hp.elim
 case fieldAddr t x f =>
  have hx:=hρ x;simp only[execOp];refine fin _ _ ?_
  split at hp
  ·rename_i off n b cs hf hd;rw[hd]at hx;have:=Rh (P:=P) hf hp hx (.inl ⟨cs,rfl⟩);simpa only[Ck,hf,hd]using this
  ·rename_i off n b id r o hf hd;rw[hd]at hx;have:=Rh (P:=P) hf hp.1 hx (.inr (.inl ⟨id,r,o,rfl,by rw[FD hp.2];rfl⟩));simpa only[Ck,hf,hd]using this
  ·rename_i off n b id r k i j hf hd;rw[hd]at hx;have:=Rh (P:=P) hf hp.1 hx (.inr (.inr ⟨id,r,k,i,j,rfl,by rw[FD hp.2];rfl⟩));simpa only[Ck,hf,hd]using this
  ·exact hp.elim
 case load t a =>
  have ha:=hρ a;simp only[execOp];refine fin _ _ ?_
  split at hp
  ·rename_i n cs hg hn hc;have:=MQ_ (P:=P) S (b:=true) hg ha hc (fun _=>⟨n,hn,hp⟩) (by simp);simpa only[Ck,hg,hn,hc,cC0]using this
  ·rename_i cs hg hc;have:=MQ_ (P:=P) S (b:=false) hg ha hc (by simp) (fun _=>hp);cases hn:tCells P t<;>simpa only[Ck,hg,hn,hc]using this
  ·exact hp.elim
 case indexAddr t x i =>
  have hx:=hρ x;have hi:=hρ i;simp only[execOp];refine fin _ _ ?_
  split at hp
  ·rename_i ik n k bs k' bs' es hei jT hr;obtain⟨rfl,h0,h1⟩:=hp;rw[hei]at hi;simp only[BJ,rd]at hi;rw[hi.1];have:=Ki_ (P:=P) S (ik:=ik) jT hx hr h0 h1;simpa only[Ck,hei]using this
  ·exact hp.elim
 case index t x i =>
  have hx:=hρ x;have hi:=hρ i;simp only[execOp];refine fin _ _ ?_
  split at hp
  ·rename_i str ik n hd hei;obtain⟨ht,h0,h1⟩:=hp;rw[hei]at hi;rw[hd]at hx;simp only[BJ,rd]at hi hx;rw[hi.1,hx.1];simp only[Ck,hd,hei]
   have hu:P.underlying t=some .string:=by
    unfold tStr at ht
    split at ht
    ·assumption
    ·simp at ht
   have qV:n.toNat<str.size:=by omega
   refine Yields.same (v:= .int .u8 (str[n.toNat]).toNat) ?_ ?_
   ·simp[Instr.index,asIntOf,run_underlying hu,h0,qV]
   ·have e:str.data.toList.getD n.toNat 0=str[n.toNat]:=by
     have wQ:n.toNat<str.data.size:=qV;rw[aZ0,aD0 (by simpa using wQ)];rfl
    simp only[BJ,rd,e,MF,true_and];have:=(str[n.toNat]).toNat_lt;omega
  ·exact hp.elim
 case field t x f =>
  have hx:=hρ x;simp only[execOp];refine fin _ _ ?_
  split at hp
  ·rename_i off n b cs hf hd;rw[hd]at hx;have:=QE_ (P:=P) hf hx hp.1 hp.2;simpa only[Ck,hf,hd]using this
  ·exact hp.elim
 case binOp op t x y ty =>
  obtain⟨d,hd⟩:=bQ0.1 hp;obtain⟨r,h1,h2⟩:=RE_ (P:=P) (w:=w) (xo:=x) (yo:=y) hd (hρ x) (hρ y);simp only[execOp];refine fin _ _ ?_;simp only[Ck,hd,cC0];exact Yields.same h1 h2
 case unOp op t x =>
  have hx:=hρ x;simp only[execOp];refine fin _ _ ?_
  split at hp
  ·rename_i b hd;rw[hd]at hx;simp only[BJ,rd]at hx;rw[hx];simp only[Ck,hd];exact Yields.same (v:= .bool (!b)) rfl (by simp only[BJ,rd])
  ·rename_i k n hd;rw[hd]at hx;simp only[BJ,rd]at hx;rw[hx.1];simp only[Ck,hd];exact Yields.same (v:= .int k (k.wrap (0-n))) rfl (by simp only[BJ,rd,LV,and_self])
  ·exact hp.elim
 case convert src dst x =>
  have hx:=hρ x;obtain⟨hs,hp⟩:=hp;obtain⟨sd,hs⟩:=bQ0.1 hs;simp only[execOp];refine fin _ _ ?_
  split at hp
  ·rename_i k n hd;rw[hd]at hx;simp only[BJ,rd]at hx;rw[hx.1];obtain⟨k',zO⟩:=bQ0.1 hp;simp only[Ck,hd,zO]
   have hu:P.underlying dst=some (.int k'):=by
    unfold Ss_ at zO
    split at zO
    ·simp only[aA0]at zO;subst zO;assumption
    ·simp at zO
   refine Yields.same (v:= .int k' (k'.wrap n)) ?_ (by simp only[BJ,rd,LV,and_self]);simp[convert,run_underlying hs,run_underlying hu,Conv.intToInt]
  ·rename_i str hd;rw[hd]at hx;simp only[BJ,rd]at hx;simp only[Ck,hd]
   have hu:P.underlying dst=some .string:=by
    unfold tStr at hp
    split at hp
    ·assumption
    ·simp at hp
   refine Yields.same (v:=ρ x) ?_ (by simp only[BJ,rd];exact hx);rw[hx.1];simp only[convert,Sem.run_bind,run_underlying hs,run_underlying hu,Result.andThen_ok];cases sd<;>rfl
  ·exact hp.elim
 case extract x i =>
  have hx:=hρ x;simp only[execOp];refine fin _ _ ?_
  split at hp
  ·rename_i vs hd;rw[hd]at hx;simp only[BJ,rd]at hx;obtain⟨us,hu,zF⟩:=hx;rw[hu];obtain⟨v,hv,hr⟩:=UW _ _ i vs[i] zF (aD0 hp);simp only[Ck,hd];refine Yields.same (v:=v) ?_ ?_
   ·have bI:us[i]? =some v:=by simpa using hv
    simp[Instr.extract,bI]
   ·rw[aZ0,aD0 hp];exact hr
  ·exact hp.elim
 case makeFunc f us cs =>
  have key:∀l:List Operand,AL (cu s loc) (hm s loc M0) w.heap (l.map e) (l.map ρ):=by
   intro l
   induction l with
   | nil=>simp[AL]
   | cons x l ih=>simp only[List.map_cons,AL];exact⟨_,_,rfl,hρ x,ih⟩
  simp only[execOp,Ck];refine fin _ _ (Yields.same (v:= .func f (us.map ρ) (cs.map ρ)) rfl ?_);simp only[BJ,rd];exact⟨_,_,rfl,by simpa using key us.toList,by simpa using key cs.toList⟩
 case makeInterface t x =>
  simp only[execOp,Ck];refine fin _ _ (Yields.same (v:= .iface t (ρ x)) ?_ (by simp only[BJ,rd];exact⟨_,rfl,hρ x⟩))
  cases hu:P.underlying t with
  | none=>simp[hu]at hp
  | some d=>cases d<;>simp[hu]at hp<;>simp[Instr.makeInterface,run_underlying hu]
 case nilCheck x =>
  have hx:=hρ x
  split at hp
  ·rename_i cs hd;rw[hd]at hx;simp only[BJ,rd]at hx;have qU:=hx;obtain⟨b,off,arr,ty,fz,hv,_⟩:=hx;simp only[execOp,hv,Ck,hd];exact one _ _ (by rw[<-hv];simp only[BJ,rd];exact qU)
  ·rename_i id r off hd;rw[hd]at hx;have qU:=hx;simp only[BJ,rd]at hx;obtain⟨b,_,hv⟩:=hx _ (FD hp);simp only[execOp,hv,Ck,hd];exact one _ _ (by rw[<-hv];exact qU)
  ·rename_i id r k i j hd;rw[hd]at hx;have qU:=hx;simp only[BJ,rd]at hx;obtain⟨b,_,hv⟩:=hx _ (FD hp);simp only[execOp,hv,Ck,hd];exact one _ _ (by rw[<-hv];exact qU)
  ·rename_i f us cs hd;rw[hd]at hx;simp only[BJ,rd]at hx;have qU:=hx;obtain⟨us',cs',hv,_⟩:=hx;simp only[execOp,hv,Ck,hd];exact one _ _ (by rw[<-hv];simp only[BJ,rd];exact qU)
  ·exact hp.elim
 case box t x =>
  simp only[execOp,Ck];exact fin _ _ (Tq_ S hp (hρ x))
 case build t parts =>
  split at hp
  ·rename_i z hz;obtain⟨h1,h2,h3⟩:=hp;unfold tParts at h3
   split at h3
   ·rename_i fs hs;obtain⟨out,yW⟩:=bQ0.1 h1;simp only[execOp,Ck,hz,yW,cC0];refine fin _ _ (QF_ S hz hs h3 (ds:=parts.toList.map fun p=>(p.1,e p.2)) (by simp) ?_ yW);intro i p q qI vV;simp only[bK0,bH0,eS0]at qI vV;obtain⟨a,ha,rfl⟩:=qI;obtain⟨b,hb,rfl⟩:=vV;rw[ha]at hb;simp only[aA0]at hb;subst hb;exact(Ky S (bA0.1 h2 a (bI0 ha)) (hρ a.2)).1
   ·simp at h3
  ·exact hp.elim
 case buildSlice t len parts =>
  split at hp
  ·rename_i k bs ht;obtain⟨h1,h2,h3,h4,h5,h6,h7⟩:=hp;simp only[execOp,Ck,ht];have qZ:parts.toList.length=len:=by have:=congrArg List.length h1;simpa using this
   have:=aA (P:=P) (vs:=parts.map fun p=>(p.1,ρ p.2)) S ht h5 h2 h3 h4 (ds:=parts.toList.map fun p=>e p.2) (by rw[eS0,cF0];exact h1) (by simpa using qZ) (by simpa[List.all_map,Function.comp_def]using h6) (by
    intro i d q hd hq;simp only[bK0,bH0,eS0]at hd hq;obtain⟨a,ha,rfl⟩:=hd;obtain⟨b,hb,rfl⟩:=hq;rw[ha]at hb;simp only[aA0]at hb;subst hb
    exact hρ a.2) h7
   refine fin _ _ ?_;simpa[cF0,Function.comp_def]using this
  ·exact hp.elim
 case slice t x l h m =>
  have hx:=hρ x;simp only[execOp];refine fin _ _ ?_
  split at hp
  ·rename_i k bs es hd;rw[hd]at hx;simp only[BJ,rd]at hx;obtain⟨a,cap,hv,g1,g2,g3,g4⟩:=hx;obtain⟨e',i,hu,hi,qM,_,_⟩:=Cc hp.1;obtain⟨mm,hr,k1,k2⟩:=Hp (P:=P) hρ (b:=true) hp.2 g1;obtain⟨p0,p1,p2,p3,_⟩:=hp.2;simp only[Ck,hd];rw[hv]
   have qZ:((es.drop (DY e 0 l).toNat).take ((DY e es.length h).toNat-(DY e 0 l).toNat)).length=(DY e es.length h).toNat-(DY e 0 l).toNat:=by
    simp only[aT0,cD0];omega
   refine Yields.same (v:= .slice (if mm=(DY e 0 l).toNat then a else a.map (·.add ((DY e 0 l).toNat*k))) ((DY e es.length h).toNat-(DY e 0 l).toNat) (mm-(DY e 0 l).toNat)) ?_ ?_
   ·simp[Instr.sliceAt,Instr.slice,run_underlying hu,hr,sizeOf,typeInfo,hi,qM]
   ·simp only[BJ,rd];refine⟨_,_,by rw[qZ],by rw[qZ];omega,by omega,?_,?_⟩
    ·refine Nat.le_trans (aQ0 bs ?_) g3;rw[qZ];omega
    ·by_cases hz:(DY e es.length h).toNat-(DY e 0 l).toNat=0
     ·refine .inl ⟨bP0 (by rw[qZ];exact hz),?_⟩;intro hn
      rcases g4 with ⟨rfl,hc⟩ | ⟨b,off,arr,ty,fz,rfl,_⟩
      ·split at hn
       ·omega
       ·cases a with
        | none=>have:=hc rfl;omega
        | some a=>simp at hn
      ·split at hn<;>simp at hn
     ·right
      rcases g4 with ⟨rfl,_⟩ | ⟨b,off,arr,ty,fz,rfl,q1,q2,q3⟩
      ·simp only[List.length_nil]at hz qZ p3 p2;simp at qZ;omega
      ·refine⟨b,off+(DY e 0 l).toNat*k,arr,ty,fz,?_,q1,q2,xX _ _ _ _ (Aa_ _ _ _ _ q3)⟩;rw[if_neg (by omega)];simp[ES]
  ·rename_i hd;rw[hd]at hx;simp only[BJ,rd]at hx;obtain⟨y,hy⟩:=bQ0.1 hp.1;obtain⟨e',i,hu,hi,qM,_,_⟩:=Cc (k:=y.1) (bs:=y.2) hy;obtain⟨mm,hr,k1,k2⟩:=Hp (P:=P) hρ (b:=true) hp.2 (Nat.le_refl 0);obtain⟨p0,p1,p2,p3,_⟩:=hp.2;simp only[Ck,hd];rw[hx];have e0:((0:Nat):Int)=0:=rfl;rw[e0]at hr k1 p1 p2 p3;have z1:(DY e 0 l).toNat=0:=by omega
   have z2:(DY e 0 h).toNat=0:=by omega
   have z3:mm=0:=by omega
   subst z3;refine Yields.same (v:= .slice none 0 0) ?_ (by simp only[BJ,rd]);simp[Instr.sliceAt,Instr.slice,run_underlying hu,hr,sizeOf,typeInfo,hi,z1,z2]
  ·rename_i id r hd;obtain⟨rfl,hp⟩:=hp;rw[hd]at hx
   cases mB:Bz s.own (.osl id r)with
   | none=>rw[mB]at hp;exact hp.elim
   | some x =>
    obtain⟨k,bs,es⟩:=x;rw[mB]at hp;simp only at hp;obtain⟨e',i,hu,hi,qM,_,_⟩:=Cc hp.1;obtain⟨e0,et,zG,wB,qA⟩:=Fx_ rfl mB;obtain⟨qB,a,cap,hh,g1,g2,g3⟩:=PA S zG wB qA;simp only[BJ,rd]at hx;have hv:=hx _ qB;rw[hh]at hv;have hr:=JZ (P:=P) hρ (b:=true) hp.2 g1;obtain⟨p0,p1,p2,p3,_⟩:=hp.2;have en:DY e es.length none=es.length:=rfl;rw[en]at p2 p3;simp only[Ck,hd,mB];rw[hv];refine Yields.same (v:= .slice (if cap=(DY e 0 l).toNat then a else a.map (·.add ((DY e 0 l).toNat*k))) ((DY e es.length h).toNat-(DY e 0 l).toNat) (cap-(DY e 0 l).toNat)) ?_ ?_
    ·simp[Instr.sliceAt,Instr.slice,run_underlying hu,hr,sizeOf,typeInfo,hi,qM]
    ·simp only[BJ,rd];intro lc hl;have wD:Aj s.own loc id r=some lc:=hl;rw[qB]at wD;simp only[aA0]at wD;subst wD;refine⟨_,_,rfl,by omega,by omega,fun hn=> ?_,fun hn=> ?_,fun hz=> ?_⟩
     ·rcases g3 with ⟨_,_,_,yG⟩ | ⟨b,qE,rfl⟩
      ·omega
      ·split at hn<;>simp at hn
     ·rcases g3 with ⟨rfl,_⟩ | ⟨b,qE,rfl⟩
      ·simp only[List.length_nil]at p2 hn;omega
      ·refine⟨b,qE,?_⟩;rw[if_neg (by omega)];simp[ES]
     ·refine⟨es.length,?_⟩;rw[hh,hz]
      rcases g3 with ⟨rfl,_,rfl,rfl⟩ | ⟨b,qE,rfl⟩
      ·simp
      ·simp[ES]
  ·rename_i id r k bs i0 n0 hd;obtain⟨rfl,mB,hp⟩:=hp;rw[hd]at hx;obtain⟨e0,et,es,zG,wB,qA,hbound⟩:=KF_ rfl mB;obtain⟨e',i,hu,hi,qM,_,_⟩:=Cc hp.1;obtain⟨qB,a0,cap0,hh,g1,g2,g3⟩:=PA S zG wB qA;simp only[BJ,rd]at hx;obtain⟨a,cap,hv,q1,q2,q5,q3,q4⟩:=hx _ qB;have hr:=JZ (P:=P) hρ (b:=true) hp.2 q1;obtain⟨p0,p1,p2,p3,_⟩:=hp.2;have en:DY e n0 none=n0:=rfl;rw[en]at p2 p3;simp only[Ck,hd];rw[hv];refine Yields.same (v:= .slice (if cap=(DY e 0 l).toNat then a else a.map (·.add ((DY e 0 l).toNat*k))) ((DY e n0 h).toNat-(DY e 0 l).toNat) (cap-(DY e 0 l).toNat)) ?_ ?_
   ·simp[Instr.sliceAt,Instr.slice,run_underlying hu,hr,sizeOf,typeInfo,hi,qM]
   ·simp only[BJ,rd];intro lc hl;have wD:Aj s.own loc id r=some lc:=hl;rw[qB]at wD;simp only[aA0]at wD;subst wD;refine⟨_,_,rfl,by omega,by omega,fun hn=> ?_,fun hn=> ?_,fun hz=> ?_⟩
    ·have ha:a=none:=by
      split at hn
      ·exact hn
      ·simpa using hn
     have:=q5 ha;omega
    ·obtain⟨b,qE,rfl⟩:=q3 (by omega);refine⟨b,qE,?_⟩;rw[if_neg (by omega)];simp[ES,cA0]
    ·obtain⟨n1,dW⟩:=q4 (by omega);rw[hh]at dW;simp only[Value.slice.injEq]at dW;obtain⟨rfl,_,rfl⟩:=dW;refine⟨es.length,?_⟩;have z0:(DY e 0 l).toNat=0:=by omega
     rw[hh,z0]
     rcases g3 with ⟨rfl,_,rfl,rfl⟩ | ⟨b,qE,rfl⟩
     ·simp
     ·simp[ES]
  ·rename_i str hd;obtain⟨ht,rfl,gE⟩:=hp;rw[hd]at hx;simp only[BJ,rd]at hx
   have hu:P.underlying t=some .string:=by
    unfold tStr at ht
    split at ht
    ·assumption
    ·simp at ht
   obtain⟨mm,hr,k1,k2⟩:=Hp (P:=P) hρ (b:=false) (cap:=str.size) gE (Nat.le_refl _);simp only[Ck,hd];rw[hx.1];refine Yields.same (v:= .string (str.extract (DY e 0 l).toNat (DY e str.size h).toNat)) ?_ ?_
   ·simp only[fC0]at hr;simp[Instr.sliceAt,Instr.slice,run_underlying hu,hr]
   ·simp only[BJ,rd,true_and];have h2:=hx.2
    have:(str.extract (DY e 0 l).toNat (DY e str.size h).toNat).size<=str.size:=by
     rw[ByteArray.size_extract];omega
    omega
  ·exact hp.elim
 case lookup t x i ok =>
  have hx:=hρ x;have hi:=hρ i;simp only[execOp];refine fin _ _ ?_
  split at hp
  ·rename_i kt et ks vs ht hc;obtain⟨z,hz⟩:=bQ0.1 hp.2.2;have:=MP_ (P:=P) (ok:=ok) S ht hx hc hi hp.1 hp.2.1 hz;simpa only[Ck,ht,hc,hz,cC0]using this
  ·exact hp.elim
 case call c =>
  obtain⟨callee,args,ats⟩:=c;cases callee<;>simp only at hp
  case builtin b =>
   cases b<;>simp only[Yn]at hp
   case append =>
    obtain⟨al⟩:=args;obtain⟨tl⟩:=ats
    match al,tl,hp with
    | [x,y],[t,t'],hp =>
     have hx:=hρ x;have hy:=hρ y;simp only[List.map_cons,List.map_nil]at hp;simp only[Ck,List.map_cons,List.map_nil,Qw];simp only[execOp,resolve,Sem.run_bind,dW0,List.map_cons,List.map_nil,Sem.run_pure,Result.andThen_ok,invoke,builtin];refine fin' _ _ ?_
     split at hp
     ·rename_i ha hb;rw[ha]at hx;rw[hb]at hy;simp only[BJ,rd]at hx hy;obtain⟨rfl,h2⟩:=hp;obtain⟨y0,hy0⟩:=bQ0.1 h2;obtain⟨e0,i,hu,hi,_⟩:=Cc (k:=y0.1) (bs:=y0.2) hy0;rw[hx,hy];refine Yields.same (v:= .slice none 0 0) (by simp[Builtin.append_,run_underlying hu,sizeOf,typeInfo,hi,Builtin.lenOf,Builtin.firstCells,storeCells]) ?_;simp only[BJ,rd]
     ·exact hp.elim
   case min =>
    obtain⟨al⟩:=args;obtain⟨tl⟩:=ats
    match al,hp with
    | [x,y],hp =>
     have hx:=hρ x;have hy:=hρ y;simp only[List.map_cons,List.map_nil]at hp;simp only[Ck,List.map_cons,List.map_nil,Qw];simp only[execOp,resolve,Sem.run_bind,dW0,List.map_cons,List.map_nil,Sem.run_pure,Result.andThen_ok,invoke,builtin];refine fin' _ _ ?_
     split at hp
     ·rename_i k a k' b ha hb;rw[ha]at hx;rw[hb]at hy;simp only[BJ,rd]at hx hy;subst hp;rw[hx.1,hy.1];refine Yields.same (v:= .int k (if b<a then b else a)) (by simp[Builtin.min_,Builtin.min2]) ?_;simp only[BJ,rd,true_and]
      split
      ·exact hy.2
      ·exact hx.2
     ·exact hp.elim
    | [],hp=>simp at hp
    | [_],hp=>simp at hp
    | _::_::_::_,hp=>simp at hp
   case max =>
    obtain⟨al⟩:=args;obtain⟨tl⟩:=ats
    match al,hp with
    | [x,y],hp =>
     have hx:=hρ x;have hy:=hρ y;simp only[List.map_cons,List.map_nil]at hp;simp only[Ck,List.map_cons,List.map_nil,Qw];simp only[execOp,resolve,Sem.run_bind,dW0,List.map_cons,List.map_nil,Sem.run_pure,Result.andThen_ok,invoke,builtin];refine fin' _ _ ?_
     split at hp
     ·rename_i k a k' b ha hb;rw[ha]at hx;rw[hb]at hy;simp only[BJ,rd]at hx hy;subst hp;rw[hx.1,hy.1];refine Yields.same (v:= .int k (if a<b then b else a)) (by simp[Builtin.max_,Builtin.max2]) ?_;simp only[BJ,rd,true_and]
      split
      ·exact hy.2
      ·exact hx.2
     ·exact hp.elim
    | [],hp=>simp at hp
    | [_],hp=>simp at hp
    | _::_::_::_,hp=>simp at hp
   case len =>
    have qF:∀x∈args.toList,BJ s loc M0 w (e x) (ρ x):=fun x _=>hρ x
    obtain⟨al⟩:=args;obtain⟨tl⟩:=ats
    match al,tl,hp,qF with
    | [x],[t],hp,qF =>
     have hx:=hρ x;simp only[List.map_cons,List.map_nil]at hp;simp only[Ck,List.map_cons,List.map_nil,Qw];simp only[execOp,resolve,Sem.run_bind,dW0,List.map_cons,List.map_nil,Sem.run_pure,Result.andThen_ok,invoke,builtin];refine fin' _ _ ?_
     split at hp
     ·rename_i str hd;rw[hd]at hx;simp only[BJ,rd]at hx;rw[hx.1]
      have hu:P.underlying t=some .string:=by
       unfold tStr at hp
       split at hp
       ·assumption
       ·simp at hp
      have qM:=hx.2;refine Yields.same (v:= .int .i64 str.size) (by simp[Builtin.len_,run_underlying hu,goInt]) ?_;simp only[BJ,rd,MF,true_and];unfold maxLen at qM;omega
     ·rename_i hd;rw[hd]at hx;simp only[BJ,rd]at hx;rw[hx];obtain⟨y,hy⟩:=bQ0.1 hp;obtain⟨e,i,hu,_⟩:=Cc (k:=y.1) (bs:=y.2) hy;refine Yields.same (v:= .int .i64 0) (by simp[Builtin.len_,run_underlying hu,goInt]) ?_;simp only[BJ,rd,MF,true_and];omega
     ·rename_i ks vs hd;rw[hd]at hx;exact Ul (P:=P) S hp.1 hx rfl hp.2
     ·rename_i hd;rw[hd]at hx;have:=Ul (P:=P) (ty:=type) (ks:=[]) (vs:=[]) S hp hx rfl (by simp);simpa using this
     ·rename_i id r hd;rw[hd]at hx;obtain⟨h1,h2⟩:=hp
      cases hq:IB s.own (.omp id r)with
      | none=>rw[hq]at h2;exact h2.elim
      | some y =>
       rw[hq]at h2;exact Ul (P:=P) S h1 hx hq h2
     ·rename_i d h1 h2 h3 h4 h5;obtain⟨y,hy⟩:=bQ0.1 hp.1;have:=Tp_ (P:=P) (ty:=type) S hp.2 hx (k:=y.1) (bs:=y.2.1) (es:=y.2.2) hy;cases hd:e x<;>rw[hd]at h1 h2 h3 h4 h5 hy<;>first | (exact(h1 _ rfl).elim) | (exact(h2 rfl).elim) | (exact(h3 _ _ rfl).elim) | (exact(h4 rfl).elim) | (exact(h5 _ _ rfl).elim) | (simp only[hy];exact this)
end
end Go.Dm
end
