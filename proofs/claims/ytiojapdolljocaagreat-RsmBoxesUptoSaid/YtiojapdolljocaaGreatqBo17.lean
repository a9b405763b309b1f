/- Parts of a proof, laid together: EnSi, EnBo, QB4, QB5, QB6. -/
import Derived.Shelf.Sort.Plain
import Derived.Shelf.Slices.In.SortNone
import Derived.Shelf.Spec.SlicesGrow
import Derived.Test.YtiojapdolljocaaGreatqBo15
import Derived.Test.YtiojapdolljocaaGreatqBo16
set_option linter.unusedSimpArgs false
set_option maxHeartbeats 8000000
set_option linter.unusedVariables false
set_option linter.unusedSectionVars false
section
namespace Go.Dm
variable [DMode]
open Go.Shelf Go.Sort Go.Proofs Go.RowKit
def HX (l:List Int):List Int:=l.mergeSort fun x y=>decide (x<=y)
theorem Jr (l:List Int):(HX l).length=l.length:=by simp[HX]
def dZ (z:Int):List DVal:=[.int .i64 z]
theorem Tq {P:Program} {ρ:Ren} (L:Lays.n189 P ρ) {f:FuncId} {et bs:Nat} (hf:ρ.f 189=f) (vH:Enters P f) (hbs0:0<bs) (l:List Int) :
  Bh P (.func f) [.osl 0 0] [⟨0,0,.row et 1 bs (l.map dZ)⟩] (.tup []) [⟨0,0,.row et 1 bs ((HX l).map dZ)⟩]:=by
 refine⟨by simp,vH,fun M w loc vs S hr=> ?_⟩;refine⟨vH,?_⟩;simp only[Au]at hr;obtain⟨v0,r0,wF,h0,rfl⟩:=hr;simp only[rd]at h0;have gQ:∀l:List Int,Ad [(⟨0,0,.row et 1 bs (l.map dZ)⟩:Ent)] loc 0 0=some (loc 0):=fun _=>rfl
 have kI:=h0 _ (gQ l);have vB:vs= #[v0]:=by cases vs;simpa using wF
 subst vB;subst hf;have wQ:∀l:List Int,Aa [(⟨0,0,.row et 1 bs (l.map dZ)⟩:Ent)] loc=(loc 0).blks:=fun _=>by simp[Aa]
 have jX:∀cur M h,rd cur M h (.tup []) (.tuple #[]):=fun _ _ _=>by simp only[rd];exact⟨#[],rfl,by simp[Au]⟩
 have hk:=S.ok ⟨0,0,.row et 1 bs (l.map dZ)⟩ (by simp)
 by_cases qE:l=[]
 ·subst qE
  obtain⟨a,cap,hh⟩:∃a cap,(loc 0).hdr= .slice a 0 cap:=by
   obtain⟨_,⟨_,_,h2⟩ | ⟨b,arr,cap,_,h2,_⟩⟩:=hk
   ·exact⟨_,_,h2⟩
   ·exact⟨_,_,h2⟩
  rw[hh]at kI;subst kI;refine(Any.slices_Sort_int_none L a cap w).mono ?_;rintro e w' ⟨rfl,rfl⟩;have e0:HX []=[]:=by simp[HX]
  rw[e0];exact⟨_,rfl,loc,S,Upd.refl _ _,fun b hb=> .inl hb,fun e he _=>AG S.nd he,jX _ _ _⟩
 ·obtain⟨b,arr,cap,p1,p2,p3,p4,p5,p6,p7⟩:∃b arr cap,(loc 0).blks=[b]/\(loc 0).hdr= .slice (some ⟨b,0,none⟩) (l.map dZ).length cap/\w.heap[b]? =some (.cells arr et (0,0))/\(l.map dZ).length<=cap/\cap<=maxLen/\cap*1=arr.size/\Em (Ad [(⟨0,0,.row et 1 bs (l.map dZ)⟩:Ent)] loc) (Aa [(⟨0,0,.row et 1 bs (l.map dZ)⟩:Ent)] loc++M) w.heap 1 (l.map dZ) arr 0:=by
   obtain⟨_,⟨h,_⟩ | h⟩:=hk
   ·exact absurd (List.map_eq_nil_iff.1 h) qE
   ·exact h
  have vX:(l.map dZ).length*bs<=150000000000000:=hk.1;rw[p2]at kI;subst kI;rw[aO0]at p2 p4 vX
  have bS:∀s∈l,Kx .i64 s/\True:=by
   intro s hs;obtain⟨i,hi,rfl⟩:=bW0 hs;obtain⟨q1,q2⟩:=DZ 1 _ arr 0 i [.int .i64 l[i]] p7 (by simp[dZ,hi]);obtain⟨us,g1,g2,g3⟩:=GR _ _ _ q2;simp only[Au,rd]at g2;obtain⟨v,_,_,⟨_,h⟩,_⟩:=g2;exact⟨h,trivial⟩
  have vZ:∀i (hi:i<l.length),arr[i]? =some (.int .i64 l[i]):=by
   intro i hi;obtain⟨q1,q2⟩:=DZ 1 _ arr 0 i [.int .i64 l[i]] p7 (by simp[dZ,hi]);obtain⟨us,g1,g2,g3⟩:=GR _ _ _ q2;simp only[Au,rd]at g2;obtain⟨v,r,rfl,⟨rfl,_⟩,_⟩:=g2;have:=(g3 0 _ rfl).1;simpa using this
  obtain⟨ss,dN⟩:∃ss,ss=l:=⟨_,rfl⟩;have fQ:ss.length=l.length:=by rw[dN]
  have hH:Holds (Value.int .i64) w b 0 ss.toArray:=by
   intro j hj;simp only[dJ0,fQ]at hj;refine⟨?_,Lib.frozen_of_heap p3 _⟩;rw[bN0,Lib.cell_of_heap p3,vZ j hj];rw[getElem!_pos _ j (by simpa[fQ]using hj)];simp[dN]
  have qV:ss.length<4611686018427387904:=by
   rw[fQ];have h1:l.length*1<=l.length*bs:=dT0 _ hbs0;omega
  have jK:b<w.heap.size:=(aC0.1 p3).1;have key:=Any.slices_Sort_int L b 0 cap ss w hH jK qV;rw[fQ]at key;simp only[aO0];refine key.mono ?_;rintro e w' ⟨rfl,n,os,rfl⟩;obtain⟨q1,q2,q3,q4,q5,q6,q7⟩:=pO (Value.int .i64) (et:=et) (arr:=arr) p3 n os (ss.mergeSort fun x y=>decide (x<=y)).toArray;have hse:HX l=(ss.mergeSort fun x y=>decide (x<=y)):=by rw[dN];rfl
  have vT:(ss.mergeSort fun x y=>decide (x<=y)).length=l.length:=by simp[fQ]
  refine⟨_,rfl,loc,⟨by simp,by rw[wQ,p1];simp,fun q hq=>S.ap q (by rw[wQ];rwa[wQ]at hq),fun q hq=> ?_,?_⟩,?_,fun q hq=> .inl (by rw[wQ];rwa[wQ]at hq),?_,jX _ _ _⟩
  ·refine cG0 (S.lt q ?_) q3;rw[wQ]at hq |-;exact hq
  ·intro e he;simp only[aE0]at he;subst he;refine⟨by simpa[Jr]using vX,.inr ⟨b,_,cap,p1,by simpa[Jr]using p2,q1,by simpa[Jr]using p4,p5,by simpa[putCells]using p6,?_⟩⟩;refine FD _ _ _ _ fun i cs0 hi=> ?_
   have fN:i<l.length:=by
    have:=(aG0.1 hi).1;simpa[Jr]using this
   rw[hse]at hi;have him:i<(ss.mergeSort fun x y=>decide (x<=y)).length:=by omega
   simp only[bY0,bM0,aD0 him,dK0,Function.comp_apply,aA0]at hi;subst hi;refine⟨rfl,?_⟩;have qY:(ss.mergeSort fun x y=>decide (x<=y))[i]∈ss:=(dU0 ss _).mem_iff.1 (bT0 him)
   have qF:Kx .i64 ((ss.mergeSort fun x y=>decide (x<=y))[i]):=by
    generalize (ss.mergeSort fun x y=>decide (x<=y))[i]=y at qY |-
    rw[dN]at qY;exact(bS y qY).1
   have h0:=Gv (cur:=Ad [(⟨0,0,.row et 1 bs ((HX l).map dZ)⟩:Ent)] loc) (M:=Aa [(⟨0,0,.row et 1 bs ((HX l).map dZ)⟩:Ent)] loc++M) (H:=(grow (putRow (Value.int .i64) (Sort.ahead w n) b 0 (ss.mergeSort fun x y=>decide (x<=y)).toArray) os).heap) [.int .i64 ((ss.mergeSort fun x y=>decide (x<=y))[i])] [.int .i64 ((ss.mergeSort fun x y=>decide (x<=y))[i])] [] [] (by simp only[Au,rd];exact⟨_,_,rfl,⟨rfl,qF⟩,rfl⟩) (by simp[Value.oneCell'])
   refine CJ _ _ _ _ _ (fun p hp=> ?_) h0;have wE:p=0:=by simp[dZ]at hp;omega
   subst wE;have hia:i<arr.size:=by omega
   simp only[putCells,Array.getElem?_mapIdx];rw[show 0+i*1+0=i by omega,cA0 hia];simp[him,vT,fN,fQ]
  ·rw[wQ,p1];exact⟨q4,q5,q6,fun _=>q7,q3,fun q hq hn=>q2 q hq (fun h=>hn (by simp[h]))⟩
  ·intro e he _;simp only[aE0]at he;subst he;rfl
theorem ZE {P:Program} {ρ:Ren} (L:Lays8.n4 P ρ) {f:FuncId} {et bs:Nat} (hf:ρ.f 4=f) (vH:Enters P f) (het:ρ.t 25=et) {i0:TypeInfo} {z:Value} (hi0:P.info? et=some i0) (hz0:i0.zero=some z) (hzc:z.cells.size=1) (hs0:i0.size=1) (qC:i0.bytes=bs) (vX:1<=bs)
  (n:Nat) (hn:n*bs<=140737488355328):Bh P (.func f) [.nilsl,.int .i64 n] [] (.osl 0 1) [⟨0,1,.row et 1 bs []⟩]:=by
 refine⟨by simp,vH,fun M w loc vs S hr=> ?_⟩;refine⟨vH,?_⟩;simp only[Au,rd]at hr;obtain⟨v0,r0,wF,rfl,v1,r1,rfl,⟨rfl,_⟩,rfl⟩:=hr;have vB:vs= #[.slice none 0 0,.int .i64 n]:=by cases vs;simpa using wF
 subst vB hf het;have hnn:n<=n*bs:=Nat.le_mul_of_pos_right _ vX;have hM:∀b∈M,b<w.heap.size:=fun b hb=>S.lt b (by simpa[Aa]using hb)
 by_cases h0:n=0
 ·subst h0;refine(Any8.slices_Grow_room L none 0 0 0 w (by omega) (by omega) (by omega) (by omega)).mono ?_;rintro e w' ⟨rfl,rfl⟩;refine⟨_,rfl,fun _=>⟨[],.slice none 0 0⟩,⟨by simp,by simp[Aa],by simp[Aa],fun b hb=>hM b (by simpa[Aa]using hb),fun e he=> ?_⟩,Upd.refl _ _,fun b hb=>by simp[Aa]at hb,fun e he h=> ?_,?_⟩
  ·simp only[aE0]at he;subst he;exact⟨by simp,.inl ⟨rfl,rfl,rfl⟩⟩
  ·simp only[aE0]at he;subst he;simp at h
  ·simp only[rd];intro l hl;simp[Ad,Aj]at hl;rw[<-hl]
 ·refine(Any8.slices_Grow_grow L i0 z hi0 hz0 (by omega) none 0 0 n [] w (by omega) (by omega) (by rw[qC];simpa using hn) (by omega) (by simp) (fun _=>rfl) (by simp)).mono ?_;rintro e w' ⟨rfl,rfl⟩;obtain⟨G,hG⟩:∃G,G=grownCap w (0+n) 0 (ρ.t 25):=⟨_,rfl⟩;have gG:0+n<=G:=by rw[hG];exact grownCap_ge w _ _ _
  have hGm:G<=maxLen:=by rw[hG];exact grownCap_le_maxLen w _ _ _ (by unfold maxLen;omega)
  rw[<-hG];have hU:Upd [] w (w.drew.alloc (.cells ((#[]:Array Value)++Builtin.zeroCells z.cells (0+n-0)++Builtin.zeroCells z.cells (G-(0+n))) (ρ.t 25))):=(Upd.drew _ w).trans (Upd.alloc _ w.drew _) (fun x hx=> .inl hx);refine⟨_,rfl,fun _=>⟨[w.heap.size],.slice (some ⟨w.heap.size,0,none⟩) 0 G⟩,⟨by simp,by simp[Aa],fun b hb hm=> ?_,fun b hb=> ?_,fun e he=> ?_⟩,hU,fun b hb=> ?_,fun e he h=> ?_,?_⟩
  ·simp[Aa]at hb;subst hb;exact absurd (hM _ hm) (by omega)
  ·have h1:w.heap.size<(w.drew.alloc (.cells ((#[]:Array Value)++Builtin.zeroCells z.cells (0+n-0)++Builtin.zeroCells z.cells (G-(0+n))) (ρ.t 25))).heap.size:=by
    show w.heap.size<(w.heap.push _).size
    simp
   rcases aI0.1 hb with hb | hb
   ·simp[Aa]at hb;subst hb;exact h1
   ·exact Nat.lt_trans (hM b hb) h1
  ·simp only[aE0]at he;subst he;refine⟨by simp,.inr ⟨w.heap.size,_,G,rfl,rfl,heap_alloc_new w.drew _,by simp,hGm,?_,by simp[Em]⟩⟩;simp only[Array.size_append,size_zeroCells,hzc];simp;omega
  ·simp[Aa]at hb
   right
   omega
  ·simp only[aE0]at he;subst he;simp at h
  ·simp only[rd];intro l hl;simp[Ad,Aj]at hl;rw[<-hl]
theorem HQ {P:Program} {f:FuncId} {args:List DVal} {et k bs:Nat} (h:Ae P f args .nilsl):Bh P (.func f) args [] (.osl 0 1) [⟨0,1,.row et k bs []⟩]:=by
 refine⟨by simp,h.1,fun M w loc vs S hr=>⟨h.1,(h.2.2 _ _ _ _ S.lt hr).mono ?_⟩⟩;rintro e w' ⟨v,rfl,hu,hv⟩;have hM:∀b∈M,b<w'.heap.size:=fun b hb=>cG0 (S.lt b (aP0 _ hb)) hu.size
 simp only[rd]at hv;refine⟨_,rfl,fun _=>⟨[],.slice none 0 0⟩,⟨by simp,by simp[Aa],by simp[Aa],fun b hb=>hM b (by simpa[Aa]using hb),fun e he=> ?_⟩,by simpa[Aa]using hu,fun b hb=>by simp[Aa]at hb,fun e he h=> ?_,?_⟩
 ·simp only[aE0]at he;subst he;exact⟨by simp,.inl ⟨rfl,rfl,rfl⟩⟩
 ·simp only[aE0]at he;subst he;simp at h
 ·simp only[rd];intro l hl;simp[Ad,Aj]at hl;rw[<-hl];exact hv
theorem QS {P:Program} {f:FuncId} {k bs:Nat} {d:DVal} {own':List Ent} (h1:Bh P (.func f) [.nilsl] [] d own') (h2:Bh P (.func f) [.esl] [] d own'):Bh P (.func f) [.sl k bs []] [] d own':=by
 refine⟨h1.1,h1.2.1,fun M w loc vs S hr=> ?_⟩;simp only[Au]at hr;obtain⟨v,r,wF,h5,rfl⟩:=hr;simp only[rd]at h5;obtain⟨a,cap,rfl,_,hc,_,h7⟩:=h5
 cases a with
 | none =>
  have:cap=0:=by
   rcases h7 with h7 | ⟨b,off,arr,ty,fz,h8,_⟩
   ·exact h7.2 rfl
   ·simp at h8
  subst this;refine h1.2.2 M w loc vs S ?_;rw[wF];simp only[Au];exact⟨_,_,rfl,by simp[rd],rfl⟩
 | some ad =>
  refine h2.2.2 M w loc vs S ?_;rw[wF];simp only[Au];exact⟨_,_,rfl,by simp only[rd];exact⟨ad,cap,rfl,hc⟩,rfl⟩
end Go.Dm
end
section
namespace Go.Dm
variable [DMode]
def RV : DVal->Bool
 | .bool _=>true
 | .int _ _=>true
 | .str _=>true
 | .nilp=>true
 | .nilsl=>true
 | .any=>true
 | _=>false
theorem aU {d:DVal} (hd:RV d=true) {cur cur':Er} {M M':List Nat} {h h':Array Obj} {v:Value} (hr:rd cur M h d v):rd cur' M' h' d v:=by
 cases d<;>simp only[RV,bH0]at hd<;>simp only[rd]at hr |- <;>exact hr
theorem Pa : ∀{ds:List DVal} (hd:ds.all RV=true) {cur cur':Er} {M M':List Nat} {h h':Array Obj} {vs:List Value} (_:Au cur M h ds vs),Au cur' M' h' ds vs
 | [],_,_,_,_,_,_,_,vs,hr=>by simpa only[Au]using hr
 | d::ds,hd,_,_,_,_,_,_,vs,hr=>by
  rw[dA0,aN0]at hd;simp only[Au]at hr |-;obtain⟨v,r,rfl,h1,h2⟩:=hr;exact⟨v,r,rfl,aU hd.1 h1,Pa hd.2 h2⟩
def RU : DVal->Bool
 | .tup ds=>ds.all RV
 | .agg ds=>ds.all RV
 | d=>RV d
theorem Vs {d:DVal} (hd:RU d=true) {cur cur':Er} {M M':List Nat} {h h':Array Obj} {v:Value} (hr:rd cur M h d v):rd cur' M' h' d v:=by
 cases d
 case tup ds =>
  simp only[RU]at hd;simp only[rd]at hr |-;obtain⟨us,rfl,h1⟩:=hr;exact⟨us,rfl,Pa hd h1⟩
 case agg ds =>
  simp only[RU]at hd;simp only[rd]at hr |-;obtain⟨us,rfl,h1⟩:=hr;exact⟨us,rfl,Pa hd h1⟩
 all_goals exact aU (by simpa only[RU]using hd) hr
theorem QT {P:Program} {f:FuncId} {k bs:Nat} {et:TypeId} {es:List (List DVal)} {rest:List DVal} {d:DVal} (hd:RU d=true) (hp:Ae P f (.sl k bs es::rest) d) :
  Bh P (.func f) (.osl 0 0::rest) [⟨0,0,.row et k bs es⟩] d [⟨0,0,.row et k bs es⟩]:=by
 obtain⟨vH,_,hc⟩:=hp;refine⟨by simp,vH,fun M w loc vs S hr=>⟨vH,?_⟩⟩;simp only[Au]at hr;obtain⟨v0,r0,wF,h0,hrest⟩:=hr;simp only[rd]at h0;have kI:=h0 (loc 0) rfl;have hk:=S.ok ⟨0,0,.row et k bs es⟩ (by simp);have hap:=S.ap
 have W:Weak (Ad [(⟨0,0,.row et k bs es⟩:Ent)] loc) (Ad [(⟨0,0,.row et k bs es⟩:Ent)] loc) (Aa [(⟨0,0,.row et k bs es⟩:Ent)] loc++M) M w.heap w.heap (max (Bo es) (AH rest)) :=
  ⟨fun _ _ _ _ h=>h,fun _ _ _ _ h=>h,fun b _ hb _ _ hm=>hb (aP0 _ hm)⟩
 refine(hc (Ad [(⟨0,0,.row et k bs es⟩:Ent)] loc) M w vs (fun b hb=>S.lt b (aP0 _ hb)) ?_).mono ?_
 ·rw[wF];simp only[Au];refine⟨v0,r0,rfl,?_,AQ W _ _ (by omega) hrest⟩;simp only[rd];obtain⟨hz,h⟩:=hk
  rcases h with ⟨he,_,h2⟩ | ⟨b,arr,cap,h1,h2,h3,h4,h5,h6,h7⟩
  ·subst he;rw[kI,h2];exact⟨none,0,by simp,by simp,by simp,hz,.inl ⟨rfl,fun _=>rfl⟩⟩
  ·rw[kI,h2];refine⟨some ⟨b,0,none⟩,cap,rfl,h4,h5,hz,.inr ⟨b,0,arr,et,(0,0),rfl,hap b ?_,h3,Cj W k es arr 0 (by omega) h7⟩⟩;simp[Aa,h1]
 ·rintro e w' ⟨v,rfl,hu,wT⟩;exact⟨v,rfl,loc,S.keep hu,hu.nil,fun b hb=> .inl hb,fun e he _=>AG S.nd he,Vs hd wT⟩
theorem xI {cur:Er} {M:List Nat} {h:Array Obj}:∀{ds:List DVal} {vs:List Value},vs.length=ds.length->(∀(i:Nat) (d:DVal) (v:Value),ds[i]? =some d->vs[i]? =some v->rd cur M h d v)->Au cur M h ds vs
 | [],[],_,_=>by simp[Au]
 | [],_::_,hl,_=>by simp at hl
 | _::_,[],hl,_=>by simp at hl
 | d::ds,v::vs,hl,h=>by
  simp only[Au];exact⟨v,vs,rfl,h 0 d v rfl rfl,xI (by simpa using hl) fun i d' v' h1 h2=>h (i+1) d' v' (by simpa using h1) (by simpa using h2)⟩
theorem Yu {P:Program} {f:FuncId} {args args':List DVal} {own:List Ent} {d:DVal} (ids:List Nat) (hd:RU d=true) (nU:∀e∈own,e.r<=1) (qU:args'.length=args.length) (jV:(freezeL ⟨Ak args 0,own⟩ ids).own=[])
  (hsl:∀i,i<args.length->Be (freezeL ⟨Ak args 0,own⟩ ids).slots i=args'.getD i .any) (hp:Ae P f args' d):Bh P (.func f) args own d own:=by
 obtain⟨vH,_,hc⟩:=hp;refine⟨nU,vH,fun M w loc vs S hr=>⟨vH,?_⟩⟩
 let B:Base:=⟨own,loc,M,0,w,vs.size,none,dB0 _,w.heap.size,Nat.le_refl _⟩
 have fO:=Ap _ _ hr
 have R0:Rel B ⟨Ak args 0,own⟩ { tmps:=vs,defers:=[] } w loc:=by
  refine⟨S,Upd.refl _ _,fun b hb=> .inl hb,fun e he _=>AG S.nd he,?_,rfl,⟨[],rfl,List.nodup_nil,by simp⟩⟩;intro i;rw[MJ];simp only[eE0,if_false,eG0]
  cases hi:args[i]? with
  | none=>simp[aM0,hi,rd]
  | some d0 =>
   obtain⟨v,hv,h1⟩:=Mu _ _ i d0 hr hi;have kT:vs[i]? =some v:=by simpa using hv
   rw[aM0,hi,aK0,kT];exact h1
 obtain⟨loc',R1⟩:=Sub.freezeL ids _ _ _ _ R0;have sl:=R1.sl;rw[jV]at sl
 have wT:Au (Ad [] loc') M w.heap args' vs.toList:=by
  refine xI (by rw[fO,qU]) fun i d0 v h1 h2=> ?_
  have hi:i<args.length:=by rw[<-qU];exact(aG0.1 h1).1
  have h3:=sl i;rw[hsl i hi,aM0,h1]at h3;have kH:vs[i]? =some v:=by simpa using h2
  have h4:({ tmps:=vs,defers:=[] }:Act).tmps.getD i Go.undef=v:=by
   show vs.getD i Go.undef=v
   rw[aK0,kH];rfl
  rw[h4]at h3;simpa[Aa]using h3
 refine(hc (Ad [] loc') M w vs (fun b hb=>S.lt b (aP0 _ hb)) wT).mono ?_;rintro e w' ⟨v,rfl,hu,wT⟩;exact⟨v,rfl,loc,S.keep hu,hu.nil,fun b hb=> .inl hb,fun e he _=>AG S.nd he,Vs hd wT⟩
theorem Dz_ {P:Program} {B:Base} {Q:Exit->DS->Prop} {s:DS} {x:Code} (i k bs:Nat) (h:Be s.slots i= .nilsl) (hw:DW P B x Q ⟨(i,.sl k bs [])::s.slots,s.own⟩):DW P B x Q s:=by
 refine KK (s':=⟨(i,.sl k bs [])::s.slots,s.own⟩) (fun a w loc R=>⟨loc,R.st,R.upd,R.new,R.ver,fun j=> ?_,R.nt,R.df⟩) hw;simp only[Be]
 split
 ·rename_i hj;subst hj;have:=R.sl j;rw[h]at this;simp only[rd]at this |-;rw[this];exact⟨none,0,by simp,by simp,by simp,by simp,.inl ⟨by simp,fun _=>rfl⟩⟩
 ·exact R.sl j
end Go.Dm
end
section
namespace Go.Proofs.Wy
open Go Go.Dm Tryz
attribute [local irreducible] DW Bm Bq
set_option maxRecDepth 100000
def dP (l:List Nat):List DVal:=l.map fun(x:Nat)=> .int .i64 (x:Int)
@[simp] theorem Gw_ (b:List Nat):(dP b).length=b.length:=by simp[dP]
@[simp] theorem Gm_ {d:DVal} {b:List Nat}:d∈dP b↔∃y,y∈b/\DVal.int .i64 (y:Int)=d:=by simp[dP]
@[simp] theorem GD_ (b:List Nat):AH (dP b)=0:=by
 unfold dP
 induction b with
 | nil=>rfl
 | cons x b ih=>rw[List.map_cons,AH,ih];rfl
@[simp] theorem FK_ (f:Nat->Nat->Option (Nat×Nat)) (b:List Nat):(dP b).map (Lb f)=dP b:=by
 simp only[dP,bY0];exact bV0 fun x _=>rfl
@[simp] theorem Eg_ (l:List HR):Bo (l.map dB)=0:=Ie _ Fp_ l
theorem Bc_ {b:List Nat} {k x:Nat} (h:b[k]? =some x):(dP b).drop k= .int .i64 (x:Int)::(dP b).drop (k+1):=by
 obtain⟨hk,he⟩:=aG0.1 h;unfold dP;rw[aW0 (by simpa using hk)];simp[he]
def dQ (v n:Nat) (q:Qd):List Ent:=[⟨0,0,.box [.int .i64 n,.int .i64 1,.int .i64 q.cnt,.osl 1 0,.osl 2 v]⟩,⟨1,0,.row 151 4 32 [dP q.ps]⟩,⟨2,v,.row 98 64 512 (q.lv.map dB)⟩]
def Qm (n:Nat) (q:Qd):DVal:= .ref [.int .i64 n,.int .i64 1,.int .i64 q.cnt,.sl 4 32 [dP q.ps],.sl 64 512 (q.lv.map dB)]
def lL : Ann:=⟨[],[]⟩
theorem UY (u v:Nat) (hu:u<2) (hv:v<2):Ae prog 95 [.int .i64 u,.int .i64 v,.int .i64 0] (.int .i64 ((2*u+v:Nat):Int)):=by
 refine Ac [] lL func95 call95 ntmps95 mxd (Ar @lL.eq_1 results95) rfl (fun qJ B qX qQ=> ?_);clear qJ;simp only[Ak]
 have hE:iOr .i64 (sH .i64 (IM .i64 (Ig .i64 (u:Int) 0) 1) 1) (IM .i64 (Ig .i64 (v:Int) 0) 1)=((2*u+v:Nat):Int):=by
  have h1:u=0\/u=1:=by omega
  have h2:v=0\/v=1:=by omega
  rcases h1 with rfl | rfl<;>rcases h2 with rfl | rfl<;>decide
 obtain⟨w,hw⟩:∃w:Int,w=((2*u+v:Nat):Int):=⟨_,rfl⟩;rw[<-hw]at hE |-;exact Aw Ab Ab (AJ hE)
def lO : Ann:=⟨[],[]⟩
theorem iA (n:Nat) (q:Qd) (h:0<n):Ae prog 45 [Qm n q] (.bool true):=by
 refine Ac [] lO func45 call45 ntmps45 mxd (Ar @lO.eq_1 results45) rfl (fun qJ B qX qQ=> ?_);clear qJ;simp only[Ak];have h1:(0:Int)<n:=by omega
 exact Aw Ab Ab (GE @Qm.eq_1 h h1)
def lN : Ann:=⟨[],[]⟩
theorem iB (n:Nat) (q:Qd) (i:Nat) (h:i<n):Ae prog 46 [Qm n q,.int .i64 i] (.bool true):=by
 refine Ac [] lN func46 call46 ntmps46 mxd (Ar @lN.eq_1 results46) rfl (fun qJ B qX qQ=> ?_);clear qJ;simp only[Ak];have h1:(i:Int)<n:=by omega
 exact Aw Ab Ab (GE @Qm.eq_1 h h1)
def lP : Ann:=⟨[],[]⟩
theorem At_ (n:Nat) (q:Qd) (h:0<n):Ae prog 13 [Qm n q] (.int .i64 q.cnt):=by
 refine Ac [] lP func13 call13 ntmps13 mxd (Ar @lP.eq_1 results13) rfl (fun qJ B qX qQ=> ?_);clear qJ;simp only[Ak];have e1:=iA n q h;simp only[Qm]at e1;exact Aw (AJ e1) Ab (AJ @Qm.eq_1)
def lM : Ann:=⟨[],[]⟩
theorem rW (n:Nat) (q:Qd) (hp:q.ps.length=4) (u v:Nat) (hu:u<2) (hv:v<2):Ae prog 47 [Qm n q,.int .i64 u,.int .i64 v] (.int .i64 ((q.ps.getD (2*u+v) 0:Nat):Int)):=by
 refine Ac [] lM func47 call47 ntmps47 mxd (Ar @lM.eq_1 results47) rfl (fun qJ B qX qQ=> ?_);clear qJ;simp only[Ak];have e1:=UY u v hu hv;obtain⟨w,hw⟩:∃w:Nat,w=2*u+v:=⟨_,rfl⟩;have fG:w<4:=by omega
 rw[<-hw]at e1 |-;clear hw;have yX:w<q.ps.length:=by omega
 have hx:=aD0 yX;rw[<-HL yX]at hx;obtain⟨x,kO⟩:∃x,x=q.ps.getD w 0:=⟨_,rfl⟩;rw[<-kO]at hx |-;have d1:=Bc_ hx;have vK:(w:Int)<4:=by omega
 (refine AX Ab Ab (AJ @Qm.eq_1) ?_;intros;refine Am ?_)
 refine Al (X:={k:Nat//k=0}) (fun _=>⟨[(0,Qm n q),(1,.int .i64 u),(2,.int .i64 v),(7,.int .i64 0),(8,.int .i64 0)],[]⟩) (fun _=>0) ⟨0,rfl⟩ (Sub.lit (by simp[Qm])) ?_;rintro⟨k,hk⟩;simp only[Qm];exact Aw (AJ e1) Ab (Mj @Qm.eq_1 d1 vK hp yX)
theorem iI (i:Nat):(i:Int).tdiv 64=((i/64:Nat):Int):=by rw[Int.tdiv_eq_ediv_of_nonneg (Int.natCast_nonneg _)];omega
theorem eT (i:Nat):(i:Int).tmod 64=((i%64:Nat):Int):=by rw[Int.tmod_eq_emod_of_nonneg (Int.natCast_nonneg _)];omega
def lQ : Ann:=⟨[],[]⟩
theorem AI_ (n:Nat) (q:Qd) (hq:QdI q) (i j:Nat) (hn:n<=128) (hi:i<n) (hj:j<n):Ae prog 12 [Qm n q,.int .i64 i,.int .i64 j] (.tup [.bool (Hb q i j),.int .i64 0]):=by
 refine Ac [] lQ func12 call12 ntmps12 mxd (Ar @lQ.eq_1 results12) rfl (fun qJ B qX qQ=> ?_);have hlvl:q.lv.length<9223372036854775807:=by have:=qJ;simp[Qm,maxLen]at this;omega
 clear qJ;simp only[Ak];have e1:=iA n q (by omega);have e2:=iB n q i hi;have e3:=iB n q j hj;have e4:=rW n q hq.p4 (i/64) (j/64) (by omega) (by omega);have hwq:DK i j=2*(i/64)+j/64:=rfl;have hlo:=hq.lo _ (WC hq.p4 (Jf (show i<128 by omega) (show j<128 by omega)));unfold Hb;rw[<-hwq]at e4;obtain⟨p,hp⟩:∃p,p=q.ps.getD (DK i j) 0:=⟨_,rfl⟩;rw[<-hp]at e4 hlo |-;clear hp hwq;have a1:=iI i;have a2:=iI j;have m1:=eT i
 have m2:=eT j;have w1:IntKind.i64.wrap ((i/64:Nat):Int)=((i/64:Nat):Int):=wq;have w2:IntKind.i64.wrap ((j/64:Nat):Int)=((j/64:Nat):Int):=wq;obtain⟨i',zO⟩:∃i':Nat,i'=i/64:=⟨_,rfl⟩;obtain⟨j',kE⟩:∃j':Nat,j'=j/64:=⟨_,rfl⟩;rw[<-zO]at e4 a1 w1;rw[<-kE]at e4 a2 w2
 cases p with
 | zero =>
  simp only[Qm]at e1 e2 e3 e4;exact Aw (Ik e1 e2 e3 e4) Ab (Mj @Qm.eq_1 a1 a2 w1 w2)
 | succ p =>
  have yV:p<q.lv.length:=by omega
  have hx:=aD0 yV;have zQ:q.lv.getD p HV=q.lv[p]:=by rw[aM0,hx];rfl
  simp only;rw[zQ];obtain⟨b,hbe⟩:∃b,b=q.lv[p]:=⟨_,rfl⟩;have qA:q.lv[p]=b:=hbe.symm;rw[qA]at hx |-;have hb:Sd b:=by rw[hbe];exact hq.ok _ (bT0 _)
  have e5:=tG b hb (i%64) (j%64) (dW0 _ (by omega)) (dW0 _ (by omega));have t1:=Dt hb.1;have jK:=hb.1;obtain⟨R,hR⟩:∃R,R=Ij b (i%64) (j%64):=⟨_,rfl⟩;rw[<-hR]at e5 |-;obtain⟨i2,hi2⟩:∃i2:Nat,i2=i%64:=⟨_,rfl⟩;obtain⟨j2,nG⟩:∃j2:Nat,j2=j%64:=⟨_,rfl⟩;rw[<-hi2]at e5 m1;rw[<-nG]at e5 m2;have w3:IntKind.i64.wrap (p:Int)=(p:Int):=wq;simp only[Qm]at e1 e2 e3 e4;exact Aw (Mj e1 e2 e3 e4 e5) Ab (GA_ @Qm.eq_1 a1 a2 w1 w2 m1 m2 yV hx qA t1 jK w3)
theorem AH_ (n:Nat) (q:Qd) (hq:QdI q) (i j:Nat) (hn:n<=128) (hi:i<n) (hj:j<n):Bh prog (.func 12) [.bx 0 0 0,.int .i64 i,.int .i64 j] (dQ 0 n q) (.tup [.bool (Hb q i j),.int .i64 0]) (dQ 0 n q) :=
 Yu (args':=[Qm n q,.int .i64 i,.int .i64 j]) [1,2,0] rfl (by simp[dQ]) rfl rfl (fun k hk=>by
  match k,hk with
  | 0,_=>rfl
  | 1,_=>rfl
  | 2,_=>rfl) (AI_ n q hq i j hn hi hj)
theorem ET_ {b:List Nat} {k:Nat} (x:Nat) (h:k<b.length):(dP b).take k++ .int .i64 (x:Int)::(dP b).drop (k+1)=dP (b.set k x):=by
 unfold dP;rw[eJ0,List.set_eq_take_append_cons_drop,if_pos (by simpa using h)]
def dQn (n:Nat):List Ent:=[⟨0,1,.box [.int .i64 n,.int .i64 1,.int .i64 0,.osl 1 1,.nilsl]⟩,⟨1,1,.row 151 4 32 [dP [0,0,0,0]]⟩]
def OE : Ann:=⟨[12,14],[]⟩
theorem pN (n:Nat) (h1:1<=n) (h2:n<=128):Bh prog (.func 42) [.int .i64 n] [] (.tup [.bx 0 1 0,.int .i64 0]) (dQn n):=by
 refine BI [] [(14,0,1),(12,1,1)] OE func42 call42 ntmps42 mxd (Ar @OE.eq_1 results42) rfl (fun qJ B qX qQ=> ?_) (hv:=(by simp[dQn]));clear qJ;simp only[Ak];have l1:¬(n:Int)<1:=by omega
 have l2:¬(1024:Int)<n:=by omega
 have l3:¬(128:Int)<n:=by omega
 have s1:sH .i64 64 1=128:=by decide
 (refine AX Ab Ab (Ar l1 l2) ?_;intros;refine Am ?_)
 refine Al (X:={k:Nat//k=0}) (fun _=>⟨[(0,.int .i64 n),(4,.bx 14 1 0)],[⟨14,1,.box [.int .i64 n,.int .i64 1,.int .i64 0,.osl 12 1,.nilsl]⟩,⟨12,1,.row 151 4 32 [dP [0,0,0,0]]⟩]⟩) (fun _=>0) ⟨0,rfl⟩ (Sub.lit (by simp[dP])) ?_;rintro⟨k,hk⟩
 (repeat (first | refine AI fun K hK=> ?_ | (refine BS OE mxd (by kernel_rfl) ?_;simp[OE,qX,s1,l3,dQn,dP];try simp (disch:=omega) only[Ai]) | refine Ao ?_ | (refine Bg ?_ ?_ ?_;(· (simp[qX,s1,l3,dQn,dP];done));(try (rotate_left;(· (intro hc;(try simp[qX,s1,l3,dQn,dP]at hc);done))))) | (refine AL ?_;simp[results42,qX,s1,l3,dQn,dP]) | ((first | refine Az ?_ | refine Ay ?_);simp[qX,s1,l3,dQn,dP]) | (intro hc;(try simp[qX,s1,l3,dQn,dP]at hc);(try (exfalso;omega))) | (refine⟨?_,?_⟩; · omega) | omega | apply_assumption -exfalso -symm | (exfalso;omega)))
def EU : Ann:=⟨[86,87],[]⟩
theorem CS_ (n:Nat) (q:Qd) (hp:q.ps.length=4) (u v:Nat) (hu:u<2) (hv:v<2) (hl:q.lv.length<=200000000000) (mN:∀p∈q.ps,p<=q.lv.length) :
  Bh prog (.func 132) [.bx 0 0 0,.int .i64 u,.int .i64 v] (dQ 0 n q) (.int .i64 (((CO q (2*u+v)).ps.getD (2*u+v) 0-1:Nat):Int)) (dQ 1 n (CO q (2*u+v))):=by
 refine BI [] [(0,0,0),(1,1,0),(2,2,1)] EU func132 call132 ntmps132 mxd (Ar @EU.eq_1 results132) rfl (fun qJ B qX qQ=> ?_) (hv:=(by simp[dQ]));clear qJ;simp only[Ak];have e1:=UY u v hu hv;obtain⟨w,hw⟩:∃w:Nat,w=2*u+v:=⟨_,rfl⟩;have fG:w<4:=by omega
 rw[<-hw]at e1 |-;clear hw;obtain⟨G,hG⟩:∃G,G=CO q w:=⟨_,rfl⟩;rw[<-hG];have yX:w<q.ps.length:=by omega
 have hx:=aD0 yX;rw[<-HL yX]at hx;have vN:=mN _ (WC hp fG);obtain⟨x,kO⟩:∃x,x=q.ps.getD w 0:=⟨_,rfl⟩;rw[<-kO]at hx vN;have d1:=Bc_ hx;have vK:(w:Int)<4:=by omega
 have z:=SJ
 (repeat (first | refine AI fun K hK=> ?_ | (refine BS EU mxd (by kernel_rfl) ?_;simp[EU,qX,dQ];try simp (disch:=omega) only[Ai]) | refine Ao ?_ | (refine Bg ?_ ?_ ?_;(· (simp[qX,dQ];done));(try (rotate_left;(· (intro hc;(try simp[qX,dQ]at hc);done))))) | (refine AL ?_;simp[results132,qX,dQ]) | ((first | refine Az ?_ | refine Ay ?_);simp[qX,dQ]) | (intro hc;(try simp[qX,dQ]at hc);(try (exfalso;omega))) | (refine⟨?_,?_⟩; · omega) | omega | apply_assumption -exfalso -symm | (exfalso;omega)))
 refine Al (X:={k:Nat//k=0}) (fun _=>⟨[(0,.bx 0 0 0),(1,.int .i64 u),(2,.int .i64 v),(7,.int .i64 0),(8,.int .i64 0)],dQ 0 n q⟩) (fun _=>0) ⟨0,rfl⟩ (Sub.lit (by simp[dQ])) ?_;rintro⟨k,hk⟩
 cases x with
 | zero =>
  have hg:CO q w=⟨q.ps.set w (q.lv.length+1),q.lv++[HV],q.cnt⟩:=by unfold CO;rw[if_pos kO.symm]
  rw[hg]at hG;have sP:=ET_ (b:=q.ps) (k:=w) (q.lv.length+1) yX;simp only[aU0,Int.cast_ofNat_Int]at sP;have rP:(dP (q.ps.set w (q.lv.length+1)))[w]? =some (.int .i64 ((q.lv.length:Int)+1)):=by simp[dP,yX]
  obtain⟨P2,cP⟩:∃P2,P2=q.ps.set w (q.lv.length+1):=⟨_,rfl⟩;rw[<-cP]at hG sP rP;have zQ:P2.getD w 0-1=q.lv.length:=by rw[cP,GM yX];rfl
  have mL:P2.length=4:=by rw[cP,List.length_set];exact hp
  have hp3:0<P2.length-w:=by omega
  subst hG;simp only[zQ]at *;have w3:IntKind.i64.wrap ((q.lv.length:Int))=(q.lv.length:Int):=wq;have w4:IntKind.i64.wrap ((q.lv.length:Int)+1-1)=(q.lv.length:Int):=by rw[Int.add_sub_cancel];exact w3
  have b1:(q.lv.length+1)*512<=150000000000000:=by omega
  have b2:q.lv.length+1<=9223372036854775807:=by omega
  (repeat (first | refine AI fun K hK=> ?_ | (refine BS EU mxd (by kernel_rfl) ?_;simp[EU,qX,dQ,d1,vK,hp,yX,sP,rP,w3,w4,b1,b2,z,hp3];try simp (disch:=omega) only[Ai]) | refine Ao ?_ | (refine Bg ?_ ?_ ?_;(· (simp[qX,dQ,d1,vK,hp,yX,sP,rP,w3,w4,b1,b2,z,hp3];done));(try (rotate_left;(· (intro hc;(try simp[qX,dQ,d1,vK,hp,yX,sP,rP,w3,w4,b1,b2,z,hp3]at hc);done))))) | (refine AL ?_;simp[results132,qX,dQ,d1,vK,hp,yX,sP,rP,w3,w4,b1,b2,z,hp3]) | ((first | refine Az ?_ | refine Ay ?_);simp[qX,dQ,d1,vK,hp,yX,sP,rP,w3,w4,b1,b2,z,hp3]) | (intro hc;(try simp[qX,dQ,d1,vK,hp,yX,sP,rP,w3,w4,b1,b2,z,hp3]at hc);(try (exfalso;omega))) | ((first | refine Ag (e1) ?_ | (refine Af (e1) ?_ ?_;(· (simp;done))));try simp[qX,dQ,d1,vK,hp,yX,sP,rP,w3,w4,b1,b2,z,hp3]) | (refine⟨?_,?_⟩; · omega) | omega | apply_assumption -exfalso -symm | (exfalso;omega)))
 | succ x =>
  have hg:CO q w=q:=by unfold CO;rw[if_neg (by omega)]
  rw[hg]at hG;subst hG;have zQ:G.ps.getD w 0-1=x:=by rw[<-kO];rfl
  have hgd2:((G.ps.getD w 0-1:Nat):Int)=(x:Int):=by rw[zQ]
  have w3:IntKind.i64.wrap (x:Int)=(x:Int):=wq
  (repeat (first | refine AI fun K hK=> ?_ | (refine BS EU mxd (by kernel_rfl) ?_;simp[EU,qX,dQ,d1,vK,hp,yX,w3,hx];try simp (disch:=omega) only[Ai]) | refine Ao ?_ | (refine Bg ?_ ?_ ?_;(· (simp[qX,dQ,d1,vK,hp,yX,w3,hx];done));(try (rotate_left;(· (intro hc;(try simp[qX,dQ,d1,vK,hp,yX,w3,hx]at hc);done))))) | (refine AL ?_;simp[results132,qX,dQ,d1,vK,hp,yX,w3,hx]) | ((first | refine Az ?_ | refine Ay ?_);simp[qX,dQ,d1,vK,hp,yX,w3,hx]) | (intro hc;(try simp[qX,dQ,d1,vK,hp,yX,w3,hx]at hc);(try (exfalso;omega))) | ((first | refine Ag (e1) ?_ | (refine Af (e1) ?_ ?_;(· (simp;done))));try simp[qX,dQ,d1,vK,hp,yX,w3,hx]) | (refine⟨?_,?_⟩; · omega) | omega | apply_assumption -exfalso -symm | (exfalso;omega)))
theorem Bj_ : ∀(b:HR),Bj (List.replicate b.length (.i .u64)) (dB b)=true
 | []=>rfl
 | x::b=>by
  have ih:=Bj_ b;unfold dB at ih |-;rw[List.length_cons,List.replicate_succ,List.map_cons,Bj,ih];rfl
def OD : Ann:=⟨[17],[]⟩
theorem xJ (n:Nat) (q:Qd) (hq:QdI q) (u v r c:Nat) (hu:u<2) (hv:v<2) (hr:r<64) (wI:c<64) (hl:q.lv.length<=200000000000) (hct:q.cnt<=4611686018427387904)
  (qC:Ij ((CO q (2*u+v)).lv.getD ((CO q (2*u+v)).ps.getD (2*u+v) 0-1) HV) r c=false) :
  Bh prog (.func 93) [.bx 0 0 0,.int .i64 u,.int .i64 v,.agg (dB (Ea r c))] (dQ 0 n q) (.bool true) (dQ 1 n (orQ (CO q (2*u+v)) (2*u+v) r c)):=by
 refine BI [] [(0,0,0),(1,1,0),(2,2,1)] OD func93 call93 ntmps93 mxd (Ar @OD.eq_1 results93) rfl (fun qJ B qX qQ=> ?_) (hv:=(by simp[dQ]));clear qJ;simp only[Ak];have e1:=CS_ n q hq.p4 u v hu hv hl hq.lo;obtain⟨w,hw⟩:∃w:Nat,w=2*u+v:=⟨_,rfl⟩;have fG:w<4:=by omega
 rw[<-hw]at e1 qC |-;clear hw;obtain⟨g1,g2,_,g4⟩:=PT hq fG;obtain⟨G,hG⟩:∃G,G=CO q w:=⟨_,rfl⟩;rw[<-hG]at e1 qC g1 g2 g4 |-;clear hG;have vT:G.ps.getD w 0-1<G.lv.length:=by have:=g1.lo _ (WC g1.p4 fG);omega
 unfold orQ;obtain⟨m,hm⟩:∃m,m=G.ps.getD w 0-1:=⟨_,rfl⟩;rw[<-hm]at e1 qC vT |-;have hx:=aD0 vT;have zQ:G.lv.getD m HV=G.lv[m]:=by rw[aM0,hx];rfl
 rw[zQ]at qC |-;obtain⟨b,hbe⟩:∃b,b=G.lv[m]:=⟨_,rfl⟩;have qA:G.lv[m]=b:=hbe.symm;rw[qA]at qC hx |-;have hb:Sd b:=by rw[hbe];exact g1.ok _ (bT0 _)
 have qD:=Li (r:=r) wI;have e2:=ZV (Ea r c) b qD hb;rw[rU hr wI hb qC]at e2;have e3:=Bu_ r c hr wI;have e4:=Bs_ b (Ea r c) hb qD;have cR:=AW_ (Ea r c) HV;rw[decide_eq_false (Cn_ hr),SJ]at cR;have k1:=Bj_ (Ea r c);have k2:=Bj_ HV;rw[qD.1]at k1;rw[Lm,SJ]at k2;simp only[List.reduceReplicate]at k1 k2;have t1:=Dt qD.1;have t2:=Dt hb.1;have ol:=qD.1;have bl:=hb.1;have t3:=Dt (TL hb qD).1;have o3:=(TL hb qD).1
 have wc:IntKind.i64.wrap ((G.cnt:Int)+1)=(G.cnt:Int)+1:=wq;obtain⟨O,hO⟩:∃O,O=xP b (Ea r c):=⟨_,rfl⟩;rw[<-hO]at e4 t3 o3 |-;obtain⟨W,hW⟩:∃W,W=Ea r c:=⟨_,rfl⟩;rw[<-hW]at e2 e3 e4 cR k1 t1 ol |-;have bd:(dB b).drop 64=[]:=cU0 (by rw[Us,bl];exact Nat.le_refl _);have m0:Bo ((G.lv.map dB).set m (dB O))=0:=by rw[<-eJ0];exact Eg_ _
 simp only[dQ]at e1
 (repeat (first | refine AI fun K hK=> ?_ | (refine BS OD mxd (by kernel_rfl) ?_;simp[OD,qX,dQ,cR,k1,k2,t1,t2,t3,ol,bl,o3,wc,vT,hx,qA,bd,m0];try simp (disch:=omega) only[Ai]) | refine Ao ?_ | (refine Bg ?_ ?_ ?_;(· (simp[qX,dQ,cR,k1,k2,t1,t2,t3,ol,bl,o3,wc,vT,hx,qA,bd,m0];done));(try (rotate_left;(· (intro hc;(try simp[qX,dQ,cR,k1,k2,t1,t2,t3,ol,bl,o3,wc,vT,hx,qA,bd,m0]at hc);done))))) | (refine AL ?_;simp[results93,qX,dQ,cR,k1,k2,t1,t2,t3,ol,bl,o3,wc,vT,hx,qA,bd,m0]) | ((first | refine Az ?_ | refine Ay ?_);simp[qX,dQ,cR,k1,k2,t1,t2,t3,ol,bl,o3,wc,vT,hx,qA,bd,m0]) | (intro hc;(try simp[qX,dQ,cR,k1,k2,t1,t2,t3,ol,bl,o3,wc,vT,hx,qA,bd,m0]at hc);(try (exfalso;omega))) | ((first | refine Ag (e2) ?_ | refine Ag (e3) ?_ | refine Ag (e4) ?_ | (refine Af (e2) ?_ ?_;(· (simp;done))) | (refine Af (e3) ?_ ?_;(· (simp;done))) | (refine Af (e4) ?_ ?_;(· (simp;done))));try simp[qX,dQ,cR,k1,k2,t1,t2,t3,ol,bl,o3,wc,vT,hx,qA,bd,m0]) | (refine AM [(0,0),(1,1),(2,2)] [] (e1) ?_ ?_;(· (simp[qX,dQ,cR,k1,k2,t1,t2,t3,ol,bl,o3,wc,vT,hx,qA,bd,m0];done));(intro _;try simp[qX,dQ,cR,k1,k2,t1,t2,t3,ol,bl,o3,wc,vT,hx,qA,bd,m0])) | (refine⟨?_,?_⟩; · omega) | omega | apply_assumption -exfalso -symm | (exfalso;omega)))
def JC : Ann:=⟨[16,41],[⟨4,[10],[],[]⟩]⟩
theorem pM (n:Nat) (q:Qd) (hq:QdI q) (i j:Nat) (hn:n<=128) (hi:i<n) (hj:j<n) (hl:q.lv.length<=200000000000) (hct:q.cnt<=4611686018427387904) :
  Bh prog (.func 43) [.bx 0 0 0,.int .i64 i,.int .i64 j] (dQ 0 n q) (.tup [.bool (!Hb q i j),.int .i64 0]) (dQ 1 n (OR q i j)):=by
 refine BI [] [(0,0,0),(1,1,0),(2,2,1)] JC func43 call43 ntmps43 mxd (Ar @JC.eq_1 results43) rfl (fun qJ B qX qQ=> ?_) (hv:=(by simp[dQ]));clear qJ;simp only[Ak];have e1:=AH_ n q hq i j hn hi hj;unfold OR
 cases hg:Hb q i j with
 | true =>
  rw[hg]at e1;rw[if_pos rfl];simp only[dQ]at e1
  (repeat (first | refine AI fun K hK=> ?_ | (refine BS JC mxd (by kernel_rfl) ?_;simp[JC,qX,dQ];try simp (disch:=omega) only[Ai]) | refine Ao ?_ | (refine Bg ?_ ?_ ?_;(· (simp[qX,dQ];done));(try (rotate_left;(· (intro hc;(try simp[qX,dQ]at hc);done))))) | (refine AL ?_;simp[results43,qX,dQ]) | ((first | refine Az ?_ | refine Ay ?_);simp[qX,dQ]) | (intro hc;(try simp[qX,dQ]at hc);(try (exfalso;omega))) | (refine AM [(0,0),(1,1),(2,2)] [] (e1) ?_ ?_;(· (simp[qX,dQ];done));(intro _;try simp[qX,dQ])) | (refine⟨?_,?_⟩; · omega) | omega | apply_assumption -exfalso -symm | (exfalso;omega)))
 | false =>
  rw[hg]at e1;rw[if_neg (by simp)];have hk:=Jf (show i<128 by omega) (show j<128 by omega);obtain⟨g1,g2,g3,g4⟩:=PT hq hk
  have qC:Ij ((CO q (DK i j)).lv.getD ((CO q (DK i j)).ps.getD (DK i j) 0-1) HV) (i%64) (j%64)=false:=by
   have h1:=g3 i j (by omega) (by omega);rw[hg]at h1;unfold Hb at h1
   cases hv:(CO q (DK i j)).ps.getD (DK i j) 0 with
   | zero=>exact absurd hv g2
   | succ m =>
    rw[hv]at h1;exact h1
  have hr:i%64<64:=dW0 _ (by omega);have wI:j%64<64:=dW0 _ (by omega);have hwq:DK i j=2*(i/64)+j/64:=rfl;have e2:=Dp_ (i%64) (j%64) hr wI;have e3:=xJ n q hq (i/64) (j/64) (i%64) (j%64) (by omega) (by omega) hr wI hl hct (by rw[<-hwq];exact qC);rw[<-hwq]at e3;have a1:=iI i;have a2:=iI j;have m1:=eT i;have m2:=eT j;have w1:IntKind.i64.wrap ((i/64:Nat):Int)=((i/64:Nat):Int):=wq;have w2:IntKind.i64.wrap ((j/64:Nat):Int)=((j/64:Nat):Int):=wq
  have ol:=(Li (r:=i%64) wI).1;obtain⟨Q,hQ⟩:∃Q,Q=orQ (CO q (DK i j)) (DK i j) (i%64) (j%64):=⟨_,rfl⟩;rw[<-hQ]at e3 |-;obtain⟨W,hW⟩:∃W,W=Ea (i%64) (j%64):=⟨_,rfl⟩;rw[<-hW]at e2 e3 ol;have t1:=Dt ol;obtain⟨i1,hi1⟩:∃i1:Nat,i1=i/64:=⟨_,rfl⟩;obtain⟨j1,hj1⟩:∃j1:Nat,j1=j/64:=⟨_,rfl⟩;rw[<-hi1]at e3 a1 w1;rw[<-hj1]at e3 a2 w2;obtain⟨i2,hi2⟩:∃i2:Nat,i2=i%64:=⟨_,rfl⟩;obtain⟨j2,nG⟩:∃j2:Nat,j2=j%64:=⟨_,rfl⟩;rw[<-hi2]at e2 m1
  rw[<-nG]at e2 m2;have wd:(dB W).drop 64=[]:=cU0 (by rw[Us,ol];exact Nat.le_refl _);simp only[dQ]at e1 e3
  (repeat (first | refine AI fun K hK=> ?_ | (refine BS JC mxd (by kernel_rfl) ?_;simp[JC,qX,dQ,a1,a2,m1,m2,w1,w2,ol,t1,wd];try simp (disch:=omega) only[Ai]) | refine Ao ?_ | (refine Bg ?_ ?_ ?_;(· (simp[qX,dQ,a1,a2,m1,m2,w1,w2,ol,t1,wd];done));(try (rotate_left;(· (intro hc;(try simp[qX,dQ,a1,a2,m1,m2,w1,w2,ol,t1,wd]at hc);done))))) | (refine AL ?_;simp[results43,qX,dQ,a1,a2,m1,m2,w1,w2,ol,t1,wd]) | ((first | refine Az ?_ | refine Ay ?_);simp[qX,dQ,a1,a2,m1,m2,w1,w2,ol,t1,wd]) | (intro hc;(try simp[qX,dQ,a1,a2,m1,m2,w1,w2,ol,t1,wd]at hc);(try (exfalso;omega))) | ((first | refine Ag (e2) ?_ | (refine Af (e2) ?_ ?_;(· (simp;done))));try simp[qX,dQ,a1,a2,m1,m2,w1,w2,ol,t1,wd]) | (refine AM [(0,0),(1,1),(2,2)] [] (e1) ?_ ?_;(· (simp[qX,dQ,a1,a2,m1,m2,w1,w2,ol,t1,wd];done));(intro _;try simp[qX,dQ,a1,a2,m1,m2,w1,w2,ol,t1,wd])) | (refine AM [(0,0),(1,1),(2,2)] [] (e3) ?_ ?_;(· (simp[qX,dQ,a1,a2,m1,m2,w1,w2,ol,t1,wd];done));(intro _;try simp[qX,dQ,a1,a2,m1,m2,w1,w2,ol,t1,wd])) | (refine⟨?_,?_⟩; · omega) | omega | apply_assumption -exfalso -symm | (exfalso;omega)))
end Go.Proofs.Wy
end
