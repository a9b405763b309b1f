/- Parts of a proof, laid together: EnSi, EnBo, QB4, QB5, QB6. -/
import Derived.Shelf.Sort.Plain
import Derived.Shelf.Slices.In.SortNone
import Derived.Shelf.Spec.SlicesGrow
import Derived.Test.YtiojapdolljocaaGreatqMx15
import Derived.Test.YtiojapdolljocaaGreatqMx16
set_option linter.unusedSimpArgs false
set_option maxHeartbeats 8000000
set_option linter.unusedVariables false
set_option linter.unusedSectionVars false
section
namespace Go.Dm
variable [DMode]
open Go.Shelf Go.Sort Go.Proofs Go.RowKit
def Jb (l:List Int):List Int:=l.mergeSort fun x y=>decide (x<=y)
theorem Kw (l:List Int):(Jb l).length=l.length:=by simp[Jb]
def dZ (z:Int):List DVal:=[.int .i64 z]
theorem UJ {P:Program} {ρ:Ren} (L:Lays.n189 P ρ) {f:FuncId} {et bs:Nat} (hf:ρ.f 189=f) (vG:Enters P f) (hbs0:0<bs) (l:List Int) :
  Bn P (.func f) [.osl 0 0] [⟨0,0,.row et 1 bs (l.map dZ)⟩] (.tup []) [⟨0,0,.row et 1 bs ((Jb l).map dZ)⟩]:=by
 refine⟨by simp,vG,fun M w loc vs S hr=> ?_⟩;refine⟨vG,?_⟩;simp only[Az]at hr;obtain⟨v0,r0,vX,h0,rfl⟩:=hr;simp only[rd]at h0;have bZ:∀l:List Int,Ad [(⟨0,0,.row et 1 bs (l.map dZ)⟩:Ent)] loc 0 0=some (loc 0):=fun _=>rfl
 have jF:=h0 _ (bZ l);have vT:vs= #[v0]:=by cases vs;simpa using vX
 subst vT;subst hf;have wN:∀l:List Int,Aa [(⟨0,0,.row et 1 bs (l.map dZ)⟩:Ent)] loc=(loc 0).blks:=fun _=>by simp[Aa]
 have jS:∀cur M h,rd cur M h (.tup []) (.tuple #[]):=fun _ _ _=>by simp only[rd];exact⟨#[],rfl,by simp[Az]⟩
 have hk:=S.ok ⟨0,0,.row et 1 bs (l.map dZ)⟩ (by simp)
 by_cases qF:l=[]
 ·subst qF
  obtain⟨a,cap,hh⟩:∃a cap,(loc 0).hdr= .slice a 0 cap:=by
   obtain⟨_,⟨_,_,h2⟩ | ⟨b,arr,cap,_,h2,_⟩⟩:=hk
   ·exact⟨_,_,h2⟩
   ·exact⟨_,_,h2⟩
  rw[hh]at jF;subst jF;refine(Any.slices_Sort_int_none L a cap w).mono ?_;rintro e w' ⟨rfl,rfl⟩;have e0:Jb []=[]:=by simp[Jb]
  rw[e0];exact⟨_,rfl,loc,S,Upd.refl _ _,fun b hb=> .inl hb,fun e he _=>AK S.nd he,jS _ _ _⟩
 ·obtain⟨b,arr,cap,p1,p2,p3,p4,p5,p6,p7⟩:∃b arr cap,(loc 0).blks=[b]/\(loc 0).hdr= .slice (some ⟨b,0,none⟩) (l.map dZ).length cap/\w.heap[b]? =some (.cells arr et (0,0))/\(l.map dZ).length<=cap/\cap<=maxLen/\cap*1=arr.size/\EL (Ad [(⟨0,0,.row et 1 bs (l.map dZ)⟩:Ent)] loc) (Aa [(⟨0,0,.row et 1 bs (l.map dZ)⟩:Ent)] loc++M) w.heap 1 (l.map dZ) arr 0:=by
   obtain⟨_,⟨h,_⟩ | h⟩:=hk
   ·exact absurd (List.map_eq_nil_iff.1 h) qF
   ·exact h
  have wT:(l.map dZ).length*bs<=150000000000000:=hk.1;rw[p2]at jF;subst jF;rw[aN0]at p2 p4 wT
  have dL:∀s∈l,Ly .i64 s/\True:=by
   intro s hs;obtain⟨i,hi,rfl⟩:=bX0 hs;obtain⟨q1,q2⟩:=Eu 1 _ arr 0 i [.int .i64 l[i]] p7 (by simp[dZ,hi]);obtain⟨us,g1,g2,g3⟩:=HQ _ _ _ q2;simp only[Az,rd]at g2;obtain⟨v,_,_,⟨_,h⟩,_⟩:=g2;exact⟨h,trivial⟩
  have vB:∀i (hi:i<l.length),arr[i]? =some (.int .i64 l[i]):=by
   intro i hi;obtain⟨q1,q2⟩:=Eu 1 _ arr 0 i [.int .i64 l[i]] p7 (by simp[dZ,hi]);obtain⟨us,g1,g2,g3⟩:=HQ _ _ _ q2;simp only[Az,rd]at g2;obtain⟨v,r,rfl,⟨rfl,_⟩,_⟩:=g2;have:=(g3 0 _ rfl).1;simpa using this
  obtain⟨ss,kO⟩:∃ss,ss=l:=⟨_,rfl⟩;have gQ:ss.length=l.length:=by rw[kO]
  have hH:Holds (Value.int .i64) w b 0 ss.toArray:=by
   intro j hj;simp only[dK0,gQ]at hj;refine⟨?_,Lib.frozen_of_heap p3 _⟩;rw[bR0,Lib.cell_of_heap p3,vB j hj];rw[getElem!_pos _ j (by simpa[gQ]using hj)];simp[kO]
  have qV:ss.length<4611686018427387904:=by
   rw[gQ];have h1:l.length*1<=l.length*bs:=dM0 _ hbs0;omega
  have jD:b<w.heap.size:=(aD0.1 p3).1;have key:=Any.slices_Sort_int L b 0 cap ss w hH jD qV;rw[gQ]at key;simp only[aN0];refine key.mono ?_;rintro e w' ⟨rfl,n,os,rfl⟩;obtain⟨q1,q2,q3,q4,q5,q6,q7⟩:=xY (Value.int .i64) (et:=et) (arr:=arr) p3 n os (ss.mergeSort fun x y=>decide (x<=y)).toArray;have hse:Jb l=(ss.mergeSort fun x y=>decide (x<=y)):=by rw[kO];rfl
  have zO:(ss.mergeSort fun x y=>decide (x<=y)).length=l.length:=by simp[gQ]
  refine⟨_,rfl,loc,⟨by simp,by rw[wN,p1];simp,fun q hq=>S.ap q (by rw[wN];rwa[wN]at hq),fun q hq=> ?_,?_⟩,?_,fun q hq=> .inl (by rw[wN];rwa[wN]at hq),?_,jS _ _ _⟩
  ·refine cJ0 (S.lt q ?_) q3;rw[wN]at hq |-;exact hq
  ·intro e he;simp only[aF0]at he;subst he;refine⟨by simpa[Kw]using wT,.inr ⟨b,_,cap,p1,by simpa[Kw]using p2,q1,by simpa[Kw]using p4,p5,by simpa[putCells]using p6,?_⟩⟩;refine Gn _ _ _ _ fun i cs0 hi=> ?_
   have gG:i<l.length:=by
    have:=(aB0.1 hi).1;simpa[Kw]using this
   rw[hse]at hi;have him:i<(ss.mergeSort fun x y=>decide (x<=y)).length:=by omega
   simp only[bY0,bK0,aE0 him,dL0,Function.comp_apply,aA0]at hi;subst hi;refine⟨rfl,?_⟩;have qY:(ss.mergeSort fun x y=>decide (x<=y))[i]∈ss:=(eA0 ss _).mem_iff.1 (bW0 him)
   have qP:Ly .i64 ((ss.mergeSort fun x y=>decide (x<=y))[i]):=by
    generalize (ss.mergeSort fun x y=>decide (x<=y))[i]=y at qY |-
    rw[kO]at qY;exact(dL y qY).1
   have h0:=Hs (cur:=Ad [(⟨0,0,.row et 1 bs ((Jb l).map dZ)⟩:Ent)] loc) (M:=Aa [(⟨0,0,.row et 1 bs ((Jb l).map dZ)⟩:Ent)] loc++M) (H:=(grow (putRow (Value.int .i64) (Sort.ahead w n) b 0 (ss.mergeSort fun x y=>decide (x<=y)).toArray) os).heap) [.int .i64 ((ss.mergeSort fun x y=>decide (x<=y))[i])] [.int .i64 ((ss.mergeSort fun x y=>decide (x<=y))[i])] [] [] (by simp only[Az,rd];exact⟨_,_,rfl,⟨rfl,qP⟩,rfl⟩) (by simp[Value.oneCell'])
   refine CU _ _ _ _ _ (fun p hp=> ?_) h0;have wA:p=0:=by simp[dZ]at hp;omega
   subst wA;have hia:i<arr.size:=by omega
   simp only[putCells,Array.getElem?_mapIdx];rw[show 0+i*1+0=i by omega,cB0 hia];simp[him,zO,gG,gQ]
  ·rw[wN,p1];exact⟨q4,q5,q6,fun _=>q7,q3,fun q hq hn=>q2 q hq (fun h=>hn (by simp[h]))⟩
  ·intro e he _;simp only[aF0]at he;subst he;rfl
theorem iV {P:Program} {ρ:Ren} (L:Lays8.n4 P ρ) {f:FuncId} {et bs:Nat} (hf:ρ.f 4=f) (vG:Enters P f) (het:ρ.t 25=et) {i0:TypeInfo} {z:Value} (hi0:P.info? et=some i0) (hz0:i0.zero=some z) (hzc:z.cells.size=1) (hs0:i0.size=1) (qR:i0.bytes=bs) (wT:1<=bs)
  (n:Nat) (hn:n*bs<=140737488355328):Bn P (.func f) [.nilsl,.int .i64 n] [] (.osl 0 1) [⟨0,1,.row et 1 bs []⟩]:=by
 refine⟨by simp,vG,fun M w loc vs S hr=> ?_⟩;refine⟨vG,?_⟩;simp only[Az,rd]at hr;obtain⟨v0,r0,vX,rfl,v1,r1,rfl,⟨rfl,_⟩,rfl⟩:=hr;have vT:vs= #[.slice none 0 0,.int .i64 n]:=by cases vs;simpa using vX
 subst vT hf het;have hnn:n<=n*bs:=Nat.le_mul_of_pos_right _ wT;have hM:∀b∈M,b<w.heap.size:=fun b hb=>S.lt b (by simpa[Aa]using hb)
 by_cases h0:n=0
 ·subst h0;refine(Any8.slices_Grow_room L none 0 0 0 w (by omega) (by omega) (by omega) (by omega)).mono ?_;rintro e w' ⟨rfl,rfl⟩;refine⟨_,rfl,fun _=>⟨[],.slice none 0 0⟩,⟨by simp,by simp[Aa],by simp[Aa],fun b hb=>hM b (by simpa[Aa]using hb),fun e he=> ?_⟩,Upd.refl _ _,fun b hb=>by simp[Aa]at hb,fun e he h=> ?_,?_⟩
  ·simp only[aF0]at he;subst he;exact⟨by simp,.inl ⟨rfl,rfl,rfl⟩⟩
  ·simp only[aF0]at he;subst he;simp at h
  ·simp only[rd];intro l hl;simp[Ad,An]at hl;rw[<-hl]
 ·refine(Any8.slices_Grow_grow L i0 z hi0 hz0 (by omega) none 0 0 n [] w (by omega) (by omega) (by rw[qR];simpa using hn) (by omega) (by simp) (fun _=>rfl) (by simp)).mono ?_;rintro e w' ⟨rfl,rfl⟩;obtain⟨G,hG⟩:∃G,G=grownCap w (0+n) 0 (ρ.t 25):=⟨_,rfl⟩;have fH:0+n<=G:=by rw[hG];exact grownCap_ge w _ _ _
  have hGm:G<=maxLen:=by rw[hG];exact grownCap_le_maxLen w _ _ _ (by unfold maxLen;omega)
  rw[<-hG];have hU:Upd [] w (w.drew.alloc (.cells ((#[]:Array Value)++Builtin.zeroCells z.cells (0+n-0)++Builtin.zeroCells z.cells (G-(0+n))) (ρ.t 25))):=(Upd.drew _ w).trans (Upd.alloc _ w.drew _) (fun x hx=> .inl hx);refine⟨_,rfl,fun _=>⟨[w.heap.size],.slice (some ⟨w.heap.size,0,none⟩) 0 G⟩,⟨by simp,by simp[Aa],fun b hb hm=> ?_,fun b hb=> ?_,fun e he=> ?_⟩,hU,fun b hb=> ?_,fun e he h=> ?_,?_⟩
  ·simp[Aa]at hb;subst hb;exact absurd (hM _ hm) (by omega)
  ·have h1:w.heap.size<(w.drew.alloc (.cells ((#[]:Array Value)++Builtin.zeroCells z.cells (0+n-0)++Builtin.zeroCells z.cells (G-(0+n))) (ρ.t 25))).heap.size:=by
    show w.heap.size<(w.heap.push _).size
    simp
   rcases aH0.1 hb with hb | hb
   ·simp[Aa]at hb;subst hb;exact h1
   ·exact Nat.lt_trans (hM b hb) h1
  ·simp only[aF0]at he;subst he;refine⟨by simp,.inr ⟨w.heap.size,_,G,rfl,rfl,heap_alloc_new w.drew _,by simp,hGm,?_,by simp[EL]⟩⟩;simp only[Array.size_append,size_zeroCells,hzc];simp;omega
  ·simp[Aa]at hb
   right
   omega
  ·simp only[aF0]at he;subst he;simp at h
  ·simp only[rd];intro l hl;simp[Ad,An]at hl;rw[<-hl]
theorem Nr {P:Program} {f:FuncId} {args:List DVal} {et k bs:Nat} (h:Ae P f args .nilsl):Bn P (.func f) args [] (.osl 0 1) [⟨0,1,.row et k bs []⟩]:=by
 refine⟨by simp,h.1,fun M w loc vs S hr=>⟨h.1,(h.2.2 _ _ _ _ S.lt hr).mono ?_⟩⟩;rintro e w' ⟨v,rfl,hu,hv⟩;have hM:∀b∈M,b<w'.heap.size:=fun b hb=>cJ0 (S.lt b (aP0 _ hb)) hu.size
 simp only[rd]at hv;refine⟨_,rfl,fun _=>⟨[],.slice none 0 0⟩,⟨by simp,by simp[Aa],by simp[Aa],fun b hb=>hM b (by simpa[Aa]using hb),fun e he=> ?_⟩,by simpa[Aa]using hu,fun b hb=>by simp[Aa]at hb,fun e he h=> ?_,?_⟩
 ·simp only[aF0]at he;subst he;exact⟨by simp,.inl ⟨rfl,rfl,rfl⟩⟩
 ·simp only[aF0]at he;subst he;simp at h
 ·simp only[rd];intro l hl;simp[Ad,An]at hl;rw[<-hl];exact hv
theorem aE {P:Program} {f:FuncId} {k bs:Nat} {d:DVal} {own':List Ent} (h1:Bn P (.func f) [.nilsl] [] d own') (h2:Bn P (.func f) [.esl] [] d own'):Bn P (.func f) [.sl k bs []] [] d own':=by
 refine⟨h1.1,h1.2.1,fun M w loc vs S hr=> ?_⟩;simp only[Az]at hr;obtain⟨v,r,vX,h5,rfl⟩:=hr;simp only[rd]at h5;obtain⟨a,cap,rfl,_,hc,_,h7⟩:=h5
 cases a with
 | none =>
  have:cap=0:=by
   rcases h7 with h7 | ⟨b,off,arr,ty,fz,h8,_⟩
   ·exact h7.2 rfl
   ·simp at h8
  subst this;refine h1.2.2 M w loc vs S ?_;rw[vX];simp only[Az];exact⟨_,_,rfl,by simp[rd],rfl⟩
 | some ad =>
  refine h2.2.2 M w loc vs S ?_;rw[vX];simp only[Az];exact⟨_,_,rfl,by simp only[rd];exact⟨ad,cap,rfl,hc⟩,rfl⟩
end Go.Dm
end
section
namespace Go.Dm
variable [DMode]
def Tn : DVal->Bool
 | .bool _=>true
 | .int _ _=>true
 | .str _=>true
 | .nilp=>true
 | .nilsl=>true
 | .any=>true
 | _=>false
theorem oT {d:DVal} (hd:Tn d=true) {cur cur':ER} {M M':List Nat} {h h':Array Obj} {v:Value} (hr:rd cur M h d v):rd cur' M' h' d v:=by
 cases d<;>simp only[Tn,aR0]at hd<;>simp only[rd]at hr |- <;>exact hr
theorem Qt : ∀{ds:List DVal} (hd:ds.all Tn=true) {cur cur':ER} {M M':List Nat} {h h':Array Obj} {vs:List Value} (_:Az cur M h ds vs),Az cur' M' h' ds vs
 | [],_,_,_,_,_,_,_,vs,hr=>by simpa only[Az]using hr
 | d::ds,hd,_,_,_,_,_,_,vs,hr=>by
  rw[dA0,aJ0]at hd;simp only[Az]at hr |-;obtain⟨v,r,rfl,h1,h2⟩:=hr;exact⟨v,r,rfl,oT hd.1 h1,Qt hd.2 h2⟩
def Tm : DVal->Bool
 | .tup ds=>ds.all Tn
 | .agg ds=>ds.all Tn
 | d=>Tn d
theorem WU {d:DVal} (hd:Tm d=true) {cur cur':ER} {M M':List Nat} {h h':Array Obj} {v:Value} (hr:rd cur M h d v):rd cur' M' h' d v:=by
 cases d
 case tup ds =>
  simp only[Tm]at hd;simp only[rd]at hr |-;obtain⟨us,rfl,h1⟩:=hr;exact⟨us,rfl,Qt hd h1⟩
 case agg ds =>
  simp only[Tm]at hd;simp only[rd]at hr |-;obtain⟨us,rfl,h1⟩:=hr;exact⟨us,rfl,Qt hd h1⟩
 all_goals exact oT (by simpa only[Tm]using hd) hr
theorem Sr {P:Program} {f:FuncId} {k bs:Nat} {et:TypeId} {es:List (List DVal)} {rest:List DVal} {d:DVal} (hd:Tm d=true) (hp:Ae P f (.sl k bs es::rest) d) :
  Bn P (.func f) (.osl 0 0::rest) [⟨0,0,.row et k bs es⟩] d [⟨0,0,.row et k bs es⟩]:=by
 obtain⟨vG,_,hc⟩:=hp;refine⟨by simp,vG,fun M w loc vs S hr=>⟨vG,?_⟩⟩;simp only[Az]at hr;obtain⟨v0,r0,vX,h0,hrest⟩:=hr;simp only[rd]at h0;have jF:=h0 (loc 0) rfl;have hk:=S.ok ⟨0,0,.row et k bs es⟩ (by simp);have hap:=S.ap
 have W:Weak (Ad [(⟨0,0,.row et k bs es⟩:Ent)] loc) (Ad [(⟨0,0,.row et k bs es⟩:Ent)] loc) (Aa [(⟨0,0,.row et k bs es⟩:Ent)] loc++M) M w.heap w.heap (max (Bp es) (AL rest)) :=
  ⟨fun _ _ _ _ h=>h,fun _ _ _ _ h=>h,fun b _ hb _ _ hm=>hb (aP0 _ hm)⟩
 refine(hc (Ad [(⟨0,0,.row et k bs es⟩:Ent)] loc) M w vs (fun b hb=>S.lt b (aP0 _ hb)) ?_).mono ?_
 ·rw[vX];simp only[Az];refine⟨v0,r0,rfl,?_,AY W _ _ (by omega) hrest⟩;simp only[rd];obtain⟨hz,h⟩:=hk
  rcases h with ⟨he,_,h2⟩ | ⟨b,arr,cap,h1,h2,h3,h4,h5,h6,h7⟩
  ·subst he;rw[jF,h2];exact⟨none,0,by simp,by simp,by simp,hz,.inl ⟨rfl,fun _=>rfl⟩⟩
  ·rw[jF,h2];refine⟨some ⟨b,0,none⟩,cap,rfl,h4,h5,hz,.inr ⟨b,0,arr,et,(0,0),rfl,hap b ?_,h3,Cv W k es arr 0 (by omega) h7⟩⟩;simp[Aa,h1]
 ·rintro e w' ⟨v,rfl,hu,vV⟩;exact⟨v,rfl,loc,S.keep hu,hu.nil,fun b hb=> .inl hb,fun e he _=>AK S.nd he,WU hd vV⟩
theorem Cu_ {cur:ER} {M:List Nat} {h:Array Obj}:∀{ds:List DVal} {vs:List Value},vs.length=ds.length->(∀(i:Nat) (d:DVal) (v:Value),ds[i]? =some d->vs[i]? =some v->rd cur M h d v)->Az cur M h ds vs
 | [],[],_,_=>by simp[Az]
 | [],_::_,hl,_=>by simp at hl
 | _::_,[],hl,_=>by simp at hl
 | d::ds,v::vs,hl,h=>by
  simp only[Az];exact⟨v,vs,rfl,h 0 d v rfl rfl,Cu_ (by simpa using hl) fun i d' v' h1 h2=>h (i+1) d' v' (by simpa using h1) (by simpa using h2)⟩
theorem aF {P:Program} {f:FuncId} {args args':List DVal} {own:List Ent} {d:DVal} (ids:List Nat) (hd:Tm d=true) (pM:∀e∈own,e.r<=1) (qU:args'.length=args.length) (fX:(freezeL ⟨Am args 0,own⟩ ids).own=[])
  (hsl:∀i,i<args.length->Bl (freezeL ⟨Am args 0,own⟩ ids).slots i=args'.getD i .any) (hp:Ae P f args' d):Bn P (.func f) args own d own:=by
 obtain⟨vG,_,hc⟩:=hp;refine⟨pM,vG,fun M w loc vs S hr=>⟨vG,?_⟩⟩
 let B:Base:=⟨own,loc,M,0,w,vs.size,none,dC0 _,w.heap.size,Nat.le_refl _⟩
 have fF:=Aw _ _ hr
 have R0:Rel B ⟨Am args 0,own⟩ { tmps:=vs,defers:=[] } w loc:=by
  refine⟨S,Upd.refl _ _,fun b hb=> .inl hb,fun e he _=>AK S.nd he,?_,rfl,⟨[],rfl,List.nodup_nil,by simp⟩⟩;intro i;rw[NU];simp only[eM0,if_false,eC0]
  cases hi:args[i]? with
  | none=>simp[aO0,hi,rd]
  | some d0 =>
   obtain⟨v,hv,h1⟩:=NF _ _ i d0 hr hi;have jH:vs[i]? =some v:=by simpa using hv
   rw[aO0,hi,aL0,jH];exact h1
 obtain⟨loc',R1⟩:=Sub.freezeL ids _ _ _ _ R0;have sl:=R1.sl;rw[fX]at sl
 have vV:Az (Ad [] loc') M w.heap args' vs.toList:=by
  refine Cu_ (by rw[fF,qU]) fun i d0 v h1 h2=> ?_
  have hi:i<args.length:=by rw[<-qU];exact(aB0.1 h1).1
  have h3:=sl i;rw[hsl i hi,aO0,h1]at h3;have jB:vs[i]? =some v:=by simpa using h2
  have h4:({ tmps:=vs,defers:=[] }:Act).tmps.getD i Go.undef=v:=by
   show vs.getD i Go.undef=v
   rw[aL0,jB];rfl
  rw[h4]at h3;simpa[Aa]using h3
 refine(hc (Ad [] loc') M w vs (fun b hb=>S.lt b (aP0 _ hb)) vV).mono ?_;rintro e w' ⟨v,rfl,hu,vV⟩;exact⟨v,rfl,loc,S.keep hu,hu.nil,fun b hb=> .inl hb,fun e he _=>AK S.nd he,WU hd vV⟩
theorem Gc_ {P:Program} {B:Base} {Q:Exit->DS->Prop} {s:DS} {x:Code} (i k bs:Nat) (h:Bl s.slots i= .nilsl) (hw:DW P B x Q ⟨(i,.sl k bs [])::s.slots,s.own⟩):DW P B x Q s:=by
 refine Kj (s':=⟨(i,.sl k bs [])::s.slots,s.own⟩) (fun a w loc R=>⟨loc,R.st,R.upd,R.new,R.ver,fun j=> ?_,R.nt,R.df⟩) hw;simp only[Bl]
 split
 ·rename_i hj;subst hj;have:=R.sl j;rw[h]at this;simp only[rd]at this |-;rw[this];exact⟨none,0,by simp,by simp,by simp,by simp,.inl ⟨by simp,fun _=>rfl⟩⟩
 ·exact R.sl j
end Go.Dm
end
section
namespace Go.Proofs.Wy
open Go Go.Dm Tryz
attribute [local irreducible] DW Bs Bt
set_option maxRecDepth 100000
def dP (l:List Nat):List DVal:=l.map fun(x:Nat)=> .int .i64 (x:Int)
@[simp] theorem Ja_ (b:List Nat):(dP b).length=b.length:=by simp[dP]
@[simp] theorem IQ_ {d:DVal} {b:List Nat}:d∈dP b↔∃y,y∈b/\DVal.int .i64 (y:Int)=d:=by simp[dP]
@[simp] theorem Jh_ (b:List Nat):AL (dP b)=0:=by
 unfold dP
 induction b with
 | nil=>rfl
 | cons x b ih=>rw[List.map_cons,AL,ih];rfl
@[simp] theorem In_ (f:Nat->Nat->Option (Nat×Nat)) (b:List Nat):(dP b).map (Mf f)=dP b:=by
 simp only[dP,bY0];exact cA0 fun x _=>rfl
@[simp] theorem GH_ (l:List IU):Bp (l.map dB)=0:=HT _ HP_ l
theorem DP_ {b:List Nat} {k x:Nat} (h:b[k]? =some x):(dP b).drop k= .int .i64 (x:Int)::(dP b).drop (k+1):=by
 obtain⟨hk,he⟩:=aB0.1 h;unfold dP;rw[aS0 (by simpa using hk)];simp[he]
def dQ (v n:Nat) (q:Qd):List Ent:=[⟨0,0,.box [.int .i64 n,.int .i64 1,.int .i64 q.cnt,.osl 1 0,.osl 2 v]⟩,⟨1,0,.row 151 4 32 [dP q.ps]⟩,⟨2,v,.row 98 64 512 (q.lv.map dB)⟩]
def NY (n:Nat) (q:Qd):DVal:= .ref [.int .i64 n,.int .i64 1,.int .i64 q.cnt,.sl 4 32 [dP q.ps],.sl 64 512 (q.lv.map dB)]
def tO : Ann:=⟨[],[]⟩
theorem Wx (u v:Nat) (hu:u<2) (hv:v<2):Ae prog 95 [.int .i64 u,.int .i64 v,.int .i64 0] (.int .i64 ((2*u+v:Nat):Int)):=by
 refine Ac [] tO func95 call95 ntmps95 mxd (Au @tO.eq_1 results95) rfl (fun qJ B qX qQ=> ?_);clear qJ;simp only[Am]
 have hE:iOr .i64 (AO_ .i64 (JO .i64 (Jj .i64 (u:Int) 0) 1) 1) (JO .i64 (Jj .i64 (v:Int) 0) 1)=((2*u+v:Nat):Int):=by
  have h1:u=0\/u=1:=by omega
  have h2:v=0\/v=1:=by omega
  rcases h1 with rfl | rfl<;>rcases h2 with rfl | rfl<;>decide
 obtain⟨w,hw⟩:∃w:Int,w=((2*u+v:Nat):Int):=⟨_,rfl⟩;rw[<-hw]at hE |-;exact Av Ab Ab (AD hE)
def tR : Ann:=⟨[],[]⟩
theorem Vw (n:Nat) (q:Qd) (h:0<n):Ae prog 45 [NY n q] (.bool true):=by
 refine Ac [] tR func45 call45 ntmps45 mxd (Au @tR.eq_1 results45) rfl (fun qJ B qX qQ=> ?_);clear qJ;simp only[Am];have h1:(0:Int)<n:=by omega
 exact Av Ab Ab (CD @NY.eq_1 h h1)
def tQ : Ann:=⟨[],[]⟩
theorem sF (n:Nat) (q:Qd) (i:Nat) (h:i<n):Ae prog 46 [NY n q,.int .i64 i] (.bool true):=by
 refine Ac [] tQ func46 call46 ntmps46 mxd (Au @tQ.eq_1 results46) rfl (fun qJ B qX qQ=> ?_);clear qJ;simp only[Am];have h1:(i:Int)<n:=by omega
 exact Av Ab Ab (CD @NY.eq_1 h h1)
def tS : Ann:=⟨[],[]⟩
theorem Dd_ (n:Nat) (q:Qd) (h:0<n):Ae prog 13 [NY n q] (.int .i64 q.cnt):=by
 refine Ac [] tS func13 call13 ntmps13 mxd (Au @tS.eq_1 results13) rfl (fun qJ B qX qQ=> ?_);clear qJ;simp only[Am];have e1:=Vw n q h;simp only[NY]at e1;exact Av (AD e1) Ab (AD @NY.eq_1)
def tU : Ann:=⟨[],[]⟩
theorem xO (n:Nat) (q:Qd) (h:0<n):Ae prog 11 [NY n q] (.int .i64 n):=by
 refine Ac [] tU func11 call11 ntmps11 mxd (Au @tU.eq_1 results11) rfl (fun qJ B qX qQ=> ?_);clear qJ;simp only[Am];have e1:=Vw n q h;simp only[NY]at e1;exact Av (AD e1) Ab (AD @NY.eq_1)
def tP : Ann:=⟨[],[]⟩
theorem AE_ (n:Nat) (q:Qd) (hp:q.ps.length=4) (u v:Nat) (hu:u<2) (hv:v<2):Ae prog 47 [NY n q,.int .i64 u,.int .i64 v] (.int .i64 ((q.ps.getD (2*u+v) 0:Nat):Int)):=by
 refine Ac [] tP func47 call47 ntmps47 mxd (Au @tP.eq_1 results47) rfl (fun qJ B qX qQ=> ?_);clear qJ;simp only[Am];have e1:=Wx u v hu hv;obtain⟨w,hw⟩:∃w:Nat,w=2*u+v:=⟨_,rfl⟩;have fD:w<4:=by omega
 rw[<-hw]at e1 |-;clear hw;have zN:w<q.ps.length:=by omega
 have hx:=aE0 zN;rw[<-IM zN]at hx;obtain⟨x,jJ⟩:∃x,x=q.ps.getD w 0:=⟨_,rfl⟩;rw[<-jJ]at hx |-;have d1:=DP_ hx;have zV:(w:Int)<4:=by omega
 (refine AG Ab Ab (AD @NY.eq_1) ?_;intros;refine Ah ?_)
 refine Ai (X:={k:Nat//k=0}) (fun _=>⟨[(0,NY n q),(1,.int .i64 u),(2,.int .i64 v),(7,.int .i64 0),(8,.int .i64 0)],[]⟩) (fun _=>0) ⟨0,rfl⟩ (Sub.lit (by simp[NY])) ?_;rintro⟨k,hk⟩;simp only[NY];exact Av (AD e1) Ab (Jh @NY.eq_1 d1 zV hp zN)
theorem sM (i:Nat):(i:Int).tdiv 64=((i/64:Nat):Int):=by rw[Int.tdiv_eq_ediv_of_nonneg (Int.natCast_nonneg _)];omega
theorem rS (i:Nat):(i:Int).tmod 64=((i%64:Nat):Int):=by rw[Int.tmod_eq_emod_of_nonneg (Int.natCast_nonneg _)];omega
def tT : Ann:=⟨[],[]⟩
theorem XX (n:Nat) (q:Qd) (hq:QdI q) (i j:Nat) (hn:n<=128) (hi:i<n) (hj:j<n):Ae prog 12 [NY n q,.int .i64 i,.int .i64 j] (.tup [.bool (Ic q i j),.int .i64 0]):=by
 refine Ac [] tT func12 call12 ntmps12 mxd (Au @tT.eq_1 results12) rfl (fun qJ B qX qQ=> ?_);have hlvl:q.lv.length<9223372036854775807:=by have:=qJ;simp[NY,maxLen]at this;omega
 clear qJ;simp only[Am];have e1:=Vw n q (by omega);have e2:=sF n q i hi;have e3:=sF n q j hj;have e4:=AE_ n q hq.p4 (i/64) (j/64) (by omega) (by omega);have jV:Ec i j=2*(i/64)+j/64:=rfl;have hlo:=hq.lo _ (XZ hq.p4 (Kk (show i<128 by omega) (show j<128 by omega)));unfold Ic;rw[<-jV]at e4;obtain⟨p,hp⟩:∃p,p=q.ps.getD (Ec i j) 0:=⟨_,rfl⟩;rw[<-hp]at e4 hlo |-;clear hp jV;have a1:=sM i;have a2:=sM j;have m1:=rS i
 have m2:=rS j;have w1:IntKind.i64.wrap ((i/64:Nat):Int)=((i/64:Nat):Int):=wq;have w2:IntKind.i64.wrap ((j/64:Nat):Int)=((j/64:Nat):Int):=wq;obtain⟨i',zC⟩:∃i':Nat,i'=i/64:=⟨_,rfl⟩;obtain⟨j',jG⟩:∃j':Nat,j'=j/64:=⟨_,rfl⟩;rw[<-zC]at e4 a1 w1;rw[<-jG]at e4 a2 w2
 cases p with
 | zero =>
  simp only[NY]at e1 e2 e3 e4;exact Av (GV e1 e2 e3 e4) Ab (Jh @NY.eq_1 a1 a2 w1 w2)
 | succ p =>
  have zS:p<q.lv.length:=by omega
  have hx:=aE0 zS;have zZ:q.lv.getD p IZ=q.lv[p]:=by rw[aO0,hx];rfl
  simp only;rw[zZ];obtain⟨b,mN⟩:∃b,b=q.lv[p]:=⟨_,rfl⟩;have qA:q.lv[p]=b:=mN.symm;rw[qA]at hx |-;have hb:Tv b:=by rw[mN];exact hq.ok _ (bW0 _)
  have e5:=Bn_ b hb (i%64) (j%64) (eF0 _ (by omega)) (eF0 _ (by omega));have t1:=DC hb.1;have jD:=hb.1;obtain⟨R,hR⟩:∃R,R=Jm b (i%64) (j%64):=⟨_,rfl⟩;rw[<-hR]at e5 |-;obtain⟨i2,hi2⟩:∃i2:Nat,i2=i%64:=⟨_,rfl⟩;obtain⟨j2,pP⟩:∃j2:Nat,j2=j%64:=⟨_,rfl⟩;rw[<-hi2]at e5 m1;rw[<-pP]at e5 m2;have w3:IntKind.i64.wrap (p:Int)=(p:Int):=wq;simp only[NY]at e1 e2 e3 e4;exact Av (Jh e1 e2 e3 e4 e5) Ab (Je_ @NY.eq_1 a1 a2 w1 w2 m1 m2 zS hx qA t1 jD w3)
theorem Dr_ (n:Nat) (q:Qd) (hq:QdI q) (i j:Nat) (hn:n<=128) (hi:i<n) (hj:j<n):Bn prog (.func 12) [.bx 0 0 0,.int .i64 i,.int .i64 j] (dQ 0 n q) (.tup [.bool (Ic q i j),.int .i64 0]) (dQ 0 n q) :=
 aF (args':=[NY n q,.int .i64 i,.int .i64 j]) [1,2,0] rfl (by simp[dQ]) rfl rfl (fun k hk=>by
  match k,hk with
  | 0,_=>rfl
  | 1,_=>rfl
  | 2,_=>rfl) (XX n q hq i j hn hi hj)
theorem Ht_ {b:List Nat} {k:Nat} (x:Nat) (h:k<b.length):(dP b).take k++ .int .i64 (x:Int)::(dP b).drop (k+1)=dP (b.set k x):=by
 unfold dP;rw[eS0,List.set_eq_take_append_cons_drop,if_pos (by simpa using h)]
def dQn (n:Nat):List Ent:=[⟨0,1,.box [.int .i64 n,.int .i64 1,.int .i64 0,.osl 1 1,.nilsl]⟩,⟨1,1,.row 151 4 32 [dP [0,0,0,0]]⟩]
def PO : Ann:=⟨[12,14],[]⟩
theorem xX (n:Nat) (h1:1<=n) (h2:n<=128):Bn prog (.func 42) [.int .i64 n] [] (.tup [.bx 0 1 0,.int .i64 0]) (dQn n):=by
 refine Cd [] [(14,0,1),(12,1,1)] PO func42 call42 ntmps42 mxd (Au @PO.eq_1 results42) rfl (fun qJ B qX qQ=> ?_) (hv:=(by simp[dQn]));clear qJ;simp only[Am];have l1:¬(n:Int)<1:=by omega
 have l2:¬(1024:Int)<n:=by omega
 have l3:¬(128:Int)<n:=by omega
 have s1:AO_ .i64 64 1=128:=by decide
 (refine AG Ab Ab (Au l1 l2) ?_;intros;refine Ah ?_)
 refine Ai (X:={k:Nat//k=0}) (fun _=>⟨[(0,.int .i64 n),(4,.bx 14 1 0)],[⟨14,1,.box [.int .i64 n,.int .i64 1,.int .i64 0,.osl 12 1,.nilsl]⟩,⟨12,1,.row 151 4 32 [dP [0,0,0,0]]⟩]⟩) (fun _=>0) ⟨0,rfl⟩ (Sub.lit (by simp[dP])) ?_;rintro⟨k,hk⟩
 (repeat (first | refine AJ fun K hK=> ?_ | (refine BV PO mxd (by kernel_rfl) ?_;simp[PO,qX,s1,l3,dQn,dP];try simp (disch:=omega) only[Al]) | refine Aq ?_ | (refine Bi ?_ ?_ ?_;(· (simp[qX,s1,l3,dQn,dP];done));(try (rotate_left;(· (intro hc;(try simp[qX,s1,l3,dQn,dP]at hc);done))))) | (refine AN ?_;simp[results42,qX,s1,l3,dQn,dP]) | ((first | refine AB ?_ | refine AA ?_);simp[qX,s1,l3,dQn,dP]) | (intro hc;(try simp[qX,s1,l3,dQn,dP]at hc);(try (exfalso;omega))) | (refine⟨?_,?_⟩; · omega) | omega | apply_assumption -exfalso -symm | (exfalso;omega)))
def Fz : Ann:=⟨[86,87],[]⟩
theorem Fy_ (n:Nat) (q:Qd) (hp:q.ps.length=4) (u v:Nat) (hu:u<2) (hv:v<2) (hl:q.lv.length<=200000000000) (gO:∀p∈q.ps,p<=q.lv.length) :
  Bn prog (.func 132) [.bx 0 0 0,.int .i64 u,.int .i64 v] (dQ 0 n q) (.int .i64 (((CX q (2*u+v)).ps.getD (2*u+v) 0-1:Nat):Int)) (dQ 1 n (CX q (2*u+v))):=by
 refine Cd [] [(0,0,0),(1,1,0),(2,2,1)] Fz func132 call132 ntmps132 mxd (Au @Fz.eq_1 results132) rfl (fun qJ B qX qQ=> ?_) (hv:=(by simp[dQ]));clear qJ;simp only[Am];have e1:=Wx u v hu hv;obtain⟨w,hw⟩:∃w:Nat,w=2*u+v:=⟨_,rfl⟩;have fD:w<4:=by omega
 rw[<-hw]at e1 |-;clear hw;obtain⟨G,hG⟩:∃G,G=CX q w:=⟨_,rfl⟩;rw[<-hG];have zN:w<q.ps.length:=by omega
 have hx:=aE0 zN;rw[<-IM zN]at hx;have vO:=gO _ (XZ hp fD);obtain⟨x,jJ⟩:∃x,x=q.ps.getD w 0:=⟨_,rfl⟩;rw[<-jJ]at hx vO;have d1:=DP_ hx;have zV:(w:Int)<4:=by omega
 have z:=Uc
 (repeat (first | refine AJ fun K hK=> ?_ | (refine BV Fz mxd (by kernel_rfl) ?_;simp[Fz,qX,dQ];try simp (disch:=omega) only[Al]) | refine Aq ?_ | (refine Bi ?_ ?_ ?_;(· (simp[qX,dQ];done));(try (rotate_left;(· (intro hc;(try simp[qX,dQ]at hc);done))))) | (refine AN ?_;simp[results132,qX,dQ]) | ((first | refine AB ?_ | refine AA ?_);simp[qX,dQ]) | (intro hc;(try simp[qX,dQ]at hc);(try (exfalso;omega))) | (refine⟨?_,?_⟩; · omega) | omega | apply_assumption -exfalso -symm | (exfalso;omega)))
 refine Ai (X:={k:Nat//k=0}) (fun _=>⟨[(0,.bx 0 0 0),(1,.int .i64 u),(2,.int .i64 v),(7,.int .i64 0),(8,.int .i64 0)],dQ 0 n q⟩) (fun _=>0) ⟨0,rfl⟩ (Sub.lit (by simp[dQ])) ?_;rintro⟨k,hk⟩
 cases x with
 | zero =>
  have hg:CX q w=⟨q.ps.set w (q.lv.length+1),q.lv++[IZ],q.cnt⟩:=by unfold CX;rw[if_pos jJ.symm]
  rw[hg]at hG;have sP:=Ht_ (b:=q.ps) (k:=w) (q.lv.length+1) zN;simp only[aY0,Int.cast_ofNat_Int]at sP;have rP:(dP (q.ps.set w (q.lv.length+1)))[w]? =some (.int .i64 ((q.lv.length:Int)+1)):=by simp[dP,zN]
  obtain⟨P2,mA⟩:∃P2,P2=q.ps.set w (q.lv.length+1):=⟨_,rfl⟩;rw[<-mA]at hG sP rP;have zZ:P2.getD w 0-1=q.lv.length:=by rw[mA,HM zN];rfl
  have nD:P2.length=4:=by rw[mA,List.length_set];exact hp
  have hp3:0<P2.length-w:=by omega
  subst hG;simp only[zZ]at *;have w3:IntKind.i64.wrap ((q.lv.length:Int))=(q.lv.length:Int):=wq;have w4:IntKind.i64.wrap ((q.lv.length:Int)+1-1)=(q.lv.length:Int):=by rw[Int.add_sub_cancel];exact w3
  have b1:(q.lv.length+1)*512<=150000000000000:=by omega
  have b2:q.lv.length+1<=9223372036854775807:=by omega
  (repeat (first | refine AJ fun K hK=> ?_ | (refine BV Fz mxd (by kernel_rfl) ?_;simp[Fz,qX,dQ,d1,zV,hp,zN,sP,rP,w3,w4,b1,b2,z,hp3];try simp (disch:=omega) only[Al]) | refine Aq ?_ | (refine Bi ?_ ?_ ?_;(· (simp[qX,dQ,d1,zV,hp,zN,sP,rP,w3,w4,b1,b2,z,hp3];done));(try (rotate_left;(· (intro hc;(try simp[qX,dQ,d1,zV,hp,zN,sP,rP,w3,w4,b1,b2,z,hp3]at hc);done))))) | (refine AN ?_;simp[results132,qX,dQ,d1,zV,hp,zN,sP,rP,w3,w4,b1,b2,z,hp3]) | ((first | refine AB ?_ | refine AA ?_);simp[qX,dQ,d1,zV,hp,zN,sP,rP,w3,w4,b1,b2,z,hp3]) | (intro hc;(try simp[qX,dQ,d1,zV,hp,zN,sP,rP,w3,w4,b1,b2,z,hp3]at hc);(try (exfalso;omega))) | ((first | refine Ag (e1) ?_ | (refine Af (e1) ?_ ?_;(· (simp;done))));try simp[qX,dQ,d1,zV,hp,zN,sP,rP,w3,w4,b1,b2,z,hp3]) | (refine⟨?_,?_⟩; · omega) | omega | apply_assumption -exfalso -symm | (exfalso;omega)))
 | succ x =>
  have hg:CX q w=q:=by unfold CX;rw[if_neg (by omega)]
  rw[hg]at hG;subst hG;have zZ:G.ps.getD w 0-1=x:=by rw[<-jJ];rfl
  have hgd2:((G.ps.getD w 0-1:Nat):Int)=(x:Int):=by rw[zZ]
  have w3:IntKind.i64.wrap (x:Int)=(x:Int):=wq
  (repeat (first | refine AJ fun K hK=> ?_ | (refine BV Fz mxd (by kernel_rfl) ?_;simp[Fz,qX,dQ,d1,zV,hp,zN,w3,hx];try simp (disch:=omega) only[Al]) | refine Aq ?_ | (refine Bi ?_ ?_ ?_;(· (simp[qX,dQ,d1,zV,hp,zN,w3,hx];done));(try (rotate_left;(· (intro hc;(try simp[qX,dQ,d1,zV,hp,zN,w3,hx]at hc);done))))) | (refine AN ?_;simp[results132,qX,dQ,d1,zV,hp,zN,w3,hx]) | ((first | refine AB ?_ | refine AA ?_);simp[qX,dQ,d1,zV,hp,zN,w3,hx]) | (intro hc;(try simp[qX,dQ,d1,zV,hp,zN,w3,hx]at hc);(try (exfalso;omega))) | ((first | refine Ag (e1) ?_ | (refine Af (e1) ?_ ?_;(· (simp;done))));try simp[qX,dQ,d1,zV,hp,zN,w3,hx]) | (refine⟨?_,?_⟩; · omega) | omega | apply_assumption -exfalso -symm | (exfalso;omega)))
theorem DX_ : ∀(b:IU),Bo (List.replicate b.length (.i .u64)) (dB b)=true
 | []=>rfl
 | x::b=>by
  have ih:=DX_ b;unfold dB at ih |-;rw[List.length_cons,List.replicate_succ,List.map_cons,Bo,ih];rfl
def PN : Ann:=⟨[17],[]⟩
theorem Cv_ (n:Nat) (q:Qd) (hq:QdI q) (u v r c:Nat) (hu:u<2) (hv:v<2) (hr:r<64) (wU:c<64) (hl:q.lv.length<=200000000000) (hct:q.cnt<=4611686018427387904)
  (qR:Jm ((CX q (2*u+v)).lv.getD ((CX q (2*u+v)).ps.getD (2*u+v) 0-1) IZ) r c=false) :
  Bn prog (.func 93) [.bx 0 0 0,.int .i64 u,.int .i64 v,.agg (dB (Ev r c))] (dQ 0 n q) (.bool true) (dQ 1 n (orQ (CX q (2*u+v)) (2*u+v) r c)):=by
 refine Cd [] [(0,0,0),(1,1,0),(2,2,1)] PN func93 call93 ntmps93 mxd (Au @PN.eq_1 results93) rfl (fun qJ B qX qQ=> ?_) (hv:=(by simp[dQ]));clear qJ;simp only[Am];have e1:=Fy_ n q hq.p4 u v hu hv hl hq.lo;obtain⟨w,hw⟩:∃w:Nat,w=2*u+v:=⟨_,rfl⟩;have fD:w<4:=by omega
 rw[<-hw]at e1 qR |-;clear hw;obtain⟨g1,g2,_,g4⟩:=Rn hq fD;obtain⟨G,hG⟩:∃G,G=CX q w:=⟨_,rfl⟩;rw[<-hG]at e1 qR g1 g2 g4 |-;clear hG;have zO:G.ps.getD w 0-1<G.lv.length:=by have:=g1.lo _ (XZ g1.p4 fD);omega
 unfold orQ;obtain⟨m,hm⟩:∃m,m=G.ps.getD w 0-1:=⟨_,rfl⟩;rw[<-hm]at e1 qR zO |-;have hx:=aE0 zO;have zZ:G.lv.getD m IZ=G.lv[m]:=by rw[aO0,hx];rfl
 rw[zZ]at qR |-;obtain⟨b,mN⟩:∃b,b=G.lv[m]:=⟨_,rfl⟩;have qA:G.lv[m]=b:=mN.symm;rw[qA]at qR hx |-;have hb:Tv b:=by rw[mN];exact g1.ok _ (bW0 _)
 have qC:=Mn (r:=r) wU;have e2:=lQ (Ev r c) b qC hb;rw[AC_ hr wU hb qR]at e2;have e3:=Eh_ r c hr wU;have e4:=Ef_ b (Ev r c) hb qC;have mG:=DJ_ (Ev r c) IZ;rw[decide_eq_false (EX_ hr),Uc]at mG;have k1:=DX_ (Ev r c);have k2:=DX_ IZ;rw[qC.1]at k1;rw[Mr,Uc]at k2;simp only[List.reduceReplicate]at k1 k2;have t1:=DC qC.1;have t2:=DC hb.1;have ol:=qC.1;have bl:=hb.1;have t3:=DC (Vc hb qC).1;have o3:=(Vc hb qC).1
 have wc:IntKind.i64.wrap ((G.cnt:Int)+1)=(G.cnt:Int)+1:=wq;obtain⟨O,hO⟩:∃O,O=orB b (Ev r c):=⟨_,rfl⟩;rw[<-hO]at e4 t3 o3 |-;obtain⟨W,hW⟩:∃W,W=Ev r c:=⟨_,rfl⟩;rw[<-hW]at e2 e3 e4 mG k1 t1 ol |-;have bd:(dB b).drop 64=[]:=cW0 (by rw[VP,bl];exact Nat.le_refl _);have m0:Bp ((G.lv.map dB).set m (dB O))=0:=by rw[<-eS0];exact GH_ _
 simp only[dQ]at e1
 (repeat (first | refine AJ fun K hK=> ?_ | (refine BV PN mxd (by kernel_rfl) ?_;simp[PN,qX,dQ,mG,k1,k2,t1,t2,t3,ol,bl,o3,wc,zO,hx,qA,bd,m0];try simp (disch:=omega) only[Al]) | refine Aq ?_ | (refine Bi ?_ ?_ ?_;(· (simp[qX,dQ,mG,k1,k2,t1,t2,t3,ol,bl,o3,wc,zO,hx,qA,bd,m0];done));(try (rotate_left;(· (intro hc;(try simp[qX,dQ,mG,k1,k2,t1,t2,t3,ol,bl,o3,wc,zO,hx,qA,bd,m0]at hc);done))))) | (refine AN ?_;simp[results93,qX,dQ,mG,k1,k2,t1,t2,t3,ol,bl,o3,wc,zO,hx,qA,bd,m0]) | ((first | refine AB ?_ | refine AA ?_);simp[qX,dQ,mG,k1,k2,t1,t2,t3,ol,bl,o3,wc,zO,hx,qA,bd,m0]) | (intro hc;(try simp[qX,dQ,mG,k1,k2,t1,t2,t3,ol,bl,o3,wc,zO,hx,qA,bd,m0]at hc);(try (exfalso;omega))) | ((first | refine Ag (e2) ?_ | refine Ag (e3) ?_ | refine Ag (e4) ?_ | (refine Af (e2) ?_ ?_;(· (simp;done))) | (refine Af (e3) ?_ ?_;(· (simp;done))) | (refine Af (e4) ?_ ?_;(· (simp;done))));try simp[qX,dQ,mG,k1,k2,t1,t2,t3,ol,bl,o3,wc,zO,hx,qA,bd,m0]) | (refine AQ [(0,0),(1,1),(2,2)] [] (e1) ?_ ?_;(· (simp[qX,dQ,mG,k1,k2,t1,t2,t3,ol,bl,o3,wc,zO,hx,qA,bd,m0];done));(intro _;try simp[qX,dQ,mG,k1,k2,t1,t2,t3,ol,bl,o3,wc,zO,hx,qA,bd,m0])) | (refine⟨?_,?_⟩; · omega) | omega | apply_assumption -exfalso -symm | (exfalso;omega)))
def KF : Ann:=⟨[16,41],[⟨4,[10],[],[]⟩]⟩
theorem xW (n:Nat) (q:Qd) (hq:QdI q) (i j:Nat) (hn:n<=128) (hi:i<n) (hj:j<n) (hl:q.lv.length<=200000000000) (hct:q.cnt<=4611686018427387904) :
  Bn prog (.func 43) [.bx 0 0 0,.int .i64 i,.int .i64 j] (dQ 0 n q) (.tup [.bool (!Ic q i j),.int .i64 0]) (dQ 1 n (Qj q i j)):=by
 refine Cd [] [(0,0,0),(1,1,0),(2,2,1)] KF func43 call43 ntmps43 mxd (Au @KF.eq_1 results43) rfl (fun qJ B qX qQ=> ?_) (hv:=(by simp[dQ]));clear qJ;simp only[Am];have e1:=Dr_ n q hq i j hn hi hj;unfold Qj
 cases hg:Ic q i j with
 | true =>
  rw[hg]at e1;rw[if_pos rfl];simp only[dQ]at e1
  (repeat (first | refine AJ fun K hK=> ?_ | (refine BV KF mxd (by kernel_rfl) ?_;simp[KF,qX,dQ];try simp (disch:=omega) only[Al]) | refine Aq ?_ | (refine Bi ?_ ?_ ?_;(· (simp[qX,dQ];done));(try (rotate_left;(· (intro hc;(try simp[qX,dQ]at hc);done))))) | (refine AN ?_;simp[results43,qX,dQ]) | ((first | refine AB ?_ | refine AA ?_);simp[qX,dQ]) | (intro hc;(try simp[qX,dQ]at hc);(try (exfalso;omega))) | (refine AQ [(0,0),(1,1),(2,2)] [] (e1) ?_ ?_;(· (simp[qX,dQ];done));(intro _;try simp[qX,dQ])) | (refine⟨?_,?_⟩; · omega) | omega | apply_assumption -exfalso -symm | (exfalso;omega)))
 | false =>
  rw[hg]at e1;rw[if_neg (by simp)];have hk:=Kk (show i<128 by omega) (show j<128 by omega);obtain⟨g1,g2,g3,g4⟩:=Rn hq hk
  have qR:Jm ((CX q (Ec i j)).lv.getD ((CX q (Ec i j)).ps.getD (Ec i j) 0-1) IZ) (i%64) (j%64)=false:=by
   have h1:=g3 i j (by omega) (by omega);rw[hg]at h1;unfold Ic at h1
   cases hv:(CX q (Ec i j)).ps.getD (Ec i j) 0 with
   | zero=>exact absurd hv g2
   | succ m =>
    rw[hv]at h1;exact h1
  have hr:i%64<64:=eF0 _ (by omega);have wU:j%64<64:=eF0 _ (by omega);have jV:Ec i j=2*(i/64)+j/64:=rfl;have e2:=FP_ (i%64) (j%64) hr wU;have e3:=Cv_ n q hq (i/64) (j/64) (i%64) (j%64) (by omega) (by omega) hr wU hl hct (by rw[<-jV];exact qR);rw[<-jV]at e3;have a1:=sM i;have a2:=sM j;have m1:=rS i;have m2:=rS j;have w1:IntKind.i64.wrap ((i/64:Nat):Int)=((i/64:Nat):Int):=wq;have w2:IntKind.i64.wrap ((j/64:Nat):Int)=((j/64:Nat):Int):=wq
  have ol:=(Mn (r:=i%64) wU).1;obtain⟨Q,hQ⟩:∃Q,Q=orQ (CX q (Ec i j)) (Ec i j) (i%64) (j%64):=⟨_,rfl⟩;rw[<-hQ]at e3 |-;obtain⟨W,hW⟩:∃W,W=Ev (i%64) (j%64):=⟨_,rfl⟩;rw[<-hW]at e2 e3 ol;have t1:=DC ol;obtain⟨i1,hi1⟩:∃i1:Nat,i1=i/64:=⟨_,rfl⟩;obtain⟨j1,hj1⟩:∃j1:Nat,j1=j/64:=⟨_,rfl⟩;rw[<-hi1]at e3 a1 w1;rw[<-hj1]at e3 a2 w2;obtain⟨i2,hi2⟩:∃i2:Nat,i2=i%64:=⟨_,rfl⟩;obtain⟨j2,pP⟩:∃j2:Nat,j2=j%64:=⟨_,rfl⟩;rw[<-hi2]at e2 m1
  rw[<-pP]at e2 m2;have wd:(dB W).drop 64=[]:=cW0 (by rw[VP,ol];exact Nat.le_refl _);simp only[dQ]at e1 e3
  (repeat (first | refine AJ fun K hK=> ?_ | (refine BV KF mxd (by kernel_rfl) ?_;simp[KF,qX,dQ,a1,a2,m1,m2,w1,w2,ol,t1,wd];try simp (disch:=omega) only[Al]) | refine Aq ?_ | (refine Bi ?_ ?_ ?_;(· (simp[qX,dQ,a1,a2,m1,m2,w1,w2,ol,t1,wd];done));(try (rotate_left;(· (intro hc;(try simp[qX,dQ,a1,a2,m1,m2,w1,w2,ol,t1,wd]at hc);done))))) | (refine AN ?_;simp[results43,qX,dQ,a1,a2,m1,m2,w1,w2,ol,t1,wd]) | ((first | refine AB ?_ | refine AA ?_);simp[qX,dQ,a1,a2,m1,m2,w1,w2,ol,t1,wd]) | (intro hc;(try simp[qX,dQ,a1,a2,m1,m2,w1,w2,ol,t1,wd]at hc);(try (exfalso;omega))) | ((first | refine Ag (e2) ?_ | (refine Af (e2) ?_ ?_;(· (simp;done))));try simp[qX,dQ,a1,a2,m1,m2,w1,w2,ol,t1,wd]) | (refine AQ [(0,0),(1,1),(2,2)] [] (e1) ?_ ?_;(· (simp[qX,dQ,a1,a2,m1,m2,w1,w2,ol,t1,wd];done));(intro _;try simp[qX,dQ,a1,a2,m1,m2,w1,w2,ol,t1,wd])) | (refine AQ [(0,0),(1,1),(2,2)] [] (e3) ?_ ?_;(· (simp[qX,dQ,a1,a2,m1,m2,w1,w2,ol,t1,wd];done));(intro _;try simp[qX,dQ,a1,a2,m1,m2,w1,w2,ol,t1,wd])) | (refine⟨?_,?_⟩; · omega) | omega | apply_assumption -exfalso -symm | (exfalso;omega)))
end Go.Proofs.Wy
end
