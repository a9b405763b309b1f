/- Parts of a proof, laid together: SY1, EnSi, BO1, BO2, BO5. -/
import Derived.Shelf.Sort.Plain
import Derived.Shelf.Slices.In.SortNone
import Derived.Shelf.Spec.SlicesGrow
import Derived.Test.YtiojapdolljocaaGreatqBw15
import Derived.Test.YtiojapdolljocaaGreatqBw19
import Derived.Test.YtiojapdolljocaaGreatqBw20
import Derived.Test.YtiojapdolljocaaGreatqBw24
import Derived.Test.YtiojapdolljocaaGreatqBw25
import Derived.Test.YtiojapdolljocaaGreatqBw26
set_option linter.unusedSimpArgs false
set_option maxHeartbeats 8000000
set_option linter.unusedVariables false
set_option linter.unusedSectionVars false
section
namespace Go.Proofs.Wy
open Go Go.Dm Tryz
attribute [local irreducible] DW Bh Bk
set_option maxRecDepth 100000
theorem rB {l:List ByteArray} (h:Str l):l.Nodup:=h.imp fun h1=>VV h1
theorem WB {l:List ByteArray} (hn:l.Nodup) {i:Nat} {x:ByteArray} (h:l[i]? =some x):¬x∈l.take i:=by
 intro hm;obtain⟨j,hj,e⟩:=bU0 hm;rw[aW0]at hj;rw[List.getElem_take]at e;obtain⟨hi,e2⟩:=aF0.1 h;have:=(List.getElem_inj (h₀:=by omega) (h₁:=hi) hn).1 (e.trans e2.symm);omega
theorem Bf {α:Type} {l:List α} {i:Nat} {x:α} (h:l[i]? =some x):l.take (i+1)=l.take i++[x]:=by rw[bR0,h];rfl
def nT : Ann:=⟨[],[]⟩
theorem Ar_ (g:List Rul) (c:Int) (hc:c≠0) (h:Ag prog 49 [AM g] (.int .i64 c)):Ag prog 14 [AM g] (.tup [.nilp,.int .i64 c]):=by
 refine Ad [] nT func14 call14 ntmps14 mxd (Az @nT.eq_1 results14) rfl (fun qJ B qX qQ=> ?_);clear qJ;simp only[Ap];exact AA (AQ h) Ac (AQ hc)
def Tz : Ann:=⟨[19,21],[]⟩
theorem iX (g:List Rul) (hn:(AK 3 g).length*16<=140737488355328) (hl:(AE g).length<9223372036854775807) (hll:(AH g).length<9223372036854775807) (h:Ag prog 49 [AM g] (.int .i64 0)):Ag prog 14 [AM g] (.tup [Iu (AE g) (AH g),.int .i64 0]):=by
 refine Ad [19,21] Tz func14 call14 ntmps14 mxd (Az @Tz.eq_1 results14) rfl (fun qJ B qX qQ=> ?_);clear qJ;simp only[Ap];have e1:=LU g;have e2:=Kv g hn;have hH:=LS g;have hL:=rB (GN (AK 3 g)).1;rw[show EH (AK 3 g)=AH g from rfl]at hL;obtain⟨H,eH⟩:∃H,H=AE g:=⟨_,rfl⟩;obtain⟨L,eL⟩:∃L,L=AH g:=⟨_,rfl⟩;rw[<-eH]at e1 hH hl |-;rw[<-eL]at e2 hL hll |-;clear eH eL
 (refine Ba (HB h e1 e2) Ac Ac ?_;intros;refine Al ?_)
 refine An (X:={k:Nat//k<=H.length}) (fun k=>⟨[(5,.bx 21 1 0),(25,Bo H),(26,.int .i64 H.length),(27,.int .i64 k.1)],[⟨21,1,.box [Bo H,Bo L,.omp 19 1]⟩,⟨19,1,.map (FU false (H.take k.1)) (Fw k.1)⟩]⟩) (fun k=>H.length-k.1) ⟨0,by omega⟩ (Sub.lit (by simp[FU,Fw])) ?_;rintro⟨k,hk⟩;simp only
 by_cases qV:k<H.length
 ·obtain⟨x,hx,qG,zJ⟩:=Ar qV;have h1:=HP (b:=false) (WB hH hx);have qO:=UH false (H.take k);have hu:Fw k++[.int .i64 (k:Int)]=Fw (k+1):=(So k).symm;have hKs:FU false (H.take k)++[.agg [.bool false,.str x]]=FU false (H.take (k+1)):=by rw[Bf hx,SV]
  (refine Ba Ac Ac (Np qV hx qG @AD.eq_1 h1 qO hu hKs) ?_;intros;refine Al ?_)
  refine Ak.mk ⟨k+1,by omega⟩ (Sub.lit (by simp[hKs])) (by simp;omega)
  skip
 ·have qN:k=H.length:=by omega
  subst qN;rw[aT0];have k0:FU true []=[]:=rfl;have u0:Fw 0=[]:=rfl
  (refine Ba Ac Ac Ac ?_;intros;refine Al ?_)
  refine An (X:={k:Nat//k<=L.length}) (fun k=>⟨[(5,.bx 21 1 0),(43,Bo L),(44,.int .i64 L.length),(45,.int .i64 k.1)],[⟨21,1,.box [Bo H,Bo L,.omp 19 1]⟩,⟨19,1,.map (Lq H (L.take k.1)) (Fw H.length++Fw k.1)⟩]⟩) (fun k=>L.length-k.1) ⟨0,by omega⟩ (Sub.lit (by simp[Lq,k0,u0])) ?_;rintro⟨k,hk⟩;simp only
  by_cases qV:k<L.length
  ·obtain⟨x,hx,qG,zJ⟩:=Ar qV;have h1:=VJ (H:=H) (L:=L.take k) (b:=true) (WB hL hx);have qO:=xL H (L.take k);have hu:Fw H.length++Fw k++[.int .i64 (k:Int)]=Fw H.length++Fw (k+1):=by rw[So,aS0]
   have hKs:Lq H (L.take k)++[.agg [.bool true,.str x]]=Lq H (L.take (k+1)):=by unfold Lq;rw[Bf hx,SV,aS0]
   (refine Ba Ac Ac (Np qV hx qG @AD.eq_1 h1 qO hu hKs) ?_;intros;refine Al ?_)
   refine Ak.mk ⟨k+1,by omega⟩ (Sub.lit (by simp[hKs])) (by simp;omega)
   skip
  ·have qN:k=L.length:=by omega
   subst qN;rw[aT0];exact AA Ac Ac Ac
end Go.Proofs.Wy
end
section
namespace Go.Dm
variable [DMode]
open Go.Shelf Go.Sort Go.Proofs Go.RowKit
def Im (l:List Int):List Int:=l.mergeSort fun x y=>decide (x<=y)
theorem JM (l:List Int):(Im l).length=l.length:=by simp[Im]
def dZ (z:Int):List DVal:=[.int .i64 z]
theorem TQ {P:Program} {ρ:Ren} (L:Lays.n189 P ρ) {f:FuncId} {et bs:Nat} (hf:ρ.f 189=f) (vK:Enters P f) (hbs0:0<bs) (l:List Int) :
  Bl P (.func f) [.osl 0 0] [⟨0,0,.row et 1 bs (l.map dZ)⟩] (.tup []) [⟨0,0,.row et 1 bs ((Im l).map dZ)⟩]:=by
 refine⟨by simp,vK,fun M w loc vs S hr=> ?_⟩;refine⟨vK,?_⟩;simp only[Aw]at hr;obtain⟨v0,r0,wI,h0,rfl⟩:=hr;simp only[rd]at h0;have gV:∀l:List Int,Ab [(⟨0,0,.row et 1 bs (l.map dZ)⟩:Ent)] loc 0 0=some (loc 0):=fun _=>rfl
 have yJ:=h0 _ (gV l);have vE:vs= #[v0]:=by cases vs;simpa using wI
 subst vE;subst hf;have qF:∀l:List Int,Aa [(⟨0,0,.row et 1 bs (l.map dZ)⟩:Ent)] loc=(loc 0).blks:=fun _=>by simp[Aa]
 have jZ:∀cur M h,rd cur M h (.tup []) (.tuple #[]):=fun _ _ _=>by simp only[rd];exact⟨#[],rfl,by simp[Aw]⟩
 have hk:=S.ok ⟨0,0,.row et 1 bs (l.map dZ)⟩ (by simp)
 by_cases qB:l=[]
 ·subst qB
  obtain⟨a,cap,hh⟩:∃a cap,(loc 0).hdr= .slice a 0 cap:=by
   obtain⟨_,⟨_,_,h2⟩ | ⟨b,arr,cap,_,h2,_⟩⟩:=hk
   ·exact⟨_,_,h2⟩
   ·exact⟨_,_,h2⟩
  rw[hh]at yJ;subst yJ;refine(Any.slices_Sort_int_none L a cap w).mono ?_;rintro e w' ⟨rfl,rfl⟩;have e0:Im []=[]:=by simp[Im]
  rw[e0];exact⟨_,rfl,loc,S,Upd.refl _ _,fun b hb=> .inl hb,fun e he _=>AG S.nd he,jZ _ _ _⟩
 ·obtain⟨b,arr,cap,p1,p2,p3,p4,p5,p6,p7⟩:∃b arr cap,(loc 0).blks=[b]/\(loc 0).hdr= .slice (some ⟨b,0,none⟩) (l.map dZ).length cap/\w.heap[b]? =some (.cells arr et (0,0))/\(l.map dZ).length<=cap/\cap<=maxLen/\cap*1=arr.size/\Ec (Ab [(⟨0,0,.row et 1 bs (l.map dZ)⟩:Ent)] loc) (Aa [(⟨0,0,.row et 1 bs (l.map dZ)⟩:Ent)] loc++M) w.heap 1 (l.map dZ) arr 0:=by
   obtain⟨_,⟨h,_⟩ | h⟩:=hk
   ·exact absurd (List.map_eq_nil_iff.1 h) qB
   ·exact h
  have wT:(l.map dZ).length*bs<=150000000000000:=hk.1;rw[p2]at yJ;subst yJ;rw[aO0]at p2 p4 wT
  have cX:∀s∈l,Kx .i64 s/\True:=by
   intro s hs;obtain⟨i,hi,rfl⟩:=bU0 hs;obtain⟨q1,q2⟩:=El 1 _ arr 0 i [.int .i64 l[i]] p7 (by simp[dZ,hi]);obtain⟨us,g1,g2,g3⟩:=GX _ _ _ q2;simp only[Aw,rd]at g2;obtain⟨v,_,_,⟨_,h⟩,_⟩:=g2;exact⟨h,trivial⟩
  have vZ:∀i (hi:i<l.length),arr[i]? =some (.int .i64 l[i]):=by
   intro i hi;obtain⟨q1,q2⟩:=El 1 _ arr 0 i [.int .i64 l[i]] p7 (by simp[dZ,hi]);obtain⟨us,g1,g2,g3⟩:=GX _ _ _ q2;simp only[Aw,rd]at g2;obtain⟨v,r,rfl,⟨rfl,_⟩,_⟩:=g2;have:=(g3 0 _ rfl).1;simpa using this
  obtain⟨ss,hss⟩:∃ss,ss=l:=⟨_,rfl⟩;have fO:ss.length=l.length:=by rw[hss]
  have hH:Holds (Value.int .i64) w b 0 ss.toArray:=by
   intro j hj;simp only[dH0,fO]at hj;refine⟨?_,Lib.frozen_of_heap p3 _⟩;rw[bN0,Lib.cell_of_heap p3,vZ j hj];rw[getElem!_pos _ j (by simpa[fO]using hj)];simp[hss]
  have qV:ss.length<4611686018427387904:=by
   rw[fO];have h1:l.length*1<=l.length*bs:=Nat.mul_le_mul_left _ hbs0;omega
  have yS:b<w.heap.size:=(aD0.1 p3).1;have key:=Any.slices_Sort_int L b 0 cap ss w hH yS qV;rw[fO]at key;simp only[aO0];refine key.mono ?_;rintro e w' ⟨rfl,n,os,rfl⟩;obtain⟨q1,q2,q3,q4,q5,q6,q7⟩:=rP (Value.int .i64) (et:=et) (arr:=arr) p3 n os (ss.mergeSort fun x y=>decide (x<=y)).toArray;have hse:Im l=(ss.mergeSort fun x y=>decide (x<=y)):=by rw[hss];rfl
  have jJ:(ss.mergeSort fun x y=>decide (x<=y)).length=l.length:=by simp[fO]
  refine⟨_,rfl,loc,⟨by simp,by rw[qF,p1];simp,fun q hq=>S.ap q (by rw[qF];rwa[qF]at hq),fun q hq=> ?_,?_⟩,?_,fun q hq=> .inl (by rw[qF];rwa[qF]at hq),?_,jZ _ _ _⟩
  ·refine cD0 (S.lt q ?_) q3;rw[qF]at hq |-;exact hq
  ·intro e he;simp only[aG0]at he;subst he;refine⟨by simpa[JM]using wT,.inr ⟨b,_,cap,p1,by simpa[JM]using p2,q1,by simpa[JM]using p4,p5,by simpa[putCells]using p6,?_⟩⟩;refine FN _ _ _ _ fun i cs0 hi=> ?_
   have fM:i<l.length:=by
    have:=(aF0.1 hi).1;simpa[JM]using this
   rw[hse]at hi;have him:i<(ss.mergeSort fun x y=>decide (x<=y)).length:=by omega
   simp only[cA0,bH0,aB0 him,dB0,Function.comp_apply,aA0]at hi;subst hi;refine⟨rfl,?_⟩;have qU:(ss.mergeSort fun x y=>decide (x<=y))[i]∈ss:=(dW0 ss _).mem_iff.1 (cY0 him)
   have qD:Kx .i64 ((ss.mergeSort fun x y=>decide (x<=y))[i]):=by
    generalize (ss.mergeSort fun x y=>decide (x<=y))[i]=y at qU |-
    rw[hss]at qU;exact(cX y qU).1
   have h0:=GD (cur:=Ab [(⟨0,0,.row et 1 bs ((Im l).map dZ)⟩:Ent)] loc) (M:=Aa [(⟨0,0,.row et 1 bs ((Im l).map dZ)⟩:Ent)] loc++M) (H:=(grow (putRow (Value.int .i64) (Sort.ahead w n) b 0 (ss.mergeSort fun x y=>decide (x<=y)).toArray) os).heap) [.int .i64 ((ss.mergeSort fun x y=>decide (x<=y))[i])] [.int .i64 ((ss.mergeSort fun x y=>decide (x<=y))[i])] [] [] (by simp only[Aw,rd];exact⟨_,_,rfl,⟨rfl,qD⟩,rfl⟩) (by simp[Value.oneCell'])
   refine CP _ _ _ _ _ (fun p hp=> ?_) h0;have wC:p=0:=by simp[dZ]at hp;omega
   subst wC;have hia:i<arr.size:=by omega
   simp only[putCells,Array.getElem?_mapIdx];rw[show 0+i*1+0=i by omega,bX0 hia];simp[him,jJ,fM,fO]
  ·rw[qF,p1];exact⟨q4,q5,q6,fun _=>q7,q3,fun q hq hn=>q2 q hq (fun h=>hn (by simp[h]))⟩
  ·intro e he _;simp only[aG0]at he;subst he;rfl
theorem aN {P:Program} {ρ:Ren} (L:Lays8.n4 P ρ) {f:FuncId} {et bs:Nat} (hf:ρ.f 4=f) (vK:Enters P f) (het:ρ.t 25=et) {i0:TypeInfo} {z:Value} (hi0:P.info? et=some i0) (hz0:i0.zero=some z) (hzc:z.cells.size=1) (hs0:i0.size=1) (qH:i0.bytes=bs) (wT:1<=bs)
  (n:Nat) (hn:n*bs<=140737488355328):Bl P (.func f) [.nilsl,.int .i64 n] [] (.osl 0 1) [⟨0,1,.row et 1 bs []⟩]:=by
 refine⟨by simp,vK,fun M w loc vs S hr=> ?_⟩;refine⟨vK,?_⟩;simp only[Aw,rd]at hr;obtain⟨v0,r0,wI,rfl,v1,r1,rfl,⟨rfl,_⟩,rfl⟩:=hr;have vE:vs= #[.slice none 0 0,.int .i64 n]:=by cases vs;simpa using wI
 subst vE hf het;have hnn:n<=n*bs:=Nat.le_mul_of_pos_right _ wT;have hM:∀b∈M,b<w.heap.size:=fun b hb=>S.lt b (by simpa[Aa]using hb)
 by_cases h0:n=0
 ·subst h0;refine(Any8.slices_Grow_room L none 0 0 0 w (by omega) (by omega) (by omega) (by omega)).mono ?_;rintro e w' ⟨rfl,rfl⟩;refine⟨_,rfl,fun _=>⟨[],.slice none 0 0⟩,⟨by simp,by simp[Aa],by simp[Aa],fun b hb=>hM b (by simpa[Aa]using hb),fun e he=> ?_⟩,Upd.refl _ _,fun b hb=>by simp[Aa]at hb,fun e he h=> ?_,?_⟩
  ·simp only[aG0]at he;subst he;exact⟨by simp,.inl ⟨rfl,rfl,rfl⟩⟩
  ·simp only[aG0]at he;subst he;simp at h
  ·simp only[rd];intro l hl;simp[Ab,Aj]at hl;rw[<-hl]
 ·refine(Any8.slices_Grow_grow L i0 z hi0 hz0 (by omega) none 0 0 n [] w (by omega) (by omega) (by rw[qH];simpa using hn) (by omega) (by simp) (fun _=>rfl) (by simp)).mono ?_;rintro e w' ⟨rfl,rfl⟩;obtain⟨G,hG⟩:∃G,G=grownCap w (0+n) 0 (ρ.t 25):=⟨_,rfl⟩;have gX:0+n<=G:=by rw[hG];exact grownCap_ge w _ _ _
  have hGm:G<=maxLen:=by rw[hG];exact grownCap_le_maxLen w _ _ _ (by unfold maxLen;omega)
  rw[<-hG];have hU:Upd [] w (w.drew.alloc (.cells ((#[]:Array Value)++Builtin.zeroCells z.cells (0+n-0)++Builtin.zeroCells z.cells (G-(0+n))) (ρ.t 25))):=(Upd.drew _ w).trans (Upd.alloc _ w.drew _) (fun x hx=> .inl hx);refine⟨_,rfl,fun _=>⟨[w.heap.size],.slice (some ⟨w.heap.size,0,none⟩) 0 G⟩,⟨by simp,by simp[Aa],fun b hb hm=> ?_,fun b hb=> ?_,fun e he=> ?_⟩,hU,fun b hb=> ?_,fun e he h=> ?_,?_⟩
  ·simp[Aa]at hb;subst hb;exact absurd (hM _ hm) (by omega)
  ·have h1:w.heap.size<(w.drew.alloc (.cells ((#[]:Array Value)++Builtin.zeroCells z.cells (0+n-0)++Builtin.zeroCells z.cells (G-(0+n))) (ρ.t 25))).heap.size:=by
    show w.heap.size<(w.heap.push _).size
    simp
   rcases aC0.1 hb with hb | hb
   ·simp[Aa]at hb;subst hb;exact h1
   ·exact Nat.lt_trans (hM b hb) h1
  ·simp only[aG0]at he;subst he;refine⟨by simp,.inr ⟨w.heap.size,_,G,rfl,rfl,heap_alloc_new w.drew _,by simp,hGm,?_,by simp[Ec]⟩⟩;simp only[Array.size_append,size_zeroCells,hzc];simp;omega
  ·simp[Aa]at hb
   right
   omega
  ·simp only[aG0]at he;subst he;simp at h
  ·simp only[rd];intro l hl;simp[Ab,Aj]at hl;rw[<-hl]
theorem Vv {P:Program} {f:FuncId} {args:List DVal} {et k bs:Nat} (h:Ag P f args .nilsl):Bl P (.func f) args [] (.osl 0 1) [⟨0,1,.row et k bs []⟩]:=by
 refine⟨by simp,h.1,fun M w loc vs S hr=>⟨h.1,(h.2.2 _ _ _ _ S.lt hr).mono ?_⟩⟩;rintro e w' ⟨v,rfl,hu,hv⟩;have hM:∀b∈M,b<w'.heap.size:=fun b hb=>cD0 (S.lt b (aJ0 _ hb)) hu.size
 simp only[rd]at hv;refine⟨_,rfl,fun _=>⟨[],.slice none 0 0⟩,⟨by simp,by simp[Aa],by simp[Aa],fun b hb=>hM b (by simpa[Aa]using hb),fun e he=> ?_⟩,by simpa[Aa]using hu,fun b hb=>by simp[Aa]at hb,fun e he h=> ?_,?_⟩
 ·simp only[aG0]at he;subst he;exact⟨by simp,.inl ⟨rfl,rfl,rfl⟩⟩
 ·simp only[aG0]at he;subst he;simp at h
 ·simp only[rd];intro l hl;simp[Ab,Aj]at hl;rw[<-hl];exact hv
theorem Co_ {P:Program} {f:FuncId} {k bs:Nat} {d:DVal} {own':List Ent} (h1:Bl P (.func f) [.nilsl] [] d own') (h2:Bl P (.func f) [.esl] [] d own'):Bl P (.func f) [.sl k bs []] [] d own':=by
 refine⟨h1.1,h1.2.1,fun M w loc vs S hr=> ?_⟩;simp only[Aw]at hr;obtain⟨v,r,wI,h5,rfl⟩:=hr;simp only[rd]at h5;obtain⟨a,cap,rfl,_,hc,_,h7⟩:=h5
 cases a with
 | none =>
  have:cap=0:=by
   rcases h7 with h7 | ⟨b,off,arr,ty,fz,h8,_⟩
   ·exact h7.2 rfl
   ·simp at h8
  subst this;refine h1.2.2 M w loc vs S ?_;rw[wI];simp only[Aw];exact⟨_,_,rfl,by simp[rd],rfl⟩
 | some ad =>
  refine h2.2.2 M w loc vs S ?_;rw[wI];simp only[Aw];exact⟨_,_,rfl,by simp only[rd];exact⟨ad,cap,rfl,hc⟩,rfl⟩
end Go.Dm
end
section
namespace Go.Proofs.Wy
open Go Go.Dm Go.Shelf Tryz
variable [DMode]
attribute [local irreducible] DW Bh Bk
set_option maxRecDepth 100000
def Mh (ls:List (List Nat)):List Nat:=ls.flatten
def JZ (ls:List (List Nat)):Nat:=(Mh ls).length
theorem Tr (ls:List (List Nat)) (l:List Nat):Mh (ls++[l])=Mh ls++l:=by simp[Mh]
theorem XN : Mh []=[]:=rfl
theorem Ss (ls:List (List Nat)) (l:List Nat):JZ (ls++[l])=JZ ls+l.length:=by unfold JZ;rw[Tr,aE0]
def TX (l:List Nat):List DVal:=[Ey l]
@[simp] theorem CL_ (l:List Nat):AJ (TX l)=0:=by simp[TX,AJ,mx]
@[simp] theorem Fm_ (l:List (List Nat)):Bq (l.map TX)=0:=HM _ CL_ l
def JU : Ann:=⟨[5],[]⟩
theorem Mf (l:List Nat) (hl:l.length*8<=140737488355328):Bl prog (.func 53) [Ey l] [] (.osl 0 1) [⟨0,1,.row 3 1 8 (l.map BK)⟩]:=by
 match l,hl with
 | [],_ =>
  refine Co_ ?_ ?_
  ·refine Vv ?_;refine Ad [] JU func53 call53 ntmps53 mxd (Az @JU.eq_1 results53) rfl (fun qJ B qX qQ=> ?_);simp only[Ap];exact AA Ac Ac Ac
  ·refine BU [] [(5,0,1)] JU func53 call53 ntmps53 mxd (Az @JU.eq_1 results53) rfl (fun qJ B qX qQ=> ?_);simp only[Ap,List.nil_append];exact AA Ac Ac Ac
 | x::l,hl =>
  refine BU [] [(5,0,1)] JU func53 call53 ntmps53 mxd (Az @JU.eq_1 results53) rfl (fun qJ B qX qQ=> ?_);simp only[List.length_cons]at hl;have vR:(l.length+1)*8<=150000000000000:=by omega
  have dN:l.length<9223372036854775807:=by omega
  simp only[Ap,List.nil_append,List.map_cons,Ey,BK];exact AA Ac Ac Ac
theorem aM (n:Nat) (hn:n*8<=140737488355328):Bl prog (.func 161) [.nilsl,.int .i64 n] [] (.osl 0 1) [⟨0,1,.row 3 1 8 []⟩] :=
 aN Tryz.growI rfl call161 rfl (hi0:=(rfl:Tryz.prog.info? 3=some _)) (z:= .int .i64 0) rfl rfl rfl rfl (by decide) n hn
theorem RO (l:List Int):Bl prog (.func 64) [.osl 0 0] [⟨0,0,.row 3 1 8 (l.map CT)⟩] (.tup []) [⟨0,0,.row 3 1 8 ((Im l).map CT)⟩] :=
 TQ Tryz.sortInt rfl call64 (by decide) l
def YD : Ann:=⟨[24],[]⟩
theorem QS (ls:List (List Nat)) (hb:JZ ls*8<=140737488355328):Bl prog (.func 109) [.sl 1 24 (ls.map TX)] [] (.osl 0 1) [⟨0,1,.row 3 1 8 ((Mh ls).map BK)⟩]:=by
 refine BU [] [(24,0,1)] YD func109 call109 ntmps109 mxd (Az @YD.eq_1 results109) rfl (fun qJ B qX qQ=> ?_);simp only[Ap,List.nil_append]
 have hsum:∀k,k<=ls.length->JZ (ls.take k)*8<=140737488355328:=fun k hk=>by
  unfold JZ Mh at hb |-;have h1:ls.flatten.length=(ls.take k).flatten.length+(ls.drop k).flatten.length:=by rw[<-aE0,<-List.flatten_append,List.take_append_drop]
  omega
 have dH:ls.length<9223372036854775807:=by
  have h1:=qJ.1;simp only[Ef,aO0]at h1;have h2:=h1.1;unfold maxLen at h2;omega
 clear qJ
 (refine Ba Ac Ac Ac ?_;intros;refine Al ?_)
 refine An (X:={k:Nat//k<=ls.length}) (fun k=>⟨[(0,.sl 1 24 (ls.map TX)),(3,.int .i64 (JZ (ls.take k.1))),(9,.sl 1 24 (ls.map TX)),(10,.int .i64 ls.length),(11,.int .i64 k.1)],[]⟩) (fun k=>ls.length-k.1) ⟨0,by omega⟩ (Sub.lit (by simp[JZ,XN])) ?_;rintro⟨k,hk⟩;simp only
 by_cases qV:k<ls.length
 ·obtain⟨x,hx,qG,zJ⟩:=Ar qV;have nX:JZ (ls.take (k+1))=JZ (ls.take k)+x.length:=by rw[Bf hx,Ss]
  have jX:=hsum (k+1) qV;obtain⟨m,hm⟩:∃m,m=JZ (ls.take k):=⟨_,rfl⟩;rw[nX,<-hm]at jX;rw[<-hm]at nX |-
  (refine Ba Ac Ac (JV qV hx qG @TX.eq_1) ?_;intros;refine Al ?_)
  refine Ak.mk ⟨k+1,by omega⟩ (Sub.lit (by simp[nX])) (by simp;omega)
  skip
 ·have qN:k=ls.length:=by omega
  subst qN;rw[aT0];have e1:=aM _ hb
  (refine Ba Ac (AQ (Ii [] [(24,0)] e1)) Ac ?_;intros;refine Al ?_)
  refine An (X:={k:Nat//k<=ls.length}) (fun k=>⟨[(6,.osl 24 1),(25,.sl 1 24 (ls.map TX)),(26,.int .i64 ls.length),(27,.int .i64 k.1)],[⟨24,1,.row 3 1 8 ((Mh (ls.take k.1)).map BK)⟩]⟩) (fun k=>ls.length-k.1) ⟨0,by omega⟩ (Sub.lit (by simp[XN])) ?_;rintro⟨k,hk⟩;simp only
  by_cases qV:k<ls.length
  ·obtain⟨x,hx,qG,zJ⟩:=Ar qV;have nX:(Mh (ls.take (k+1))).map BK=(Mh (ls.take k)).map BK++x.map BK:=by rw[Bf hx,Tr,bI0]
   have jX:=hsum (k+1) qV;have hs3:JZ (ls.take (k+1))=JZ (ls.take k)+x.length:=by rw[Bf hx,Ss]
   obtain⟨F,hF⟩:∃F,F=Mh (ls.take k):=⟨_,rfl⟩;have hFl:F.length=JZ (ls.take k):=by rw[hF];rfl
   rw[hs3,<-hFl]at jX;rw[<-hF]at nX |-;have hs4:(F.length+x.length)*8<=150000000000000:=by omega
   (refine Ba Ac Ac (Lj qV hx qG @TX.eq_1 hs4) ?_;intros;refine Al ?_)
   refine Ak.mk ⟨k+1,by omega⟩ (Sub.lit (by simp[nX])) (by simp;omega)
   skip
  ·have qN:k=ls.length:=by omega
   subst qN;rw[aT0];exact AA Ac Ac Ac
def CV (SF:List Sym) (P:List (Nat×Nat)):List Arc:=P.map (Ri SF)
theorem uK (SF:List Sym):CV SF []=[]:=rfl
theorem FI (SF:List Sym) (P Q:List (Nat×Nat)):CV SF (P++Q)=CV SF P++CV SF Q:=by simp[CV]
theorem JQ (SF:List Sym) (P:List (Nat×Nat)):(CV SF P).length=P.length:=by simp[CV]
def GY (x:Nat) (f:List Nat):List (Nat×Nat):=f.map fun q=>(x,q)
theorem ZO (x:Nat) (f:List Nat) (q:Nat):GY x (f++[q])=GY x f++[(x,q)]:=by simp[GY]
theorem rV (x:Nat):GY x []=[]:=rfl
theorem SD (x:Nat) (f:List Nat):(GY x f).length=f.length:=by simp[GY]
def Bs (u v:Nat) (S:List Sym) (A:List Arc):List Ent:=[⟨0,0,.box [.osl 1 u,.osl 2 v]⟩,⟨1,u,.row 24 2 16 (S.map AR)⟩,⟨2,v,.row 39 4 32 (A.map CB)⟩]
theorem aC (l f:List Nat) (x:Nat):BH (l++[x]) f=BH l f++GY x f:=by simp[BH,GY]
theorem MY (l f:List Nat):(BH l f).length=l.length*f.length:=by
 induction l with
 | nil=>simp[BH]
 | cons x l ih =>
  have:BH (x::l) f=(f.map fun q=>(x,q))++BH l f:=rfl;rw[this,aE0,ih,aO0,List.length_cons,bQ0];omega
theorem EZ_ {S SF:List Sym} (hp:S <+: SF) {q:Nat} (h1:1<=q) (h2:q<=S.length):S[q-1]? =some (SF.getD (q-1) ⟨false,0⟩):=by
 obtain⟨R,rfl⟩:=hp;have h:q-1<S.length:=by omega
 rw[bA0,bC0 h,aB0 h];rfl
def Pj : Ann:=⟨[],[⟨6,[],[0],[]⟩]⟩
theorem Jd (S SF:List Sym) (A:List Arc) (l f:List Nat) (hp:S <+: SF) (hf:∀q∈f,1<=q/\q<=S.length) (hS:S.length<9223372036854775807) (hb:(A.length+l.length*f.length)*32<=150000000000000) :
  Bl prog (.func 61) [.bx 0 0 0,Ey l,Ey f] (Bs 0 0 S A) (.tup []) (Bs 0 1 S (A++CV SF (BH l f))):=by
 refine BU [] [(0,0,0),(1,1,0),(2,2,1)] Pj func61 call61 ntmps61 mxd (Az @Pj.eq_1 results61) rfl (fun qJ B qX qQ=> ?_) (hv:=(by simp[Bs]))
 have dH:l.length<9223372036854775807/\f.length<9223372036854775807:=by
  have h1:=qJ;simp only[Iy,Ef,aO0,maxLen]at h1;omega
 clear qJ;simp only[Ap]
 (refine Ba Ac Ac (AQ @Bs.eq_1) ?_;intros;refine Al ?_)
 refine An (X:={i:Nat//i<=l.length}) (fun i=>⟨[(0,.bx 0 0 0),(2,Ey f),(10,Ey l),(11,.int .i64 l.length),(12,.int .i64 i.1)],Bs 0 1 S (A++CV SF (BH (l.take i.1) f))⟩) (fun i=>l.length-i.1) ⟨0,by omega⟩ (Sub.lit (by simp[Bs,sZ,uK])) ?_;rintro⟨i,hi⟩;simp only
 by_cases qV:i<l.length
 ·obtain⟨x,hx,qG,zJ⟩:=Ar qV;have nL:=aC (l.take i) f x;rw[<-Bf hx]at nL
  have hjl:(BH (l.take (i+1)) f).length<=l.length*f.length:=by
   rw[MY];exact aZ0 _ (by rw[aW0];omega)
  rw[nL,aE0,SD]at hjl;obtain⟨P,hP⟩:∃P,P=BH (l.take i) f:=⟨_,rfl⟩;rw[<-hP]at hjl nL |-
  (refine Ba Ac Ac (Lj @Bs.eq_1 qV hx qG @BK.eq_1) ?_;intros;refine Al ?_)
  refine An (X:={j:Nat//j<=f.length}) (fun j=>⟨[(0,.bx 0 0 0),(2,Ey f),(7,.int .i64 x),(10,Ey l),(11,.int .i64 l.length),(12,.int .i64 i),(16,Ey f),(17,.int .i64 f.length),(18,.int .i64 j.1)],Bs 0 1 S (A++CV SF (P++GY x (f.take j.1)))⟩) (fun j=>f.length-j.1) ⟨0,by omega⟩ (Sub.lit (by simp[Bs,rV])) ?_;rintro⟨j,hj⟩;simp only
  by_cases qK:j<f.length
  ·obtain⟨q,hq,vH,hqm⟩:=Ar qK;obtain⟨fK,jK⟩:=hf q hqm;have yK:q-1<S.length:=by omega
   obtain⟨y,hy,zW,dC⟩:=Ar yK
   have hA:Ri SF (x,q)=⟨x,y,q⟩:=by
    have hsy:=EZ_ hp fK jK;rw[hy]at hsy;simp only[aA0]at hsy;unfold Ri;rw[<-hsy]
   have zL:CV SF (P++GY x (f.take (j+1)))=CV SF (P++GY x (f.take j))++[⟨x,y,q⟩]:=by rw[Bf hq,ZO,<-aS0,FI,<-hA];rfl
   have hln:(CV SF (P++GY x (f.take j))).length+1<=l.length*f.length:=by rw[JQ,aE0,SD,aW0];omega
   obtain⟨Z,hZ⟩:∃Z,Z=CV SF (P++GY x (f.take j)):=⟨_,rfl⟩;rw[<-hZ]at zL hln |-;have wV:(A.length+Z.length+1)*32<=150000000000000:=by omega
   have wK:IntKind.i64.wrap ((q:Int)-1)=((q-1:Nat):Int):=by rw[wq];omega
   (repeat (first | refine AC fun K hK=> ?_ | (refine BL Pj mxd (by kernel_rfl) ?_;simp[Pj,qX,Bs,qK,hq,vH,BK,wK,yK,hy,zW,AR];try simp (disch:=omega) only[Ai]) | refine Am ?_ | (refine AX ?_ ?_ ?_;(· (simp[qX,Bs,qK,hq,vH,BK,wK,yK,hy,zW,AR];done));(try (rotate_left;(· (intro hc;(try simp[qX,Bs,qK,hq,vH,BK,wK,yK,hy,zW,AR]at hc);done))))) | (refine AI ?_;simp[results61,qX,Bs,qK,hq,vH,BK,wK,yK,hy,zW,AR]) | ((first | refine Av ?_ | refine Au ?_);simp[qX,Bs,qK,hq,vH,BK,wK,yK,hy,zW,AR]) | (intro hc;(try simp[qX,Bs,qK,hq,vH,BK,wK,yK,hy,zW,AR]at hc);(try (exfalso;omega))) | (refine⟨?_,?_⟩; · omega) | omega | apply_assumption -exfalso -symm | (exfalso;omega)))
   refine Ak.mk ⟨j+1,by omega⟩ (Sub.lit (by simp[Bs,zL,CB])) (by simp;omega)
   skip
  ·have qN:j=f.length:=by omega
   subst qN;rw[aT0,<-nL]
   (refine Ba Ac Ac (AQ @Bs.eq_1) ?_;intros;refine Al ?_)
   refine Ak.mk ⟨i+1,by omega⟩ (Sub.lit (by simp[Bs])) (by simp;omega)
   skip
 ·have qN:i=l.length:=by omega
  subst qN;rw[aT0];exact AA Ac Ac (AQ @Bs.eq_1)
end Go.Proofs.Wy
end
section
namespace Go.Proofs.Wy
open Go Go.Dm Tryz
variable [DMode]
theorem Fy (l m:List Nd):Cz (l++m)=Cz l++Cz m:=by simp[Cz]
theorem WP (x:Nd) (l:List Nd):Cz (x::l)=(if BQ x=true then [x]else [])++Cz l:=by unfold Cz;rw[List.filter_cons];cases BQ x<;>rfl
theorem Hi (u:RT):Ah [u]=flat u:=by rw[Ao,BR,bO0]
theorem Qk {x:Nd} (h:x.k=2\/x.k=3) (l:List Nd):Cz (x::l)=x::Cz l:=by rw[WP,if_pos (Cm.2 h)];rfl
theorem IW {x:Nd} (h:¬(x.k=2\/x.k=3)) (l:List Nd):Cz (x::l)=Cz l:=by rw[WP,if_neg (fun hh=>h (Cm.1 hh))];rfl
mutual
theorem Pc : ∀(t:RT) (a:Nat),(VA t a).length<=(Cz (flat t)).length
 | .mk x ks,a=>by
  rw[La,Ax]
  split
  ·rename_i h;rw[Qk h];simp
  ·rename_i h;rw[IW h];exact Pd x.k ks (a+1)
theorem Pd (k:Int):∀(us:List RT) (a:Nat),(Sf k us a).length<=(Cz (Ah us)).length
 | [],a=>by rw[HV];simp
 | u::us,a=>by
  have h1:=Pc u a;have h2:=Pd k us (a+(flat u).length);rw[Hm,Ao,Fy,aE0,aE0]
  split
  ·simp;omega
  ·omega
end
mutual
theorem OY : ∀(t:RT) (a:Nat),(MX t a).length<=(Cz (flat t)).length
 | .mk x ks,a=>by
  rw[HQ,Ax]
  split
  ·rename_i h;rw[Qk h];simp
  ·rename_i h;rw[IW h];exact OZ x.k ks (a+1)
theorem OZ (k:Int):∀(us:List RT) (a:Nat),(MB k us a).length<=(Cz (Ah us)).length
 | [],a=>by rw[EW];simp
 | u::us,a=>by
  have h1:=OY u a;have h2:=OZ k us (a+(flat u).length);rw[Ep,Ao,Fy,aE0]
  split
  ·rw[aE0]
   split
   ·omega
   ·simp;omega
  ·rw[aE0];omega
end
theorem Pa {l f:List Nat} (h1:l.length<=64) (h2:f.length<=64):l.length*f.length<=4096:=Nat.mul_le_mul h1 h2
mutual
theorem Ve : ∀(t:RT) (a:Nat),(Cz (flat t)).length<=64->(VB t a).length+4096<=8192*(flat t).length
 | .mk x ks,a,hM=>by
  rw[Jx,Ax,List.length_cons]
  split
  ·simp;omega
  ·rename_i h;rw[Ax,IW h]at hM;have h1:=Vf x.k ks (a+1) [] (by simpa using hM);have h2:=OZ x.k ks (a+1);have h3:=Pd x.k ks (a+1);rw[aE0]
   split
   ·rw[MY];have:=Pa (l:=MB x.k ks (a+1)) (f:=Sf x.k ks (a+1)) (by omega) (by omega);omega
   ·simp;omega
theorem Vf (k:Int):∀(us:List RT) (a:Nat) (acc:List Nat),acc.length+(Cz (Ah us)).length<=64->(VC k us a acc).length<=8192*(Ah us).length
 | [],a,acc,_=>by rw[Ia];simp
 | u::us,a,acc,hM=>by
  rw[Ao,Fy,aE0]at hM;have h1:=Ve u a (by omega);have h2:=Pc u a;have h3:=OY u a
  have h4:=Vf k us (a+(flat u).length) (if k=4 then MX u a++(if DD u=true then acc else [])else []) (by
   split
   ·rw[aE0]
    split
    ·omega
    ·simp;omega
   ·simp;omega)
  rw[EA,Ao,aE0,aE0,aE0]
  split
  ·rename_i h5;rw[if_pos h5]at h4;rw[MY];have:=Pa (l:=acc) (f:=VA u a) (by omega) (by omega);omega
  ·rename_i h5;rw[if_neg h5]at h4;simp only[List.length_nil];omega
end
theorem SX (l f:List Nat) (L:List Nd) (ah:Nat):BH (l.map (GG L ah)) (f.map (GG L ah))=(BH l f).map (sJ L ah):=by
 induction l with
 | nil=>rfl
 | cons p l ih =>
  have h1:∀(p:Nat) (l f:List Nat),BH (p::l) f=f.map (fun q=>(p,q))++BH l f:=fun _ _ _=>rfl
  rw[List.map_cons,h1,h1,ih,bI0,cA0,cA0];rfl
theorem Ei {l:List Nd} {a:Nat} {m r:List Nd} (h:l.drop a=m++r):HH l (a+m.length)=HH l a+(Cz m).length:=by
 unfold HH Cz
 have h1:l.take (a+m.length)=l.take a++m:=by
  rw[List.take_add,h,List.take_left'];rfl
 rw[h1,dR0,aE0]
theorem Tm {l:List Nd} {a:Nat} {m r:List Nd} (h:l.drop a=m++r):l.drop (a+m.length)=r:=by
 rw[<-eL0,h,List.drop_left'];rfl
theorem Dn_ {l:List Nd} {a p:Nat} {m r:List Nd} {x:Nd} (h:l.drop a=m++r) (hp:a<=p) (hx:m[p-a]? =some x):l[p]? =some x:=by
 have h1:(l.drop a)[p-a]? =some x:=by
  rw[h,bC0 (aF0.1 hx).1];exact hx
 rw[cQ0]at h1
 rwa[show a+(p-a)=p by omega]at h1
theorem lG {l:List Nd} {a:Nat} {m r:List Nd} (h:l.drop a=m++r):(Cz m).length<=(Cz l).length:=by
 have h1:Cz l=Cz (l.take a)++(Cz m++Cz r):=by rw[<-Fy,<-h,<-Fy,List.take_append_drop]
 rw[h1,aE0,aE0];omega
theorem MO {l m r:List Nd} {a ah q:Nat} (h:l.drop a=m++r) (hq:a<=q) (hx:∃x,m[q-a]? =some x/\(x.k=2\/x.k=3)):1<=GG l ah q/\GG l ah q<=ah+HH l (a+m.length):=by
 obtain⟨x,hx,hk⟩:=hx;have h1:=Dn_ h hq hx;have h2:=PG h1 (Cm.2 hk) (show q<a+m.length by have:=(aF0.1 hx).1;omega);unfold GG;omega
theorem Bq_ {l r:List Nd} {t:RT} {a ah:Nat} (h:l.drop a=flat t++r):∀q∈(VA t a).map (GG l ah),1<=q/\q<=ah+HH l (a+(flat t).length):=by
 intro q hq;obtain⟨p,hp,rfl⟩:=aQ0.1 hq;exact MO h (QE t a p hp).1 (Hl t a p hp)
theorem Dh_ {l r:List Nd} {k:Int} {us:List RT} {a ah:Nat} (h:l.drop a=Ah us++r):∀q∈(Sf k us a).map (GG l ah),1<=q/\q<=ah+HH l (a+(Ah us).length):=by
 intro q hq;obtain⟨p,hp,rfl⟩:=aQ0.1 hq;exact MO h (Lb k us a p hp).1 (LX k us a p hp)
def pE (k:Int) (us:List RT):Bool:=if k=4 then Fp us else if k=1 then true else Fi us
theorem Tw (ts:List RT) (t:RT):Fi (ts++[t])=(Fi ts||DD t):=by rw[Rk,Rk,List.any_append];simp
theorem PX (k:Int):pE k []=(decide (k=1)||decide (k=4)):=by
 unfold pE;rw[Jz,show Fi []=false by rw[Fi]]
 by_cases h4:k=4
 ·simp[h4]
 ·by_cases h1:k=1<;>simp[h1,h4]
theorem Ul (k:Int) (us:List RT) (u:RT):pE k (us++[u])=if k=4 then (pE k us&&DD u)else (pE k us||DD u):=by
 unfold pE
 by_cases h4:k=4
 ·rw[if_pos h4,if_pos h4,if_pos h4,TC]
 ·rw[if_neg h4,if_neg h4,if_neg h4]
  by_cases h1:k=1
  ·rw[if_pos h1,if_pos h1];rfl
  ·rw[if_neg h1,if_neg h1,Tw]
theorem Aj_ {x:Nd} {ks:List RT} (h:DR (.mk x ks)=true) (hn:¬(x.k=2\/x.k=3)):DD (.mk x ks)=(pE x.k ks||decide (x.k=6)||decide (x.k=8)):=by
 have hm:=(BJ h).1;rw[UT,if_neg hn];unfold pE
 by_cases h5:x.k=5
 ·simp[h5]
 by_cases h4:x.k=4
 ·simp[h4]
 by_cases h7:x.k=7
 ·obtain⟨u,rfl⟩:=OP h (by omega);rw[h7];simp[No,Jz,Fi]
 by_cases h1:x.k=1
 ·simp[h1]
 by_cases h6:x.k=6
 ·simp[h6]
 by_cases h8:x.k=8
 ·simp[h8]
 exfalso;unfold CL at hm;rw[if_neg h1,if_neg (fun e=>hn (.inl e)),if_neg (fun e=>hn (.inr e)),if_neg h4,if_neg h5,if_neg h6,if_neg h7,if_neg h8]at hm;simp at hm
end Go.Proofs.Wy
end
