/- Parts of a proof, laid together: EnSi, BO1, BO2, BO5, BO3. -/
import Derived.Shelf.Sort.Plain
import Derived.Shelf.Slices.In.SortNone
import Derived.Shelf.Spec.SlicesGrow
import Derived.Test.YtbpmiknobocjoaaGreatqAp17
import Derived.Test.YtbpmiknobocjoaaGreatqAp25
import Derived.Test.YtbpmiknobocjoaaGreatqAp26
import Derived.Test.YtbpmiknobocjoaaGreatqAp30
import Derived.Test.YtbpmiknobocjoaaGreatqAp32
set_option linter.unusedSimpArgs false
set_option maxHeartbeats 8000000
set_option linter.unusedVariables false
set_option linter.unusedSectionVars false
section
namespace Go.Dm
variable [DMode]
open Go.Shelf Go.Sort Go.Proofs Go.RowKit
def Jt (l:List Int):List Int:=l.mergeSort fun x y=>decide (x<=y)
theorem KU (l:List Int):(Jt l).length=l.length:=by simp[Jt]
def dZ (z:Int):List DVal:=[.int .i64 z]
theorem Va {P:Program} {ρ:Ren} (L:Lays.n189 P ρ) {f:FuncId} {et bs:Nat} (hf:ρ.f 189=f) (vJ:Enters P f) (hbs0:0<bs) (l:List Int) :
  Bj P (.func f) [.osl 0 0] [⟨0,0,.row et 1 bs (l.map dZ)⟩] (.tup []) [⟨0,0,.row et 1 bs ((Jt l).map dZ)⟩]:=by
 refine⟨by simp,vJ,fun M w loc vs S hr=> ?_⟩;refine⟨vJ,?_⟩;simp only[rdV]at hr;obtain⟨v0,r0,wS,h0,rfl⟩:=hr;simp only[rd]at h0;have bY:∀l:List Int,Ac [(⟨0,0,.row et 1 bs (l.map dZ)⟩:Ent)] loc 0 0=some (loc 0):=fun _=>rfl
 have kN:=h0 _ (bY l);have zV:vs= #[v0]:=by cases vs;simpa using wS
 subst zV;subst hf;have wQ:∀l:List Int,Aa [(⟨0,0,.row et 1 bs (l.map dZ)⟩:Ent)] loc=(loc 0).blks:=fun _=>by simp[Aa]
 have jP:∀cur M h,rd cur M h (.tup []) (.tuple #[]):=fun _ _ _=>by simp only[rd];exact⟨#[],rfl,by simp[rdV]⟩
 have hk:=S.ok ⟨0,0,.row et 1 bs (l.map dZ)⟩ (by simp)
 by_cases qF:l=[]
 ·subst qF
  obtain⟨a,cap,hh⟩:∃a cap,(loc 0).hdr= .slice a 0 cap:=by
   obtain⟨_,⟨_,_,h2⟩ | ⟨b,arr,cap,_,h2,_⟩⟩:=hk
   ·exact⟨_,_,h2⟩
   ·exact⟨_,_,h2⟩
  rw[hh]at kN;subst kN;refine(Any.slices_Sort_int_none L a cap w).mono ?_;rintro e w' ⟨rfl,rfl⟩;have e0:Jt []=[]:=by simp[Jt]
  rw[e0];exact⟨_,rfl,loc,S,Upd.refl _ _,fun b hb=> .inl hb,fun e he _=>Ay S.nd he,jP _ _ _⟩
 ·obtain⟨b,arr,cap,p1,p2,p3,p4,p5,p6,p7⟩:∃b arr cap,(loc 0).blks=[b]/\(loc 0).hdr= .slice (some ⟨b,0,none⟩) (l.map dZ).length cap/\w.heap[b]? =some (.cells arr et (0,0))/\(l.map dZ).length<=cap/\cap<=maxLen/\cap*1=arr.size/\Dt (Ac [(⟨0,0,.row et 1 bs (l.map dZ)⟩:Ent)] loc) (Aa [(⟨0,0,.row et 1 bs (l.map dZ)⟩:Ent)] loc++M) w.heap 1 (l.map dZ) arr 0:=by
   obtain⟨_,⟨h,_⟩ | h⟩:=hk
   ·exact absurd (List.map_eq_nil_iff.1 h) qF
   ·exact h
  have wI:(l.map dZ).length*bs<=150000000000000:=hk.1;rw[p2]at kN;subst kN;rw[aJ0]at p2 p4 wI
  have dY:∀s∈l,KV .i64 s/\True:=by
   intro s hs;obtain⟨i,hi,rfl⟩:=bW0 hs;obtain⟨q1,q2⟩:=Dh 1 _ arr 0 i [.int .i64 l[i]] p7 (by simp[dZ,hi]);obtain⟨us,g1,g2,g3⟩:=Ia _ _ _ q2;simp only[rdV,rd]at g2;obtain⟨v,_,_,⟨_,h⟩,_⟩:=g2;exact⟨h,trivial⟩
  have vK:∀i (hi:i<l.length),arr[i]? =some (.int .i64 l[i]):=by
   intro i hi;obtain⟨q1,q2⟩:=Dh 1 _ arr 0 i [.int .i64 l[i]] p7 (by simp[dZ,hi]);obtain⟨us,g1,g2,g3⟩:=Ia _ _ _ q2;simp only[rdV,rd]at g2;obtain⟨v,r,rfl,⟨rfl,_⟩,_⟩:=g2;have:=(g3 0 _ rfl).1;simpa using this
  obtain⟨ss,gF⟩:∃ss,ss=l:=⟨_,rfl⟩;have gV:ss.length=l.length:=by rw[gF]
  have hH:Holds (Value.int .i64) w b 0 ss.toArray:=by
   intro j hj;simp only[dJ0,gV]at hj;refine⟨?_,Lib.frozen_of_heap p3 _⟩;rw[bQ0,Lib.cell_of_heap p3,vK j hj];rw[getElem!_pos _ j (by simpa[gV]using hj)];simp[gF]
  have qV:ss.length<4611686018427387904:=by
   rw[gV];have h1:l.length*1<=l.length*bs:=cO0 _ hbs0;omega
  have kP:b<w.heap.size:=(aC0.1 p3).1;have key:=Any.slices_Sort_int L b 0 cap ss w hH kP qV;rw[gV]at key;simp only[aJ0];refine key.mono ?_;rintro e w' ⟨rfl,n,os,rfl⟩;obtain⟨q1,q2,q3,q4,q5,q6,q7⟩:=Ax_ (Value.int .i64) (et:=et) (arr:=arr) p3 n os (ss.mergeSort fun x y=>decide (x<=y)).toArray;have hse:Jt l=(ss.mergeSort fun x y=>decide (x<=y)):=by rw[gF];rfl
  have zS:(ss.mergeSort fun x y=>decide (x<=y)).length=l.length:=by simp[gV]
  refine⟨_,rfl,loc,⟨by simp,by rw[wQ,p1];simp,fun q hq=>S.ap q (by rw[wQ];rwa[wQ]at hq),fun q hq=> ?_,?_⟩,?_,fun q hq=> .inl (by rw[wQ];rwa[wQ]at hq),?_,jP _ _ _⟩
  ·refine cB0 (S.lt q ?_) q3;rw[wQ]at hq |-;exact hq
  ·intro e he;simp only[aE0]at he;subst he;refine⟨by simpa[KU]using wI,.inr ⟨b,_,cap,p1,by simpa[KU]using p2,q1,by simpa[KU]using p4,p5,by simpa[putCells]using p6,?_⟩⟩;refine EA _ _ _ _ fun i cs0 hi=> ?_
   have kI:i<l.length:=by
    have:=(aB0.1 hi).1;simpa[KU]using this
   rw[hse]at hi;have him:i<(ss.mergeSort fun x y=>decide (x<=y)).length:=by omega
   simp only[cC0,bH0,aI0 him,cU0,Function.comp_apply,aA0]at hi;subst hi;refine⟨rfl,?_⟩;have qY:(ss.mergeSort fun x y=>decide (x<=y))[i]∈ss:=(dW0 ss _).mem_iff.1 (dE0 him)
   have qI:KV .i64 ((ss.mergeSort fun x y=>decide (x<=y))[i]):=by
    generalize (ss.mergeSort fun x y=>decide (x<=y))[i]=y at qY |-
    rw[gF]at qY;exact(dY y qY).1
   have h0:=Hz (cur:=Ac [(⟨0,0,.row et 1 bs ((Jt l).map dZ)⟩:Ent)] loc) (M:=Aa [(⟨0,0,.row et 1 bs ((Jt l).map dZ)⟩:Ent)] loc++M) (H:=(grow (putRow (Value.int .i64) (Sort.ahead w n) b 0 (ss.mergeSort fun x y=>decide (x<=y)).toArray) os).heap) [.int .i64 ((ss.mergeSort fun x y=>decide (x<=y))[i])] [.int .i64 ((ss.mergeSort fun x y=>decide (x<=y))[i])] [] [] (by simp only[rdV,rd];exact⟨_,_,rfl,⟨rfl,qI⟩,rfl⟩) (by simp[Value.oneCell'])
   refine CX _ _ _ _ _ (fun p hp=> ?_) h0;have wM:p=0:=by simp[dZ]at hp;omega
   subst wM;have hia:i<arr.size:=by omega
   simp only[putCells,Array.getElem?_mapIdx];rw[show 0+i*1+0=i by omega,bO0 hia];simp[him,zS,kI,gV]
  ·rw[wQ,p1];exact⟨q4,q5,q6,fun _=>q7,q3,fun q hq hn=>q2 q hq (fun h=>hn (by simp[h]))⟩
  ·intro e he _;simp only[aE0]at he;subst he;rfl
theorem lC {P:Program} {ρ:Ren} (L:Lays8.n4 P ρ) {f:FuncId} {et bs:Nat} (hf:ρ.f 4=f) (vJ:Enters P f) (het:ρ.t 25=et) {i0:TypeInfo} {z:Value} (hi0:P.info? et=some i0) (hz0:i0.zero=some z) (hzc:z.cells.size=1) (hs0:i0.size=1) (qR:i0.bytes=bs) (wI:1<=bs)
  (n:Nat) (hn:n*bs<=140737488355328):Bj P (.func f) [.nilsl,.int .i64 n] [] (.osl 0 1) [⟨0,1,.row et 1 bs []⟩]:=by
 refine⟨by simp,vJ,fun M w loc vs S hr=> ?_⟩;refine⟨vJ,?_⟩;simp only[rdV,rd]at hr;obtain⟨v0,r0,wS,rfl,v1,r1,rfl,⟨rfl,_⟩,rfl⟩:=hr;have zV:vs= #[.slice none 0 0,.int .i64 n]:=by cases vs;simpa using wS
 subst zV hf het;have hnn:n<=n*bs:=Nat.le_mul_of_pos_right _ wI;have hM:∀b∈M,b<w.heap.size:=fun b hb=>S.lt b (by simpa[Aa]using hb)
 by_cases h0:n=0
 ·subst h0;refine(Any8.slices_Grow_room L none 0 0 0 w (by omega) (by omega) (by omega) (by omega)).mono ?_;rintro e w' ⟨rfl,rfl⟩;refine⟨_,rfl,fun _=>⟨[],.slice none 0 0⟩,⟨by simp,by simp[Aa],by simp[Aa],fun b hb=>hM b (by simpa[Aa]using hb),fun e he=> ?_⟩,Upd.refl _ _,fun b hb=>by simp[Aa]at hb,fun e he h=> ?_,?_⟩
  ·simp only[aE0]at he;subst he;exact⟨by simp,.inl ⟨rfl,rfl,rfl⟩⟩
  ·simp only[aE0]at he;subst he;simp at h
  ·simp only[rd];intro l hl;simp[Ac,Ah]at hl;rw[<-hl]
 ·refine(Any8.slices_Grow_grow L i0 z hi0 hz0 (by omega) none 0 0 n [] w (by omega) (by omega) (by rw[qR];simpa using hn) (by omega) (by simp) (fun _=>rfl) (by simp)).mono ?_;rintro e w' ⟨rfl,rfl⟩;obtain⟨G,hG⟩:∃G,G=grownCap w (0+n) 0 (ρ.t 25):=⟨_,rfl⟩;have fI:0+n<=G:=by rw[hG];exact grownCap_ge w _ _ _
  have hGm:G<=maxLen:=by rw[hG];exact grownCap_le_maxLen w _ _ _ (by unfold maxLen;omega)
  rw[<-hG];have hU:Upd [] w (w.drew.alloc (.cells ((#[]:Array Value)++Builtin.zeroCells z.cells (0+n-0)++Builtin.zeroCells z.cells (G-(0+n))) (ρ.t 25))):=(Upd.drew _ w).trans (Upd.alloc _ w.drew _) (fun x hx=> .inl hx);refine⟨_,rfl,fun _=>⟨[w.heap.size],.slice (some ⟨w.heap.size,0,none⟩) 0 G⟩,⟨by simp,by simp[Aa],fun b hb hm=> ?_,fun b hb=> ?_,fun e he=> ?_⟩,hU,fun b hb=> ?_,fun e he h=> ?_,?_⟩
  ·simp[Aa]at hb;subst hb;exact absurd (hM _ hm) (by omega)
  ·have h1:w.heap.size<(w.drew.alloc (.cells ((#[]:Array Value)++Builtin.zeroCells z.cells (0+n-0)++Builtin.zeroCells z.cells (G-(0+n))) (ρ.t 25))).heap.size:=by
    show w.heap.size<(w.heap.push _).size
    simp
   rcases aG0.1 hb with hb | hb
   ·simp[Aa]at hb;subst hb;exact h1
   ·exact Nat.lt_trans (hM b hb) h1
  ·simp only[aE0]at he;subst he;refine⟨by simp,.inr ⟨w.heap.size,_,G,rfl,rfl,heap_alloc_new w.drew _,by simp,hGm,?_,by simp[Dt]⟩⟩;simp only[Array.size_append,size_zeroCells,hzc];simp;omega
  ·simp[Aa]at hb
   right
   omega
  ·simp only[aE0]at he;subst he;simp at h
  ·simp only[rd];intro l hl;simp[Ac,Ah]at hl;rw[<-hl]
theorem Gf {P:Program} {f:FuncId} {args:List DVal} {et k bs:Nat} (h:Af P f args .nilsl):Bj P (.func f) args [] (.osl 0 1) [⟨0,1,.row et k bs []⟩]:=by
 refine⟨by simp,h.1,fun M w loc vs S hr=>⟨h.1,(h.2.2 _ _ _ _ S.lt hr).mono ?_⟩⟩;rintro e w' ⟨v,rfl,hu,hv⟩;have hM:∀b∈M,b<w'.heap.size:=fun b hb=>cB0 (S.lt b (aN0 _ hb)) hu.size
 simp only[rd]at hv;refine⟨_,rfl,fun _=>⟨[],.slice none 0 0⟩,⟨by simp,by simp[Aa],by simp[Aa],fun b hb=>hM b (by simpa[Aa]using hb),fun e he=> ?_⟩,by simpa[Aa]using hu,fun b hb=>by simp[Aa]at hb,fun e he h=> ?_,?_⟩
 ·simp only[aE0]at he;subst he;exact⟨by simp,.inl ⟨rfl,rfl,rfl⟩⟩
 ·simp only[aE0]at he;subst he;simp at h
 ·simp only[rd];intro l hl;simp[Ac,Ah]at hl;rw[<-hl];exact hv
theorem NK {P:Program} {f:FuncId} {k bs:Nat} {d:DVal} {own':List Ent} (h1:Bj P (.func f) [.nilsl] [] d own') (h2:Bj P (.func f) [.esl] [] d own'):Bj P (.func f) [.sl k bs []] [] d own':=by
 refine⟨h1.1,h1.2.1,fun M w loc vs S hr=> ?_⟩;simp only[rdV]at hr;obtain⟨v,r,wS,h5,rfl⟩:=hr;simp only[rd]at h5;obtain⟨a,cap,rfl,_,hc,_,h7⟩:=h5
 cases a with
 | none =>
  have:cap=0:=by
   rcases h7 with h7 | ⟨b,off,arr,ty,fz,h8,_⟩
   ·exact h7.2 rfl
   ·simp at h8
  subst this;refine h1.2.2 M w loc vs S ?_;rw[wS];simp only[rdV];exact⟨_,_,rfl,by simp[rd],rfl⟩
 | some ad =>
  refine h2.2.2 M w loc vs S ?_;rw[wS];simp only[rdV];exact⟨_,_,rfl,by simp only[rd];exact⟨ad,cap,rfl,hc⟩,rfl⟩
end Go.Dm
end
section
namespace Go.Proofs.Wy
open Go Go.Dm Go.Shelf Tryz
variable [DMode]
attribute [local irreducible] DW BN BS
set_option maxRecDepth 100000
def Np (ls:List (List Nat)):List Nat:=ls.flatten
def Ln (ls:List (List Nat)):Nat:=(Np ls).length
theorem Uz (ls:List (List Nat)) (l:List Nat):Np (ls++[l])=Np ls++l:=by simp[Np]
theorem Zf : Np []=[]:=rfl
theorem Tw (ls:List (List Nat)) (l:List Nat):Ln (ls++[l])=Ln ls+l.length:=by unfold Ln;rw[Uz,aD0]
def Vg (l:List Nat):List DVal:=[CI l]
@[simp] theorem Fw_ (l:List Nat):AJ (Vg l)=0:=by simp[Vg,AJ,mx]
@[simp] theorem HU_ (l:List (List Nat)):Br (l.map Vg)=0:=Ie _ Fw_ l
def Lh : Ann:=⟨[5],[]⟩
theorem Nl (l:List Nat) (hl:l.length*8<=140737488355328):Bj prog (.func 33) [CI l] [] (.osl 0 1) [⟨0,1,.row 3 1 8 (l.map Bd)⟩]:=by
 match l,hl with
 | [],_ =>
  refine NK ?_ ?_
  ·refine Gf ?_;refine Ae [] Lh func33 call33 ntmps33 mxd (AB @Lh.eq_1 results33) rfl (fun qJ B qX qQ=> ?_);simp only[Aq];exact Az Ab Ab Ab
  ·refine BL [] [(5,0,1)] Lh func33 call33 ntmps33 mxd (AB @Lh.eq_1 results33) rfl (fun qJ B qX qQ=> ?_);simp only[Aq,List.nil_append];exact Az Ab Ab Ab
 | x::l,hl =>
  refine BL [] [(5,0,1)] Lh func33 call33 ntmps33 mxd (AB @Lh.eq_1 results33) rfl (fun qJ B qX qQ=> ?_);simp only[List.length_cons]at hl;have vR:(l.length+1)*8<=150000000000000:=by omega
  have fU:l.length<9223372036854775807:=by omega
  simp only[Aq,List.nil_append,List.map_cons,CI,Bd];exact Az Ab Ab Ab
theorem lB (n:Nat) (hn:n*8<=140737488355328):Bj prog (.func 124) [.nilsl,.int .i64 n] [] (.osl 0 1) [⟨0,1,.row 3 1 8 []⟩] :=
 lC Tryz.growI rfl call124 rfl (hi0:=(rfl:Tryz.prog.info? 3=some _)) (z:= .int .i64 0) rfl rfl rfl rfl (by decide) n hn
theorem SQ (l:List Int):Bj prog (.func 53) [.osl 0 0] [⟨0,0,.row 3 1 8 (l.map Dj)⟩] (.tup []) [⟨0,0,.row 3 1 8 ((Jt l).map Dj)⟩] :=
 Va Tryz.sortInt rfl call53 (by decide) l
def uX : Ann:=⟨[24],[]⟩
theorem Sf (ls:List (List Nat)) (hb:Ln ls*8<=140737488355328):Bj prog (.func 79) [.sl 1 24 (ls.map Vg)] [] (.osl 0 1) [⟨0,1,.row 3 1 8 ((Np ls).map Bd)⟩]:=by
 refine BL [] [(24,0,1)] uX func79 call79 ntmps79 mxd (AB @uX.eq_1 results79) rfl (fun qJ B qX qQ=> ?_);simp only[Aq,List.nil_append]
 have hsum:∀k,k<=ls.length->Ln (ls.take k)*8<=140737488355328:=fun k hk=>by
  unfold Ln Np at hb |-;have h1:ls.flatten.length=(ls.take k).flatten.length+(ls.drop k).flatten.length:=by rw[<-aD0,<-List.flatten_append,List.take_append_drop]
  omega
 have bW:ls.length<9223372036854775807:=by
  have h1:=qJ.1;simp only[Ev,aJ0]at h1;have h2:=h1.1;unfold maxLen at h2;omega
 clear qJ
 (refine AL Ab Ab Ab ?_;intros;refine Am ?_)
 refine Ai (X:={k:Nat//k<=ls.length}) (fun k=>⟨[(0,.sl 1 24 (ls.map Vg)),(3,.int .i64 (Ln (ls.take k.1))),(9,.sl 1 24 (ls.map Vg)),(10,.int .i64 ls.length),(11,.int .i64 k.1)],[]⟩) (fun k=>ls.length-k.1) ⟨0,by omega⟩ (Sub.lit (by simp[Ln,Zf])) ?_;rintro⟨k,hk⟩;simp only
 by_cases qV:k<ls.length
 ·obtain⟨x,hx,qB,vD⟩:=Ap qV;have gO:Ln (ls.take (k+1))=Ln (ls.take k)+x.length:=by rw[Bh hx,Tw]
  have zK:=hsum (k+1) qV;obtain⟨m,hm⟩:∃m,m=Ln (ls.take k):=⟨_,rfl⟩;rw[gO,<-hm]at zK;rw[<-hm]at gO |-
  (refine AL Ab Ab (IF qV hx qB @Vg.eq_1) ?_;intros;refine Am ?_)
  refine Al.mk ⟨k+1,by omega⟩ (Sub.lit (by simp[gO])) (by simp;omega)
  skip
 ·have qZ:k=ls.length:=by omega
  subst qZ;rw[aU0];have e1:=lB _ hb
  (refine AL Ab (AH (JA [] [(24,0)] e1)) Ab ?_;intros;refine Am ?_)
  refine Ai (X:={k:Nat//k<=ls.length}) (fun k=>⟨[(6,.osl 24 1),(25,.sl 1 24 (ls.map Vg)),(26,.int .i64 ls.length),(27,.int .i64 k.1)],[⟨24,1,.row 3 1 8 ((Np (ls.take k.1)).map Bd)⟩]⟩) (fun k=>ls.length-k.1) ⟨0,by omega⟩ (Sub.lit (by simp[Zf])) ?_;rintro⟨k,hk⟩;simp only
  by_cases qV:k<ls.length
  ·obtain⟨x,hx,qB,vD⟩:=Ap qV;have gO:(Np (ls.take (k+1))).map Bd=(Np (ls.take k)).map Bd++x.map Bd:=by rw[Bh hx,Uz,bD0]
   have zK:=hsum (k+1) qV;have hs3:Ln (ls.take (k+1))=Ln (ls.take k)+x.length:=by rw[Bh hx,Tw]
   obtain⟨F,hF⟩:∃F,F=Np (ls.take k):=⟨_,rfl⟩;have hFl:F.length=Ln (ls.take k):=by rw[hF];rfl
   rw[hs3,<-hFl]at zK;rw[<-hF]at gO |-;have hs4:(F.length+x.length)*8<=150000000000000:=by omega
   (refine AL Ab Ab (Lj qV hx qB @Vg.eq_1 hs4) ?_;intros;refine Am ?_)
   refine Al.mk ⟨k+1,by omega⟩ (Sub.lit (by simp[gO])) (by simp;omega)
   skip
  ·have qZ:k=ls.length:=by omega
   subst qZ;rw[aU0];exact Az Ab Ab Ab
def Dd (SF:List Sym) (P:List (Nat×Nat)):List Arc:=P.map (PD SF)
theorem BJ_ (SF:List Sym):Dd SF []=[]:=rfl
theorem Gp (SF:List Sym) (P Q:List (Nat×Nat)):Dd SF (P++Q)=Dd SF P++Dd SF Q:=by simp[Dd]
theorem KZ (SF:List Sym) (P:List (Nat×Nat)):(Dd SF P).length=P.length:=by simp[Dd]
def Ic (x:Nat) (f:List Nat):List (Nat×Nat):=f.map fun q=>(x,q)
theorem iE (x:Nat) (f:List Nat) (q:Nat):Ic x (f++[q])=Ic x f++[(x,q)]:=by simp[Ic]
theorem AC_ (x:Nat):Ic x []=[]:=rfl
theorem TK (x:Nat) (f:List Nat):(Ic x f).length=f.length:=by simp[Ic]
def BC (u v:Nat) (S:List Sym) (A:List Arc):List Ent:=[⟨0,0,.box [.osl 1 u,.osl 2 v]⟩,⟨1,u,.row 40 2 16 (S.map Ch)⟩,⟨2,v,.row 42 4 32 (A.map AN)⟩]
theorem iV (l f:List Nat) (x:Nat):Cn (l++[x]) f=Cn l f++Ic x f:=by simp[Cn,Ic]
theorem Ov (l f:List Nat):(Cn l f).length=l.length*f.length:=by
 induction l with
 | nil=>simp[Cn]
 | cons x l ih =>
  have:Cn (x::l) f=(f.map fun q=>(x,q))++Cn l f:=rfl;rw[this,aD0,ih,aJ0,List.length_cons,bV0];omega
theorem HM_ {S SF:List Sym} (hp:S <+: SF) {q:Nat} (h1:1<=q) (h2:q<=S.length):S[q-1]? =some (SF.getD (q-1) ⟨false,0⟩):=by
 obtain⟨R,rfl⟩:=hp;have h:q-1<S.length:=by omega
 rw[bK0,bC0 h,aI0 h];rfl
def Qj : Ann:=⟨[],[⟨6,[],[0],[]⟩]⟩
theorem Kj (S SF:List Sym) (A:List Arc) (l f:List Nat) (hp:S <+: SF) (hf:∀q∈f,1<=q/\q<=S.length) (hS:S.length<9223372036854775807) (hb:(A.length+l.length*f.length)*32<=150000000000000) :
  Bj prog (.func 50) [.bx 0 0 0,CI l,CI f] (BC 0 0 S A) (.tup []) (BC 0 1 S (A++Dd SF (Cn l f))):=by
 refine BL [] [(0,0,0),(1,1,0),(2,2,1)] Qj func50 call50 ntmps50 mxd (AB @Qj.eq_1 results50) rfl (fun qJ B qX qQ=> ?_) (hv:=(by simp[BC]))
 have bW:l.length<9223372036854775807/\f.length<9223372036854775807:=by
  have h1:=qJ;simp only[KI,Ev,aJ0,maxLen]at h1;omega
 clear qJ;simp only[Aq]
 (refine AL Ab Ab (AH @BC.eq_1) ?_;intros;refine Am ?_)
 refine Ai (X:={i:Nat//i<=l.length}) (fun i=>⟨[(0,.bx 0 0 0),(2,CI f),(10,CI l),(11,.int .i64 l.length),(12,.int .i64 i.1)],BC 0 1 S (A++Dd SF (Cn (l.take i.1) f))⟩) (fun i=>l.length-i.1) ⟨0,by omega⟩ (Sub.lit (by simp[BC,Bd_,BJ_])) ?_;rintro⟨i,hi⟩;simp only
 by_cases qV:i<l.length
 ·obtain⟨x,hx,qB,vD⟩:=Ap qV;have pA:=iV (l.take i) f x;rw[<-Bh hx]at pA
  have hjl:(Cn (l.take (i+1)) f).length<=l.length*f.length:=by
   rw[Ov];exact aW0 _ (by rw[aY0];omega)
  rw[pA,aD0,TK]at hjl;obtain⟨P,hP⟩:∃P,P=Cn (l.take i) f:=⟨_,rfl⟩;rw[<-hP]at hjl pA |-
  (refine AL Ab Ab (Lj @BC.eq_1 qV hx qB @Bd.eq_1) ?_;intros;refine Am ?_)
  refine Ai (X:={j:Nat//j<=f.length}) (fun j=>⟨[(0,.bx 0 0 0),(2,CI f),(7,.int .i64 x),(10,CI l),(11,.int .i64 l.length),(12,.int .i64 i),(16,CI f),(17,.int .i64 f.length),(18,.int .i64 j.1)],BC 0 1 S (A++Dd SF (P++Ic x (f.take j.1)))⟩) (fun j=>f.length-j.1) ⟨0,by omega⟩ (Sub.lit (by simp[BC,AC_])) ?_;rintro⟨j,hj⟩;simp only
  by_cases qL:j<f.length
  ·obtain⟨q,hq,wB,mN⟩:=Ap qL;obtain⟨jT,yE⟩:=hf q mN;have zF:q-1<S.length:=by omega
   obtain⟨y,hy,yX,mH⟩:=Ap zF
   have hA:PD SF (x,q)=⟨x,y,q⟩:=by
    have hsy:=HM_ hp jT yE;rw[hy]at hsy;simp only[aA0]at hsy;unfold PD;rw[<-hsy]
   have vC:Dd SF (P++Ic x (f.take (j+1)))=Dd SF (P++Ic x (f.take j))++[⟨x,y,q⟩]:=by rw[Bh hq,iE,<-aS0,Gp,<-hA];rfl
   have hln:(Dd SF (P++Ic x (f.take j))).length+1<=l.length*f.length:=by rw[KZ,aD0,TK,aY0];omega
   obtain⟨Z,hZ⟩:∃Z,Z=Dd SF (P++Ic x (f.take j)):=⟨_,rfl⟩;rw[<-hZ]at vC hln |-;have wX:(A.length+Z.length+1)*32<=150000000000000:=by omega
   have vU:IntKind.i64.wrap ((q:Int)-1)=((q-1:Nat):Int):=by rw[wq];omega
   (repeat (first | refine AC fun K hK=> ?_ | (refine BA Qj mxd (by kernel_rfl) ?_;simp[Qj,qX,BC,qL,hq,wB,Bd,vU,zF,hy,yX,Ch];try simp (disch:=omega) only[Ag]) | refine Ao ?_ | (refine AX ?_ ?_ ?_;(· (simp[qX,BC,qL,hq,wB,Bd,vU,zF,hy,yX,Ch];done));(try (rotate_left;(· (intro hc;(try simp[qX,BC,qL,hq,wB,Bd,vU,zF,hy,yX,Ch]at hc);done))))) | (refine AE ?_;simp[results50,qX,BC,qL,hq,wB,Bd,vU,zF,hy,yX,Ch]) | ((first | refine Aw ?_ | refine Av ?_);simp[qX,BC,qL,hq,wB,Bd,vU,zF,hy,yX,Ch]) | (intro hc;(try simp[qX,BC,qL,hq,wB,Bd,vU,zF,hy,yX,Ch]at hc);(try (exfalso;omega))) | (refine⟨?_,?_⟩; · omega) | omega | apply_assumption -exfalso -symm | (exfalso;omega)))
   refine Al.mk ⟨j+1,by omega⟩ (Sub.lit (by simp[BC,vC,AN])) (by simp;omega)
   skip
  ·have qZ:j=f.length:=by omega
   subst qZ;rw[aU0,<-pA]
   (refine AL Ab Ab (AH @BC.eq_1) ?_;intros;refine Am ?_)
   refine Al.mk ⟨i+1,by omega⟩ (Sub.lit (by simp[BC])) (by simp;omega)
   skip
 ·have qZ:i=l.length:=by omega
  subst qZ;rw[aU0];exact Az Ab Ab (AH @BC.eq_1)
end Go.Proofs.Wy
end
section
namespace Go.Proofs.Wy
open Go Go.Dm Tryz
variable [DMode]
theorem FY (l m:List Nd):Cq (l++m)=Cq l++Cq m:=by simp[Cq]
theorem Yl (x:Nd) (l:List Nd):Cq (x::l)=(if BV x=true then [x]else [])++Cq l:=by unfold Cq;rw[List.filter_cons];cases BV x<;>rfl
theorem Bm_ (u:RT):An [u]=Ad u:=by rw[Ax,Ce,bR0]
theorem Rj {x:Nd} (h:x.k=2\/x.k=3) (l:List Nd):Cq (x::l)=x::Cq l:=by rw[Yl,if_pos (BF.2 h)];rfl
theorem Kd {x:Nd} (h:¬(x.k=2\/x.k=3)) (l:List Nd):Cq (x::l)=Cq l:=by rw[Yl,if_neg (fun hh=>h (BF.1 hh))];rfl
mutual
theorem Qf : ∀(t:RT) (a:Nat),(SL t a).length<=(Cq (Ad t)).length
 | .mk x ks,a=>by
  rw[OA,AQ]
  split
  ·rename_i h;rw[Rj h];simp
  ·rename_i h;rw[Kd h];exact Qg x.k ks (a+1)
theorem Qg (k:Int):∀(us:List RT) (a:Nat),(Wf k us a).length<=(Cq (An us)).length
 | [],a=>by rw[KW];simp
 | u::us,a=>by
  have h1:=Qf u a;have h2:=Qg k us (a+(Ad u).length);rw[GL,Ax,FY,aD0,aD0]
  split
  ·simp;omega
  ·omega
end
mutual
theorem PZ : ∀(t:RT) (a:Nat),(NO t a).length<=(Cq (Ad t)).length
 | .mk x ks,a=>by
  rw[Ma,AQ]
  split
  ·rename_i h;rw[Rj h];simp
  ·rename_i h;rw[Kd h];exact Qa x.k ks (a+1)
theorem Qa (k:Int):∀(us:List RT) (a:Nat),(Ps k us a).length<=(Cq (An us)).length
 | [],a=>by rw[Hm];simp
 | u::us,a=>by
  have h1:=PZ u a;have h2:=Qa k us (a+(Ad u).length);rw[EG,Ax,FY,aD0]
  split
  ·rw[aD0]
   split
   ·omega
   ·simp;omega
  ·rw[aD0];omega
end
theorem Qb {l f:List Nat} (h1:l.length<=64) (h2:f.length<=64):l.length*f.length<=4096:=Nat.mul_le_mul h1 h2
mutual
theorem Wz : ∀(t:RT) (a:Nat),(Cq (Ad t)).length<=64->(Zq t a).length+4096<=8192*(Ad t).length
 | .mk x ks,a,hM=>by
  rw[Mj,AQ,List.length_cons]
  split
  ·simp;omega
  ·rename_i h;rw[AQ,Kd h]at hM;have h1:=WB x.k ks (a+1) [] (by simpa using hM);have h2:=Qa x.k ks (a+1);have h3:=Qg x.k ks (a+1);rw[aD0]
   split
   ·rw[Ov];have:=Qb (l:=Ps x.k ks (a+1)) (f:=Wf x.k ks (a+1)) (by omega) (by omega);omega
   ·simp;omega
theorem WB (k:Int):∀(us:List RT) (a:Nat) (acc:List Nat),acc.length+(Cq (An us)).length<=64->(Zu k us a acc).length<=8192*(An us).length
 | [],a,acc,_=>by rw[Ji];simp
 | u::us,a,acc,hM=>by
  rw[Ax,FY,aD0]at hM;have h1:=Wz u a (by omega);have h2:=Qf u a;have h3:=PZ u a
  have h4:=WB k us (a+(Ad u).length) (if k=4 then NO u a++(if BZ u=true then acc else [])else []) (by
   split
   ·rw[aD0]
    split
    ·omega
    ·simp;omega
   ·simp;omega)
  rw[Ed,Ax,aD0,aD0,aD0]
  split
  ·rename_i h5;rw[if_pos h5]at h4;rw[Ov];have:=Qb (l:=acc) (f:=SL u a) (by omega) (by omega);omega
  ·rename_i h5;rw[if_neg h5]at h4;simp only[List.length_nil];omega
end
theorem Ue (l f:List Nat) (L:List Nd) (ah:Nat):Cn (l.map (Fi L ah)) (f.map (Fi L ah))=(Cn l f).map (VB L ah):=by
 induction l with
 | nil=>rfl
 | cons p l ih =>
  have h1:∀(p:Nat) (l f:List Nat),Cn (p::l) f=f.map (fun q=>(p,q))++Cn l f:=fun _ _ _=>rfl
  rw[List.map_cons,h1,h1,ih,bD0,cC0,cC0];rfl
theorem Gv {l:List Nd} {a:Nat} {m r:List Nd} (h:l.drop a=m++r):IR l (a+m.length)=IR l a+(Cq m).length:=by
 unfold IR Cq
 have h1:l.take (a+m.length)=l.take a++m:=by
  rw[List.take_add,h,List.take_left'];rfl
 rw[h1,dI0,aD0]
theorem Ut {l:List Nd} {a:Nat} {m r:List Nd} (h:l.drop a=m++r):l.drop (a+m.length)=r:=by
 rw[<-eQ0,h,List.drop_left'];rfl
theorem FX_ {l:List Nd} {a p:Nat} {m r:List Nd} {x:Nd} (h:l.drop a=m++r) (hp:a<=p) (hx:m[p-a]? =some x):l[p]? =some x:=by
 have h1:(l.drop a)[p-a]? =some x:=by
  rw[h,bC0 (aB0.1 hx).1];exact hx
 rw[cQ0]at h1
 rwa[show a+(p-a)=p by omega]at h1
theorem sB {l:List Nd} {a:Nat} {m r:List Nd} (h:l.drop a=m++r):(Cq m).length<=(Cq l).length:=by
 have h1:Cq l=Cq (l.take a)++(Cq m++Cq r):=by rw[<-FY,<-h,<-FY,List.take_append_drop]
 rw[h1,aD0,aD0];omega
theorem VA {l m r:List Nd} {a ah q:Nat} (h:l.drop a=m++r) (hq:a<=q) (hx:∃x,m[q-a]? =some x/\(x.k=2\/x.k=3)):1<=Fi l ah q/\Fi l ah q<=ah+IR l (a+m.length):=by
 obtain⟨x,hx,hk⟩:=hx;have h1:=FX_ h hq hx;have h2:=eO h1 (BF.2 hk) (show q<a+m.length by have:=(aB0.1 hx).1;omega);unfold Fi;omega
theorem Ea_ {l r:List Nd} {t:RT} {a ah:Nat} (h:l.drop a=Ad t++r):∀q∈(SL t a).map (Fi l ah),1<=q/\q<=ah+IR l (a+(Ad t).length):=by
 intro q hq;obtain⟨p,hp,rfl⟩:=aT0.1 hq;exact VA h (Kr t a p hp).1 (Na t a p hp)
theorem FS_ {l r:List Nd} {k:Int} {us:List RT} {a ah:Nat} (h:l.drop a=An us++r):∀q∈(Wf k us a).map (Fi l ah),1<=q/\q<=ah+IR l (a+(An us).length):=by
 intro q hq;obtain⟨p,hp,rfl⟩:=aT0.1 hq;exact VA h (Mg k us a p hp).1 (Nb k us a p hp)
def pE (k:Int) (us:List RT):Bool:=if k=4 then FN us else if k=1 then true else Ep us
theorem UI (ts:List RT) (t:RT):Ep (ts++[t])=(Ep ts||BZ t):=by rw[Nv,Nv,eL0];simp
theorem GJ_ (k:Int):pE k []=(decide (k=1)||decide (k=4)):=by
 unfold pE;rw[GV,show Ep []=false by rw[Ep]]
 by_cases h4:k=4
 ·simp[h4]
 ·by_cases h1:k=1<;>simp[h1,h4]
theorem Fj_ (k:Int) (us:List RT) (u:RT):pE k (us++[u])=if k=4 then (pE k us&&BZ u)else (pE k us||BZ u):=by
 unfold pE
 by_cases h4:k=4
 ·rw[if_pos h4,if_pos h4,if_pos h4,OH]
 ·rw[if_neg h4,if_neg h4,if_neg h4]
  by_cases h1:k=1
  ·rw[if_pos h1,if_pos h1];rfl
  ·rw[if_neg h1,if_neg h1,UI]
theorem GK_ {x:Nd} {ks:List RT} (h:ED (.mk x ks)=true) (hn:¬(x.k=2\/x.k=3)):BZ (.mk x ks)=(pE x.k ks||decide (x.k=6)||decide (x.k=8)):=by
 have hm:=(Cg h).1;rw[Wj,if_neg hn];unfold pE
 by_cases h5:x.k=5
 ·simp[h5]
 by_cases h4:x.k=4
 ·simp[h4]
 by_cases h7:x.k=7
 ·obtain⟨u,rfl⟩:=PO h (by omega);rw[h7];simp[OI,GV,Ep]
 by_cases h1:x.k=1
 ·simp[h1]
 by_cases h6:x.k=6
 ·simp[h6]
 by_cases h8:x.k=8
 ·simp[h8]
 exfalso;unfold DZ at hm;rw[if_neg h1,if_neg (fun e=>hn (.inl e)),if_neg (fun e=>hn (.inr e)),if_neg h4,if_neg h5,if_neg h6,if_neg h7,if_neg h8]at hm;simp at hm
end Go.Proofs.Wy
end
section
namespace Go.Proofs.Wy
open Go Go.Dm Go.Shelf Tryz
variable [DMode]
attribute [local irreducible] DW BN BS
set_option maxRecDepth 100000
abbrev Nj (e:Bool) (f l:List Nat):DVal:= .agg [.bool e,CI f,CI l]
theorem Io_ (a b:List Nat):Np [a,b]=a++b:=by simp[Np]
theorem HL_ (a b:List Nat):Ln [a,b]=a.length+b.length:=by simp[Ln,Np]
theorem Gb (a b:List Nat) (hb:(a.length+b.length)*8<=140737488355328):Bj prog (.func 79) [.sl 1 24 [[CI a],[CI b]]] [] (.osl 0 1) [⟨0,1,.row 3 1 8 ((a++b).map Bd)⟩]:=by
 have h:=Sf [a,b] (by rw[HL_];exact hb);rw[Io_]at h;exact h
def uV : Ann:=⟨[16,22],[⟨1,[],[],[3,4,5,12,13,14,15,16]⟩]⟩
theorem oJ (e e':Bool) (f f' l l':List Nat) (hf:(f.length+f'.length)*8<=140737488355328) (hl:(l.length+l'.length)*8<=140737488355328) :
  Af prog 49 [Nj e f l,Nj e' f' l'] (Nj (e||e') (f++f') (l++l')):=by
 refine Ae [16,22,4] uV func49 call49 ntmps49 mxd (AB @uV.eq_1 results49) rfl (fun qJ B qX qQ=> ?_);clear qJ;simp only[Aq];have e1:=Gb f f' hf;have e2:=Gb l l' hl;obtain⟨F,hF⟩:∃F,F=f++f':=⟨_,rfl⟩;obtain⟨L,hL⟩:∃L,L=l++l':=⟨_,rfl⟩;rw[<-hF]at e1 |-;rw[<-hL]at e2 |-;have bA:List.range 2=[0,1]:=rfl;cases e
 ·exact Az Ab (AB (JA [] [(16,0)] e1) (JA [] [(22,0)] e2)) (AH bA)
 ·exact Az Ab (AB (JA [] [(16,0)] e1) (JA [] [(22,0)] e2)) (AH bA)
def UK : Ann:=⟨[16,22],[⟨1,[],[],[3,4,5,12,13,14,15,16]⟩]⟩
theorem oI (e e':Bool) (f f' l l':List Nat) (hf:(f.length+f'.length)*8<=140737488355328) (hl:(l.length+l'.length)*8<=140737488355328) :
  Bj prog (.func 49) [Nj e f l,Nj e' f' l'] [] (.agg [.bool (e||e'),CI (f++f'),.osl 0 1]) [⟨0,1,.row 3 1 8 ((l++l').map Bd)⟩]:=by
 refine BL [16,4] [(22,0,1)] UK func49 call49 ntmps49 mxd (AB @UK.eq_1 results49) rfl (fun qJ B qX qQ=> ?_);clear qJ;simp only[Aq,List.nil_append];have e1:=Gb f f' hf;have e2:=Gb l l' hl;obtain⟨F,hF⟩:∃F,F=f++f':=⟨_,rfl⟩;obtain⟨L,hL⟩:∃L,L=l++l':=⟨_,rfl⟩;rw[<-hF]at e1 |-;rw[<-hL]at e2 |-;have bA:List.range 2=[0,1]:=rfl;cases e
 ·exact Az Ab (AB (JA [] [(16,0)] e1) (JA [] [(22,0)] e2)) (AH bA)
 ·exact Az Ab (AB (JA [] [(16,0)] e1) (JA [] [(22,0)] e2)) (AH bA)
def uW : Ann:=⟨[],[⟨1,[4],[],[]⟩]⟩
theorem AK_ (H L:List ByteArray) (x:Nd):Af prog 48 [.agg (Bo x),.ref [CB H L]] (.agg (Ch (Ew H L x))):=by
 refine Ae [] uW func48 call48 ntmps48 mxd (AB @uW.eq_1 results48) rfl (fun qJ B qX qQ=> ?_) (hd:=(by simp[mx,Ch]));clear qJ;simp only[Aq];have e1:=Qv H L x;exact Az (AH e1) Ab (AB @Bo.eq_1 @Ch.eq_1)
end Go.Proofs.Wy
end
