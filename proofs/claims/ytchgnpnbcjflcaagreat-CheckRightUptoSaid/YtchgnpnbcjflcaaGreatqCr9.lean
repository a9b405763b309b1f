/- Parts of a proof, laid together: BN5, BN6, BN7, SY1, EnSi, BO1, BO2, BO5, BO3, EnFl, BO4, BO6, BO8, BX1, EnSu, BO9, BY0, BP0. -/
import Derived.Shelf.SlIter.Nil
import Derived.Shelf.SlIter.Sorted
import Derived.Shelf.SortM.Plain
import Derived.Shelf.SortM.SortNone
import Derived.Shelf.Sort.Plain
import Derived.Shelf.Slices.In.SortNone
import Derived.Shelf.Spec.SlicesGrow
import Derived.Test.YtchgnpnbcjflcaaGreatqCr4
import Derived.Test.YtchgnpnbcjflcaaGreatqCr5
import Derived.Test.YtchgnpnbcjflcaaGreatqCr6
import Derived.Test.YtchgnpnbcjflcaaGreatqCr8
set_option linter.unusedSimpArgs false
set_option maxHeartbeats 8000000
set_option linter.unusedVariables false
set_option linter.unusedSectionVars false
section
namespace Go.Proofs.Wy
open Go Go.Dm Tryz
variable [DMode]
attribute [local irreducible] DW Bs Bv
set_option maxRecDepth 100000
theorem SZ (x:ByteArray) (hx:x.size≠0):AS prog (.func 306) [.rx 0 0 2 0 0] [⟨0,0,.row 338 2 32 [[.rx 0 0 2 0 0,.osl 1 0]]⟩,⟨1,0,.row 5 1 1 (Bh x)⟩] (.str x) [⟨0,0,.row 338 2 32 [[.rx 0 0 2 0 0,.sl 1 1 (Bh x)]]⟩] :=
 MY Tryz.bldString Xa call306 32 x hx
def Ew_ : Ann:=⟨[],[]⟩
theorem AP_ (x:ByteArray):AS prog (.func 307) [.rx 0 0 2 0 0] [⟨0,0,.row 338 2 32 [[.rx 0 0 2 0 0,.sl 1 1 (Bh x)]]⟩] (.int .i64 x.size) [⟨0,0,.row 338 2 32 [[.rx 0 0 2 0 0,.sl 1 1 (Bh x)]]⟩]:=by
 refine Bi [] [(0,0,0)] Ew_ func307 call307 ntmps307 mxd (Ap @Ew_.eq_1 results307) rfl (fun qJ B qX qQ=> ?_) (hv:=(by simp[HY]));clear qJ;simp only[Ak];have h1:=Bo x;have h2:=HY x;obtain⟨D,hD⟩:∃D,D=Bh x:=⟨_,rfl⟩;rw[<-hD]at h1 h2 |-;exact Al Aa Aa (Aq h1)
theorem YF (p:ByteArray×RT):(LB p).size≠0:=by
 unfold LB;simp only[aO0];have z3:(⟨#[32,61,32]⟩:ByteArray).size=3:=rfl;omega
def Mt (gt:GT):Bool:=gt.all (fun p=>GP p.2)&&decide ((CH gt).size<=2048)
def HK_ (gt:GT):ByteArray:=if gt.all (fun p=>GP p.2)then CH gt else ⟨#[]⟩
theorem Kp_ {gt:GT} (h:1<=gt.length):(CH gt).size≠0:=by
 have h1:=Ij (aD0 (show 0<gt.length by omega));have h2:=Og gt 1;rw[h1,aO0]at h2;have:=YF (gt[0]'(by omega));omega
def QW : Ann:=⟨[29,31,32],[⟨1,[4],[],[]⟩,⟨4,[6],[],[]⟩]⟩
theorem aQ (gt:GT) (hk:OkG gt) (hs:Fl (Bd gt)) (h1:1<=gt.length) (hl:gt.length<=64):Ac prog 241 [Az (Bd gt)] (.tup [.str (HK_ gt),.bool (Mt gt)]):=by
 refine Ab [] QW func241 call241 ntmps241 mxd (Ap @QW.eq_1 results241) rfl (fun qJ B qX qQ=> ?_);clear qJ;simp only[Ak];have yC:=FV gt;have zV:=fun i p=>Gg_ (gt:=gt) (i:=i) (p:=p)
 have vW:=fun p=>Md hs (p:=p)
 have zH:=OF hk hs;have gS:=fun p=>UL hk hs (p:=p)
 obtain⟨g,hg⟩:∃g,g=Bd gt:=⟨_,rfl⟩;rw[<-hg]at yC zV |-;clear hs hg;obtain⟨R,hR⟩:∃R,R=HK_ gt:=⟨_,rfl⟩;obtain⟨O,hO⟩:∃O,O=Mt gt:=⟨_,rfl⟩;rw[<-hR,<-hO];have z3:(⟨#[32,61,32]⟩:ByteArray).size=3:=rfl;have z4:(⟨#[32,59,10]⟩:ByteArray).size=3:=rfl;have m3:3<=maxLen:=by decide
 have m1:1<=maxLen:=by decide
 have mbig:3000000000<=maxLen:=by decide
 have z0:(⟨#[]⟩:ByteArray).size<=maxLen:=cV0 _;refine AI fun K0 hK0=> ?_
 (first | refine AI fun K hK=> ?_ | (refine BR QW mxd (by kernel_rfl) ?_;simp[QW,qX,z0];try simp (disch:=omega) only[Ao]) | refine Aw ?_ | (refine Bb ?_ ?_ ?_;(· (simp[qX,z0];done));(try (rotate_left;(· (intro hc;(try simp[qX,z0]at hc);done))))) | (refine AK ?_;simp[results241,qX,z0]) | ((first | refine AD ?_ | refine AC ?_);simp[qX,z0]) | (intro hc;(try simp[qX,z0]at hc);(try (exfalso;omega))) | (refine⟨?_,?_⟩; · omega) | omega | apply_assumption -exfalso -symm | (exfalso;omega))
 apply hK0
 refine AI fun K1 hK1=> ?_
 refine KT (bs:=32) (k:=2) (z:=[.nilp,.nilsl]) (by simp[qX]) (by simp) (by rfl) rfl (by decide) (fun r hr=> ?_);simp
 apply hK1
 (refine Au Aa Aa Aa ?_;intros;refine Ae ?_)
 refine Af (X:={i:Nat//i<=gt.length/\(gt.take i).all (fun p=>GP p.2)=true}) (fun i=>⟨[(0,Az g),(4,.rx 4 1 2 0 0),(9,Az g),(10,.int .i64 gt.length),(11,.int .i64 i.1)],Ml_ 4 50 (CH (gt.take i.1))⟩) (fun i=>gt.length-i.1) ⟨0,by simp⟩ (Sub.lit (by simp only[eP0,show CH []=⟨#[]⟩ from rfl,DE (T:=⟨#[]⟩) rfl];simp[yC])) ?_;rintro⟨i,hi,wT⟩;simp only
 by_cases qV:i<gt.length
 ·obtain⟨p,hp,qI,vK⟩:=Ai qV;have hr:=zV i p hp;have qW:i<g.length:=by omega
  have qC:g[i]'qW=⟨p.1,flat p.2⟩:=(aB0.1 hr).2;have e1:=XQ p.2 (hk p vK).2;have w2:IntKind.i64.wrap ((i:Int)+1)=(i:Int)+1:=wq;unfold FM_ at e1;obtain⟨b,hb⟩:∃b,b=flat p.2:=⟨_,rfl⟩;have pB:(gt.take (i+1)).all (fun p=>GP p.2)=GP p.2:=by rw[bD0,hp,fE0,wT];simp
  by_cases hpr:GP p.2=true
  ·have rK:=hpr;unfold GP at rK;rw[aM0,decide_eq_true_eq,decide_eq_true_eq]at rK;rw[if_pos rK.1,if_pos rK.2]at e1;rw[<-hb]at hr qC e1;rw[hpr]at pB;have vE:=Ij hp;have hrs1:=gS p vK;have rD:=zH i hi;have mD:=YF p;have zK:LB p=p.1++⟨#[32,61,32]⟩++DN p.2++⟨#[32,59,10]⟩:=rfl;obtain⟨s,hs⟩:∃s,s=DN p.2:=⟨_,rfl⟩;rw[<-hs]at e1 zK;obtain⟨T,hT⟩:∃T,T=CH (gt.take i):=⟨_,rfl⟩;rw[<-hT]at vE rD |-;obtain⟨U,hU⟩:∃U,U=LB p:=⟨_,rfl⟩
   rw[<-hU]at hrs1 mD zK vE;have hUs:U.size=p.1.size+3+s.size+3:=by rw[zK];simp only[aO0,z3,z4]
   have y2:p.1.size+3<=maxLen:=by omega
   have y3:p.1.size+3+s.size<=maxLen:=by omega
   have y4:p.1.size+3+s.size+3<=maxLen:=by omega
   have hNs:(CH (gt.take (i+1))).size≠0:=by rw[vE,aO0];omega
   have wV:=CE (i:=4) (j:=50) hNs
   by_cases jR:T.size=0
   ·rw[DE jR];have e2:=DU U (by omega);rw[Pu jR,NF]at vE;rw[zK]at e2
    (refine Au (Aq e1) (Aq (DF [(4,0)] [(50,1)] e2)) (Tv @Co.eq_1 qV qW hr qC z3 z4 m3 m1 y2 y3 y4 @aO0 w2) ?_;intros;refine Ae ?_)
    refine Ag.mk ⟨i+1,by omega,pB⟩ (Sub.lit (by rw[wV,vE,zK];simp)) (by simp;omega)
    skip
   ·rw[CE jR];have e2:=Cb T U (by omega);rw[<-vE]at e2;rw[zK]at e2
    (refine Au (Aq e1) (Aq (DF [(4,0),(50,1)] [] e2)) (Tv @Co.eq_1 qV qW hr qC z3 z4 m3 m1 y2 y3 y4 @aO0 w2) ?_;intros;refine Ae ?_)
    refine Ag.mk ⟨i+1,by omega,pB⟩ (Sub.lit (by rw[wV];simp)) (by simp;omega)
    skip
  ·have tG:gt.all (fun p=>GP p.2)=false:=by
    rw[dS0];intro hh;rw[bA0]at hh;exact hpr (hh p vK)
   have wX:R=⟨#[]⟩:=by rw[hR];unfold HK_;rw[tG];rfl
   have hO2:O=false:=by rw[hO];unfold Mt;rw[tG];rfl
   subst wX;subst hO2
   obtain⟨c,yG,e2⟩:∃c:Int,(c != 0)=true/\Ac prog 304 [Bl (flat p.2)] (.tup [.str ⟨#[]⟩,.int .i64 c]):=by
    by_cases wS:(flat p.2).length<=2048
    ·rw[if_pos wS]at e1
     by_cases h0:Em p.2=0
     ·exact absurd (by unfold GP;simp[wS,h0]) hpr
     ·rw[if_neg h0]at e1;exact⟨_,by simpa using h0,e1⟩
    ·rw[if_neg wS]at e1;exact⟨3,rfl,e1⟩
   have hc1:¬c=0:=by simpa using yG
   rw[<-hb]at hr qC e2;obtain⟨T,hT⟩:∃T,T=CH (gt.take i):=⟨_,rfl⟩;rw[<-hT];clear e1
   by_cases jR:T.size=0
   ·rw[DE jR];exact Al (Aq e2) Aa (Ji @Co.eq_1 qV qW hr qC yG hc1 z0)
   ·rw[CE jR];exact Al (Aq e2) Aa (Ji @Co.eq_1 qV qW hr qC yG hc1 z0)
 ·have qY:i=gt.length:=by omega
  subst qY;rw[aN0]at wT |-;have qK:=Kp_ h1;have rD:=zH gt.length (Nat.le_refl _);rw[aN0]at rD;have wX:R=CH gt:=by rw[hR];unfold HK_;rw[wT];rfl
  have hO2:O=decide ((CH gt).size<=2048):=by rw[hO];unfold Mt;rw[wT];rfl
  obtain⟨T,hT⟩:∃T,T=CH gt:=⟨_,rfl⟩;rw[<-hT]at qK wX hO2 rD |-;have hO3:decide (T.size<=2048)=decide ((T.size:Int)<=2048):=decide_eq_decide.2 (by omega);rw[hO3]at hO2;clear hR hO hO3;subst wX;subst hO2;rw[CE qK];have e1:=SZ R qK;have e2:=AP_ R;have h2:=HY R;exact Al Aa (Ap (DF [(4,0),(50,1)] [] e1) (DF [(4,0)] [] e2)) (Aq yC)
end Go.Proofs.Wy
end
section
namespace Go.Proofs.Wy
open Go Go.Dm Go.RowKit Go.Maps Go.Sort Go.Shelf Go.Proofs
set_option maxRecDepth 100000
theorem Su_ (m:Nat):AnyZ.SortsIn Tryz.prog Tryz.sortedM_ren Fence.wide m :=
 ⟨fun blk off cap ss W hH hblk qM=>callsIn_wide.2 (AnyM.slices_Sort_string Tryz.sortStr blk off cap ss W hH hblk qM),
  fun p cap W=>callsIn_wide.2 (AnyM.slices_Sort_string_none Tryz.sortStr p cap W)⟩
theorem Yx {cur:Gp} {M:List Nat} {h:Array Obj}:∀{K:List ByteArray} {vs:List Value},AL cur M h (CR K) vs->vs=K.map Value.string/\∀s∈K,s.size<=maxLen
 | [],vs,hr=>by
  simp only[CR,List.map_nil,AL]at hr;subst hr;simp
 | s::K,vs,hr=>by
  rw[EE]at hr;simp only[AL,Dm.rd]at hr;obtain⟨v,r,rfl,⟨rfl,hs⟩,h2⟩:=hr;obtain⟨h3,h4⟩:=Yx h2;subst h3;refine⟨rfl,fun x hx=> ?_⟩
  rcases aL0.1 hx with rfl | hx
  ·exact hs
  ·exact h4 x hx
def PY_ : Value->Option (DataW Unit×List MemPlace):=fun _=>some (.nil,[])
theorem QT_ {w:World} {b:Nat} {es:Array MapEntry} {clk:Nat} {K:List ByteArray} (hb:w.heap[b]? =some (.map es clk)) (hB:Sc es clk) (hk:es.toList.map (·.key)=K.map Value.string) (qM:∀s∈K,s.size<=maxLen) (hn:K.Nodup) (hl:K.length<=maxLen) :
  ∃D0:DataW Unit,w.ownsMap Tryz.prog 9 PY_ b K.length D0/\(strKeys D0).Perm (K.map fun s=>s.data.toList)/\Maps.size D0=K.length:=by
 have tN:es.size=K.length:=by
  have:=congrArg List.length hk;simpa using this
 have sI:∀x∈es.toList,∃s∈K,x.key= .string s/\WideElems.rd Tryz.prog 9 PY_ x=some (.string s.data.toList,.nil):=by
  intro x hx;have:x.key∈K.map Value.string:=by rw[<-hk];exact dF0 hx
  obtain⟨s,hs,he⟩:=aU0.1 this;refine⟨s,hs,he.symm,?_⟩;obtain⟨k,v,bn⟩:=x;simp only at he;subst he;exact WideElems.rd_mk (WideMaps.keyOf_string_mk Tryz.underlying9 (qM s hs)) (show PY_ v=some (.nil,[]) from rfl)
 have hE:es.toList.map (WideElems.rg Tryz.prog 9 PY_)=K.map fun s=>(Lit.string s.data.toList,DataW.nil):=by
  have h1:es.toList.map (WideElems.rg Tryz.prog 9 PY_)=(es.toList.map (·.key)).map fun v=>match v with | .string s=>(Lit.string s.data.toList,DataW.nil) | _=>(.bool false,.nil):=by
   rw[cF0];refine cR0 fun x hx=> ?_
   obtain⟨s,_,he,hr⟩:=sI x hx;rw[WideElems.rg_of hr];simp[he]
  rw[h1,hk,cF0];rfl
 refine⟨_,⟨es,clk,hb,⟨by omega,⟨hB.2,hB.1,?_⟩,fun x hx=> ?_⟩,by omega,rfl⟩,?_,?_⟩
 ·rw[hk];exact dN0.2 (hn.imp fun h e=>h (by cases e;rfl))
 ·obtain⟨s,_,_,hr⟩:=sI x hx;exact⟨_,hr⟩
 ·show ((_:List (Lit×DataW Unit)).map fun p=>strOf p.1).Perm _
  refine((WideShapes.sorted_perm _).map _).trans ?_;rw[hE,cF0];exact List.Perm.refl _
 ·show (_:List (Lit×DataW Unit)).length=_
  rw[(WideShapes.sorted_perm _).length_eq,hE,aJ0]
theorem Ko_ {w w':World} (h:Below w.heap.size w w'):Upd [] w w':=⟨h.os,h.tape,h.output,fun hd=>Bool.noConfusion hd,h.size,fun b hb _=>h.block b hb⟩
theorem aY {K:List ByteArray} (hn:K.Nodup):Str (Ep K):=by
 have h1:=Pr K
 have h2:(Ep K).Nodup:=by
  unfold Ep;refine dN0.2 (List.Pairwise.imp (R:=(· ≠ ·)) (fun {a b:List UInt8} h (e:(⟨a.toArray⟩:ByteArray)=⟨b.toArray⟩)=>h (by have:=congrArg (fun x:ByteArray=>x.data.toList) e;simpa using this)) ?_);exact(eC0 _ _).nodup_iff.2 (dN0.2 (hn.imp fun h e=>h (Ic e)))
 refine(h1.and h2).imp ?_;rintro a b ⟨h3,h4⟩;cases h5:Br a b
 ·exact absurd (JY h5 h3) h4
 ·rfl
theorem Fp_ {K es:List ByteArray} (hn:K.Nodup) (hm:∀s,s∈K↔s∈es):Ep K=CD es:=TE (aY hn) fun x=>by rw[YB,hm x]
theorem Ot (g:List Rul) (vW:(AW 3 g).length*16<=140737488355328):Ac Tryz.prog 92 [Az g] (AJ (AE g)):=by
 refine⟨Tryz.call92,by simp[mx],fun cur M w vs hM hr=> ?_⟩;simp only[AL]at hr;obtain⟨v0,r0,vN,h0,rfl⟩:=hr;have vF:vs= #[v0]:=by cases vs;simpa using vN
 subst vF;have qL:=GY_ (AW 3 g);have hN:=Oo g 3;obtain⟨m,hm⟩:∃m,m=Tp (AW 3 g):=⟨_,rfl⟩;rw[<-hm]at hN qL;obtain⟨_,_,hN⟩:=hN
 have hN:=(hN M w (fun _=>⟨[],Go.undef⟩) #[v0,.int .i64 3] ⟨by simp,by simp[Ad],by simp[Ad],fun b hb=>hM b (by simpa[Ad]using hb),by simp⟩ (by
  simp only[AL];refine⟨v0,_,rfl,?_,_,_,rfl,by simp[Dm.rd],rfl⟩
  exact Db (n:=0) ⟨fun _ _ _ h _=>absurd h (eV0 _),fun _ _ _ _ h=>h,fun b _ hb _ _ hm=>hb (by simpa[Ad]using hm)⟩ _ _ (by simp[mx]) h0)).2
 have cK:∀mb W,CallsIn Fence.wide 5 Tryz.prog 175 #[.map mb] W fun e w'=>e= .returned (.func (.func 259) #[] #[.pointer (some ⟨W.heap.size,0,none⟩)])/\w'=W.alloc (.cells #[.map mb] 241):=fun mb W=>AnyZ.keys_in Tryz.keysM Fence.wide 5 trivial rfl mb W
 have rU:Fence.wide.fn 176:=trivial;have hf2:Fence.wide.fn 175:=trivial;have hf3:Fence.wide.fn 174:=trivial;refine(callsIn_wide (n:=6)).1 ?_;refine callsIn_of_wp Tryz.func92 rfl trivial ?_ rfl;simp only[Tryz.ntmps92,dM0,List.length_cons,List.length_nil,Nat.reduceAdd,Nat.reduceSub,Array.replicate_succ,Array.replicate_zero,List.push_toArray,List.append_toArray,List.nil_append,List.cons_append]
 gi_wp2_with (gi_at_call 176;refine(callsIn_wide.2 hN).mono ?_;rintro e w1 ⟨v1,rfl,loc1,S1,U1,hnew1,hver1,hrd1⟩)
 simp only[Dm.rd]at hrd1;obtain⟨b,qE,rfl⟩:=hrd1 (loc1 0) rfl;have hO:=S1.ok _ (aG0.2 rfl);obtain⟨b',es,clk,qP,tJ,dG,nT,_⟩:=hO;simp only at qP;rw[qE]at qP;simp only[bL0,and_true]at qP;subst qP;obtain⟨hke,vH⟩:=Yx nT;have qZ:m.K.length<=(AW 3 g).length:=qL.le;have cL:m.K.length<=maxLen:=by unfold maxLen;omega
 have bA:b<w1.heap.size:=(aH0.1 tJ).1;obtain⟨D0,dR,fF,hsize⟩:=QT_ (w:=w1.alloc (.cells #[.map (some b)] 241)) (b:=b) (by rw[<-tJ];simp only[World.alloc,bZ0];rw[if_neg (by omega)]) dG hke vH qL.nd cL
 gi_wp2_with (gi_at_call 175;refine(cK _ _).mono ?_;rintro e w2 ⟨rfl,rfl⟩)
 have hseq:SeqGives Fence.wide 2 Tryz.prog 259 #[.pointer (some ⟨w1.heap.size,0,none⟩)] encStr (fun ss=>ss.Perm (strKeys D0)) (Maps.size D0) (w1.alloc (.cells #[.map (some b)] 241)) :=
  AnyZ.keys_gives (ρ:=Tryz.keysM_ren) { Tryz.keysM with } Fence.wide _ trivial rfl (by omega) w1.heap.size b m.K.length D0 _ (by simp) (by simp) dR
 have cS:=AnyZ.sorted_in Tryz.sortedM Fence.wide 5 trivial trivial trivial trivial rfl (by omega) (Su_ _) (enters_of Tryz.func258 (by kernel_rfl) rfl) 259 #[.pointer (some ⟨w1.heap.size,0,none⟩)] trivial (enters_of Tryz.func259 (by kernel_rfl) rfl) _ _ (by omega) (by omega) _ hseq
 change CallsIn _ _ Tryz.prog 174 _ _ _ at cS
 gi_wp2_with (gi_at_call 174;refine cS.mono ?_;rintro e w3 ⟨v,ss,rfl,hS,qT,hnil,cQ⟩)
 go_ret
 have hU:Upd [] w w3:=(show Upd [] w w1 from U1).trans ((Upd.alloc [] w1 _).trans (Ko_ cQ) (by simp)) (by simp)
 have jX:(ss.mergeSort fun x y=>decide (x<=y)).map (fun x=>(⟨x.toArray⟩:ByteArray))=AE g:=by
  have h1:ss.mergeSort leB=(m.K.map fun s=>s.data.toList).mergeSort leB:=mergeSort_of_perm (hS.trans fF);have h2:=Fp_ qL.nd qL.mem;unfold Ep at h2;unfold AE;rw[<-h2,<-h1]
 have yK:ss.length=m.K.length:=by rw[hS.length_eq,fF.length_eq,aJ0]
 refine⟨v,rfl,hU,?_⟩;simp only[Dm.rd];rw[<-jX];obtain⟨_,qT⟩:=qT
 rcases qT with ⟨rfl,hz⟩ | ⟨gb,cap,cur2,rfl,hbase,hgb,r1,r2,r3,r4⟩
 ·have h0:ss=[]:=bP0 hz;subst h0;exact⟨none,0,by simp,by simp,by simp,by simp,.inl ⟨by simp,fun _=>rfl⟩⟩
 ·have yC:(ss.mergeSort fun x y=>decide (x<=y)).length=ss.length:=List.length_mergeSort _;refine⟨some ⟨gb,0,none⟩,cap,by simp,by simpa using r1,r2,?_,.inr ⟨gb,0,cur2,_,(0,0),rfl,fun hm=> ?_,hgb,?_⟩⟩
  ·simp only[aJ0,yC];omega
  ·have h1:=hM gb hm;have h2:=U1.size;simp at hbase;omega
  ·refine Hq _ _ _ _ fun i cs hi=> ?_
   rw[bK0,bK0,Option.map_map,bH0]at hi;obtain⟨x,hx,rfl⟩:=hi;refine⟨rfl,?_⟩;have jU:i<ss.length:=by have:=(aB0.1 hx).1;omega
   have zQ:cur2[i]? =some (encStr x):=by
    have h1:(cur2.toList.take (ss.length*1))[i]? =some (encStr x):=by rw[r4,bK0,hx];rfl
    rw[cE0 (by omega)]at h1;simpa using h1
   have mG:x.length<=maxLen:=by
    have h1:x∈m.K.map fun s=>s.data.toList:=(hS.trans fF).mem_iff.1 ((eC0 ss _).mem_iff.1 (bI0 hx))
    obtain⟨s,hs,rfl⟩:=aU0.1 h1;exact vH s hs
   simp only[Function.comp_apply,AG,ET,and_true];exact⟨encStr x,by simpa using zQ,rfl,by simp only[Dm.rd];exact⟨trivial,mG⟩⟩
end Go.Proofs.Wy
end
section
namespace Go.Proofs.Wy
open Go Go.Dm Tryz
attribute [local irreducible] DW Bs Bv
set_option maxRecDepth 100000
def Et_ : Ann:=⟨[],[]⟩
theorem KV_ (g:List Rul) (hl:g.length<=64) (hs:Fl g):Ac prog 235 [Az g] (.bool (decide (16<(AE g).length))):=by
 refine Ab [] Et_ func235 call235 ntmps235 mxd (Ap @Et_.eq_1 results235) rfl (fun qJ B qX qQ=> ?_);clear qJ;simp only[Ak];have n3:=Fc (k:=3) hs;have e1:=Ot g (by omega);obtain⟨H,hH⟩:∃H,H=AE g:=⟨_,rfl⟩;rw[<-hH]at e1;rw[<-hH];have h2:decide (16<H.length)=decide ((16:Int)<(H.length:Int)):=decide_eq_decide.2 (by omega);rw[h2];exact Al (Aq e1) Aa Aa
def Es_ : Ann:=⟨[],[]⟩
theorem KR_ (gt:GT) (hk:OkG gt) (hs:Fl (Bd gt)) (h1:1<=gt.length) (hl:gt.length<=64):Ac prog 240 [Az (Bd gt)] (.bool (!Mt gt)):=by
 refine Ab [] Es_ func240 call240 ntmps240 mxd (Ap @Es_.eq_1 results240) rfl (fun qJ B qX qQ=> ?_);clear qJ;simp only[Ak];have e1:=aQ gt hk hs h1 hl;obtain⟨g,hg⟩:∃g,g=Bd gt:=⟨_,rfl⟩;rw[<-hg]at e1 |-;exact Al (Aq e1) Aa Aa
def Eu_ : Ann:=⟨[],[]⟩
theorem YL (f:FuncId):Ac prog 226 [.fn (.func f) [] []] (.fn (.func 227) [] [.ref [.fn (.func f) [] []]]):=by
 refine Ab [] Eu_ func226 call226 ntmps226 mxd (Ap @Eu_.eq_1 results226) rfl (fun qJ B qX qQ=> ?_) (hd:=(by simp[mx,AV]));clear qJ;simp only[Ak];exact Al Aa Aa Aa
structure Ask where
 f:FuncId
 cs:List DVal
 b:Bool
 e:Int
def Wv (x:Ask):List DVal:=[.fn (.func x.f) [] x.cs,.int .i64 x.e]
def Jh (b1 b2 b3 b4 b5 b6 b7 b8:Bool):List Ask :=
 [⟨229,[],b1,180⟩,⟨227,[.ref [.fn (.func 230) [] []]],b2,170⟩,⟨233,[],b3,181⟩,⟨235,[],b4,182⟩,⟨236,[],b5,183⟩,⟨227,[.ref [.fn (.func 238) [] []]],b6,171⟩,⟨239,[],b7,184⟩,⟨240,[],b8,174⟩]
def Ev_ : Ann:=⟨[],[]⟩
theorem JJ (b1 b2 b3 b4 b5 b6 b7 b8:Bool):Ac prog 164 [] (.sl 2 16 ((Jh b1 b2 b3 b4 b5 b6 b7 b8).map Wv)):=by
 refine Ab [] Ev_ func164 call164 ntmps164 mxd (Ap @Ev_.eq_1 results164) rfl (fun qJ B qX qQ=> ?_) (hd:=(by simp[mx,BK,AV,Jh,Wv]));clear qJ;simp only[Ak,Jh,Wv,List.map_cons,List.map_nil];have e1:=YL 230;have e2:=YL 238;have r8:List.range 8=[0,1,2,3,4,5,6,7]:=rfl;exact Al (Ap e1 e2) Aa (Aq r8)
def OV : List Ask->Int
 | []=>0
 | x::l=>if x.b then x.e else OV l
def JU_ : Ann:=⟨[],[⟨3,[4],[],[]⟩]⟩
theorem MX (g:List Rul) (l:List Ask) (hl8:l.length=8) (zE:BK (l.map Wv)=0) (ho:Ac prog 164 [] (.sl 2 16 (l.map Wv)))
  (hq:∀(k:Nat) (x:Ask),l[k]? =some x->(∀(j:Nat) (y:Ask),j<k->l[j]? =some y->y.b=false)->Ac prog x.f (Az g::x.cs) (.bool x.b)):Ac prog 76 [Az g] (.int .i64 (OV l)):=by
 refine Ab [] JU_ func76 call76 ntmps76 mxd (Ap @JU_.eq_1 results76) rfl (fun qJ B qX qQ=> ?_);clear qJ;simp only[Ak];obtain⟨R,hR⟩:∃R,R=OV l:=⟨_,rfl⟩;rw[<-hR]
 (refine Au (Aq ho) Aa Aa ?_;intros;refine Ae ?_)
 refine Af (X:={k:Nat//k<=l.length/\R=OV (l.drop k)/\∀(j:Nat) (y:Ask),j<k->l[j]? =some y->y.b=false}) (fun x=>⟨[(0,Az g),(5,.sl 2 16 (l.map Wv)),(6,.int .i64 l.length),(7,.int .i64 x.1)],[]⟩) (fun x=>l.length-x.1) ⟨0,by simp[hR]⟩ (Sub.lit (by simp[zE])) ?_;clear hR;rintro⟨k,hk,hR,wE⟩
 by_cases qV:k<l.length
 ·obtain⟨x,hx,qU,wA⟩:=Ai qV;rw[aP0 qV,qU,OV]at hR;have e1:=hq k x hx wE;cases hb:x.b
  ·rw[hb]at e1 hR;simp only[aK0,if_false]at hR
   have jL:∀(j:Nat) (y:Ask),j<k+1->l[j]? =some y->y.b=false:=by
    intro i y hi hy
    by_cases fP:i=k
    ·subst fP;rw[hx]at hy;simp only[aA0]at hy;subst hy;exact hb
    ·exact wE i y (by omega) hy
   (refine Au (Aq e1) Aa (CG @Wv.eq_1 qV hx qU) ?_;intros;refine Ae ?_)
   exact Ag.mk ⟨k+1,by omega,hR,jL⟩ (Sub.lit (by simp[zE])) (by simp;omega)
   skip
  ·rw[hb]at e1 hR;simp only[if_true]at hR;subst hR;exact Al (Aq e1) Aa (CG @Wv.eq_1 qV hx qU)
 ·have qY:k=l.length:=by omega
  subst qY;rw[bE0]at hR;have wX:R=0:=hR;subst wX;exact Al Aa Aa Aa
theorem Yj (g:List Rul) (h:g.length<1\/64<g.length):Ac prog 76 [Az g] (.int .i64 180):=by
 have hq:=Rq g;have hb:(decide (g.length<1)||decide (64<g.length))=true:=by simpa using h
 rw[hb]at hq;refine MX g (Jh true true true true true true true true) rfl (by simp[Jh,Wv,BK,AV,mx]) (JJ _ _ _ _ _ _ _ _) fun k x hx wE=> ?_
 cases k with
 | zero =>
  simp only[Jh,bF0,aA0]at hx;subst hx;exact hq
 | succ k=>have:=wE 0 _ (by omega) rfl;simp at this
theorem BP_ (g:List Rul) (h1:1<=g.length) (h2:g.length<=64) (hs:Fl g) (ht:Gv g=false):Ac prog 76 [Az g] (.int .i64 170):=by
 have q1:=Rq g;have hb:(decide (g.length<1)||decide (64<g.length))=false:=by rw[decide_eq_false (by omega),decide_eq_false (by omega)];rfl
 rw[hb]at q1;have q2:=Rr 230 g Ca_ fun x hx=>YM x (hs x hx)
 have qP:g.any Ca_=true:=by
  unfold Gv at ht;rw[List.all_eq_false]at ht;obtain⟨r,hr,hn⟩:=ht;refine bW0.2 ⟨r,hr,?_⟩;unfold Ca_;rw[dX0]at hn;rw[hn];rfl
 rw[qP]at q2;refine MX g (Jh false true true true true true true true) rfl (by simp[Jh,Wv,BK,AV,mx]) (JJ _ _ _ _ _ _ _ _) fun k x hx wE=> ?_
 match k,hx,wE with
 | 0,hx,_ =>
  simp only[Jh,bF0,aA0]at hx;subst hx;exact q1
 | 1,hx,_ =>
  simp only[Jh,bF0,bT0,aA0]at hx;subst hx;exact q2
 | k+2,_,wE=>have:=wE 1 _ (by omega) rfl;simp at this
theorem FX_ {gt:GT} (hk:OkG gt) (hd:HD gt=false):Mt gt=decide ((CH gt).size<=2048):=by
 unfold Mt
 by_cases h:(CH gt).size<=2048
 ·rw[decide_eq_true h,fB0,bA0];intro p hp;have h1:=xK hp;have h2:=aM p.2 (hk p hp).2;unfold HD at hd;rw[cZ0]at hd;have h3:=hd p hp;simp only[decide_eq_true_eq]at h3;unfold GP Em;rw[if_neg h3,if_neg (by omega)];simp;omega
 ·rw[decide_eq_false h,dK0]
theorem GZ_ (gt:GT) (h1:1<=gt.length) (h2:gt.length<=64) (hk:OkG gt) (hs:Fl (Bd gt)):Ac prog 76 [Az (Bd gt)] (.int .i64 (Qo gt)):=by
 have yC:=FV gt;have q1:=Rq (Bd gt);have hb:(decide ((Bd gt).length<1)||decide (64<(Bd gt).length))=false:=by rw[decide_eq_false (by omega),decide_eq_false (by omega)];rfl
 rw[hb]at q1;have q2:=Rr 230 (Bd gt) Ca_ fun x hx=>YM x (hs x hx)
 have qP:(Bd gt).any Ca_=false:=by
  have ht:=Bg_ hk;unfold Gv at ht;rw[bA0]at ht;rw[cZ0];intro r hr;unfold Ca_;rw[ht r hr];simp
 rw[qP]at q2;have n2:=Fc (k:=2) hs;have q3:=KW_ (Bd gt) (by omega) hs;have q4:=KV_ (Bd gt) (by omega) hs;have q5:=KU_ (Bd gt) hs (by omega)
 have q6:Ac prog 227 [Az (Bd gt),.ref [.fn (.func 238) [] []]] (.bool (HD gt)):=by
  have hq:∃q:Rul->Bool,(∀p∈gt,q ⟨p.1,flat p.2⟩=decide (16<LS p.2))/\∀x∈Bd gt,Ac prog 238 [.agg (Co x)] (.bool (q x)):=by
   refine⟨fun r=>decide (16<(r.b.foldl Gq ([],0)).2),fun p hp=> ?_,fun x hx=> ?_⟩
   ·simp only[MG (hk p hp).2]
   ·obtain⟨p,hp,rfl⟩:=aU0.1 hx;simp only[MG (hk p hp).2];exact KT_ p.1 p.2 (hk p hp).2 (Md hs hp)
  obtain⟨q,wG,wH⟩:=hq;have e1:=Rr 238 (Bd gt) q wH
  have:(Bd gt).any q=HD gt:=by
   unfold Bd HD;rw[List.any_map];rw[fF0,bW0,bW0]
   constructor
   ·rintro⟨p,hp,h⟩;exact⟨p,hp,by rw[<-wG p hp];exact h⟩
   ·rintro⟨p,hp,h⟩;exact⟨p,hp,by rw[<-wG p hp]at h;exact h⟩
  rw[this]at e1;exact e1
 have q7:=KS_ (Bd gt) (by omega);have q8:=KR_ gt hk hs h1 h2
 have hf:Qo gt=OV (Jh false false (decide (16<(Ay (Bd gt)).length+(DK (Bd gt)).length)) (decide (16<(AE (Bd gt)).length)) (decide (64<DG (Bd gt))) (HD gt) (decide (0<(DK (Bd gt)).length)) (!Mt gt)):=by
  unfold Qo;simp only[Jh,OV,aK0,if_false,decide_eq_true_eq];cases hd:HD gt
  ·rw[FX_ hk hd]
   by_cases h8:2048<(CH gt).size
   ·have h8':¬(CH gt).size<=2048:=by omega
    simp[h8,h8']
   ·have h8':(CH gt).size<=2048:=by omega
    simp[h8,h8']
  ·simp
 rw[hf];refine MX (Bd gt) _ rfl (by simp[Jh,Wv,BK,AV,mx]) (JJ _ _ _ _ _ _ _ _) fun k x hx wE=> ?_
 match k,hx with
 | 0,hx=>simp only[Jh,bF0,bT0,aA0]at hx;subst hx;exact q1
 | 1,hx=>simp only[Jh,bF0,bT0,aA0]at hx;subst hx;exact q2
 | 2,hx=>simp only[Jh,bF0,bT0,aA0]at hx;subst hx;exact q3
 | 3,hx=>simp only[Jh,bF0,bT0,aA0]at hx;subst hx;exact q4
 | 4,hx=>simp only[Jh,bF0,bT0,aA0]at hx;subst hx;exact q5
 | 5,hx=>simp only[Jh,bF0,bT0,aA0]at hx;subst hx;exact q6
 | 6,hx=>simp only[Jh,bF0,bT0,aA0]at hx;subst hx;exact q7
 | 7,hx=>simp only[Jh,bF0,bT0,aA0]at hx;subst hx;exact q8
 | k+8,hx=>simp[Jh]at hx
theorem Kz_ {l:List ByteArray} (h:Str l):l.Nodup:=h.imp fun h1=>NB_ h1
theorem At_ {l:List ByteArray} (hn:l.Nodup) {i:Nat} {x:ByteArray} (h:l[i]? =some x):¬x∈l.take i:=by
 intro hm;obtain⟨j,hj,e⟩:=bJ0 hm;rw[aT0]at hj;rw[List.getElem_take]at e;obtain⟨hi,e2⟩:=aB0.1 h;have:=(List.getElem_inj (h₀:=by omega) (h₁:=hi) hn).1 (e.trans e2.symm);omega
theorem Bx {α:Type} {l:List α} {i:Nat} {x:α} (h:l[i]? =some x):l.take (i+1)=l.take i++[x]:=by rw[bD0,h];rfl
def ZX : Ann:=⟨[19,21],[]⟩
theorem If_ (g:List Rul) (hn:(AW 3 g).length*16<=140737488355328) (hl:(Ay g).length<9223372036854775807) (hll:(AE g).length<9223372036854775807) (h:Ac prog 76 [Az g] (.int .i64 0)):Ac prog 29 [Az g] (.tup [Hf (Ay g) (AE g),.int .i64 0]):=by
 refine Ab [19,21] ZX func29 call29 ntmps29 mxd (Ap @ZX.eq_1 results29) rfl (fun qJ B qX qQ=> ?_);clear qJ;simp only[Ak];have e1:=Lo g;have e2:=Ot g hn;have hH:=Qa g;have hL:=Kz_ (FO (AW 3 g)).1;rw[show CD (AW 3 g)=AE g from rfl]at hL;obtain⟨H,eH⟩:∃H,H=Ay g:=⟨_,rfl⟩;obtain⟨L,eL⟩:∃L,L=AE g:=⟨_,rfl⟩;rw[<-eH]at e1 hH hl |-;rw[<-eL]at e2 hL hll |-;clear eH eL
 (refine Au (BC h e1 e2) Aa Aa ?_;intros;refine Ae ?_)
 refine Af (X:={k:Nat//k<=H.length}) (fun k=>⟨[(5,.bx 21 1 0),(25,AJ H),(26,.int .i64 H.length),(27,.int .i64 k.1)],[⟨21,1,.box [AJ H,AJ L,.omp 19 1]⟩,⟨19,1,.map (ID false (H.take k.1)) (FN k.1)⟩]⟩) (fun k=>H.length-k.1) ⟨0,by omega⟩ (Sub.lit (by simp[ID,FN])) ?_;rintro⟨k,hk⟩;simp only
 by_cases qV:k<H.length
 ·obtain⟨x,hx,qU,wA⟩:=Ai qV;have h1:=Lg (b:=false) (At_ hH hx);have qL:=lJ false (H.take k);have hu:FN k++[.int .i64 (k:Int)]=FN (k+1):=(Ri k).symm;have hKs:ID false (H.take k)++[.agg [.bool false,.str x]]=ID false (H.take (k+1)):=by rw[Bx hx,Zb]
  (refine Au Aa Aa (Ji qV hx qU @AG.eq_1 h1 qL hu hKs) ?_;intros;refine Ae ?_)
  refine Ag.mk ⟨k+1,by omega⟩ (Sub.lit (by simp[hKs])) (by simp;omega)
  skip
 ·have qY:k=H.length:=by omega
  subst qY;rw[aN0];have k0:ID true []=[]:=rfl;have u0:FN 0=[]:=rfl
  (refine Au Aa Aa Aa ?_;intros;refine Ae ?_)
  refine Af (X:={k:Nat//k<=L.length}) (fun k=>⟨[(5,.bx 21 1 0),(43,AJ L),(44,.int .i64 L.length),(45,.int .i64 k.1)],[⟨21,1,.box [AJ H,AJ L,.omp 19 1]⟩,⟨19,1,.map (Pm H (L.take k.1)) (FN H.length++FN k.1)⟩]⟩) (fun k=>L.length-k.1) ⟨0,by omega⟩ (Sub.lit (by simp[Pm,k0,u0])) ?_;rintro⟨k,hk⟩;simp only
  by_cases qV:k<L.length
  ·obtain⟨x,hx,qU,wA⟩:=Ai qV;have h1:=uU (H:=H) (L:=L.take k) (b:=true) (At_ hL hx);have qL:=Nj_ H (L.take k);have hu:FN H.length++FN k++[.int .i64 (k:Int)]=FN H.length++FN (k+1):=by rw[Ri,aR0]
   have hKs:Pm H (L.take k)++[.agg [.bool true,.str x]]=Pm H (L.take (k+1)):=by unfold Pm;rw[Bx hx,Zb,aR0]
   (refine Au Aa Aa (Ji qV hx qU @AG.eq_1 h1 qL hu hKs) ?_;intros;refine Ae ?_)
   refine Ag.mk ⟨k+1,by omega⟩ (Sub.lit (by simp[hKs])) (by simp;omega)
   skip
  ·have qY:k=L.length:=by omega
   subst qY;rw[aN0];exact Al Aa Aa Aa
end Go.Proofs.Wy
end
section
namespace Go.Dm
variable [DMode]
open Go.Shelf Go.Sort Go.Proofs Go.RowKit
def LH (l:List Int):List Int:=l.mergeSort fun x y=>decide (x<=y)
theorem NA (l:List Int):(LH l).length=l.length:=by simp[LH]
def dZ (z:Int):List DVal:=[.int .i64 z]
theorem eG {P:Program} {ρ:Ren} (L:Lays.n189 P ρ) {f:FuncId} {et bs:Nat} (hf:ρ.f 189=f) (zZ:Enters P f) (pG:0<bs) (l:List Int) :
  AS P (.func f) [.osl 0 0] [⟨0,0,.row et 1 bs (l.map dZ)⟩] (.tup []) [⟨0,0,.row et 1 bs ((LH l).map dZ)⟩]:=by
 refine⟨by simp,zZ,fun M w loc vs S hr=> ?_⟩;refine⟨zZ,?_⟩;simp only[AL]at hr;obtain⟨v0,r0,vN,h0,rfl⟩:=hr;simp only[rd]at h0;have fT:∀l:List Int,Aj [(⟨0,0,.row et 1 bs (l.map dZ)⟩:Ent)] loc 0 0=some (loc 0):=fun _=>rfl
 have kA:=h0 _ (fT l);have vF:vs= #[v0]:=by cases vs;simpa using vN
 subst vF;subst hf;have wO:∀l:List Int,Ad [(⟨0,0,.row et 1 bs (l.map dZ)⟩:Ent)] loc=(loc 0).blks:=fun _=>by simp[Ad]
 have jO:∀cur M h,rd cur M h (.tup []) (.tuple #[]):=fun _ _ _=>by simp only[rd];exact⟨#[],rfl,by simp[AL]⟩
 have hk:=S.ok ⟨0,0,.row et 1 bs (l.map dZ)⟩ (by simp)
 by_cases qK:l=[]
 ·subst qK
  obtain⟨a,cap,hh⟩:∃a cap,(loc 0).hdr= .slice a 0 cap:=by
   obtain⟨_,⟨_,_,h2⟩ | ⟨b,arr,cap,_,h2,_⟩⟩:=hk
   ·exact⟨_,_,h2⟩
   ·exact⟨_,_,h2⟩
  rw[hh]at kA;subst kA;refine(Any.slices_Sort_int_none L a cap w).mono ?_;rintro e w' ⟨rfl,rfl⟩;have e0:LH []=[]:=by simp[LH]
  rw[e0];exact⟨_,rfl,loc,S,Upd.refl _ _,fun b hb=> .inl hb,fun e he _=>Ba S.nd he,jO _ _ _⟩
 ·obtain⟨b,arr,cap,p1,p2,p3,p4,p5,p6,p7⟩:∃b arr cap,(loc 0).blks=[b]/\(loc 0).hdr= .slice (some ⟨b,0,none⟩) (l.map dZ).length cap/\w.heap[b]? =some (.cells arr et (0,0))/\(l.map dZ).length<=cap/\cap<=maxLen/\cap*1=arr.size/\Fz (Aj [(⟨0,0,.row et 1 bs (l.map dZ)⟩:Ent)] loc) (Ad [(⟨0,0,.row et 1 bs (l.map dZ)⟩:Ent)] loc++M) w.heap 1 (l.map dZ) arr 0:=by
   obtain⟨_,⟨h,_⟩ | h⟩:=hk
   ·exact absurd (List.map_eq_nil_iff.1 h) qK
   ·exact h
  have wC:(l.map dZ).length*bs<=150000000000000:=hk.1;rw[p2]at kA;subst kA;rw[aJ0]at p2 p4 wC
  have cL:∀s∈l,MF .i64 s/\True:=by
   intro s hs;obtain⟨i,hi,rfl⟩:=bJ0 hs;obtain⟨q1,q2⟩:=EW 1 _ arr 0 i [.int .i64 l[i]] p7 (by simp[dZ,hi]);obtain⟨us,g1,g2,g3⟩:=GY _ _ _ q2;simp only[AL,rd]at g2;obtain⟨v,_,_,⟨_,h⟩,_⟩:=g2;exact⟨h,trivial⟩
  have zQ:∀i (hi:i<l.length),arr[i]? =some (.int .i64 l[i]):=by
   intro i hi;obtain⟨q1,q2⟩:=EW 1 _ arr 0 i [.int .i64 l[i]] p7 (by simp[dZ,hi]);obtain⟨us,g1,g2,g3⟩:=GY _ _ _ q2;simp only[AL,rd]at g2;obtain⟨v,r,rfl,⟨rfl,_⟩,_⟩:=g2;have:=(g3 0 _ rfl).1;simpa using this
  obtain⟨ss,jX⟩:∃ss,ss=l:=⟨_,rfl⟩;have yK:ss.length=l.length:=by rw[jX]
  have hH:Holds (Value.int .i64) w b 0 ss.toArray:=by
   intro j hj;simp only[dM0,yK]at hj;refine⟨?_,Lib.frozen_of_heap p3 _⟩;rw[bX0,Lib.cell_of_heap p3,zQ j hj];rw[getElem!_pos _ j (by simpa[yK]using hj)];simp[jX]
  have qV:ss.length<4611686018427387904:=by
   rw[yK];have h1:l.length*1<=l.length*bs:=bY0 _ pG;omega
  have gL:b<w.heap.size:=(aH0.1 p3).1;have key:=Any.slices_Sort_int L b 0 cap ss w hH gL qV;rw[yK]at key;simp only[aJ0];refine key.mono ?_;rintro e w' ⟨rfl,n,os,rfl⟩;obtain⟨q1,q2,q3,q4,q5,q6,q7⟩:=YJ (Value.int .i64) (et:=et) (arr:=arr) p3 n os (ss.mergeSort fun x y=>decide (x<=y)).toArray;have hse:LH l=(ss.mergeSort fun x y=>decide (x<=y)):=by rw[jX];rfl
  have yC:(ss.mergeSort fun x y=>decide (x<=y)).length=l.length:=by simp[yK]
  refine⟨_,rfl,loc,⟨by simp,by rw[wO,p1];simp,fun q hq=>S.ap q (by rw[wO];rwa[wO]at hq),fun q hq=> ?_,?_⟩,?_,fun q hq=> .inl (by rw[wO];rwa[wO]at hq),?_,jO _ _ _⟩
  ·refine cN0 (S.lt q ?_) q3;rw[wO]at hq |-;exact hq
  ·intro e he;simp only[aG0]at he;subst he;refine⟨by simpa[NA]using wC,.inr ⟨b,_,cap,p1,by simpa[NA]using p2,q1,by simpa[NA]using p4,p5,by simpa[putCells]using p6,?_⟩⟩;refine Hq _ _ _ _ fun i cs0 hi=> ?_
   have jU:i<l.length:=by
    have:=(aB0.1 hi).1;simpa[NA]using this
   rw[hse]at hi;have him:i<(ss.mergeSort fun x y=>decide (x<=y)).length:=by omega
   simp only[cF0,bK0,aD0 him,dJ0,Function.comp_apply,aA0]at hi;subst hi;refine⟨rfl,?_⟩;have qO:(ss.mergeSort fun x y=>decide (x<=y))[i]∈ss:=(eC0 ss _).mem_iff.1 (cY0 him)
   have qM:MF .i64 ((ss.mergeSort fun x y=>decide (x<=y))[i]):=by
    generalize (ss.mergeSort fun x y=>decide (x<=y))[i]=y at qO |-
    rw[jX]at qO;exact(cL y qO).1
   have h0:=Iq (cur:=Aj [(⟨0,0,.row et 1 bs ((LH l).map dZ)⟩:Ent)] loc) (M:=Ad [(⟨0,0,.row et 1 bs ((LH l).map dZ)⟩:Ent)] loc++M) (H:=(grow (putRow (Value.int .i64) (Sort.ahead w n) b 0 (ss.mergeSort fun x y=>decide (x<=y)).toArray) os).heap) [.int .i64 ((ss.mergeSort fun x y=>decide (x<=y))[i])] [.int .i64 ((ss.mergeSort fun x y=>decide (x<=y))[i])] [] [] (by simp only[AL,rd];exact⟨_,_,rfl,⟨rfl,qM⟩,rfl⟩) (by simp[Value.oneCell'])
   refine DB _ _ _ _ _ (fun p hp=> ?_) h0;have vQ:p=0:=by simp[dZ]at hp;omega
   subst vQ;have hia:i<arr.size:=by omega
   simp only[putCells,Array.getElem?_mapIdx];rw[show 0+i*1+0=i by omega,cJ0 hia];simp[him,yC,jU,yK]
  ·rw[wO,p1];exact⟨q4,q5,q6,fun _=>q7,q3,fun q hq hn=>q2 q hq (fun h=>hn (by simp[h]))⟩
  ·intro e he _;simp only[aG0]at he;subst he;rfl
theorem GE_ {P:Program} {ρ:Ren} (L:Lays8.n4 P ρ) {f:FuncId} {et bs:Nat} (hf:ρ.f 4=f) (zZ:Enters P f) (het:ρ.t 25=et) {i0:TypeInfo} {z:Value} (hi0:P.info? et=some i0) (hz0:i0.zero=some z) (hzc:z.cells.size=1) (hs0:i0.size=1) (wJ:i0.bytes=bs) (wC:1<=bs)
  (n:Nat) (hn:n*bs<=140737488355328):AS P (.func f) [.nilsl,.int .i64 n] [] (.osl 0 1) [⟨0,1,.row et 1 bs []⟩]:=by
 refine⟨by simp,zZ,fun M w loc vs S hr=> ?_⟩;refine⟨zZ,?_⟩;simp only[AL,rd]at hr;obtain⟨v0,r0,vN,rfl,v1,r1,rfl,⟨rfl,_⟩,rfl⟩:=hr;have vF:vs= #[.slice none 0 0,.int .i64 n]:=by cases vs;simpa using vN
 subst vF hf het;have hnn:n<=n*bs:=Nat.le_mul_of_pos_right _ wC;have hM:∀b∈M,b<w.heap.size:=fun b hb=>S.lt b (by simpa[Ad]using hb)
 by_cases h0:n=0
 ·subst h0;refine(Any8.slices_Grow_room L none 0 0 0 w (by omega) (by omega) (by omega) (by omega)).mono ?_;rintro e w' ⟨rfl,rfl⟩;refine⟨_,rfl,fun _=>⟨[],.slice none 0 0⟩,⟨by simp,by simp[Ad],by simp[Ad],fun b hb=>hM b (by simpa[Ad]using hb),fun e he=> ?_⟩,Upd.refl _ _,fun b hb=>by simp[Ad]at hb,fun e he h=> ?_,?_⟩
  ·simp only[aG0]at he;subst he;exact⟨by simp,.inl ⟨rfl,rfl,rfl⟩⟩
  ·simp only[aG0]at he;subst he;simp at h
  ·simp only[rd];intro l hl;simp[Aj,Ax]at hl;rw[<-hl]
 ·refine(Any8.slices_Grow_grow L i0 z hi0 hz0 (by omega) none 0 0 n [] w (by omega) (by omega) (by rw[wJ];simpa using hn) (by omega) (by simp) (fun _=>rfl) (by simp)).mono ?_;rintro e w' ⟨rfl,rfl⟩;obtain⟨G,hG⟩:∃G,G=grownCap w (0+n) 0 (ρ.t 25):=⟨_,rfl⟩;have kX:0+n<=G:=by rw[hG];exact grownCap_ge w _ _ _
  have hGm:G<=maxLen:=by rw[hG];exact grownCap_le_maxLen w _ _ _ (by unfold maxLen;omega)
  rw[<-hG];have hU:Upd [] w (w.drew.alloc (.cells ((#[]:Array Value)++Builtin.zeroCells z.cells (0+n-0)++Builtin.zeroCells z.cells (G-(0+n))) (ρ.t 25))):=(Upd.drew _ w).trans (Upd.alloc _ w.drew _) (fun x hx=> .inl hx);refine⟨_,rfl,fun _=>⟨[w.heap.size],.slice (some ⟨w.heap.size,0,none⟩) 0 G⟩,⟨by simp,by simp[Ad],fun b hb hm=> ?_,fun b hb=> ?_,fun e he=> ?_⟩,hU,fun b hb=> ?_,fun e he h=> ?_,?_⟩
  ·simp[Ad]at hb;subst hb;exact absurd (hM _ hm) (by omega)
  ·have h1:w.heap.size<(w.drew.alloc (.cells ((#[]:Array Value)++Builtin.zeroCells z.cells (0+n-0)++Builtin.zeroCells z.cells (G-(0+n))) (ρ.t 25))).heap.size:=by
    show w.heap.size<(w.heap.push _).size
    simp
   rcases aI0.1 hb with hb | hb
   ·simp[Ad]at hb;subst hb;exact h1
   ·exact Nat.lt_trans (hM b hb) h1
  ·simp only[aG0]at he;subst he;refine⟨by simp,.inr ⟨w.heap.size,_,G,rfl,rfl,heap_alloc_new w.drew _,by simp,hGm,?_,by simp[Fz]⟩⟩;simp only[Array.size_append,size_zeroCells,hzc];simp;omega
  ·simp[Ad]at hb
   right
   omega
  ·simp only[aG0]at he;subst he;simp at h
  ·simp only[rd];intro l hl;simp[Aj,Ax]at hl;rw[<-hl]
theorem Lx {P:Program} {f:FuncId} {args:List DVal} {et k bs:Nat} (h:Ac P f args .nilsl):AS P (.func f) args [] (.osl 0 1) [⟨0,1,.row et k bs []⟩]:=by
 refine⟨by simp,h.1,fun M w loc vs S hr=>⟨h.1,(h.2.2 _ _ _ _ S.lt hr).mono ?_⟩⟩;rintro e w' ⟨v,rfl,hu,hv⟩;have hM:∀b∈M,b<w'.heap.size:=fun b hb=>cN0 (S.lt b (aV0 _ hb)) hu.size
 simp only[rd]at hv;refine⟨_,rfl,fun _=>⟨[],.slice none 0 0⟩,⟨by simp,by simp[Ad],by simp[Ad],fun b hb=>hM b (by simpa[Ad]using hb),fun e he=> ?_⟩,by simpa[Ad]using hu,fun b hb=>by simp[Ad]at hb,fun e he h=> ?_,?_⟩
 ·simp only[aG0]at he;subst he;exact⟨by simp,.inl ⟨rfl,rfl,rfl⟩⟩
 ·simp only[aG0]at he;subst he;simp at h
 ·simp only[rd];intro l hl;simp[Aj,Ax]at hl;rw[<-hl];exact hv
theorem Xw {P:Program} {f:FuncId} {k bs:Nat} {d:DVal} {own':List Ent} (h1:AS P (.func f) [.nilsl] [] d own') (h2:AS P (.func f) [.esl] [] d own'):AS P (.func f) [.sl k bs []] [] d own':=by
 refine⟨h1.1,h1.2.1,fun M w loc vs S hr=> ?_⟩;simp only[AL]at hr;obtain⟨v,r,vN,h5,rfl⟩:=hr;simp only[rd]at h5;obtain⟨a,cap,rfl,_,hc,_,h7⟩:=h5
 cases a with
 | none =>
  have:cap=0:=by
   rcases h7 with h7 | ⟨b,off,arr,ty,fz,h8,_⟩
   ·exact h7.2 rfl
   ·simp at h8
  subst this;refine h1.2.2 M w loc vs S ?_;rw[vN];simp only[AL];exact⟨_,_,rfl,by simp[rd],rfl⟩
 | some ad =>
  refine h2.2.2 M w loc vs S ?_;rw[vN];simp only[AL];exact⟨_,_,rfl,by simp only[rd];exact⟨ad,cap,rfl,hc⟩,rfl⟩
end Go.Dm
end
section
namespace Go.Proofs.Wy
open Go Go.Dm Go.Shelf Tryz
variable [DMode]
attribute [local irreducible] DW Bs Bv
set_option maxRecDepth 100000
def Qs (ls:List (List Nat)):List Nat:=ls.flatten
def NQ (ls:List (List Nat)):Nat:=(Qs ls).length
theorem ZF (ls:List (List Nat)) (l:List Nat):Qs (ls++[l])=Qs ls++l:=by simp[Qs]
theorem BS_ : Qs []=[]:=rfl
theorem Yt (ls:List (List Nat)) (l:List Nat):NQ (ls++[l])=NQ ls+l.length:=by unfold NQ;rw[ZF,aC0]
def eV (l:List Nat):List DVal:=[Cl l]
@[simp] theorem Rc_ (l:List Nat):AV (eV l)=0:=by simp[eV,AV,mx]
@[simp] theorem TA_ (l:List (List Nat)):BK (l.map eV)=0:=Jb _ Rc_ l
def KP : Ann:=⟨[5],[]⟩
theorem Qp (l:List Nat) (hl:l.length*8<=140737488355328):AS prog (.func 192) [Cl l] [] (.osl 0 1) [⟨0,1,.row 3 1 8 (l.map Bg)⟩]:=by
 match l,hl with
 | [],_ =>
  refine Xw ?_ ?_
  ·refine Lx ?_;refine Ab [] KP func192 call192 ntmps192 mxd (Ap @KP.eq_1 results192) rfl (fun qJ B qX qQ=> ?_);simp only[Ak];exact Al Aa Aa Aa
  ·refine Bi [] [(5,0,1)] KP func192 call192 ntmps192 mxd (Ap @KP.eq_1 results192) rfl (fun qJ B qX qQ=> ?_);simp only[Ak,List.nil_append];exact Al Aa Aa Aa
 | x::l,hl =>
  refine Bi [] [(5,0,1)] KP func192 call192 ntmps192 mxd (Ap @KP.eq_1 results192) rfl (fun qJ B qX qQ=> ?_);simp only[List.length_cons]at hl;have wS:(l.length+1)*8<=150000000000000:=by omega
  have kZ:l.length<9223372036854775807:=by omega
  simp only[Ak,List.nil_append,List.map_cons,Cl,Bg];exact Al Aa Aa Aa
theorem GD_ (n:Nat) (hn:n*8<=140737488355328):AS prog (.func 265) [.nilsl,.int .i64 n] [] (.osl 0 1) [⟨0,1,.row 3 1 8 []⟩] :=
 GE_ Tryz.growI rfl call265 rfl (hi0:=(rfl:Tryz.prog.info? 3=some _)) (z:= .int .i64 0) rfl rfl rfl rfl (by decide) n hn
theorem XK (l:List Int):AS prog (.func 110) [.osl 0 0] [⟨0,0,.row 3 1 8 (l.map Du)⟩] (.tup []) [⟨0,0,.row 3 1 8 ((LH l).map Du)⟩] :=
 eG Tryz.sortInt rfl call110 (by decide) l
def Er_ : Ann:=⟨[24],[]⟩
theorem WC (ls:List (List Nat)) (hb:NQ ls*8<=140737488355328):AS prog (.func 185) [.sl 1 24 (ls.map eV)] [] (.osl 0 1) [⟨0,1,.row 3 1 8 ((Qs ls).map Bg)⟩]:=by
 refine Bi [] [(24,0,1)] Er_ func185 call185 ntmps185 mxd (Ap @Er_.eq_1 results185) rfl (fun qJ B qX qQ=> ?_);simp only[Ak,List.nil_append]
 have hsum:∀k,k<=ls.length->NQ (ls.take k)*8<=140737488355328:=fun k hk=>by
  unfold NQ Qs at hb |-;have h1:ls.flatten.length=(ls.take k).flatten.length+(ls.drop k).flatten.length:=by rw[<-aC0,<-List.flatten_append,List.take_append_drop]
  omega
 have rQ:ls.length<9223372036854775807:=by
  have h1:=qJ.1;simp only[Dq,aJ0]at h1;have h2:=h1.1;unfold maxLen at h2;omega
 clear qJ
 (refine Au Aa Aa Aa ?_;intros;refine Ae ?_)
 refine Af (X:={k:Nat//k<=ls.length}) (fun k=>⟨[(0,.sl 1 24 (ls.map eV)),(3,.int .i64 (NQ (ls.take k.1))),(9,.sl 1 24 (ls.map eV)),(10,.int .i64 ls.length),(11,.int .i64 k.1)],[]⟩) (fun k=>ls.length-k.1) ⟨0,by omega⟩ (Sub.lit (by simp[NQ,BS_])) ?_;rintro⟨k,hk⟩;simp only
 by_cases qV:k<ls.length
 ·obtain⟨x,hx,qU,wA⟩:=Ai qV;have fZ:NQ (ls.take (k+1))=NQ (ls.take k)+x.length:=by rw[Bx hx,Yt]
  have vM:=hsum (k+1) qV;obtain⟨m,hm⟩:∃m,m=NQ (ls.take k):=⟨_,rfl⟩;rw[fZ,<-hm]at vM;rw[<-hm]at fZ |-
  (refine Au Aa Aa (CG qV hx qU @eV.eq_1) ?_;intros;refine Ae ?_)
  refine Ag.mk ⟨k+1,by omega⟩ (Sub.lit (by simp[fZ])) (by simp;omega)
  skip
 ·have qY:k=ls.length:=by omega
  subst qY;rw[aN0];have e1:=GD_ _ hb
  (refine Au Aa (Aq (DF [] [(24,0)] e1)) Aa ?_;intros;refine Ae ?_)
  refine Af (X:={k:Nat//k<=ls.length}) (fun k=>⟨[(6,.osl 24 1),(25,.sl 1 24 (ls.map eV)),(26,.int .i64 ls.length),(27,.int .i64 k.1)],[⟨24,1,.row 3 1 8 ((Qs (ls.take k.1)).map Bg)⟩]⟩) (fun k=>ls.length-k.1) ⟨0,by omega⟩ (Sub.lit (by simp[BS_])) ?_;rintro⟨k,hk⟩;simp only
  by_cases qV:k<ls.length
  ·obtain⟨x,hx,qU,wA⟩:=Ai qV;have fZ:(Qs (ls.take (k+1))).map Bg=(Qs (ls.take k)).map Bg++x.map Bg:=by rw[Bx hx,ZF,aX0]
   have vM:=hsum (k+1) qV;have hs3:NQ (ls.take (k+1))=NQ (ls.take k)+x.length:=by rw[Bx hx,Yt]
   obtain⟨F,hF⟩:∃F,F=Qs (ls.take k):=⟨_,rfl⟩;have hFl:F.length=NQ (ls.take k):=by rw[hF];rfl
   rw[hs3,<-hFl]at vM;rw[<-hF]at fZ |-;have hs4:(F.length+x.length)*8<=150000000000000:=by omega
   (refine Au Aa Aa (Dx qV hx qU @eV.eq_1 hs4) ?_;intros;refine Ae ?_)
   refine Ag.mk ⟨k+1,by omega⟩ (Sub.lit (by simp[fZ])) (by simp;omega)
   skip
  ·have qY:k=ls.length:=by omega
   subst qY;rw[aN0];exact Al Aa Aa Aa
def Ee (SF:List Sym) (P:List (Nat×Nat)):List Arc:=P.map (Tu SF)
theorem Mr_ (SF:List Sym):Ee SF []=[]:=rfl
theorem Ih (SF:List Sym) (P Q:List (Nat×Nat)):Ee SF (P++Q)=Ee SF P++Ee SF Q:=by simp[Ee]
theorem NI (SF:List Sym) (P:List (Nat×Nat)):(Ee SF P).length=P.length:=by simp[Ee]
def Kf (x:Nat) (f:List Nat):List (Nat×Nat):=f.map fun q=>(x,q)
theorem FT_ (x:Nat) (f:List Nat) (q:Nat):Kf x (f++[q])=Kf x f++[(x,q)]:=by simp[Kf]
theorem KP_ (x:Nat):Kf x []=[]:=rfl
theorem YK (x:Nat) (f:List Nat):(Kf x f).length=f.length:=by simp[Kf]
def BW (u v:Nat) (S:List Sym) (A:List Arc):List Ent:=[⟨0,0,.box [.osl 1 u,.osl 2 v]⟩,⟨1,u,.row 95 2 16 (S.map AA)⟩,⟨2,v,.row 97 4 32 (A.map Bm)⟩]
theorem Gu_ (l f:List Nat) (x:Nat):Dd (l++[x]) f=Dd l f++Kf x f:=by simp[Dd,Kf]
theorem RF (l f:List Nat):(Dd l f).length=l.length*f.length:=by
 induction l with
 | nil=>simp[Dd]
 | cons x l ih =>
  have:Dd (x::l) f=(f.map fun q=>(x,q))++Dd l f:=rfl;rw[this,aC0,ih,aJ0,List.length_cons,cA0];omega
theorem Ts_ {S SF:List Sym} (hp:S <+: SF) {q:Nat} (h1:1<=q) (h2:q<=S.length):S[q-1]? =some (SF.getD (q-1) ⟨false,0⟩):=by
 obtain⟨R,rfl⟩:=hp;have h:q-1<S.length:=by omega
 rw[aZ0,bC0 h,aD0 h];rfl
def QV : Ann:=⟨[],[⟨6,[],[0],[]⟩]⟩
theorem MD (S SF:List Sym) (A:List Arc) (l f:List Nat) (hp:S <+: SF) (hf:∀q∈f,1<=q/\q<=S.length) (hS:S.length<9223372036854775807) (hb:(A.length+l.length*f.length)*32<=150000000000000) :
  AS prog (.func 107) [.bx 0 0 0,Cl l,Cl f] (BW 0 0 S A) (.tup []) (BW 0 1 S (A++Ee SF (Dd l f))):=by
 refine Bi [] [(0,0,0),(1,1,0),(2,2,1)] QV func107 call107 ntmps107 mxd (Ap @QV.eq_1 results107) rfl (fun qJ B qX qQ=> ?_) (hv:=(by simp[BW]))
 have rQ:l.length<9223372036854775807/\f.length<9223372036854775807:=by
  have h1:=qJ;simp only[Gj,Dq,aJ0,maxLen]at h1;omega
 clear qJ;simp only[Ak]
 (refine Au Aa Aa (Aq @BW.eq_1) ?_;intros;refine Ae ?_)
 refine Af (X:={i:Nat//i<=l.length}) (fun i=>⟨[(0,.bx 0 0 0),(2,Cl f),(10,Cl l),(11,.int .i64 l.length),(12,.int .i64 i.1)],BW 0 1 S (A++Ee SF (Dd (l.take i.1) f))⟩) (fun i=>l.length-i.1) ⟨0,by omega⟩ (Sub.lit (by simp[BW,LC_,Mr_])) ?_;rintro⟨i,hi⟩;simp only
 by_cases qV:i<l.length
 ·obtain⟨x,hx,qU,wA⟩:=Ai qV;have mK:=Gu_ (l.take i) f x;rw[<-Bx hx]at mK
  have sV:(Dd (l.take (i+1)) f).length<=l.length*f.length:=by
   rw[RF];exact aQ0 _ (by rw[aT0];omega)
  rw[mK,aC0,YK]at sV;obtain⟨P,hP⟩:∃P,P=Dd (l.take i) f:=⟨_,rfl⟩;rw[<-hP]at sV mK |-
  (refine Au Aa Aa (Dx @BW.eq_1 qV hx qU @Bg.eq_1) ?_;intros;refine Ae ?_)
  refine Af (X:={j:Nat//j<=f.length}) (fun j=>⟨[(0,.bx 0 0 0),(2,Cl f),(7,.int .i64 x),(10,Cl l),(11,.int .i64 l.length),(12,.int .i64 i),(16,Cl f),(17,.int .i64 f.length),(18,.int .i64 j.1)],BW 0 1 S (A++Ee SF (P++Kf x (f.take j.1)))⟩) (fun j=>f.length-j.1) ⟨0,by omega⟩ (Sub.lit (by simp[BW,KP_])) ?_;rintro⟨j,hj⟩;simp only
  by_cases qW:j<f.length
  ·obtain⟨q,hq,vV,jJ⟩:=Ai qW;obtain⟨wG,wH⟩:=hf q jJ;have yV:q-1<S.length:=by omega
   obtain⟨y,hy,wN,gG⟩:=Ai yV
   have hA:Tu SF (x,q)=⟨x,y,q⟩:=by
    have sF:=Ts_ hp wG wH;rw[hy]at sF;simp only[aA0]at sF;unfold Tu;rw[<-sF]
   have zH:Ee SF (P++Kf x (f.take (j+1)))=Ee SF (P++Kf x (f.take j))++[⟨x,y,q⟩]:=by rw[Bx hq,FT_,<-aR0,Ih,<-hA];rfl
   have hln:(Ee SF (P++Kf x (f.take j))).length+1<=l.length*f.length:=by rw[NI,aC0,YK,aT0];omega
   obtain⟨Z,hZ⟩:∃Z,Z=Ee SF (P++Kf x (f.take j)):=⟨_,rfl⟩;rw[<-hZ]at zH hln |-;have qP:(A.length+Z.length+1)*32<=150000000000000:=by omega
   have wF:IntKind.i64.wrap ((q:Int)-1)=((q-1:Nat):Int):=by rw[wq];omega
   (repeat (first | refine AI fun K hK=> ?_ | (refine BR QV mxd (by kernel_rfl) ?_;simp[QV,qX,BW,qW,hq,vV,Bg,wF,yV,hy,wN,AA];try simp (disch:=omega) only[Ao]) | refine Aw ?_ | (refine Bb ?_ ?_ ?_;(· (simp[qX,BW,qW,hq,vV,Bg,wF,yV,hy,wN,AA];done));(try (rotate_left;(· (intro hc;(try simp[qX,BW,qW,hq,vV,Bg,wF,yV,hy,wN,AA]at hc);done))))) | (refine AK ?_;simp[results107,qX,BW,qW,hq,vV,Bg,wF,yV,hy,wN,AA]) | ((first | refine AD ?_ | refine AC ?_);simp[qX,BW,qW,hq,vV,Bg,wF,yV,hy,wN,AA]) | (intro hc;(try simp[qX,BW,qW,hq,vV,Bg,wF,yV,hy,wN,AA]at hc);(try (exfalso;omega))) | (refine⟨?_,?_⟩; · omega) | omega | apply_assumption -exfalso -symm | (exfalso;omega)))
   refine Ag.mk ⟨j+1,by omega⟩ (Sub.lit (by simp[BW,zH,Bm])) (by simp;omega)
   skip
  ·have qY:j=f.length:=by omega
   subst qY;rw[aN0,<-mK]
   (refine Au Aa Aa (Aq @BW.eq_1) ?_;intros;refine Ae ?_)
   refine Ag.mk ⟨i+1,by omega⟩ (Sub.lit (by simp[BW])) (by simp;omega)
   skip
 ·have qY:i=l.length:=by omega
  subst qY;rw[aN0];exact Al Aa Aa (Aq @BW.eq_1)
end Go.Proofs.Wy
end
section
namespace Go.Proofs.Wy
open Go Go.Dm Tryz
variable [DMode]
theorem HO (l m:List Nd):Dh (l++m)=Dh l++Dh m:=by simp[Dh]
theorem AK_ (x:Nd) (l:List Nd):Dh (x::l)=(if Cw x=true then [x]else [])++Dh l:=by unfold Dh;rw[List.filter_cons];cases Cw x<;>rfl
theorem LM_ (u:RT):Av [u]=flat u:=by rw[AH,CT,bM0]
theorem Vy {x:Nd} (h:x.k=2\/x.k=3) (l:List Nd):Dh (x::l)=x::Dh l:=by rw[AK_,if_pos (Ca.2 h)];rfl
theorem My {x:Nd} (h:¬(x.k=2\/x.k=3)) (l:List Nd):Dh (x::l)=Dh l:=by rw[AK_,if_neg (fun hh=>h (Ca.1 hh))];rfl
mutual
theorem Ub : ∀(t:RT) (a:Nat),(XA t a).length<=(Dh (flat t)).length
 | .mk x ks,a=>by
  rw[RU,Bc]
  split
  ·rename_i h;rw[Vy h];simp
  ·rename_i h;rw[My h];exact Uc x.k ks (a+1)
theorem Uc (k:Int):∀(us:List RT) (a:Nat),(oE k us a).length<=(Dh (Av us)).length
 | [],a=>by rw[NE];simp
 | u::us,a=>by
  have h1:=Ub u a;have h2:=Uc k us (a+(flat u).length);rw[IM,AH,HO,aC0,aC0]
  split
  ·simp;omega
  ·omega
end
mutual
theorem TT : ∀(t:RT) (a:Nat),(Rf t a).length<=(Dh (flat t)).length
 | .mk x ks,a=>by
  rw[OQ,Bc]
  split
  ·rename_i h;rw[Vy h];simp
  ·rename_i h;rw[My h];exact TU x.k ks (a+1)
theorem TU (k:Int):∀(us:List RT) (a:Nat),(Th k us a).length<=(Dh (Av us)).length
 | [],a=>by rw[Jt];simp
 | u::us,a=>by
  have h1:=TT u a;have h2:=TU k us (a+(flat u).length);rw[FY,AH,HO,aC0]
  split
  ·rw[aC0]
   split
   ·omega
   ·simp;omega
  ·rw[aC0];omega
end
theorem TV {l f:List Nat} (h1:l.length<=64) (h2:f.length<=64):l.length*f.length<=4096:=eJ0 h1 h2
mutual
theorem tI : ∀(t:RT) (a:Nat),(Dh (flat t)).length<=64->(arT t a).length+4096<=8192*(flat t).length
 | .mk x ks,a,hM=>by
  rw[Pc,Bc,List.length_cons]
  split
  ·simp;omega
  ·rename_i h;rw[Bc,My h]at hM;have h1:=tK x.k ks (a+1) [] (by simpa using hM);have h2:=TU x.k ks (a+1);have h3:=Uc x.k ks (a+1);rw[aC0]
   split
   ·rw[RF];have:=TV (l:=Th x.k ks (a+1)) (f:=oE x.k ks (a+1)) (by omega) (by omega);omega
   ·simp;omega
theorem tK (k:Int):∀(us:List RT) (a:Nat) (acc:List Nat),acc.length+(Dh (Av us)).length<=64->(arL k us a acc).length<=8192*(Av us).length
 | [],a,acc,_=>by rw[Lt];simp
 | u::us,a,acc,hM=>by
  rw[AH,HO,aC0]at hM;have h1:=tI u a (by omega);have h2:=Ub u a;have h3:=TT u a
  have h4:=tK k us (a+(flat u).length) (if k=4 then Rf u a++(if CC u=true then acc else [])else []) (by
   split
   ·rw[aC0]
    split
    ·omega
    ·simp;omega
   ·simp;omega)
  rw[Fi,AH,aC0,aC0,aC0]
  split
  ·rename_i h5;rw[if_pos h5]at h4;rw[RF];have:=TV (l:=acc) (f:=XA u a) (by omega) (by omega);omega
  ·rename_i h5;rw[if_neg h5]at h4;simp only[List.length_nil];omega
end
theorem Zc (l f:List Nat) (L:List Nd) (ah:Nat):Dd (l.map (GA L ah)) (f.map (GA L ah))=(Dd l f).map (iR L ah):=by
 induction l with
 | nil=>rfl
 | cons p l ih =>
  have h1:∀(p:Nat) (l f:List Nat),Dd (p::l) f=f.map (fun q=>(p,q))++Dd l f:=fun _ _ _=>rfl
  rw[List.map_cons,h1,h1,ih,aX0,cF0,cF0];rfl
theorem Io {l:List Nd} {a:Nat} {m r:List Nd} (h:l.drop a=m++r):KZ l (a+m.length)=KZ l a+(Dh m).length:=by
 unfold KZ Dh
 have h1:l.take (a+m.length)=l.take a++m:=by
  rw[List.take_add,h,List.take_left'];rfl
 rw[h1,dC0,aC0]
theorem Zx {l:List Nd} {a:Nat} {m r:List Nd} (h:l.drop a=m++r):l.drop (a+m.length)=r:=by
 rw[<-fL0,h,List.drop_left'];rfl
theorem RD_ {l:List Nd} {a p:Nat} {m r:List Nd} {x:Nd} (h:l.drop a=m++r) (hp:a<=p) (hx:m[p-a]? =some x):l[p]? =some x:=by
 have h1:(l.drop a)[p-a]? =some x:=by
  rw[h,bC0 (aB0.1 hx).1];exact hx
 rw[dB0]at h1
 rwa[show a+(p-a)=p by omega]at h1
theorem Ip_ {l:List Nd} {a:Nat} {m r:List Nd} (h:l.drop a=m++r):(Dh m).length<=(Dh l).length:=by
 have h1:Dh l=Dh (l.take a)++(Dh m++Dh r):=by rw[<-HO,<-h,<-HO,List.take_append_drop]
 rw[h1,aC0,aC0];omega
theorem iQ {l m r:List Nd} {a ah q:Nat} (h:l.drop a=m++r) (hq:a<=q) (hx:∃x,m[q-a]? =some x/\(x.k=2\/x.k=3)):1<=GA l ah q/\GA l ah q<=ah+KZ l (a+m.length):=by
 obtain⟨x,hx,hk⟩:=hx;have h1:=RD_ h hq hx;have h2:=FA_ h1 (Ca.2 hk) (show q<a+m.length by have:=(aB0.1 hx).1;omega);unfold GA;omega
theorem Pr_ {l r:List Nd} {t:RT} {a ah:Nat} (h:l.drop a=flat t++r):∀q∈(XA t a).map (GA l ah),1<=q/\q<=ah+KZ l (a+(flat t).length):=by
 intro q hq;obtain⟨p,hp,rfl⟩:=aU0.1 hq;exact iQ h (MQ t a p hp).1 (Qg t a p hp)
theorem Rz_ {l r:List Nd} {k:Int} {us:List RT} {a ah:Nat} (h:l.drop a=Av us++r):∀q∈(oE k us a).map (GA l ah),1<=q/\q<=ah+KZ l (a+(Av us).length):=by
 intro q hq;obtain⟨p,hp,rfl⟩:=aU0.1 hq;exact iQ h (OW k us a p hp).1 (Qh k us a p hp)
def pE (k:Int) (us:List RT):Bool:=if k=4 then Hy us else if k=1 then true else Fv us
theorem ZN (ts:List RT) (t:RT):Fv (ts++[t])=(Fv ts||CC t):=by rw[QC,QC,dU0];simp
theorem SB_ (k:Int):pE k []=(decide (k=1)||decide (k=4)):=by
 unfold pE;rw[IX,show Fv []=false by rw[Fv]]
 by_cases h4:k=4
 ·simp[h4]
 ·by_cases h1:k=1<;>simp[h1,h4]
theorem QS_ (k:Int) (us:List RT) (u:RT):pE k (us++[u])=if k=4 then (pE k us&&CC u)else (pE k us||CC u):=by
 unfold pE
 by_cases h4:k=4
 ·rw[if_pos h4,if_pos h4,if_pos h4,Sj]
 ·rw[if_neg h4,if_neg h4,if_neg h4]
  by_cases h1:k=1
  ·rw[if_pos h1,if_pos h1];rfl
  ·rw[if_neg h1,if_neg h1,ZN]
theorem SC_ {x:Nd} {ks:List RT} (h:FU (.mk x ks)=true) (hn:¬(x.k=2\/x.k=3)):CC (.mk x ks)=(pE x.k ks||decide (x.k=6)||decide (x.k=8)):=by
 have hm:=(CV h).1;rw[oH,if_neg hn];unfold pE
 by_cases h5:x.k=5
 ·simp[h5]
 by_cases h4:x.k=4
 ·simp[h4]
 by_cases h7:x.k=7
 ·obtain⟨u,rfl⟩:=TL h (by omega);rw[h7];simp[Sk,IX,Fv]
 by_cases h1:x.k=1
 ·simp[h1]
 by_cases h6:x.k=6
 ·simp[h6]
 by_cases h8:x.k=8
 ·simp[h8]
 exfalso;unfold Fe at hm;rw[if_neg h1,if_neg (fun e=>hn (.inl e)),if_neg (fun e=>hn (.inr e)),if_neg h4,if_neg h5,if_neg h6,if_neg h7,if_neg h8]at hm;simp at hm
end Go.Proofs.Wy
end
section
namespace Go.Proofs.Wy
open Go Go.Dm Go.Shelf Tryz
variable [DMode]
attribute [local irreducible] DW Bs Bv
set_option maxRecDepth 100000
abbrev Qn (e:Bool) (f l:List Nat):DVal:= .agg [.bool e,Cl f,Cl l]
theorem TY_ (a b:List Nat):Qs [a,b]=a++b:=by simp[Qs]
theorem Tr_ (a b:List Nat):NQ [a,b]=a.length+b.length:=by simp[NQ,Qs]
theorem HR (a b:List Nat) (hb:(a.length+b.length)*8<=140737488355328):AS prog (.func 185) [.sl 1 24 [[Cl a],[Cl b]]] [] (.osl 0 1) [⟨0,1,.row 3 1 8 ((a++b).map Bg)⟩]:=by
 have h:=WC [a,b] (by rw[Tr_];exact hb);rw[TY_]at h;exact h
def Ep_ : Ann:=⟨[16,22],[⟨1,[],[],[3,4,5,12,13,14,15,16]⟩]⟩
theorem Hu_ (e e':Bool) (f f' l l':List Nat) (hf:(f.length+f'.length)*8<=140737488355328) (hl:(l.length+l'.length)*8<=140737488355328) :
  Ac prog 106 [Qn e f l,Qn e' f' l'] (Qn (e||e') (f++f') (l++l')):=by
 refine Ab [16,22,4] Ep_ func106 call106 ntmps106 mxd (Ap @Ep_.eq_1 results106) rfl (fun qJ B qX qQ=> ?_);clear qJ;simp only[Ak];have e1:=HR f f' hf;have e2:=HR l l' hl;obtain⟨F,hF⟩:∃F,F=f++f':=⟨_,rfl⟩;obtain⟨L,hL⟩:∃L,L=l++l':=⟨_,rfl⟩;rw[<-hF]at e1 |-;rw[<-hL]at e2 |-;have zS:List.range 2=[0,1]:=rfl;cases e
 ·exact Al Aa (Ap (DF [] [(16,0)] e1) (DF [] [(22,0)] e2)) (Aq zS)
 ·exact Al Aa (Ap (DF [] [(16,0)] e1) (DF [] [(22,0)] e2)) (Aq zS)
def Xr : Ann:=⟨[16,22],[⟨1,[],[],[3,4,5,12,13,14,15,16]⟩]⟩
theorem Ht_ (e e':Bool) (f f' l l':List Nat) (hf:(f.length+f'.length)*8<=140737488355328) (hl:(l.length+l'.length)*8<=140737488355328) :
  AS prog (.func 106) [Qn e f l,Qn e' f' l'] [] (.agg [.bool (e||e'),Cl (f++f'),.osl 0 1]) [⟨0,1,.row 3 1 8 ((l++l').map Bg)⟩]:=by
 refine Bi [16,4] [(22,0,1)] Xr func106 call106 ntmps106 mxd (Ap @Xr.eq_1 results106) rfl (fun qJ B qX qQ=> ?_);clear qJ;simp only[Ak,List.nil_append];have e1:=HR f f' hf;have e2:=HR l l' hl;obtain⟨F,hF⟩:∃F,F=f++f':=⟨_,rfl⟩;obtain⟨L,hL⟩:∃L,L=l++l':=⟨_,rfl⟩;rw[<-hF]at e1 |-;rw[<-hL]at e2 |-;have zS:List.range 2=[0,1]:=rfl;cases e
 ·exact Al Aa (Ap (DF [] [(16,0)] e1) (DF [] [(22,0)] e2)) (Aq zS)
 ·exact Al Aa (Ap (DF [] [(16,0)] e1) (DF [] [(22,0)] e2)) (Aq zS)
def Eq_ : Ann:=⟨[],[⟨1,[4],[],[]⟩]⟩
theorem La_ (H L:List ByteArray) (x:Nd):Ac prog 105 [.agg (BS x),.ref [Hf H L]] (.agg (AA (Fq H L x))):=by
 refine Ab [] Eq_ func105 call105 ntmps105 mxd (Ap @Eq_.eq_1 results105) rfl (fun qJ B qX qQ=> ?_) (hd:=(by simp[mx,AA]));clear qJ;simp only[Ak];have e1:=UD H L x;exact Al (Aq e1) Aa (Ap @BS.eq_1 @AA.eq_1)
end Go.Proofs.Wy
end
section
namespace Go.Dm
variable [DMode]
theorem Kj_ {F:Fence} {n:Nat} {P:Program} {Q:Exit->Act->World->Prop} {o:Oper} {a:Act} {w:World} {K:Act->World->Prop} {t:Nat} {v0:Value} (ht:o.dst≠some t) (h0:a.tmps.getD t Go.undef=v0)
  (hh:o.wpIn F n P a w K Q):o.wpIn F n P a w (fun a' w'=>K a' w'/\a'.tmps.getD t Go.undef=v0) Q:=by
 have key:∀(a:Act) v,a.tmps.getD t Go.undef=v0->(a.put o.dst v).tmps.getD t Go.undef=v0:=by
  intro a v h0;unfold Act.put
  cases hd:o.dst with
  | none=>exact h0
  | some i =>
   have hi:i≠t:=fun e=>ht (by rw[hd,e])
   show (a.tmps.setIfInBounds i v).getD t Go.undef=v0
   rw[aW0]at h0 |-;rw[dZ0 hi];exact h0
 unfold Oper.wpIn at *;refine⟨hh.1,?_⟩;have hh:=hh.2
 generalize (o.semAt F.round a.eval).run P w=r at *
 cases r with
 | ok x w' =>
  cases x<;>simp only[Oper.uponIn]at hh |- <;>
   first
    | exact⟨hh,key _ _ h0⟩
    | exact⟨hh,key { a with defers:=_ } _ h0⟩
    | exact⟨hh.1,CallsIn.mono hh.2 (fun e w'' he=>by cases e<;>first | exact⟨he,key _ _ h0⟩ | exact he)⟩
    | exact⟨hh.1,RowsIn.mono hh.2 (fun _ _ he=>⟨he,key _ _ h0⟩)⟩
    | exact⟨hh.1,RoundIn.mono hh.2 (fun e w'' he=>by cases e<;>first | exact⟨he,key _ _ h0⟩ | exact he)⟩
 | halt x w'=>cases x<;>simp only[Oper.uponIn]at hh |- <;>exact hh
section
variable {P : Program} {B : Base} {s : DS}
def Tf_ (B B':Base) (t b:Nat) (cs:List DVal):Prop :=
 B'.nt=B.nt/\B'.N=B.N/\B'.ro=B.ro/\∀s' a' w' loc',Rel B' s' a' w' loc'->a'.tmps.getD t Go.undef= .pointer (some ⟨b,0,none⟩) ->
  ∃loc'',Rel B ⟨(t,.bx t (CL B s') 0)::s'.slots,upE s'.own t (CL B s') (.box cs)⟩ a' w' loc''
theorem Rel.hide {X:DS} {a:Act} {w:World} {loc:Nat->Loc} {t ty:Nat} {cs:List DVal} {us:List Value} (R:Rel B X a w loc) (ht:t<B.nt) (hX:BL X.slots t= .any)
  (zF:∀cur M h,AL cur M h cs us) (zE:AV cs=0) (wW:∀u∈us,u.oneCell'=true) :
  ∃B',Tf_ B B' t w.heap.size cs/\Rel B' X (a.put (some t) (.pointer (some ⟨w.heap.size,0,none⟩))) (w.alloc (.cells us.toArray ty)) loc:=by
 have rJ:∀b∈Ad X.own loc++B.M0,b<w.heap.size:=R.st.lt;have hsz1:(w.alloc (.cells us.toArray ty)).heap.size=w.heap.size+1:=by show (w.heap.push _).size=_;simp
 have kK:∀b,b<w.heap.size->(w.alloc (.cells us.toArray ty)).heap[b]? =w.heap[b]? :=fun b hb=>by
  show (w.heap.push _)[b]? =_
  rw[bZ0,if_neg (by omega)]
 have hU:Upd (Ad X.own loc) w (w.alloc (.cells us.toArray ty)):=Upd.alloc _ _ _
 let B':Base:=⟨X.own,loc,w.heap.size::B.M0,B.N,w.alloc (.cells us.toArray ty),B.nt,B.ro,B.hN,B.nd,by have h1:=B.hnd;have h2:=R.upd.size;omega⟩
 have W:Weak (Aj X.own loc) (Aj X.own loc) (Ad X.own loc++B.M0) (Ad X.own loc++w.heap.size::B.M0) w.heap (w.alloc (.cells us.toArray ty)).heap (CL B X):=by
  refine⟨fun _ _ _ _ h=>h,fun b o _ _ ho=> ?_,fun b o hb _ ho hm=> ?_⟩
  ·have qV:=(aH0.1 ho).1;rw[kK b qV];exact ho
  ·have qV:=(aH0.1 ho).1
   rcases aI0.1 hm with h | h
   ·exact hb (aS0 _ h)
   ·rcases aL0.1 h with h | h
    ·omega
    ·exact hb (aV0 _ h)
 have nF:∀i,mx (BL X.slots i)<=CL B X:=fun i=>Nat.le_trans (TQ _ i) (by unfold CL;omega)
 refine⟨B',⟨rfl,rfl,rfl,?_⟩,?_⟩
 ·intro s' a' w' loc' R' hv;have hlimE:CL B' s'=CL B s':=rfl;have hbM:w.heap.size∉B.M0:=fun h=>by have:=rJ _ (aV0 _ h);omega
  have hbH:w.heap.size∉Ad X.own loc:=fun h=>by have:=rJ _ (aS0 _ h);omega
  have hbS:w.heap.size∉Ad s'.own loc':=fun h=>R'.st.ap _ h aF0
  have zQ:w'.heap[w.heap.size]? =some (.cells us.toArray ty (0,0)):=by
   rw[R'.upd.blk w.heap.size (by show _<(w.alloc _).heap.size;omega) hbH];exact heap_alloc_new w _
  have fL:∀e∈upE s'.own t (CL B s') (.box cs),(e=⟨t,CL B s',.box cs⟩)\/(e∈s'.own/\e.id≠t):=fun e he=>by
   rcases aL0.1 he with h | h
   ·exact .inl h
   ·exact .inr (BZ.1 h)
  have wO:∀b∈Ad (upE s'.own t (CL B s') (.box cs)) (DM loc' t ⟨[w.heap.size],Go.undef⟩),b=w.heap.size\/b∈Ad s'.own loc':=by
   intro b hb;obtain⟨e,he,h1⟩:=bV0.1 hb
   rcases fL e he with rfl | ⟨h2,h3⟩
   ·simp only[DM,if_true,aG0]at h1;exact .inl h1
   ·simp only[DM,if_neg h3]at h1;exact .inr (Bw h2 h1)
  have W2:Weak (Aj s'.own loc') (Aj (upE s'.own t (CL B s') (.box cs)) (DM loc' t ⟨[w.heap.size],Go.undef⟩)) (Ad s'.own loc'++w.heap.size::B.M0) (Ad (upE s'.own t (CL B s') (.box cs)) (DM loc' t ⟨[w.heap.size],Go.undef⟩)++B.M0) w'.heap w'.heap (CL B s'):=by
   refine⟨fun id r l hr hl=> ?_,fun b o _ _ ho=>ho,fun b o hb _ _ hm=> ?_⟩
   ·obtain⟨e,he,rfl,rfl,rfl⟩:=Cj hl
    rcases fL e he with rfl | ⟨h2,h3⟩
    ·simp at hr
    ·simp only[DM,if_neg h3];exact Ba R'.st.nd h2
   ·rcases aI0.1 hm with h | h
    ·rcases wO b h with rfl | h
     ·exact hb (aV0 _ aF0)
     ·exact hb (aS0 _ h)
    ·exact hb (aV0 _ (aE0 _ h))
  refine⟨DM loc' t ⟨[w.heap.size],Go.undef⟩,⟨?_,?_,?_,?_,?_⟩,?_,?_,?_,?_,R'.nt,?_⟩
  ·simp only[upE,List.map_cons,cW0];refine⟨fun hm=> ?_,Ft R'.st.nd⟩;obtain⟨e,he,h1⟩:=aU0.1 hm;exact(BZ.1 he).2 h1
  ·unfold upE;rw[Fh,VQ,cB0];simp only[DM,if_true];refine⟨by simp,Fg R'.st.bl _ (Ft R'.st.nd) (fun e he=>(BZ.1 he).1),?_⟩;intro b hb b' qG fM;subst fM;obtain⟨e,he,qK,h1⟩:=TY qG;simp only[aG0]at hb;subst hb;exact hbS (Bw he h1)
  ·intro b hb hm
   rcases wO b hb with rfl | h
   ·exact hbM hm
   ·exact R'.st.ap b h (aE0 _ hm)
  ·intro b hb
   rcases aI0.1 hb with h | h
   ·rcases wO b h with rfl | h
    ·exact(aH0.1 zQ).1
    ·exact R'.st.lt b (aS0 _ h)
   ·exact R'.st.lt b (aV0 _ (aE0 _ h))
  ·intro e he
   rcases fL e he with rfl | ⟨h2,h3⟩
   ·refine⟨w.heap.size,us.toArray,ty,by simp[DM],zQ,by have:=AM _ _ (zF (fun _ _=>none) [] #[]);simpa using this,?_⟩;have:=Iq cs us [] [] (zF (Aj (upE s'.own t (CL B s') (.box cs)) (DM loc' t ⟨[w.heap.size],Go.undef⟩)) (Ad (upE s'.own t (CL B s') (.box cs)) (DM loc' t ⟨[w.heap.size],Go.undef⟩)++B.M0) w'.heap) wW;simpa using this
   ·have hk:=R'.st.ok e h2;have hl:DM loc' t ⟨[w.heap.size],Go.undef⟩ e.id=loc' e.id:=by simp only[DM,if_neg h3]
    rw[hl];refine BF W2 ?_ (fun _ _ _ ho=>ho) hk;have:=(BG h2).2;unfold CL;omega
  ·exact(R.upd.trans (Upd.alloc [] w _) (by simp)).trans R'.upd (fun x hx=>R.new x hx)
  ·intro b hb
   rcases wO b hb with rfl | h
   ·exact .inr R.upd.size
   ·rcases R'.new b h with h | h
    ·exact R.new b h
    ·right
     have h1:w.heap.size+1<=b:=by rw[<-hsz1];exact h
     have:=R.upd.size;omega
  ·intro e he qV
   rcases fL e he with rfl | ⟨h2,h3⟩
   ·simp only at qV;unfold CL at qV;omega
   ·simp only[DM,if_neg h3];obtain⟨e2,k1,k2,k3,k4⟩:=Cj (R'.ver e h2 qV);have:=R.ver e2 k1 (by omega);rw[k2,k3]at this;rw[this,k4]
  ·intro i;simp only[BL]
   split
   ·rename_i hi;subst hi;simp only[rd];intro l hl;rw[EL]at hl;simp only[aA0]at hl;subst hl;exact⟨_,rfl,hv⟩
   ·exact Db W2 _ _ (Nat.le_trans (TQ _ i) (by unfold CL;omega)) (R'.sl i)
  ·obtain⟨rs,g1,g2,g3,g4⟩:=R'.df;refine⟨rs,g1,g2,fun r hr=> ?_,g4⟩;obtain⟨k1,k2,k3⟩:=g3 r hr;refine⟨k1,k2,fun hm=>k3 ?_⟩
   rcases aI0.1 hm with h | h
   ·rcases wO r h with rfl | h
    ·exact aV0 _ aF0
    ·exact aS0 _ h
   ·exact aV0 _ (aE0 _ h)
 ·refine⟨⟨R.st.nd,R.st.bl,?_,?_,?_⟩,Upd.refl _ _,fun b hb=> .inl hb,fun e he _=>Ba R.st.nd he,?_,by simpa[Act.put]using R.nt,?_⟩
  ·intro b hb hm
   rcases aL0.1 hm with h | h
   ·have:=rJ b (aS0 _ hb);omega
   ·exact R.st.ap b hb h
  ·intro b hb;rw[hsz1]
   rcases aI0.1 hb with h | h
   ·have:=rJ b (aS0 _ h);omega
   ·rcases aL0.1 h with h | h
    ·omega
    ·have:=rJ b (aV0 _ h);omega
  ·intro e he;have:=(BG he).2;exact BF W (by unfold CL;omega) (fun b o _ ho=>by rw[kK b (aH0.1 ho).1];exact ho) (R.st.ok e he)
  ·intro i
   by_cases hi:i=t
   ·subst hi;rw[hX];simp only[rd]
   ·have h1:(a.put (some t) (.pointer (some ⟨w.heap.size,0,none⟩))).tmps.getD i Go.undef=a.tmps.getD i Go.undef:=by
     show (a.tmps.setIfInBounds t _).getD i Go.undef=_
     rw[aW0,aW0,dZ0 (Ne.symm hi)]
    rw[h1];exact Db W _ _ (nF i) (R.sl i)
  ·refine R.df.keep (B:=B) (M':=Ad X.own loc++w.heap.size::B.M0) rfl hU (fun x hx=>aS0 _ hx) fun b hb=> ?_
   rcases aI0.1 hb with h | h
   ·exact .inl (aS0 _ h)
   ·rcases aL0.1 h with h | h
    ·exact .inr (by omega)
    ·exact .inl (aV0 _ h)
def Gn_ (o:Oper) (n:Nat):Bool:=((List.range n).all fun k=>o.after.toList.any fun e=>Region.binds .any e&&e.on==k)&&o.after.toList.all fun e=>decide (e.on<n)
def TT_ (ops:Array Oper):Bool:=ops.toList.all fun o=>match o.guard with | some (j,_)=>decide (j<ops.size) | none=>true
theorem Fw_ {a:Act} {w:World} {i t:Nat} {z:List DVal} {type:TypeId} {pos:String} {after:Array Edge} {guard:Option (Nat×Bool)} (hz:tZero P t=some z) (hp:z.all (Hs [])=true) :
  ∃us:List Value,(∀cur M h,AL cur M h z us)/\AV z=0/\(∀u∈us,u.oneCell'=true)/\(execOp a.eval ⟨some i,.alloc t,type,pos,after,guard⟩).run P w= .ok (.value (.pointer (some ⟨w.heap.size,0,none⟩))) (w.alloc (.cells us.toArray t)):=by
 obtain⟨zv,jS,rfl⟩:=JV (w:=w) hz
 have zE:AV (zv.cells.toList.map CO)=0:=by
  have h1:∀v,mx (CO v)=0:=by
   intro v;unfold CO
   split<;>(try split)<;>simp[mx]
  generalize zv.cells.toList=l
  induction l with
  | nil=>simp[AV]
  | cons v l ih =>
   show max (mx (CO v)) (AV (l.map CO))=0
   rw[h1,ih];rfl
 refine⟨zv.cells.toList,fun cur M h=>Cd _,zE,?_,?_⟩
 ·exact Iv (s:=⟨[],[]⟩) (loc:=fun _=>⟨[],Go.undef⟩) (M0:=[]) (w:=w) ⟨by simp,by simp[Ad],by simp[Ad],by simp[Ad],by simp⟩ (zv.cells.toList.map CO) zv.cells.toList (bA0.2 fun d hd=>Vm (bA0.1 hp d hd)) (Cd _)
 ·simp[execOp,Instr.alloc,jS,newVar,newRow]
def kF (P:Program) (B:Base) (Q:DS->Prop) (ow:List Nat) (t:Nat) (cs:List DVal) (o:Oper):Cont :=
 ⟨fun s1=>∀r,Dw P B.nt ow [] [] #[o] [o] 0 ⟨Q⟩ ⟨(t,.bx t r 0)::s1.slots,upE s1.own t r (.box cs)⟩⟩
theorem Cn (P:Program) (B:Base) (Q:DS->Prop) (ow:List Nat) (t:Nat) (cs:List DVal) (o:Oper) (s1:DS):(kF P B Q ow t cs o).f s1=∀r,Dw P B.nt ow [] [] #[o] [o] 0 ⟨Q⟩ ⟨(t,.bx t r 0)::s1.slots,upE s1.own t r (.box cs)⟩:=id rfl
theorem TA (ow l1 l2:List Nat) {id t ty:Nat} {ops ops3:Array Oper} {z o:Oper} {cs:List DVal} {Q:Exit->DS->Prop} (hm:P.follows .mixedOrders=true) (h3:ops3=(ops.push z).push o) (qL:GS ow l1 l2 ops=true)
  (hz:z.op= .alloc ty/\z.dst=some t/\z.guard=none/\z.after= #[]) (ho:o.guard=none/\BQ ow o=true) (dY:Gn_ o (ops.size+1)=true) (kL:TT_ ops=true)
  (ht:t<B.nt) (wY:ops.toList.all (fun o=>decide (o.dst≠some t))=true) (hsl:BL s.slots t= .any) (zR:tZero P ty=some cs) (wW:cs.all (Hs [])=true)
  (h:Dw P B.nt ow l1 l2 ops ops.toList 0 (kF P B (Q .normal) ow t cs o) s):DW P B (.region id ops3 true) Q s:=by
 subst h3;intro a w loc R;refine wpIn_region_any hm ?_;obtain⟨Inv,i1,i2,i3,i4⟩:=US (N:=B.N) ow l1 l2 qL R.st.nd h;have tW:∀o∈ops.toList,o.dst≠some t:=fun o ho=>by simpa using bA0.1 wY o ho
 have spec:=SQ (by unfold GS at qL;simp only[aM0]at qL;exact qL.1);have hsz3:((ops.push z).push o).size=ops.size+2:=by simp
 have at_lo:∀k,k<ops.size->((ops.push z).push o)[k]? =ops[k]? :=fun k hk=>by
  rw[bZ0,if_neg (by simp;omega),bZ0,if_neg (by omega)]
 have at_z:((ops.push z).push o)[ops.size]? =some z:=by
  rw[bZ0,if_neg (by simp),bZ0,if_pos rfl]
 have at_o:((ops.push z).push o)[ops.size+1]? =some o:=by
  rw[bZ0,if_pos (by simp)]
 have spec2:(∀k,k<ops.size+1->∃e∈o.after,Region.binds .any e=true/\e.on=k)/\∀e∈o.after,e.on<ops.size+1:=by
  unfold Gn_ at dY;simp only[aM0,bA0,cP0,bW0,beq_iff_eq,decide_eq_true_eq]at dY;exact⟨fun k hk=>by obtain⟨e,he,h1,h2⟩:=dY.1 k hk;exact⟨e,by simpa using he,h1,h2⟩,fun e he=>dY.2 e (by simpa using he)⟩
 let lo:Array Bool->Array Bool:=fun l=>Array.ofFn (n:=ops.size) fun i=>l.getD i.1 false
 have lo_get:∀(l:Array Bool) k d,k<ops.size->(lo l).getD k d=l.getD k false:=by
  intro l k d hk;rw[aW0];simp[lo,hk]
 have lo_set:∀(l:Array Bool) i,i<ops.size->l.size=ops.size+2->lo (l.setIfInBounds i true)=(lo l).setIfInBounds i true:=by
  intro l i hi hl
  apply Array.ext
  ·simp[lo]
  ·intro j h1 h2;rw[Array.getElem_setIfInBounds (by simpa using h2)];simp only[lo,Array.getElem_ofFn]
   split
   ·rename_i zJ;subst zJ;rw[aW0,eK0 (by omega)];rfl
   ·rename_i zJ;rw[aW0,aW0,dZ0 zJ]
 have lo_set2:∀(l:Array Bool) i,ops.size<=i->lo (l.setIfInBounds i true)=lo l:=by
  intro l i hi
  apply Array.ext
  ·simp[lo]
  ·intro j h1 h2;simp only[lo,Array.getElem_ofFn];have hj:j<ops.size:=by simpa[lo]using h2
   rw[aW0,aW0,dZ0 (by omega)]
 have done:∀(fuel:Nat) (listed:Array Bool) (a:Act) (w:World),listed.size=ops.size+2->(∀i,i<ops.size+2->listed.getD i false=true)->QQ B Q .normal a w->wpAnyIn (wd B.ro) 0 P .any ((ops.push z).push o) (QQ B Q) fuel listed a w:=by
  intro fuel listed a w qM wT hq
  have hr:Region.ready .any ((ops.push z).push o) listed=[]:=by
   rw[List.eq_nil_iff_forall_not_mem];intro i hi;rw[mem_ready]at hi;obtain⟨g0,o',bV,_⟩:=hi;have qV:i<ops.size+2:=by have:=(aH0.1 bV).1;omega
   have g1:=wT i qV;have kI:i<listed.size:=by omega
   simp only[aW0,cJ0 kI,cC0]at g0 g1;rw[g0]at g1;simp at g1
  cases fuel with
  | zero=>exact⟨hr,hq⟩
  | succ fuel=>exact⟨fun _=>hq,fun i hi=>by rw[hr]at hi;simp at hi⟩
 have main:∀(fuel:Nat) (listed:Array Bool) (a:Act) (w:World),(List.range (ops.size+2)).countP (fun k=>listed.getD k false)+fuel=ops.size+2->listed.size=ops.size+2->listed.getD (ops.size+1) false=false ->
   ((listed.getD ops.size false=false/\Inv B (lo listed) a w)\/(listed.getD ops.size false=true/\∃B' b,Tf_ B B' t b cs/\a.tmps.getD t Go.undef= .pointer (some ⟨b,0,none⟩)/\Inv B' (lo listed) a w)) ->
   wpAnyIn (wd B.ro) 0 P .any ((ops.push z).push o) (QQ B Q) fuel listed a w:=by
  intro fuel
  induction fuel with
  | zero =>
   intro listed a w pN qM nB _;have:=(List.countP_eq_length (p:=fun k=>listed.getD k false) (l:=List.range (ops.size+2))).1 (by simpa using pN) (ops.size+1) (cP0.2 (by omega));simp only[nB]at this;simp at this
  | succ fuel ih =>
   intro listed a w pN qM nB hJ
   have sU:∀k d,k<ops.size+2->listed.getD k d=listed.getD k false:=by
    intro k d hk;have:k<listed.size:=by omega
    simp[aW0,cJ0 this]
   have cnt1:∀i,i<ops.size+2->listed.getD i false=false->(List.range (ops.size+2)).countP (fun k=>(listed.setIfInBounds i true).getD k false)+fuel=ops.size+2:=by
    intro i hi hSi;have kI:i<listed.size:=by omega
    have hS':(fun k=>(listed.setIfInBounds i true).getD k false)=fun k=>if k=i then true else listed.getD k false:=by
     funext k
     by_cases hk:k=i
     ·subst hk;simp[kI]
     ·rw[if_neg hk,getD_set_ne false (Ne.symm hk)]
    rw[hS',oO _ i hSi _ hi];omega
   have low:∀i,i<ops.size->(i∈Region.ready .any ops (lo listed)↔i∈Region.ready .any ((ops.push z).push o) listed):=by
    intro i hi;rw[mem_ready,mem_ready,at_lo i hi,lo_get _ _ _ hi,sU i true (by omega)];refine and_congr_right fun _=>exists_congr fun o'=>and_congr_right fun bV=>forall_congr' fun e=>forall_congr' fun he=>forall_congr' fun hb=> ?_
    have:=spec.acy i o' bV e he hb;rw[lo_get _ _ _ (by omega)]
   obtain⟨B1,hB1,hI1⟩:∃B1,(B1.nt=B.nt/\B1.N=B.N/\B1.ro=B.ro)/\Inv B1 (lo listed) a w:=by
    rcases hJ with ⟨_,hI⟩ | ⟨_,B',b,hB,_,hI⟩
    ·exact⟨B,⟨rfl,rfl,rfl⟩,hI⟩
    ·exact⟨B',⟨hB.1,hB.2.1,hB.2.2.1⟩,hI⟩
   obtain⟨hsl1,h5,h6⟩:=i2 _ _ _ _ hI1;refine⟨fun hr=> ?_,fun i hi=> ?_⟩
   ·exfalso
    have h7:Region.ready .any ops (lo listed)=[]:=by
     rw[List.eq_nil_iff_forall_not_mem];intro i hi
     have qV:i<ops.size:=by
      rw[mem_ready]at hi;obtain⟨_,o',bV,_⟩:=hi;exact(aH0.1 bV).1
     have:=(low i qV).1 hi;rw[hr]at this;simp at this
    have h8:=h5 h7
    rcases hJ with ⟨yZ,_⟩ | ⟨yZ,_⟩
    ·have:ops.size∈Region.ready .any ((ops.push z).push o) listed:=by
      rw[mem_ready,sU _ true (by omega)];exact⟨yZ,z,at_z,fun e he=>by rw[hz.2.2.2]at he;simp at he⟩
     rw[hr]at this;simp at this
    ·have:ops.size+1∈Region.ready .any ((ops.push z).push o) listed:=by
      rw[mem_ready,sU _ true (by omega)];refine⟨nB,o,at_o,fun e he _=> ?_⟩;have:=spec2.2 e he
      by_cases zN:e.on=ops.size
      ·rw[zN];exact yZ
      ·rw[<-lo_get listed e.on false (by omega)];exact h8 e.on (by omega)
     rw[hr]at this;simp at this
   ·have hi0:=hi;rw[mem_ready]at hi0;obtain⟨g0,o',bV,wK⟩:=hi0;have qV:i<ops.size+2:=by have:=(aH0.1 bV).1;omega
    rw[sU i true qV]at g0;have vB:∀k,k≠i->(listed.setIfInBounds i true).getD k false=listed.getD k false:=fun k hk=>getD_set_ne false (Ne.symm hk)
    by_cases wR:i<ops.size
    ·have hio:ops[i]? =some o':=by rw[<-at_lo i wR];exact bV
     have hdn:o'.dst≠some t:=tW o' (by simpa using Array.mem_of_getElem? hio)
     have hy:Region.wanted o' (yielded ((ops.push z).push o) a.tmps)=Region.wanted o' (yielded ops a.tmps):=by
      unfold Region.wanted
      cases hg:o'.guard with
      | none=>rfl
      | some jw =>
       obtain⟨j,want⟩:=jw
       have hj:j<ops.size:=by
        have h9:=bA0.1 kL o' (by simpa using Array.mem_of_getElem? hio);rw[hg]at h9;simpa using h9
       simp only[yielded,at_lo j hj]
     have conv:∀{K:Act->World->Prop},wpOpIn (wd B.ro) 0 P ops (QQ B Q) i K a w->wpOpIn (wd B.ro) 0 P ((ops.push z).push o) (QQ B Q) i K a w:=by
      intro K hh;unfold wpOpIn at hh |-;rw[hio]at hh;rw[bV];simp only at hh |-;rw[hy];exact hh
     have cY:(listed.setIfInBounds i true).size=ops.size+2:=by simpa using qM
     have wD:(listed.setIfInBounds i true).getD (ops.size+1) false=false:=by rw[vB _ (by omega)];exact nB
     rcases hJ with ⟨yZ,hI⟩ | ⟨yZ,B',b,hB,hv,hI⟩
     ·refine conv (i3 B (lo listed) a w i _ _ rfl rfl hI ((low i wR).2 hi) fun a' w' hI'=> ?_)
      exact ih _ a' w' (cnt1 i qV g0) cY wD (.inl ⟨by rw[vB _ (by omega)];exact yZ,by rw[lo_set _ i wR qM];exact hI'⟩)
     ·have hw:=i3 B' (lo listed) a w i (Inv B' ((lo listed).setIfInBounds i true)) (QQ B Q) hB.1 hB.2.1 hI ((low i wR).2 hi) fun _ _ h=>h
      rw[hB.2.2.1]at hw;refine conv ?_
      unfold wpOpIn at hw |-;rw[hio]at hw |-;simp only at hw |-
      have nx:∀a' w',Inv B' ((lo listed).setIfInBounds i true) a' w'/\a'.tmps.getD t Go.undef= .pointer (some ⟨b,0,none⟩)->wpAnyIn (wd B.ro) 0 P .any ((ops.push z).push o) (QQ B Q) fuel (listed.setIfInBounds i true) a' w':=by
       rintro a' w' ⟨hI',bI⟩;exact ih _ a' w' (cnt1 i qV g0) cY wD (.inr ⟨by rw[vB _ (by omega)];exact yZ,B',b,hB,bI,by rw[lo_set _ i wR qM];exact hI'⟩)
      split
      ·rename_i wF;rw[if_pos wF]at hw;exact Oper.wpIn_mono nx (Kj_ hdn hv hw)
      ·rename_i wF;rw[if_neg wF]at hw;refine⟨hw.1,nx _ _ ⟨hw.2,?_⟩⟩;unfold Act.put
       cases hd:o'.dst with
       | none=>exact hv
       | some i' =>
        have kI:i'≠t:=fun e=>hdn (by rw[hd,e])
        show (a.tmps.setIfInBounds i' _).getD t Go.undef=_
        rw[aW0]at hv |-;rw[dZ0 kI];exact hv
    ·by_cases hiz:i=ops.size
     ·subst hiz;rw[at_z]at bV;simp only[aA0]at bV;subst bV
      rcases hJ with ⟨_,hI⟩ | ⟨yZ,_⟩
      ·obtain⟨dst,op,type,pos,after,guard⟩:=z;obtain⟨vA,wM,cB,cD⟩:=hz;simp only at vA wM cB cD;subst vA wM cB cD;unfold wpOpIn;rw[at_z];simp only;rw[if_pos (by simp[Region.wanted])];obtain⟨us,u1,u2,u3,u4⟩:=Fw_ (a:=a) (w:=w) (i:=t) (type:=type) (pos:=pos) (after:= #[]) (guard:=none) zR wW;refine Ho (fun c hc=>by cases hc) u4 ?_
       obtain⟨B',⟨hB',bI⟩,hI'⟩:=i4 B (fun B'=>Tf_ B B' t w.heap.size cs/\(a.put (some t) (.pointer (some ⟨w.heap.size,0,none⟩))).tmps.getD t Go.undef= .pointer (some ⟨w.heap.size,0,none⟩)) (lo listed) a w (a.put (some t) (.pointer (some ⟨w.heap.size,0,none⟩))) (w.alloc (.cells us.toArray ty)) t hI tW (fun X loc hX RX=>by
        obtain⟨B',b1,b2⟩:=RX.hide (ty:=ty) ht (by rw[hX];exact hsl) u1 u2 u3;refine⟨B',⟨b1,?_⟩,b2⟩
        show (a.tmps.setIfInBounds t _).getD t Go.undef=_
        rw[aW0,eK0 (by rw[RX.nt];exact ht)]
        rfl)
       refine ih _ _ _ (cnt1 _ qV g0) (by simpa using qM) (by rw[vB _ (by omega)];exact nB) (.inr ⟨?_,B',_,hB',bI,by rw[lo_set2 _ _ (Nat.le_refl _)];exact hI'⟩);rw[aW0,eK0 (by omega)];rfl
      ·rw[yZ]at g0;simp at g0
     ·have jU:i=ops.size+1:=by omega
      subst jU;rw[at_o]at bV;simp only[aA0]at bV;subst bV
      have wT:∀k,k<ops.size+1->listed.getD k false=true:=by
       intro k hk;obtain⟨e,he,hb,rfl⟩:=spec2.1 k hk;exact wK e he hb
      rcases hJ with ⟨yZ,_⟩ | ⟨_,B',b,hB,hv,hI⟩
      ·rw[wT _ (by omega)]at yZ;simp at yZ
      ·obtain⟨_,_,h9⟩:=i2 _ _ _ _ hI;obtain⟨s1,loc1,hK,R1⟩:=h9 fun k hk=>by rw[lo_get _ _ _ hk];exact wT k (by omega)
       obtain⟨loc2,R2⟩:=hB.2.2.2 s1 a w loc1 R1 hv;rw[Cn]at hK;have hK:=hK (CL B s1);rw[Wt,ho.1]at hK;simp only[ho.2,if_true]at hK;obtain⟨hd,_,hx⟩:=hK;obtain⟨d,own',x1,x2⟩:=MU hx (CL B ⟨(t,.bx t (CL B s1) 0)::s1.slots,upE s1.own t (CL B s1) (.box cs)⟩);unfold wpOpIn;rw[at_o];simp only;rw[if_pos (by simp[Region.wanted,ho.1])];refine BA_ (R:=R2) (Nat.le_refl _) hd (fun x _=>R2.ev x) (fun x _=>SL _ x) x1 fun a' w' loc' R'=> ?_
       refine done fuel _ a' w' (by simpa using qM) (fun k hk=> ?_) ⟨_,loc',x2,R'⟩
       by_cases jM:k=ops.size+1
       ·subst jM;rw[aW0,eK0 (by omega)];rfl
       ·rw[vB k jM];exact wT k (by omega)
 have fN:∀k,(Array.replicate (ops.size+2) false).getD k false=false:=by
  intro k;simp[aW0,eU0]
  split<;>simp
 have hlo:lo (Array.replicate (ops.size+2) false)=Array.replicate ops.size false:=by
  apply Array.ext
  ·simp[lo]
  ·intro j h1 h2;simp only[lo,Array.getElem_ofFn,fN,Array.getElem_replicate]
 rw[hsz3];refine main (ops.size+2) _ a _ ?_ (by simp) (fN _) (.inl ⟨fN _,by rw[hlo];exact i1 B rfl rfl a w loc R⟩)
 have:(List.range (ops.size+2)).countP (fun k=>(Array.replicate (ops.size+2) false).getD k false)=0:=by
  rw[List.countP_eq_zero];intro k _;rw[fN];simp
 omega
def IA_ (ow l1 l2:List Nat) (ops3:Array Oper) (t ty:Nat):Bool :=
 GS ow l1 l2 ops3.pop.pop&&TT_ ops3.pop.pop&&ops3.pop.pop.toList.all (fun o=>decide (o.dst≠some t)) &&
 (match ops3.pop.back? with | some z=>(match z.op with | .alloc ty'=>ty'==ty | _=>false)&&z.dst==some t&&z.guard.isNone&&z.after.isEmpty | none=>false) &&
 (match ops3.back? with | some o=>o.guard.isNone&&BQ ow o&&Gn_ o (ops3.pop.pop.size+1) | none=>false)
theorem Kh_ (ow l1 l2:List Nat) (t ty:Nat) (cs:List DVal) {id:Nat} {ops3:Array Oper} {z o:Oper} {Q:Exit->DS->Prop} (hm:P.follows .mixedOrders=true) (hzb:ops3.pop.back?=some z) (qA:ops3.back?=some o) (h3:ops3=(ops3.pop.pop.push z).push o) (hc:IA_ ow l1 l2 ops3 t ty=true)
  (ht:t<B.nt) (hsl:BL s.slots t= .any) (zR:tZero P ty=some cs) (wW:cs.all (Hs [])=true)
  (h:Dw P B.nt ow l1 l2 ops3.pop.pop ops3.pop.pop.toList 0 (kF P B (Q .normal) ow t cs o) s):DW P B (.region id ops3 true) Q s:=by
 unfold IA_ at hc;rw[hzb,qA]at hc;simp only[aM0]at hc;obtain⟨⟨⟨⟨c1,c2⟩,c3⟩,c4⟩,c5⟩:=hc;obtain⟨⟨⟨c6,c7⟩,c8⟩,c9⟩:=c4;refine TA ow l1 l2 (z:=z) (o:=o) hm h3 c1 ⟨?_,by simpa using c7,by simpa using c8,by simpa using c9⟩ ⟨by simpa using c5.1.1,c5.1.2⟩ c5.2 c2 ht c3 hsl zR wW h;cases hz:z.op<;>rw[hz]at c6<;>simp at c6;rw[c6]
end
theorem Uk {P:Program} {B:Base} {Q:Exit->DS->Prop} {s:DS} {x:Code} (bid c k bs:Nat) {rb:Nat} {cs:List DVal} (h:Ax s.own bid=some ⟨bid,rb,.box cs⟩) (hc:cs.getD c .any= .nilsl)
  (hw:DW P B x Q ⟨s.slots,upE s.own bid rb (.box (cs.set c (.sl k bs [])))⟩):DW P B x Q s:=by
 refine Fw (fun a w loc R=> ?_) hw;refine R.reBox h rfl (by simp) fun arr hr=>iB cs arr 0 c (fun v hv=> ?_) hr
 rw[hc]at hv;simp only[rd]at hv |-;rw[hv];exact⟨none,0,by simp,by simp,by simp,by simp,.inl ⟨by simp,fun _=>rfl⟩⟩
end Go.Dm
end
section
namespace Go.Proofs.Wy
open Go Go.Dm Go.Shelf Tryz
variable [DMode]
attribute [local irreducible] DW Bs Bv
set_option maxRecDepth 100000
def Cr : Ann:=⟨[13,22,25],[⟨2,[],[],[0,1,2,3,4,5,6,7,9,10,12]⟩]⟩
theorem xH (S SF:List Sym) (A:List Arc) (e e':Bool) (f f' l l':List Nat) (hp:S <+: SF) (hf:∀q∈f',1<=q/\q<=S.length) (hS:S.length<9223372036854775807) (hb:(A.length+l.length*f'.length)*32<=150000000000000)
  (h1:(f.length+f'.length)*8<=140737488355328) (h2:(l'.length+l.length)*8<=140737488355328) :
  AS prog (.func 184) [.bx 0 0 0,Qn e f l,Qn e' f' l'] (BW 0 0 S A) (Qn (e&&e') (f++if e=true then f' else []) (l'++if e'=true then l else [])) (BW 0 1 S (A++Ee SF (Dd l f'))):=by
 refine Bi [22,25,6,7] [(0,0,0),(1,1,0),(2,2,1)] Cr func184 call184 ntmps184 mxd (Ap @Cr.eq_1 results184) rfl (fun qJ B qX qQ=> ?_) (hv:=(by simp[BW]));clear qJ;simp only[Ak];have e1:=MD S SF A l f' hp hf hS hb;have e2:=Qp f (by omega);have e3:=Qp l' (by omega);have b1:(f.length+f'.length)*8<=150000000000000:=by omega
 have b2:(l'.length+l.length)*8<=150000000000000:=by omega
 obtain⟨Z,hZ⟩:∃Z,Z=A++Ee SF (Dd l f'):=⟨_,rfl⟩;rw[<-hZ]at e1 |-;cases e
 ·cases e'
  ·(repeat (first | (refine Kh_ (id:=2) (Cr).ow [] [0,1,2,3,4,5,6,7,9,10] 7 165 [.bool false,.nilsl,.nilsl] mxd rfl rfl (by kernel_rfl) (by kernel_rfl) (by simp[qX]) (by simp) (by simp) (by rfl) ?_;simp only[List.pop_toArray,fP0,fO0,List.dropLast_nil];simp[Cn,Cr,qX,BW,b1,b2,Cn];try simp (disch:=omega) only[Ao]) | refine AI fun K hK=> ?_ | (refine BR Cr mxd (by kernel_rfl) ?_;simp[Cr,qX,BW,b1,b2,Cn];try simp (disch:=omega) only[Ao]) | refine Aw ?_ | (refine Bb ?_ ?_ ?_;(· (simp[qX,BW,b1,b2,Cn];done));(try (rotate_left;(· (intro hc;(try simp[qX,BW,b1,b2,Cn]at hc);done))))) | (refine AK ?_;simp[results184,qX,BW,b1,b2,Cn]) | ((first | refine AD ?_ | refine AC ?_);simp[qX,BW,b1,b2,Cn]) | (intro hc;(try simp[qX,BW,b1,b2,Cn]at hc);(try (exfalso;omega))) | (refine AP [(0,0),(1,1),(2,2)] [] (e1) ?_ ?_;(· (simp[qX,BW,b1,b2,Cn];done));(intro _;try simp[qX,BW,b1,b2,Cn])) | (refine AP [] [(22,0)] (e2) ?_ ?_;(· (simp[qX,BW,b1,b2,Cn];done));(intro _;try simp[qX,BW,b1,b2,Cn])) | (refine AP [] [(25,0)] (e3) ?_ ?_;(· (simp[qX,BW,b1,b2,Cn];done));(intro _;try simp[qX,BW,b1,b2,Cn])) | (refine⟨?_,?_⟩; · omega) | omega | apply_assumption -exfalso -symm | (exfalso;omega)))
  ·(repeat (first | (refine Kh_ (id:=2) (Cr).ow [] [0,1,2,3,4,5,6,7,9,10] 7 165 [.bool false,.nilsl,.nilsl] mxd rfl rfl (by kernel_rfl) (by kernel_rfl) (by simp[qX]) (by simp) (by simp) (by rfl) ?_;simp only[List.pop_toArray,fP0,fO0,List.dropLast_nil];simp[Cn,Cr,qX,BW,b1,b2,Cn];try simp (disch:=omega) only[Ao]) | refine AI fun K hK=> ?_ | (refine BR Cr mxd (by kernel_rfl) ?_;simp[Cr,qX,BW,b1,b2,Cn];try simp (disch:=omega) only[Ao]) | refine Aw ?_ | (refine Bb ?_ ?_ ?_;(· (simp[qX,BW,b1,b2,Cn];done));(try (rotate_left;(· (intro hc;(try simp[qX,BW,b1,b2,Cn]at hc);done))))) | (refine AK ?_;simp[results184,qX,BW,b1,b2,Cn]) | ((first | refine AD ?_ | refine AC ?_);simp[qX,BW,b1,b2,Cn]) | (intro hc;(try simp[qX,BW,b1,b2,Cn]at hc);(try (exfalso;omega))) | (refine AP [(0,0),(1,1),(2,2)] [] (e1) ?_ ?_;(· (simp[qX,BW,b1,b2,Cn];done));(intro _;try simp[qX,BW,b1,b2,Cn])) | (refine AP [] [(22,0)] (e2) ?_ ?_;(· (simp[qX,BW,b1,b2,Cn];done));(intro _;try simp[qX,BW,b1,b2,Cn])) | (refine AP [] [(25,0)] (e3) ?_ ?_;(· (simp[qX,BW,b1,b2,Cn];done));(intro _;try simp[qX,BW,b1,b2,Cn])) | (refine⟨?_,?_⟩; · omega) | omega | apply_assumption -exfalso -symm | (exfalso;omega)))
 ·cases e'
  ·(repeat (first | (refine Kh_ (id:=2) (Cr).ow [] [0,1,2,3,4,5,6,7,9,10] 7 165 [.bool false,.nilsl,.nilsl] mxd rfl rfl (by kernel_rfl) (by kernel_rfl) (by simp[qX]) (by simp) (by simp) (by rfl) ?_;simp only[List.pop_toArray,fP0,fO0,List.dropLast_nil];simp[Cn,Cr,qX,BW,b1,b2,Cn];try simp (disch:=omega) only[Ao]) | refine AI fun K hK=> ?_ | (refine BR Cr mxd (by kernel_rfl) ?_;simp[Cr,qX,BW,b1,b2,Cn];try simp (disch:=omega) only[Ao]) | refine Aw ?_ | (refine Bb ?_ ?_ ?_;(· (simp[qX,BW,b1,b2,Cn];done));(try (rotate_left;(· (intro hc;(try simp[qX,BW,b1,b2,Cn]at hc);done))))) | (refine AK ?_;simp[results184,qX,BW,b1,b2,Cn]) | ((first | refine AD ?_ | refine AC ?_);simp[qX,BW,b1,b2,Cn]) | (intro hc;(try simp[qX,BW,b1,b2,Cn]at hc);(try (exfalso;omega))) | (refine AP [(0,0),(1,1),(2,2)] [] (e1) ?_ ?_;(· (simp[qX,BW,b1,b2,Cn];done));(intro _;try simp[qX,BW,b1,b2,Cn])) | (refine AP [] [(22,0)] (e2) ?_ ?_;(· (simp[qX,BW,b1,b2,Cn];done));(intro _;try simp[qX,BW,b1,b2,Cn])) | (refine AP [] [(25,0)] (e3) ?_ ?_;(· (simp[qX,BW,b1,b2,Cn];done));(intro _;try simp[qX,BW,b1,b2,Cn])) | (refine⟨?_,?_⟩; · omega) | omega | apply_assumption -exfalso -symm | (exfalso;omega)))
  ·(repeat (first | (refine Kh_ (id:=2) (Cr).ow [] [0,1,2,3,4,5,6,7,9,10] 7 165 [.bool false,.nilsl,.nilsl] mxd rfl rfl (by kernel_rfl) (by kernel_rfl) (by simp[qX]) (by simp) (by simp) (by rfl) ?_;simp only[List.pop_toArray,fP0,fO0,List.dropLast_nil];simp[Cn,Cr,qX,BW,b1,b2,Cn];try simp (disch:=omega) only[Ao]) | refine AI fun K hK=> ?_ | (refine BR Cr mxd (by kernel_rfl) ?_;simp[Cr,qX,BW,b1,b2,Cn];try simp (disch:=omega) only[Ao]) | refine Aw ?_ | (refine Bb ?_ ?_ ?_;(· (simp[qX,BW,b1,b2,Cn];done));(try (rotate_left;(· (intro hc;(try simp[qX,BW,b1,b2,Cn]at hc);done))))) | (refine AK ?_;simp[results184,qX,BW,b1,b2,Cn]) | ((first | refine AD ?_ | refine AC ?_);simp[qX,BW,b1,b2,Cn]) | (intro hc;(try simp[qX,BW,b1,b2,Cn]at hc);(try (exfalso;omega))) | (refine AP [(0,0),(1,1),(2,2)] [] (e1) ?_ ?_;(· (simp[qX,BW,b1,b2,Cn];done));(intro _;try simp[qX,BW,b1,b2,Cn])) | (refine AP [] [(22,0)] (e2) ?_ ?_;(· (simp[qX,BW,b1,b2,Cn];done));(intro _;try simp[qX,BW,b1,b2,Cn])) | (refine AP [] [(25,0)] (e3) ?_ ?_;(· (simp[qX,BW,b1,b2,Cn];done));(intro _;try simp[qX,BW,b1,b2,Cn])) | (refine⟨?_,?_⟩; · omega) | omega | apply_assumption -exfalso -symm | (exfalso;omega)))
end Go.Proofs.Wy
end
section
namespace Go.Proofs.Wy
open Go Go.Dm Tryz
variable [DMode]
def JW (H L:List ByteArray) (S:List Sym) (t:RT):List Sym:=S++(Dh (flat t)).map (Fq H L)
def GU (H L:List ByteArray) (S:List Sym) (us:List RT):List Sym:=S++(Dh (Av us)).map (Fq H L)
def Kr (l:List Nd) (ah:Nat) (t:RT) (a:Nat):List Nat:=(XA t a).map (GA l ah)
def NV (l:List Nd) (ah:Nat) (t:RT) (a:Nat):List Nat:=(Rf t a).map (GA l ah)
def Hj (SF:List Sym) (l:List Nd) (ah:Nat) (A:List Arc) (t:RT) (a:Nat):List Arc:=A++Ee SF ((arT t a).map (iR l ah))
def Kt (l:List Nd) (ah:Nat) (k:Int) (us:List RT) (a:Nat):List Nat:=(oE k us a).map (GA l ah)
def Jd (l:List Nd) (ah:Nat) (k:Int) (us:List RT) (a:Nat):List Nat:=(Th k us a).map (GA l ah)
def Ge (SF:List Sym) (l:List Nd) (ah:Nat) (A:List Arc) (k:Int) (us:List RT) (a:Nat):List Arc:=A++Ee SF ((arL k us a []).map (iR l ah))
theorem Kv_ (H L:List ByteArray) (S:List Sym):GU H L S []=S:=by unfold GU;rw[CT];simp[Dh]
theorem Pk_ (l:List Nd) (ah:Nat) (k:Int) (a:Nat):Kt l ah k [] a=[]:=by unfold Kt;rw[NE];rfl
theorem OL_ (l:List Nd) (ah:Nat) (k:Int) (a:Nat):Jd l ah k [] a=[]:=by unfold Jd;rw[Jt];rfl
theorem Mu_ (SF:List Sym) (l:List Nd) (ah:Nat) (A:List Arc) (k:Int) (a:Nat):Ge SF l ah A k [] a=A:=by unfold Ge;rw[Lt];simp[Ee]
theorem Fl_ (H L:List ByteArray) (S:List Sym) (us:List RT) (u:RT):GU H L S (us++[u])=JW H L (GU H L S us) u:=by
 unfold GU JW;rw[GG,LM_,HO,aX0,aR0]
theorem Kw_ (H L:List ByteArray) (S:List Sym) {x:Nd} (ks:List RT) (h:¬(x.k=2\/x.k=3)):JW H L S (.mk x ks)=GU H L S ks:=by
 unfold GU JW;rw[Bc,My h]
theorem LO_ (l:List Nd) (ah:Nat) (us:List RT) (u:RT) (a:Nat):Kt l ah 4 (us++[u]) a=Kt l ah 4 us a++(if pE 4 us=true then Kr l ah u (a+(Av us).length)else []):=by
 unfold Kt Kr;rw[Wh,aX0]
 congr 1
 unfold pE;cases h:Hy us<;>simp
theorem LP_ (l:List Nd) (ah:Nat) {k:Int} (hk:¬k=4) (us:List RT) (u:RT) (a:Nat):Kt l ah k (us++[u]) a=Kt l ah k us a++Kr l ah u (a+(Av us).length):=by
 unfold Kt Kr;rw[Wh,aX0,if_neg (fun h=>hk h.1)]
theorem Ly_ (l:List Nd) (ah:Nat) (us:List RT) (u:RT) (a:Nat):Jd l ah 4 (us++[u]) a=NV l ah u (a+(Av us).length)++(if CC u=true then Jd l ah 4 us a else []):=by
 unfold Jd NV;rw[VG,if_pos rfl,aX0];cases h:CC u<;>simp
theorem Lz_ (l:List Nd) (ah:Nat) {k:Int} (hk:¬k=4) (us:List RT) (u:RT) (a:Nat):Jd l ah k (us++[u]) a=Jd l ah k us a++NV l ah u (a+(Av us).length):=by
 unfold Jd NV;rw[VG,if_neg hk,aX0]
theorem Hp_ (SF:List Sym) (l:List Nd) (ah:Nat) (A:List Arc) (us:List RT) (u:RT) (a:Nat):Ge SF l ah A 4 (us++[u]) a=Hj SF l ah (Ge SF l ah A 4 us a) u (a+(Av us).length)++Ee SF (Dd (Jd l ah 4 us a) (Kr l ah u (a+(Av us).length))):=by
 unfold Ge Hj Jd Kr;rw[ZM,Zc,aX0,aX0,Ih,Ih];simp[aR0]
theorem Hq_ (SF:List Sym) (l:List Nd) (ah:Nat) (A:List Arc) {k:Int} (hk:¬k=4) (us:List RT) (u:RT) (a:Nat):Ge SF l ah A k (us++[u]) a=Hj SF l ah (Ge SF l ah A k us a) u (a+(Av us).length):=by
 unfold Ge Hj;rw[Cg_ k hk,aX0,Ih,aR0]
theorem Pl_ (l:List Nd) (ah:Nat) {x:Nd} (ks:List RT) (a:Nat) (h:¬(x.k=2\/x.k=3)):Kr l ah (.mk x ks) a=Kt l ah x.k ks (a+1):=by
 unfold Kr Kt;rw[RU,if_neg h]
theorem OM_ (l:List Nd) (ah:Nat) {x:Nd} (ks:List RT) (a:Nat) (h:¬(x.k=2\/x.k=3)):NV l ah (.mk x ks) a=Jd l ah x.k ks (a+1):=by
 unfold NV Jd;rw[OQ,if_neg h]
theorem Xi (SF:List Sym) (l:List Nd) (ah:Nat) (A:List Arc) {x:Nd} (ks:List RT) (a:Nat) (h:¬(x.k=2\/x.k=3)) (h6:x.k=6\/x.k=7):Hj SF l ah A (.mk x ks) a=Ge SF l ah A x.k ks (a+1)++Ee SF (Dd (Jd l ah x.k ks (a+1)) (Kt l ah x.k ks (a+1))):=by
 unfold Hj Ge Jd Kt;rw[Pc,if_neg h,if_pos h6,Zc,aX0,Ih,aR0]
theorem Ho_ (SF:List Sym) (l:List Nd) (ah:Nat) (A:List Arc) {x:Nd} (ks:List RT) (a:Nat) (h:¬(x.k=2\/x.k=3)) (h6:¬(x.k=6\/x.k=7)):Hj SF l ah A (.mk x ks) a=Ge SF l ah A x.k ks (a+1):=by
 unfold Hj Ge;rw[Pc,if_neg h,if_neg h6,bM0]
theorem Pi_ (l:List Nd) (ah:Nat) (t:RT) (a:Nat):(Kr l ah t a).length<=(Dh (flat t)).length:=by unfold Kr;rw[aJ0];exact Ub t a
theorem OK_ (l:List Nd) (ah:Nat) (t:RT) (a:Nat):(NV l ah t a).length<=(Dh (flat t)).length:=by unfold NV;rw[aJ0];exact TT t a
theorem Bs_ (l:List Nd) (ah:Nat) (k:Int) (us:List RT) (a:Nat):(Kt l ah k us a).length<=(Dh (Av us)).length:=by unfold Kt;rw[aJ0];exact Uc k us a
theorem AQ_ (l:List Nd) (ah:Nat) (k:Int) (us:List RT) (a:Nat):(Jd l ah k us a).length<=(Dh (Av us)).length:=by unfold Jd;rw[aJ0];exact TU k us a
theorem ZK (SF:List Sym) (l:List Nd) (ah:Nat) (A:List Arc) (k:Int) (us:List RT) (a:Nat) (h:(Dh (Av us)).length<=64):(Ge SF l ah A k us a).length<=A.length+8192*(Av us).length:=by
 unfold Ge;rw[aC0,NI,aJ0];have:=tK k us a [] (by simpa using h);omega
theorem Mp_ (SF:List Sym) (l:List Nd) (ah:Nat) (A:List Arc) (t:RT) (a:Nat) (h:(Dh (flat t)).length<=64):(Hj SF l ah A t a).length+4096<=A.length+8192*(flat t).length:=by
 unfold Hj;rw[aC0,NI,aJ0];have:=tI t a h;omega
theorem Ku_ (H L:List ByteArray) (S:List Sym) (t:RT):(JW H L S t).length=S.length+(Dh (flat t)).length:=by simp[JW]
theorem Yu (H L:List ByteArray) (S:List Sym) (us:List RT):(GU H L S us).length=S.length+(Dh (Av us)).length:=by simp[GU]
theorem Ph_ {l r:List Nd} {t:RT} {a ah:Nat} (h:l.drop a=flat t++r):∀q∈Kr l ah t a,1<=q/\q<=ah+KZ l (a+(flat t).length):=Pr_ h
theorem Pj_ {l r:List Nd} {k:Int} {us:List RT} {a ah:Nat} (h:l.drop a=Av us++r):∀q∈Kt l ah k us a,1<=q/\q<=ah+KZ l (a+(Av us).length):=Rz_ h
end Go.Proofs.Wy
end
section
namespace Go.Proofs.Wy
open Go Go.Dm Go.Shelf Tryz
variable [DMode]
attribute [local irreducible] DW Bs Bv
set_option maxRecDepth 100000
abbrev ofF (H L:List ByteArray):DVal:= .fn (.func 105) [] [.ref [Hf H L]]
def Ra (H L:List ByteArray) (l:List Nd) (ah:Nat) (SF:List Sym) (t:RT):Prop :=
 ∀(a:Nat) (r:List Nd) (S:List Sym) (A:List Arc),l.drop a=flat t++r->S.length=ah+KZ l a->JW H L S t <+: SF->(A.length+8192*(flat t).length)*32<=150000000000000 ->
  AS prog (.func 104) [.bx 0 0 0,Bl (flat t++r),ofF H L] (BW 0 0 S A) (.tup [Qn (CC t) (Kr l ah t a) (NV l ah t a),Bl r]) (BW 1 1 (JW H L S t) (Hj SF l ah A t a))
def Eo_ : Ann:=⟨[66,75,90],[⟨1,[8],[],[]⟩,⟨5,[],[0],[]⟩]⟩
theorem uR (H L:List ByteArray) (l:List Nd) (ah:Nat) (SF:List Sym) (x:Nd) (hx:x.k=2\/x.k=3) (fV:ah+(Dh l).length<=64):Ra H L l ah SF (.mk x []):=by
 intro a r S A hdr hS mT hA;have vC:flat (.mk x [])=[x]:=by rw[Bc,CT]
 have hlx:Dh (flat (.mk x []))=[x]:=by rw[vC,Vy hx];rfl
 have h1:JW H L S (.mk x [])=S++[Fq H L x]:=by unfold JW;rw[hlx];rfl
 have h2:Kr l ah (.mk x []) a=[GA l ah a]:=by unfold Kr;rw[RU,if_pos hx];rfl
 have h3:NV l ah (.mk x []) a=[GA l ah a]:=by unfold NV;rw[OQ,if_pos hx];rfl
 have h4:Hj SF l ah A (.mk x []) a=A:=by unfold Hj;rw[Pc,if_pos hx];simp[Ee]
 have h5:CC (.mk x [])=false:=by rw[oH,if_pos hx]
 have h6:GA l ah a=S.length+1:=by unfold GA;omega
 have hs:=Ip_ hdr;rw[hlx]at hs
 have dB:KZ l a<=(Dh l).length:=by
  rw[<-Jp]
  by_cases h:a<=l.length
  ·exact UQ l h
  ·unfold KZ;rw[cL0 (by omega),aN0];exact Nat.le_refl _
 rw[h1,h2,h3,h4,h5,h6,vC];have e1:=La_ H L x;clear mT h1 h2 h3 h4 h5 h6 hdr vC hlx;refine Bi [6,10] [(0,0,0),(1,1,1),(2,2,1)] Eo_ func104 call104 ntmps104 mxd (Ap @Eo_.eq_1 results104) rfl (fun qJ B qX qQ=> ?_) (hv:=(by simp[BW]));clear qJ;have hS1:S.length<=64:=by omega
 have hS2:(S.length+1)*16<=150000000000000:=by omega
 simp only[Ak,List.cons_append,List.nil_append];have hT:List.take r.length (List.map BS r)=List.map BS r:=cL0 (by simp)
 rcases hx with hx | hx
 ·simp only[BS,hx]at e1;exact Al (Aq e1) Aa (Ez @BW.eq_1 @BS.eq_1 @AA.eq_1 hx hS2 @Bg.eq_1 hT)
 ·simp only[BS,hx]at e1;exact Al (Aq e1) Aa (Ez @BW.eq_1 @BS.eq_1 @AA.eq_1 hx hS2 @Bg.eq_1 hT)
theorem Sv_ (l:List Nd) (p:Nat):KZ l p<=(Dh l).length:=by
 rw[<-Jp]
 by_cases h:p<=l.length
 ·exact UQ l h
 ·unfold KZ;rw[cL0 (by omega),aN0];exact Nat.le_refl _
theorem Bp_ : ∀us:List RT,us.length<=(Av us).length
 | []=>by simp
 | u::us=>by
  have h1:=IL u;have h2:=Bp_ us;rw[AH,aC0,List.length_cons];omega
theorem Bn_ : ∀{us:List RT} {u:RT},u∈us->(flat u).length<=(Av us).length
 | v::us,u,h=>by
  rw[AH,aC0]
  rcases aL0.1 h with rfl | h
  ·omega
  ·have:=Bn_ h;omega
def Xq : Ann:=⟨[66,75,90],[⟨1,[8],[],[]⟩,⟨5,[],[0],[]⟩]⟩
theorem uQ (H L:List ByteArray) (l:List Nd) (ah:Nat) (SF:List Sym) (x:Nd) (ks:List RT) (ht:FU (.mk x ks)=true) (hx:¬(x.k=2\/x.k=3)) (fV:ah+(Dh l).length<=64) (ih:∀u∈ks,Ra H L l ah SF u):Ra H L l ah SF (.mk x ks):=by
 intro a r S A hdr hS mT hA;have hn:=(CV ht).2.1;have tD:=SC_ ht hx
 have pU:l.drop (a+1)=Av ks++r:=by
  have:=Zx (m:=[x]) (r:=Av ks++r) (by rw[hdr,Bc];rfl);simpa using this
 have hrk1:KZ l (a+1)=KZ l a:=by
  have:=Io (m:=[x]) (r:=Av ks++r) (by rw[hdr,Bc];rfl);rw[My hx]at this;simpa[Dh]using this
 rw[Kw_ H L S ks hx]at mT |-;rw[Pl_ l ah ks a hx,OM_ l ah ks a hx,tD];rw[Bc,List.length_cons]at hA;have dX:=Ip_ pU;have bR:=Sv_ l;obtain⟨AF,hAF⟩:∃AF,AF=Hj SF l ah A (.mk x ks) a:=⟨_,rfl⟩;rw[<-hAF,Bc];clear tD hdr ht;refine Bi [6,10] [(0,0,0),(1,1,1),(2,2,1)] Xq func104 call104 ntmps104 mxd (Ap @Xq.eq_1 results104) rfl (fun qJ B qX qQ=> ?_) (hv:=(by simp[BW]));clear qJ;have k2:¬x.k=2:=fun h=>hx (.inl h)
 have k3:¬x.k=3:=fun h=>hx (.inr h)
 have hT:List.take (Av ks++r).length (List.map BS (Av ks++r))=List.map BS (Av ks++r):=cL0 (by simp);obtain⟨R1,hR1⟩:∃R1,R1=Av ks++r:=⟨_,rfl⟩;simp only[Ak,List.cons_append];rw[<-hR1]at hT |-;have b2:(x.k==2)=false:=by simpa using k2
 have b3:(x.k==3)=false:=by simpa using k3
 (refine Au Aa Aa (Ez @BW.eq_1 @BS.eq_1 k2 k3 b2 b3 hT) ?_;intros;refine Ae ?_)
 have vQ:(decide (x.k=1)||x.k==4)=pE x.k []:=by rw[SB_];rfl
 rw[vQ];refine Uk 10 1 1 8 rfl rfl ?_;refine Uk 10 2 1 8 rfl rfl ?_;have hj0:(0:Int)=(([]:List RT).length:Int):=rfl
 refine Af (X:={p:List RT×List RT//ks=p.1++p.2}) (fun p=>⟨[(0,.bx 0 0 0),(2,ofF H L),(6,.bx 6 1 0),(7,.nilsl),(8,.ref (BS x)),(9,Bl (Av p.1.2++r)),(10,.bx 10 1 0),(59,.int .i64 x.n),(60,.int .i64 p.1.1.length)],
  BW 1 1 (GU H L S p.1.1) (Ge SF l ah A x.k p.1.1 (a+1))++[⟨6,1,.box [.bool false,.nilsl,.nilsl]⟩,⟨10,1,.box [.bool (pE x.k p.1.1),Cl (Kt l ah x.k p.1.1 (a+1)),Cl (Jd l ah x.k p.1.1 (a+1))]⟩]⟩) (fun p=>p.1.2.length) ⟨([],ks),rfl⟩ (Sub.lit (by simp[BW,Kv_,Mu_,Pk_,OL_,BS,hR1])) ?_
 rintro⟨⟨us,vs⟩,vH⟩;simp only at vH |-
 cases vs with
 | cons u vs =>
  have qO:u∈ks:=by rw[vH];simp
  have qV:(us.length:Int)<x.n:=by rw[hn,vH];simp;omega
  have mX:Av ks=Av us++(flat u++Av vs):=by rw[vH,GG,AH]
  have hdrA:l.drop (a+1)=Av us++(flat u++(Av vs++r)):=by rw[pU,mX];simp
  have hdrU:=Zx hdrA;have hSU:(GU H L S us).length=ah+KZ l (a+1+(Av us).length):=by rw[Yu,Io hdrA,hS,hrk1];omega
  have wK:GU H L S (us++[u]) <+: SF:=by
   refine List.IsPrefix.trans ?_ mT;rw[vH];unfold GU;rw[show us++u::vs=(us++[u])++vs by simp,GG (us++[u]),HO,aX0,<-aR0];exact List.prefix_append _ _
  have hSn:=Fl_ H L S us u;rw[hSn]at wK
  have hlv1:(Dh (Av us)).length+(Dh (flat u)).length<=(Dh l).length:=by
   rw[mX,HO,HO,aC0,aC0]at dX;omega
  have hAl:=ZK SF l ah A x.k us (a+1) (by omega);have vC:(Av ks).length=(Av us).length+((flat u).length+(Av vs).length):=by rw[mX,aC0,aC0]
  have e1:=ih u qO _ _ (GU H L S us) (Ge SF l ah A x.k us (a+1)) hdrU hSU wK (by omega);have hAl1:=Mp_ SF l ah (Ge SF l ah A x.k us (a+1)) u (a+1+(Av us).length) (by omega);have hSl1:=Ku_ H L (GU H L S us) u;have kO:=Ph_ (ah:=ah) hdrU;have sK:=bR (a+1+(Av us).length+(flat u).length);rw[Io hdrU]at kO sK;have hF0:=Bs_ l ah x.k us (a+1);have hL0:=AQ_ l ah x.k us (a+1);have hF1:=Pi_ l ah u (a+1+(Av us).length)
  have nQ:=OK_ l ah u (a+1+(Av us).length);have hEn:=QS_ x.k us u;have hFn:=fun h=>LP_ l ah (k:=x.k) h us u (a+1)
  have hLn:=fun h=>Lz_ l ah (k:=x.k) h us u (a+1)
  have hAn:=fun h=>Hq_ SF l ah A (k:=x.k) h us u (a+1)
  have hFn4:=LO_ l ah us u (a+1);have hLn4:=Ly_ l ah us u (a+1);have hAn4:=Hp_ SF l ah A us u (a+1);have hdl:Av (u::vs)++r=flat u++(Av vs++r):=by rw[AH,aR0]
  rw[hdl];obtain⟨R0,yM⟩:∃R0,R0=flat u++(Av vs++r):=⟨_,rfl⟩;rw[<-yM]at e1 |-;obtain⟨R2,wX⟩:∃R2,R2=Av vs++r:=⟨_,rfl⟩;rw[<-wX]at e1;have hjm:=TV (l:=Jd l ah x.k us (a+1)) (f:=Kr l ah u (a+1+(Av us).length)) (by omega) (by omega);have kX:=Bp_ us;have yT:IntKind.i64.wrap ((us.length:Int)+1)=(us.length:Int)+1:=wq
  by_cases k4:x.k=4
  ·have e2:=xH (JW H L (GU H L S us) u) SF (Hj SF l ah (Ge SF l ah A x.k us (a+1)) u (a+1+(Av us).length)) (pE x.k us) (CC u) (Kt l ah x.k us (a+1)) (Kr l ah u (a+1+(Av us).length)) (Jd l ah x.k us (a+1)) (NV l ah u (a+1+(Av us).length)) wK (fun q hq=>by have:=kO q hq;omega) (by omega) (by omega) (by omega) (by omega);rw[k4]at e1 e2 hEn;rw[if_pos rfl]at hEn;rw[<-hFn4,<-hLn4,<-hAn4,<-hEn]at e2;rw[<-hSn]at e1 e2
   simp only[k4]
   (refine Au Aa (Ap (DF [(0,0),(1,1),(2,2)] [] e1) (DF [(0,0),(1,1),(2,2)] [] e2)) (CG @BW.eq_1 @BS.eq_1 k4 qV) ?_;intros;refine Ae ?_)
   refine Ag.mk ⟨(us++[u],vs),by simp[vH]⟩ (Sub.lit (by simp[BW,wX,yT])) (by simp)
   skip
  ·have e2:=Hu_ (pE x.k us) (CC u) (Kt l ah x.k us (a+1)) (Kr l ah u (a+1+(Av us).length)) (Jd l ah x.k us (a+1)) (NV l ah u (a+1+(Av us).length)) (by omega) (by omega);rw[if_neg k4]at hEn;rw[<-hFn k4,<-hLn k4,<-hEn]at e2;rw[<-hAn k4,<-hSn]at e1;have b4:(x.k==4)=false:=by simpa using k4
   (refine Au (Aq e2) (Aq (DF [(0,0),(1,1),(2,2)] [] e1)) (Dx @BW.eq_1 @BS.eq_1 k4 b4 qV) ?_;intros;refine Ae ?_)
   refine Ag.mk ⟨(us++[u],vs),by simp[vH]⟩ (Sub.lit (by simp[BW,wX,yT])) (by simp)
   skip
 | nil =>
  rw[bM0]at vH;subst vH;have wP:¬((ks.length:Int)<x.n):=by rw[hn];omega
  have hSl:=Yu H L S ks;have sK:=bR (a+1+(Av ks).length);rw[Io pU]at sK;have hF0:=Bs_ l ah x.k ks (a+1);have hL0:=AQ_ l ah x.k ks (a+1);have hAl:=ZK SF l ah A x.k ks (a+1) (by omega);have kO:=Pj_ (ah:=ah) (k:=x.k) pU;rw[Io pU]at kO;have hjm:=TV (l:=Jd l ah x.k ks (a+1)) (f:=Kt l ah x.k ks (a+1)) (by omega) (by omega);have e3:=MD (GU H L S ks) SF (Ge SF l ah A x.k ks (a+1)) (Jd l ah x.k ks (a+1)) (Kt l ah x.k ks (a+1)) mT (fun q hq=>by have:=kO q hq;omega) (by omega) (by omega)
  have hdl:Av []++r=r:=by rw[CT];rfl
  rw[hdl];have hbe:∀n:Int,(x.k==n)=decide (x.k=n):=fun n=>rfl
  by_cases h6:x.k=6
  ·rw[Xi SF l ah A ks a hx (.inl h6)]at hAF;rw[<-hAF]at e3;rw[h6]at e3;simp only[h6];exact Al Aa (Aq (DF [(0,0),(1,1),(2,2)] [] e3)) (CG @BW.eq_1 @BS.eq_1 h6 wP)
  ·by_cases h7:x.k=7
   ·rw[Xi SF l ah A ks a hx (.inr h7)]at hAF;rw[<-hAF]at e3;rw[h7]at e3;simp only[h7];exact Al Aa (Aq (DF [(0,0),(1,1),(2,2)] [] e3)) (CG @BW.eq_1 @BS.eq_1 h7 wP)
   ·rw[Ho_ SF l ah A ks a hx (by omega)]at hAF;have b6:(x.k==6)=false:=by simpa using h6
    have b7:(x.k==7)=false:=by simpa using h7
    exact Al Aa Aa (OD @BW.eq_1 @BS.eq_1 h6 h7 b6 b7 wP hbe hAF)
theorem Uw (H L:List ByteArray) (l:List Nd) (ah:Nat) (SF:List Sym) (fV:ah+(Dh l).length<=64):∀(n:Nat) (t:RT),(flat t).length<=n->FU t=true->Ra H L l ah SF t
 | 0,t,hn,_=>by have:=IL t;omega
 | n+1,.mk x ks,hn,ht=>by
  by_cases hx:x.k=2\/x.k=3
  ·have:=MA ht hx;subst this;exact uR H L l ah SF x hx fV
  ·refine uQ H L l ah SF x ks ht hx fV fun u hu=> ?_
   refine Uw H L l ah SF fV n u ?_ (TN (CV ht).2.2 u hu);have h1:=Bn_ hu;rw[Bc,List.length_cons]at hn;omega
end Go.Proofs.Wy
end
section
namespace Go.Proofs.Wy
open Go Go.Dm Tryz
variable [DMode]
attribute [local irreducible] DW Bs Bv
set_option maxRecDepth 100000
def El_ : Ann:=⟨[],[]⟩
theorem oV (x y:Sym):Ac prog 190 [.agg (AA x),.agg (AA y)] (.int .i64 (Gk x y)):=by
 refine Ab [] El_ func190 call190 ntmps190 mxd (Ap @El_.eq_1 results190) rfl (fun qJ B qX qQ=> ?_);simp only[Ak];cases h1:x.label<;>cases h2:y.label<;>exact Al (Aq (DL x.n y.n)) Aa (CG @AA.eq_1 h1 h2 @Gk.eq_1)
def Em_ : Ann:=⟨[],[]⟩
theorem iH (x y:Arc):Ac prog 109 [.agg (Bm x),.agg (Bm y)] (.int .i64 (DT x y)):=by
 refine Ab [] Em_ func109 call109 ntmps109 mxd (Ap @Em_.eq_1 results109) rfl (fun qJ B qX qQ=> ?_);simp only[Ak];have h1:=DL x.fr y.fr;have h2:=oV x.sy y.sy;have h3:=DL x.to y.to;have h4:=Vk (EY x.fr y.fr) (Gk x.sy y.sy) (EY x.to y.to);simp only[AA]at h2;unfold DT;exact Al (CG h1 h2 h3 h4) Aa (Aq @Bm.eq_1)
def Ek_ : Ann:=⟨[],[]⟩
theorem UB (x y:Sym):Ac prog 206 [.agg (AA x),.agg (AA y)] (.bool (Pp x y)):=by
 refine Ab [] Ek_ func206 call206 ntmps206 mxd (Ap @Ek_.eq_1 results206) rfl (fun qJ B qX qQ=> ?_);simp only[Ak];cases h1:x.label<;>cases h2:y.label<;>exact Al Aa Aa (CG @AA.eq_1 h1 h2 @Pp.eq_1)
def Ej_ : Ann:=⟨[],[]⟩
theorem AO_ (x y:Arc):Ac prog 297 [.agg (Bm x),.agg (Bm y)] (.bool (NJ x y)):=by
 refine Ab [] Ej_ func297 call297 ntmps297 mxd (Ap @Ej_.eq_1 results297) rfl (fun qJ B qX qQ=> ?_);simp only[Ak];have h2:=UB x.sy y.sy;simp only[AA]at h2;unfold NJ
 by_cases h1:x.fr=y.fr
 ·have cX:(x.fr != y.fr)=false:=by simpa using h1
  by_cases h3:x.sy=y.sy
  ·have e1:x.sy.label=y.sy.label:=by rw[h3]
   have e2:x.sy.n=y.sy.n:=by rw[h3]
   exact Al (Aq h2) Aa (EB @Bm.eq_1 h1 cX h3 e1 e2)
  ·have e:(x.sy.label==y.sy.label&&x.sy.n==y.sy.n)=false:=by
    rw[dS0];intro hh;simp only[aM0,beq_iff_eq]at hh
    apply h3
    cases hx:x.sy;cases hy:y.sy;rw[hx,hy]at hh;simp only at hh;rw[hh.1,hh.2]
   exact Al (Aq h2) Aa (Dx @Bm.eq_1 h1 cX h3 e)
 ·have cX:(x.fr != y.fr)=true:=by simpa using h1
  exact Al (Aq h2) Aa (BC @Bm.eq_1 h1 cX)
end Go.Proofs.Wy
end
section
namespace Go.Dm
variable [DMode]
open Go.Shelf Go.Sort Go.Proofs Go.RowKit
abbrev Ug_ := { s:ByteArray//s.size<=maxLen }
instance : Inhabited Ug_:=⟨⟨⟨#[]⟩,by decide⟩⟩
end Go.Dm
end
section
namespace Go.Proofs.Wy
open Go Go.Dm Go.Shelf Tryz
variable [DMode]
attribute [local irreducible] DW Bs Bv
set_option maxRecDepth 100000
abbrev eqA (x y:Arc):Bool:=DT x y==0
theorem Pv_ {x y:Arc} (h:eqA x y=false):¬x=y:=fun e=>by
 have:=(Ej.eq0 x y).2 e;simp[eqA,this]at h
theorem Pw_ {x y:Arc} (h:eqA x y=true):x=y:=(Ej.eq0 x y).1 (by simpa[eqA]using h)
theorem Hr_ {x y:Arc} (h:¬x=y):(x.fr==y.fr&&(x.sy.label==y.sy.label&&(x.sy.n==y.sy.n&&x.to==y.to)))=false:=by
 cases hb:(x.fr==y.fr&&(x.sy.label==y.sy.label&&(x.sy.n==y.sy.n&&x.to==y.to)))with
 | false=>rfl
 | true =>
  exfalso
  apply h
  obtain⟨a,⟨b,c⟩,d⟩:=x;obtain⟨a',⟨b',c'⟩,d'⟩:=y;simp at hb;obtain⟨rfl,rfl,rfl,rfl⟩:=hb;rfl
def En_ : Ann:=⟨[],[]⟩
theorem Yh (l:List Arc) :
  AS prog (.func 111) [.osl 0 0] [⟨0,0,.row 97 4 32 (l.map Bm)⟩] (Cz (Bu eqA l)) []:=by
 refine Gi [0] [] func111 rfl call111 (by simp[ntmps111]) (by simp) (by simp) ?_;intro qJ rL B qX;have qQ:=ZO En_ mxd (Ap @En_.eq_1 results111);simp only[Ak]
 have hl:l.length<=9223372036854775807:=by
  simp only[Up,maxLen,aJ0]at rL;omega
 clear rL
 by_cases wS:l.length<2
 ·have jH:Bu eqA l=l:=by
   match l,wS with
   | [],_=>rfl
   | [x],_=>rfl
  exact Al Aa Aa (Ap wS jH)
 have nP:¬(l.length:Int)<2:=by omega
 obtain⟨R0,yM⟩:∃R0,R0=Bu eqA l:=⟨_,rfl⟩;rw[<-yM]
 (refine Au Aa Aa (Ap wS nP) ?_;intros;refine Ae ?_)
 refine Af (X:={k:Nat//1<=k/\k<=l.length/\Bu eqA (l.take k)=l.take k}) (fun k=>⟨[(0,.osl 0 0),(3,.int .i64 k.1)],[⟨0,0,.row 97 4 32 (l.map Bm)⟩]⟩) (fun k=>l.length-k.1) ⟨1,by
  obtain⟨x,t,rfl⟩:∃x t,l=x::t:=by
   cases l with
   | nil=>simp at wS
   | cons x t=>exact⟨x,t,rfl⟩
  simp[Bu,CA]⟩ (Sub.lit (by simp)) ?_
 rintro⟨k,jE,hk,bW⟩
 by_cases qV:k<l.length
 ·obtain⟨q,hq,vV,jJ⟩:=Ai qV;obtain⟨p,hp,qI,vK⟩:=Ai (show k-1<l.length by omega);have yT:IntKind.i64.wrap ((k:Int)-1)=(k:Int)-1:=wq;have vT:((k:Int)-1).toNat=k-1:=by omega
  have hs:=GL (e:=eqA) (by omega) hp hq;have qE:(0:Int)<=(k:Int)-1:=by omega
  have qP:(k:Int)-1<l.length:=by omega
  cases kR:eqA q p
  ·rw[kR]at hs;simp only[aK0,if_false]at hs;have zN:(q.fr==p.fr&&(q.sy.label==p.sy.label&&(q.sy.n==p.sy.n&&q.to==p.to)))=false:=Hr_ (Pv_ kR)
   (refine Au Aa Aa (Hm @Bm.eq_1 qV vV qI hp hq vT yT qE qP zN) ?_;intros;refine Ae ?_)
   refine Ag.mk ⟨k+1,by omega,by omega,by rw[hs,bW,bD0,hq];rfl⟩ (Sub.lit (by simp)) (by simp;omega)
   skip
  ·rw[kR]at hs;simp only[if_true,bM0]at hs;have zN:(q.fr==p.fr&&(q.sy.label==p.sy.label&&(q.sy.n==p.sy.n&&q.to==p.to)))=true:=by rw[Pw_ kR];simp
   (refine Au Aa Aa (Hm @Bm.eq_1 qV vV qI hp hq vT yT qE qP zN) ?_;intros;refine Ae ?_)
   clear yT vT qE qP
   refine Af (X:={x:Nat×Nat×List Arc//1<=x.1/\k+x.1<=l.length/\x.2.1<k+x.1/\k<=x.2.1/\x.2.2.length=l.length/\x.2.2.take x.2.1=Bu eqA (l.take (k+x.1))/\∀j,k+x.1<=j+1->x.2.2[j]? =l[j]?}) (fun x=>⟨[(0,.osl 0 0),(3,.int .i64 x.1.2.1),(4,.vw 0 0 4 32 k (l.length-k)),(5,.int .i64 x.1.1)],[⟨0,0,.row 97 4 32 (x.1.2.2.map Bm)⟩]⟩) (fun x=>l.length-x.1.1)
    ⟨(1,k,l),show 1<=1/\k+1<=l.length/\k<k+1/\k<=k/\l.length=l.length/\l.take k=Bu eqA (l.take (k+1))/\(∀j,k+1<=j+1->l[j]? =l[j]?) from ⟨by omega,by omega,by omega,by omega,rfl,by rw[hs,bW],fun _ _=>rfl⟩⟩ (Sub.lit (by simp)) ?_
   rintro⟨⟨m,kk,R⟩,x1,x2,x3,x4,x5,x6,x7⟩;simp only at x1 x2 x3 x4 x5 x6 x7 |-;have hv:k+(l.length-k)<=l.length:=by omega
   by_cases hm:m<l.length-k
   ·obtain⟨y,hy,wN,gG⟩:=Ai (show k+m<l.length by omega);obtain⟨z,hz,sD,hzm⟩:=Ai (show k+m-1<l.length by omega);obtain⟨c0,yG,_,_⟩:=Ai (show kk<R.length by omega);have pI:R[k+m]? =some y:=by rw[x7 _ (by omega)];exact hy
    have pH:R[k+(m-1)]? =some z:=by rw[x7 _ (by omega),show k+(m-1)=k+m-1 by omega];exact hz
    have bC:R[k+m]'(by omega)=y:=(aB0.1 pI).2;have bB:R[k+(m-1)]'(by omega)=z:=(aB0.1 pH).2;have yT:IntKind.i64.wrap ((m:Int)-1)=(m:Int)-1:=wq;have vT:((m:Int)-1).toNat=m-1:=by omega
    have qE:(0:Int)<=(m:Int)-1:=by omega
    have qP:(m:Int)-1<((l.length-k:Nat):Int):=by omega
    have vM:=GL (e:=eqA) (by omega) hz hy;rw[<-x6]at vM;have qY:kk<l.length:=by omega
    cases kP:eqA y z
    ·rw[kP]at vM;simp only[aK0,if_false]at vM;have pY:(y.fr==z.fr&&(y.sy.label==z.sy.label&&(y.sy.n==z.sy.n&&y.to==z.to)))=false:=Hr_ (Pv_ kP)
     (refine Au Aa Aa (My_ @Bm.eq_1 hm pI pH bC bB vT yT qE qP x5 hv yG qY pY) ?_;intros;refine Ae ?_)
     refine Ag.mk ⟨(m+1,kk+1,R.set kk y),show 1<=m+1/\k+(m+1)<=l.length/\kk+1<k+(m+1)/\k<=kk+1/\(R.set kk y).length=l.length/\(R.set kk y).take (kk+1)=Bu eqA (l.take (k+(m+1)))/\(∀j,k+(m+1)<=j+1->(R.set kk y)[j]? =l[j]?) from ⟨by omega,by omega,by omega,by omega,by simp[x5],?_,fun j hj=> ?_⟩⟩ (Sub.lit ?_) (by simp;omega)
     ·rw[show k+(m+1)=k+m+1 by omega,vM,bD0,eX0 (by omega),List.take_set_of_le (by omega)];rfl
     ·rw[List.getElem?_set_ne (by omega)];exact x7 j (by omega)
     ·have gU:BK ((R.map Bm).set kk [.int .i64 y.fr,.bool y.sy.label,.int .i64 y.sy.n,.int .i64 y.to])=0:=by
       rw[show (R.map Bm).set kk [.int .i64 y.fr,.bool y.sy.label,.int .i64 y.sy.n,.int .i64 y.to]=(R.set kk y).map Bm by simp[dR0,Bm]];exact Ou_ _
      simp[dR0,Bm,gU]
     skip
    ·rw[kP]at vM;simp only[if_true,bM0]at vM;have pY:(y.fr==z.fr&&(y.sy.label==z.sy.label&&(y.sy.n==z.sy.n&&y.to==z.to)))=true:=by rw[Pw_ kP];simp
     (refine Au Aa Aa (My_ @Bm.eq_1 hm pI pH bC bB vT yT qE qP x5 hv yG qY pY) ?_;intros;refine Ae ?_)
     refine Ag.mk ⟨(m+1,kk,R),show 1<=m+1/\k+(m+1)<=l.length/\kk<k+(m+1)/\k<=kk/\R.length=l.length/\R.take kk=Bu eqA (l.take (k+(m+1)))/\(∀j,k+(m+1)<=j+1->R[j]? =l[j]?) from ⟨by omega,by omega,by omega,by omega,x5,by rw[show k+(m+1)=k+m+1 by omega,vM],fun j hj=>x7 j (by omega)⟩⟩ (Sub.lit (by simp)) (by simp;omega)
     skip
   ·have hkm:k+m=l.length:=by omega
    have jF:(CY (R.map Bm) kk (l.length-kk) [.int .i64 0,.bool false,.int .i64 0,.int .i64 0]).length=l.length:=by simp[CY];omega
    have jC:(CY (R.map Bm) kk (l.length-kk) [.int .i64 0,.bool false,.int .i64 0,.int .i64 0]).take kk=R0.map Bm:=by
     have e1:l.take (k+m)=l:=by rw[hkm,aN0]
     rw[e1]at x6;rw[yM,<-x6];simp only[CY];rw[aR0,eG0 (by simp;omega),fJ0,Nat.min_self,eM0]
    have jY:kk<=l.length:=by omega
    exact Al Aa Aa (EB hm x5 hv jF jC jY)
 ·have qY:k=l.length:=by omega
  subst qY;rw[aN0]at bW;rw[bW]at yM;exact Al Aa Aa (Aq yM)
theorem xB (l:List Arc):AS prog (.func 108) [.osl 0 0,.fn (.func 109) [] []] [⟨0,0,.row 97 4 32 (l.map Bm)⟩] (.tup []) [⟨0,0,.row 97 4 32 ((FQ DT l).map Bm)⟩]:=by
 obtain⟨un,hun⟩:∃un:List DVal->Arc,∀e,un (Bm e)=e:=⟨fun d=>match d with | [.int _ a,.bool b,.int _ c,.int _ e]=>⟨a,⟨b,c⟩,e⟩ | _=>⟨0,⟨false,0⟩,0⟩,fun e=>rfl⟩
 have qO:∀x∈l.map Bm,∃p∈l,x=Bm p:=fun x hx=>by
  obtain⟨p,hp,rfl⟩:=aU0.1 hx;exact⟨p,hp,rfl⟩
 refine YC (cf:=fun x y=>DT (un x) (un y)) Tryz.sortFArc (by rfl) call108 (by kernel_rfl) (by kernel_rfl) (by decide) rfl ?_ call109 ?_ ?_ ?_ ?_ ?_
 ·intro x hx;obtain⟨p,_,rfl⟩:=qO x hx;simp
 ·intro x hx y hy;obtain⟨p,_,rfl⟩:=qO x hx;obtain⟨q,_,rfl⟩:=qO y hy;simp only[hun];exact @iH LX p q
 ·intro x _;rw[Ej.refl];omega
 ·intro x _ y _ z _;exact Ej.trans _ _ _
 ·intro x _ y _ z _;exact Ej.ntrans _ _ _
 ·intro L hp hs;exact Yq Ej hun hp hs
end Go.Proofs.Wy
end
section
namespace Go.Proofs.Wy
open Go Go.Dm Tryz
variable [DMode]
inductive Rch (E:List (Nat×Nat)):Nat->Nat->Prop where
 | refl (p:Nat):Rch E p p
 | step {p q r:Nat}:(p,q)∈E->Rch E q r->Rch E p r
theorem Rch.one {E:List (Nat×Nat)} {p q:Nat} (h:(p,q)∈E):Rch E p q:= .step h (.refl q)
theorem Rch.trans {E:List (Nat×Nat)} {p q r:Nat} (h:Rch E p q) (h':Rch E q r):Rch E p r:=by
 induction h with
 | refl _=>exact h'
 | step a _ ih=>exact .step a (ih h')
theorem Rch.mono {E E':List (Nat×Nat)} (h:∀x∈E,x∈E') {p q:Nat} (hr:Rch E p q):Rch E' p q:=by
 induction hr with
 | refl _=>exact .refl _
 | step a _ ih=>exact .step (h _ a) ih
theorem Rch.map {E E':List (Nat×Nat)} (f:Nat->Nat) (h:∀x∈E,(f x.1,f x.2)∈E') {p q:Nat} (hr:Rch E p q):Rch E' (f p) (f q):=by
 induction hr with
 | refl _=>exact .refl _
 | step a _ ih=>exact .step (h _ a) ih
theorem IS (l:List Nd):∃c:Int,Ac prog 101 [Bl l] (.int .i64 c)/\Ac prog 207 [Bl l] (.int .i64 c)/\(c=0->l.length<=2048/\∃t,FU t=true/\l=flat t)/\(l.length<=2048->Ei l=true->∃t,FU t=true/\l=flat t/\c=Em t):=by
 by_cases h:2048<l.length
 ·exact⟨3,Qr l h,Vc l h,by omega,fun hh=>by omega⟩
 ·cases hw:Ei l with
  | false=>exact⟨170,BR_ l (by omega) hw,XO l (by omega) hw,by omega,fun _ hh=>by simp at hh⟩
  | true =>
   obtain⟨t,ht,rfl⟩:=OE hw;exact⟨Em t,Qq t ht (by omega),Vb t ht (by omega),fun _=>⟨by omega,t,ht,rfl⟩,fun _ _=>⟨t,ht,rfl,rfl⟩⟩
noncomputable def LN (l:List Nd):Int:=Classical.choose (IS l)
theorem RN_ (l:List Nd):Ac prog 101 [Bl l] (.int .i64 (LN l)):=(Classical.choose_spec (IS l)).1
theorem RM_ (l:List Nd):Ac prog 207 [Bl l] (.int .i64 (LN l)):=(Classical.choose_spec (IS l)).2.1
theorem RO_ {l:List Nd} (h:LN l=0):l.length<=2048/\∃t,FU t=true/\l=flat t:=(Classical.choose_spec (IS l)).2.2.1 h
theorem RL_ {l:List Nd} (h:l.length<=2048) (hw:Ei l=true):∃t,FU t=true/\l=flat t/\LN l=Em t:=(Classical.choose_spec (IS l)).2.2.2 h hw
noncomputable def JO : List (List Nd)->Int
 | []=>0
 | l::ls=>if LN l=0 then JO ls else LN l
theorem Lp : ∀{ls:List (List Nd)},JO ls=0->∃ts:List RT,ls=ts.map flat/\∀t∈ts,FU t=true/\(flat t).length<=2048
 | [],_=>⟨[],rfl,by simp⟩
 | l::ls,h=>by
  unfold JO at h
  split at h
  ·rename_i h1;obtain⟨h2,t,h3,h4⟩:=RO_ h1;obtain⟨ts,h5,h6⟩:=Lp h;refine⟨t::ts,by rw[h5,h4];rfl,fun u hu=> ?_⟩
   rcases aL0.1 hu with rfl | hu
   ·exact⟨h3,by rw[<-h4];exact h2⟩
   ·exact h6 u hu
  ·rename_i h1;exact absurd h h1
def Jg (H L:List ByteArray) (l:List Nd):Bool:=l.any fun x=>decide (UC H L x=4)
def FH (l:List Nd):List DVal:=[Bl l]
@[simp] theorem Rd_ (l:List Nd):AV (FH l)=0:=by simp[FH,AV,mx]
@[simp] theorem TB_ (l:List (List Nd)):BK (l.map FH)=0:=Jb _ Rd_ l
def CJ (ls:List (List Nd)):Nat:=(ls.map HN).sum
theorem YR (ls:List (List Nd)) (l:List Nd):CJ (ls++[l])=CJ ls+HN l:=by simp[CJ]
theorem Aq_ : CJ []=0:=rfl
theorem Iw : ∀ts:List RT,CJ (ts.map flat)=(CB ts).length
 | []=>by simp[CJ,CB]
 | t::ts=>by
  have ih:=Iw ts;have h1:CB (t::ts)=Dh (flat t)++CB ts:=by simp[CB]
  have h2:CJ (List.map flat (t::ts))=HN (flat t)+CJ (ts.map flat):=by simp[CJ]
  rw[h2,h1,aC0,ih,PJ]
theorem iN : ∀(ts:List RT),(∀t∈ts,(flat t).length<=2048)->CJ (ts.map flat)<=2048*ts.length
 | [],_=>by simp[CJ]
 | t::ts,h=>by
  have ih:=iN ts fun u hu=>h u (aE0 _ hu)
  have h1:=h t aF0;have h2:CJ (List.map flat (t::ts))=HN (flat t)+CJ (ts.map flat):=by simp[CJ]
  have h3:HN (flat t)<=(flat t).length:=by rw[PJ];exact cG0 _ _
  rw[h2,List.length_cons];omega
theorem YQ {ls:List (List Nd)} {k:Nat}:CJ (ls.take k)<=CJ ls:=by
 have h1:CJ ls=CJ (ls.take k)+CJ (ls.drop k):=by
  unfold CJ;rw[<-List.sum_append_nat,<-aX0,List.take_append_drop]
 omega
theorem RT_ (t:RT) (h:(flat t).length<=2048) (fV:(Dh (flat t)).length<=64):(arT t 0).length<=16777216*(Dh (flat t)).length:=by
 by_cases h0:(Dh (flat t)).length=0
 ·have:arT t 0=[]:=by
   cases ha:arT t 0 with
   | nil=>rfl
   | cons p r =>
    exfalso;obtain⟨⟨x,hx,hk⟩,_⟩:=QB t 0 p.1 p.2 (by rw[ha];exact aF0)
    have h1:x∈Dh (flat t):=by
     unfold Dh;rw[cQ0];exact⟨bI0 hx,Ca.2 hk⟩
    have:=List.length_pos_of_mem h1;omega
  rw[this];simp
 ·have:=tI t 0 fV;omega
theorem iD : ∀(ts:List RT) (ah:Nat),(∀t∈ts,(flat t).length<=2048)->(CB ts).length<=64->(uI ah ts).length<=16777216*(CB ts).length
 | [],ah,_,_=>by simp[uI]
 | t::ts,ah,h,fV=>by
  have h1:CB (t::ts)=Dh (flat t)++CB ts:=by simp[CB]
  rw[h1,aC0]at fV |-;have ih:=iD ts (ah+(Dh (flat t)).length) (fun u hu=>h u (aE0 _ hu)) (by omega);have h2:=RT_ t (h t aF0) (by omega);rw[uI,aC0,aJ0];omega
theorem oC : ∀(ts:List RT) (ah:Nat),(oD ah ts).length<=(CB ts).length
 | [],ah=>by simp[oD]
 | t::ts,ah=>by
  have h1:CB (t::ts)=Dh (flat t)++CB ts:=by simp[CB]
  have ih:=oC ts (ah+(Dh (flat t)).length);have h2:=Ub t 0;rw[oD,h1,aC0,aC0,aJ0];omega
theorem It_ : ∀(ts:List RT) (ah:Nat),(laN ah ts).length<=(CB ts).length
 | [],ah=>by simp[laN]
 | t::ts,ah=>by
  have h1:CB (t::ts)=Dh (flat t)++CB ts:=by simp[CB]
  have ih:=It_ ts (ah+(Dh (flat t)).length);have h2:=TT t 0;rw[laN,h1,aC0,aC0,aJ0];omega
theorem oB : ∀(ts:List RT) (ah:Nat),∀q∈oD ah ts,1<=q/\q<=ah+(CB ts).length
 | [],ah,q,h=>by simp[oD]at h
 | t::ts,ah,q,h=>by
  have h1:CB (t::ts)=Dh (flat t)++CB ts:=by simp[CB]
  rw[h1,aC0];rw[oD,aI0]at h
  rcases h with h | h
  ·have h2:(flat t).drop 0=flat t++[]:=by simp
   have h3:=Pr_ (ah:=ah) h2 q h;rw[Io h2,UO]at h3;omega
  ·have:=oB ts _ q h;omega
def We (us:List RT):List Nat:=oD 0 us
def RE (us:List RT):List Nat:=laN 0 us
def MZ (SF:List Sym) (us:List RT):List Arc:=Ee SF (uI 0 us)
theorem Nr_ (sy:Nd->Sym) (us:List RT) (t:RT):Pe sy (us++[t])=Pe sy us++(Dh (flat t)).map sy:=by unfold Pe;rw[Vz,aX0]
theorem TG (sy:Nd->Sym) (us:List RT):(Pe sy us).length=(CB us).length:=by simp[Pe]
theorem Nq_ (H L:List ByteArray) (us:List RT) (t:RT):JW H L (Pe (Fq H L) us) t=Pe (Fq H L) (us++[t]):=by unfold JW;rw[Nr_]
theorem LN_ (us:List RT) (t:RT):We us++Kr (flat t) (CB us).length t 0=We (us++[t]):=by unfold We Kr;rw[By_,bX0]
theorem Lx_ (us:List RT) (t:RT):RE us++NV (flat t) (CB us).length t 0=RE (us++[t]):=by unfold RE NV;rw[AS_,bX0]
theorem Hm_ (SF:List Sym) (us:List RT) (t:RT):Hj SF (flat t) (CB us).length (MZ SF us) t 0=MZ SF (us++[t]):=by unfold MZ Hj;rw[Af_,Ih,bX0]
theorem Mq_ (sy:Nd->Sym) (ts:List RT):MZ (Pe sy ts) ts++Ee (Pe sy ts) (Dd [0] (We ts))=HF sy ts:=by
 unfold MZ HF We Ee Dd;rw[aX0];simp
theorem Iq_ {us vs:List RT}:(CB us).length<=(CB (us++vs)).length:=by
 have:CB (us++vs)=CB us++CB vs:=by simp[CB]
 rw[this,aC0];omega
theorem QL_ (sy:Nd->Sym) (us vs:List RT):Pe sy us <+: Pe sy (us++vs):=by
 unfold Pe;have:CB (us++vs)=CB us++CB vs:=by simp[CB]
 rw[this,aX0];exact List.prefix_append _ _
theorem Xk (us:List RT) (t:RT):(Fv us||CC t)=Fv (us++[t]):=(ZN us t).symm
def ZI (n:Int) (fs:List Int) (zs:List Arc):DVal:= .agg [.int .i64 n,BD fs,Cz zs]
def Hf_ (H L:List ByteArray) (ts:List RT):DVal:=ZI ((CB ts).length+1) (Jx ts) (Bu (fun x y=>DT x y==0) (FQ DT (HF (Fq H L) ts)))
end Go.Proofs.Wy
end
