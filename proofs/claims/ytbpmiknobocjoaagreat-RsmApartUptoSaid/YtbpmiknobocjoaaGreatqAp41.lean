/- Parts of a proof, laid together: AP6, AP7. -/
import Derived.Test.YtbpmiknobocjoaaGreatqAp17
import Derived.Test.YtbpmiknobocjoaaGreatqAp21
import Derived.Test.YtbpmiknobocjoaaGreatqAp39
import Derived.Test.YtbpmiknobocjoaaGreatqAp40
set_option linter.unusedSimpArgs false
set_option maxHeartbeats 8000000
set_option linter.unusedVariables false
set_option linter.unusedSectionVars false
section
namespace Go.Proofs.Wy
open Go Go.Dm Tryz
attribute [local irreducible] DW BN BS
set_option maxRecDepth 100000
theorem Cs_ {P:Program} {B:Base} {s s1 s2:DS} {o:Oper} (h:OK P B o s s1) (hs:Dm.Sub B s1 s2):OK P B o s s2:=by
 intro a w loc next Q R hn
 exact h a w loc next Q R fun a' w' loc' R'=>by
  obtain⟨loc2,R2⟩:=hs a' w' loc' R';exact hn a' w' loc2 R2
section
variable {Q : Exit -> DS -> Prop} {sl : List (Nat × DVal)} {g : List Rul} {y0 y1 y2 y3 y4 y5 y6 : TypeId} {p0 p1 p2 p3 p4 p5 p6 : String} {f0 f1 f2 f3 f4 f5 f6 : Array Go.Edge}
theorem DA_ {B:BaseN} (qX:134<B.nt) (h0:getS sl 0=Au g) (hs:Hk sl=0)
  (hQ:Q .normal ⟨(5,.osl 5 1)::(18,.osl 5 1)::(17,Au g)::sl,[⟨5,1,.abs (GJ (· =g))⟩]⟩) :
  DW Tryz.prog B (.region 1 #[⟨some 17,.move (.tmp 0),y0,p0,f0,none⟩,⟨some 18,.call ⟨.value (.func 4), #[.tmp 17], #[22]⟩,y1,p1,f1,none⟩,⟨some 5,.assign (.tmp 18),y2,p2,f2,none⟩] false) Q ⟨sl,[]⟩:=by
 have st1:=DQ (P:=Tryz.prog) (B:=B) (s:=⟨sl,[]⟩) (o:=⟨some 17,.move (.tmp 0),y0,p0,f0,none⟩) (by simp[Bs];omega) trivial;have st2:=Ct_ (P:=Tryz.prog) (B:=B) (o:=⟨some 18,.call ⟨.value (.func 4), #[.tmp 17], #[22]⟩,y1,p1,f1,none⟩) (A:=GJ (· =g)) (sl:=(17,Au g)::sl) 5 B.hN (by simp[Bs];omega) rfl (by simp[callee,ev,getS]) (by simp[AJ,mx]) (by simp[Hk,mx,hs]) (eW g) (fun n h v M=>GJ.new g n h v M);have st3:=DQ (P:=Tryz.prog) (B:=B) (s:=⟨(18,.osl 5 1)::(17,Au g)::sl,[⟨5,1,.abs (GJ (· =g))⟩]⟩) (o:=⟨some 5,.assign (.tmp 18),y2,p2,f2,none⟩) (by simp[Bs];omega) trivial
 refine aH (s':=⟨(5,.osl 5 1)::(18,.osl 5 1)::(17,Au g)::sl,[⟨5,1,.abs (GJ (· =g))⟩]⟩) ⟨⟨(17,Au g)::sl,[]⟩,rfl,?_,⟨(18,.osl 5 1)::(17,Au g)::sl,[⟨5,1,.abs (GJ (· =g))⟩]⟩,rfl,?_,_,rfl,?_,rfl⟩ hQ
 ·simpa[Bm,ev,putS,h0]using st1
 ·simpa[putS]using st2
 ·simpa[Bm,ev,putS,getS]using st3
theorem Dz_ {B:BaseN} {dm:DVal} {c:Int} (qX:134<B.nt) (h5:getS sl 5= .osl 5 1) (h:DO Tryz.prog 5 [Au g] (.tup [dm,.int .i64 c]))
  (hQ:Q .normal ⟨(7,.int .i64 c)::(6,dm)::(23,.int .i64 c)::(22,dm)::(19,.tup [dm,.int .i64 c])::(21,.tup [dm,.int .i64 c])::(20,.osl 5 1)::sl,Vs (DB g)⟩) :
  DW Tryz.prog B (.region 2 #[⟨some 20,.move (.tmp 5),y0,p0,f0,none⟩,⟨some 21,.call ⟨.value (.func 5), #[.tmp 20], #[22]⟩,y1,p1,f1,none⟩,⟨some 19,.move (.tmp 21),y2,p2,f2,none⟩,
   ⟨some 22,.extract (.tmp 19) 0,y3,p3,f3,none⟩,⟨some 23,.extract (.tmp 19) 1,y4,p4,f4,none⟩,⟨some 6,.assign (.tmp 22),y5,p5,f5,none⟩,⟨some 7,.assign (.tmp 23),y6,p6,f6,none⟩] false) Q ⟨sl,[⟨5,1,.abs (GJ (· =g))⟩]⟩:=by
 obtain⟨D,hD⟩:∃D,D=DVal.tup [dm,.int .i64 c]:=⟨_,rfl⟩;have st1:=DQ (P:=Tryz.prog) (B:=B) (s:=⟨sl,[⟨5,1,.abs (GJ (· =g))⟩]⟩) (o:=⟨some 20,.move (.tmp 5),y0,p0,f0,none⟩) (by simp[Bs];omega) trivial;have st2:=Xh (P:=Tryz.prog) (B:=B) (s:=⟨(20,.osl 5 1)::sl,[⟨5,1,.abs (GJ (· =g))⟩]⟩) (o:=⟨some 21,.call ⟨.value (.func 5), #[.tmp 20], #[22]⟩,y1,p1,f1,none⟩) (id:=5) (r:=1) (by simp[Bs];omega) rfl (by simp[callee,ev,getS]) rfl (fun M bl v h H=>GJ.data (M:=M) (bl:=bl) H) h
 have st3:=DQ (P:=Tryz.prog) (B:=B) (s:=⟨(21,.tup [dm,.int .i64 c])::(20,.osl 5 1)::sl,[⟨5,1,.abs (GJ (· =g))⟩]⟩) (o:=⟨some 19,.move (.tmp 21),y2,p2,f2,none⟩) (by simp[Bs];omega) trivial;have st4:=DQ (P:=Tryz.prog) (B:=B) (s:=⟨(19,.tup [dm,.int .i64 c])::(21,.tup [dm,.int .i64 c])::(20,.osl 5 1)::sl,[⟨5,1,.abs (GJ (· =g))⟩]⟩) (o:=⟨some 22,.extract (.tmp 19) 0,y3,p3,f3,none⟩) (by simp[Bs];omega) (by simp[DV,ev,getS])
 have st5:=DQ (P:=Tryz.prog) (B:=B) (s:=⟨(22,dm)::(19,.tup [dm,.int .i64 c])::(21,.tup [dm,.int .i64 c])::(20,.osl 5 1)::sl,[⟨5,1,.abs (GJ (· =g))⟩]⟩) (o:=⟨some 23,.extract (.tmp 19) 1,y4,p4,f4,none⟩) (by simp[Bs];omega) (by simp[DV,ev,getS]);have st6:=DQ (P:=Tryz.prog) (B:=B) (s:=⟨(23,.int .i64 c)::(22,dm)::(19,.tup [dm,.int .i64 c])::(21,.tup [dm,.int .i64 c])::(20,.osl 5 1)::sl,[⟨5,1,.abs (GJ (· =g))⟩]⟩) (o:=⟨some 6,.assign (.tmp 22),y5,p5,f5,none⟩) (by simp[Bs];omega) trivial
 have st7:=DQ (P:=Tryz.prog) (B:=B) (s:=⟨(6,dm)::(23,.int .i64 c)::(22,dm)::(19,.tup [dm,.int .i64 c])::(21,.tup [dm,.int .i64 c])::(20,.osl 5 1)::sl,[⟨5,1,.abs (GJ (· =g))⟩]⟩) (o:=⟨some 7,.assign (.tmp 23),y6,p6,f6,none⟩) (by simp[Bs];omega) trivial;have sub:=Sub.absW (B:=B) (s:=⟨(7,.int .i64 c)::(6,dm)::(23,.int .i64 c)::(22,dm)::(19,.tup [dm,.int .i64 c])::(21,.tup [dm,.int .i64 c])::(20,.osl 5 1)::sl,[⟨5,1,.abs (GJ (· =g))⟩]⟩) (id:=5) (r:=1) (A:=GJ (· =g)) (A':=GJ fun g'=>DB g'=DB g) rfl (fun M bl v h H=>GJ.lens (M:=M) (bl:=bl) H)
 have sub':Dm.Sub B ⟨(7,.int .i64 c)::(6,dm)::(23,.int .i64 c)::(22,dm)::(19,.tup [dm,.int .i64 c])::(21,.tup [dm,.int .i64 c])::(20,.osl 5 1)::sl,[⟨5,1,.abs (GJ (· =g))⟩]⟩ ⟨(7,.int .i64 c)::(6,dm)::(23,.int .i64 c)::(22,dm)::(19,.tup [dm,.int .i64 c])::(21,.tup [dm,.int .i64 c])::(20,.osl 5 1)::sl,Vs (DB g)⟩:=by simpa using sub
 refine aH (s':=_) ⟨⟨(20,.osl 5 1)::sl,[⟨5,1,.abs (GJ (· =g))⟩]⟩,rfl,?_,⟨(21,.tup [dm,.int .i64 c])::(20,.osl 5 1)::sl,[⟨5,1,.abs (GJ (· =g))⟩]⟩,rfl,?_,
  ⟨(19,.tup [dm,.int .i64 c])::(21,.tup [dm,.int .i64 c])::(20,.osl 5 1)::sl,[⟨5,1,.abs (GJ (· =g))⟩]⟩,rfl,?_,⟨(22,dm)::(19,.tup [dm,.int .i64 c])::(21,.tup [dm,.int .i64 c])::(20,.osl 5 1)::sl,[⟨5,1,.abs (GJ (· =g))⟩]⟩,rfl,?_,
  ⟨(23,.int .i64 c)::(22,dm)::(19,.tup [dm,.int .i64 c])::(21,.tup [dm,.int .i64 c])::(20,.osl 5 1)::sl,[⟨5,1,.abs (GJ (· =g))⟩]⟩,rfl,?_,⟨(6,dm)::(23,.int .i64 c)::(22,dm)::(19,.tup [dm,.int .i64 c])::(21,.tup [dm,.int .i64 c])::(20,.osl 5 1)::sl,[⟨5,1,.abs (GJ (· =g))⟩]⟩,rfl,?_,
  ⟨(7,.int .i64 c)::(6,dm)::(23,.int .i64 c)::(22,dm)::(19,.tup [dm,.int .i64 c])::(21,.tup [dm,.int .i64 c])::(20,.osl 5 1)::sl,Vs (DB g)⟩,rfl,Cs_ ?_ sub',rfl⟩ hQ
 ·simpa[Bm,ev,putS,h5]using st1
 ·simpa[putS]using st2
 ·simpa[Bm,ev,putS,getS]using st3
 ·simpa[Bm,ev,putS,getS]using st4
 ·simpa[Bm,ev,putS,getS]using st5
 ·simpa[Bm,ev,putS,getS]using st6
 ·simpa[Bm,ev,putS,getS]using st7
end
theorem aI {P:Program} {f:FuncId} {args:List DVal} {d:DVal} (h:Af P f args d):Bj P (.func f) args [] d []:=by
 obtain⟨hE,hm,hS⟩:=h;refine⟨by simp,hE,fun M w loc vs S hr=>⟨hE,?_⟩⟩;refine(hS _ _ w vs (fun b hb=>S.lt b hb) hr).mono ?_;rintro e w' ⟨v,rfl,hu,vX⟩;exact⟨v,rfl,loc,S.keep hu,hu.nil,fun b hb=> .inl hb,fun e he _=>Ay S.nd he,vX⟩
def II : Arc:=⟨0,⟨false,0⟩,0⟩
def iR (l:List Int) (i:Nat):List Int:=(l.take i).map (fun _=>(-1:Int))++l.drop i
theorem AQ_ (l:List Int):iR l 0=l:=by simp[iR]
def BP : Ann:=⟨[12,16,81,95],[⟨29,[16],[],[]⟩]⟩
theorem SU (g:List Rul) (n:Int) (hs:Ge g) (hl:g.length*40<=140737488355328):Af Tryz.prog 3 [Au g,.int .i64 n] (.bool true):=by
 obtain⟨c,p1,p2,p3⟩:=Ik_ g hs
 by_cases hc:c=0
 ·obtain⟨gt,rfl,h⟩:=p3 hc;subst hc;have hgl:=Ft gt;have yD:=h.le;have nO:=EE (k:=3) hs;have e1:=iM gt h hs p1;have e2:=Xu gt h hs;have kT:=sX h;have mD:=Sx gt;have pD:=h.hd;obtain⟨A,hA⟩:∃A,A=OG gt:=⟨_,rfl⟩;rw[<-hA]at e1 e2 kT mD;have nP:A.length<=16:=by omega
  obtain⟨H,hH⟩:∃H,H=AD (Bu gt):=⟨_,rfl⟩;obtain⟨L,hL⟩:∃L,L=AG (Bu gt):=⟨_,rfl⟩;rw[<-hH,<-hL]at e1;obtain⟨g,hg⟩:∃g,g=Bu gt:=⟨_,rfl⟩;rw[<-hg]at e1 e2 p2 hgl hs |-;clear hA hH hL hg p1 p3 nO pD h;refine Ae [] BP Tryz.func3 Tryz.call3 Tryz.ntmps3 mxd (AB @BP.eq_1 Tryz.results3) rfl (fun qJ B qX qQ=> ?_);clear qJ;simp only[Aq]
  iterate 4 ((first | refine AC fun K hK=> ?_ | (refine BA BP mxd (by kernel_rfl) ?_;simp[BP,qX];try simp (disch:=omega) only[Ag]) | refine Ao ?_ | (refine AX ?_ ?_ ?_;(· (simp[qX];done));(try (rotate_left;(· (intro hc;(try simp[qX]at hc);done))))) | (refine AE ?_;simp[Tryz.results3,qX]) | ((first | refine Aw ?_ | refine Av ?_);simp[qX]) | (intro hc;(try simp[qX]at hc);(try (exfalso;omega))) | (refine⟨?_,?_⟩; · omega) | omega | apply_assumption -exfalso -symm | (exfalso;omega)))
  refine DA_ (by rw[qX.1];decide) rfl (by simp[Hk,mx]) ?_;simp only[IG]
  iterate 2 ((first | refine AC fun K hK=> ?_ | (refine BA BP mxd (by kernel_rfl) ?_;simp[BP,qX];try simp (disch:=omega) only[Ag]) | refine Ao ?_ | (refine AX ?_ ?_ ?_;(· (simp[qX];done));(try (rotate_left;(· (intro hc;(try simp[qX]at hc);done))))) | (refine AE ?_;simp[Tryz.results3,qX]) | ((first | refine Aw ?_ | refine Av ?_);simp[qX]) | (intro hc;(try simp[qX]at hc);(try (exfalso;omega))) | (refine⟨?_,?_⟩; · omega) | omega | apply_assumption -exfalso -symm | (exfalso;omega)))
  unfold CR at e1;refine Dz_ (by rw[qX.1];decide) rfl e1 ?_;simp only[IG]
  (refine AL (AH p2) Ab Ab ?_;intros;refine Am ?_)
  obtain⟨Ls,hLs⟩:∃Ls,Ls=DB g:=⟨_,rfl⟩;have hLl:Ls.length=g.length:=by rw[hLs];simp[DB]
  have hLm:∀i m,Ls[i]? =some m->m<9223372036854775807:=fun i m hi=>by
   rw[hLs]at hi;unfold DB at hi;rw[bH0]at hi
   cases hgi:g[i]? with
   | none=>rw[hgi]at hi;simp at hi
   | some r =>
    rw[hgi]at hi;simp only[cU0,aA0]at hi;have:=hs r (bJ0 hgi);omega
  rw[<-hLs];have bC:134<B.nt:=by rw[qX.1];decide
  refine Ai (X:={i:Nat//i<=Ls.length}) (fun i=>⟨[(0,Au g),(1,.int .i64 n),(5,.osl 5 1),(6,.ref [CB H L,Pw (Cl 0 A),.int .i64 (Co A)]),(8,.int .i64 i.1)],Vs Ls⟩) (fun i=>Ls.length-i.1) ⟨0,by simp⟩ (Sub.lit (by simp[CB])) ?_;rintro⟨i,hi⟩;simp only
  by_cases qV:i<Ls.length
  ·obtain⟨m,hm⟩:∃m,Ls[i]? =some m:=⟨_,aI0 qV⟩;have zS:=hLm i m hm;have hlt1:(i:Int)<(Ls.length:Int):=by omega
   have wU:IntKind.i64.wrap ((i:Int)+1)=(i:Int)+1:=wq
   repeat (first | (refine Dy_ (i:=i) bC rfl rfl rfl (by omega) ?_;simp only[IG]) | (refine FL_ (i:=i) (by decide) bC rfl rfl rfl qV ?_;simp only[IG]) | (first | refine AC fun K hK=> ?_ | (refine BA BP mxd (by kernel_rfl) ?_;simp[BP,qX,qV];try simp (disch:=omega) only[Ag]) | refine Ao ?_ | (refine AX ?_ ?_ ?_;(· (simp[qX,qV];done));(try (rotate_left;(· (intro hc;(try simp[qX,qV]at hc);done))))) | (refine AE ?_;simp[Tryz.results3,qX,qV]) | ((first | refine Aw ?_ | refine Av ?_);simp[qX,qV]) | (intro hc;(try simp[qX,qV]at hc);(try (exfalso;omega))) | (refine⟨?_,?_⟩; · omega) | omega | apply_assumption -exfalso -symm | (exfalso;omega)))
   refine Ai (X:={j:Nat//j<=m}) (fun j=>⟨[(0,Au g),(1,.int .i64 n),(5,.osl 5 1),(6,.ref [CB H L,Pw (Cl 0 A),.int .i64 (Co A)]),(8,.int .i64 i),(9,.int .i64 j.1)],Vs Ls⟩) (fun j=>m-j.1) ⟨0,by simp⟩ (Sub.lit (by simp[CB])) ?_;rintro⟨j,hj⟩;simp only
   by_cases qL:j<m
   ·have zF:(j:Int)<(m:Int):=by omega
    have fE:IntKind.i64.wrap ((j:Int)+1)=(j:Int)+1:=wq
    repeat (first | (refine sG (i:=i) (j:=j) bC rfl rfl rfl rfl hm zS ?_;simp only[IG]) | (refine FK_ (i:=i) (j:=j) bC rfl rfl rfl rfl hm qL ?_;simp only[IG]) | (first | refine AC fun K hK=> ?_ | (refine BA BP mxd (by kernel_rfl) ?_;simp[BP,qX,qL,fE];try simp (disch:=omega) only[Ag]) | refine Ao ?_ | (refine AX ?_ ?_ ?_;(· (simp[qX,qL,fE];done));(try (rotate_left;(· (intro hc;(try simp[qX,qL,fE]at hc);done))))) | (refine AE ?_;simp[Tryz.results3,qX,qL,fE]) | ((first | refine Aw ?_ | refine Av ?_);simp[qX,qL,fE]) | (intro hc;(try simp[qX,qL,fE]at hc);(try (exfalso;omega))) | (refine⟨?_,?_⟩; · omega) | omega | apply_assumption -exfalso -symm | (exfalso;omega)))
    exact Al.mk ⟨j+1,by omega⟩ (Sub.lit (by simp[CB])) (by simp;omega)
   ·have hjm:j=m:=by omega
    subst hjm
    repeat (first | (refine sG (i:=i) (j:=j) bC rfl rfl rfl rfl hm zS ?_;simp only[IG]) | (first | refine AC fun K hK=> ?_ | (refine BA BP mxd (by kernel_rfl) ?_;simp[BP,qX,wU];try simp (disch:=omega) only[Ag]) | refine Ao ?_ | (refine AX ?_ ?_ ?_;(· (simp[qX,wU];done));(try (rotate_left;(· (intro hc;(try simp[qX,wU]at hc);done))))) | (refine AE ?_;simp[Tryz.results3,qX,wU]) | ((first | refine Aw ?_ | refine Av ?_);simp[qX,wU]) | (intro hc;(try simp[qX,wU]at hc);(try (exfalso;omega))) | (refine⟨?_,?_⟩; · omega) | omega | apply_assumption -exfalso -symm | (exfalso;omega)))
    exact Al.mk ⟨i+1,by omega⟩ (Sub.lit (by simp[CB])) (by simp;omega)
  ·have hii:i=Ls.length:=by omega
   subst hii
   iterate 9 (first | (refine Dy_ (i:=Ls.length) bC rfl rfl rfl (by omega) ?_;simp only[IG]) | (first | refine AC fun K hK=> ?_ | (refine BA BP mxd (by kernel_rfl) ?_;simp[BP,qX];try simp (disch:=omega) only[Ag]) | refine Ao ?_ | (refine AX ?_ ?_ ?_;(· (simp[qX];done));(try (rotate_left;(· (intro hc;(try simp[qX]at hc);done))))) | (refine AE ?_;simp[Tryz.results3,qX]) | ((first | refine Aw ?_ | refine Av ?_);simp[qX]) | (intro hc;(try simp[qX]at hc);(try (exfalso;omega))) | (refine⟨?_,?_⟩; · omega) | omega | apply_assumption -exfalso -symm | (exfalso;omega)))
   refine ER (s':=⟨[(0,Au g),(1,.int .i64 n),(6,.ref [CB H L,Pw (Cl 0 A),.int .i64 (Co A)])],[]⟩) (Sub.lit (by simp[CB])) ?_;have e3:=VM H L A kT nP;have e4:=VL H L A kT nP;have e5:=Re H L A kT nP;have e6:=SR (MZ A);have e7:=Pm (KF A);have hAL:(KF A).length<=17179870208:=Nat.le_trans (SC kT 0) (cO0 1073741888 nP);obtain⟨LA,hLA⟩:∃LA,LA=KF A:=⟨_,rfl⟩;unfold CR at e3 e4 e5;unfold CH_ at e2;rw[<-hLA]at e2 e3 e4 e7 hAL
   clear hLA
   iterate 4 ((first | refine AC fun K hK=> ?_ | (refine BA BP mxd (by kernel_rfl) ?_;simp[BP,qX];try simp (disch:=omega) only[Ag]) | refine Ao ?_ | (refine AX ?_ ?_ ?_;(· (simp[qX];done));(try (rotate_left;(· (intro hc;(try simp[qX]at hc);done))))) | (refine AE ?_;simp[Tryz.results3,qX]) | ((first | refine Aw ?_ | refine Av ?_);simp[qX]) | (intro hc;(try simp[qX]at hc);(try (exfalso;omega))) | (refine AO [] [(81,0)] (e3) ?_ ?_;(· (simp[qX];done));(intro _;try simp[qX])) | (refine⟨?_,?_⟩; · omega) | omega | apply_assumption -exfalso -symm | (exfalso;omega)))
   (refine AL Ab Ab Ab ?_;intros;refine Am ?_)
   have z0:=Oj (fun _=>II) LA;refine Ai (X:={i:Nat//i<=LA.length}) (fun i=>⟨[(0,Au g),(1,.int .i64 n),(6,.ref [CB H L,Pw (Cl 0 A),.int .i64 (Co A)]),(10,.osl 81 1),(11,.int .i64 i.1)],[⟨81,1,.row 42 4 32 ((GZ (fun _=>II) LA i.1).map AN)⟩]⟩) (fun i=>LA.length-i.1) ⟨0,by simp⟩ (Sub.lit (by simp[CB,z0])) ?_;rintro⟨i,hi⟩;simp only
   by_cases qV:i<LA.length
   ·obtain⟨x,hx,qB,vD⟩:=Ap qV;have s1:((GZ (fun _=>II) LA i).map AN).set i [.int .i64 0,.bool false,.int .i64 0,.int .i64 0]=(GZ (fun _=>II) LA (i+1)).map AN:=JO AN (fun _=>II) hx;have m2:(GZ (fun _=>II) LA i).length=LA.length:=KS LA i (fun _=>II) hi;obtain⟨Z,hZ⟩:∃Z,Z=GZ (fun _=>II) LA i:=⟨_,rfl⟩;rw[<-hZ]at s1 m2 |-;have vA:i<Z.length:=by omega
    obtain⟨zz,zQ,vT,_⟩:=Ap vA;have wU:IntKind.i64.wrap ((i:Int)+1)=(i:Int)+1:=wq
    (refine AL Ab Ab (KG @AN.eq_1 qV m2 zQ vT vA wU s1) ?_;intros;refine Am ?_)
    refine Al.mk ⟨i+1,by omega⟩ (Sub.lit (by simp[CB])) (by simp;omega)
    skip
   ·have hii:i=LA.length:=by omega
    subst hii;have m2:(GZ (fun _=>II) LA LA.length).length=LA.length:=KS LA LA.length (fun _=>II) (Nat.le_refl _)
    iterate 9 ((first | refine AC fun K hK=> ?_ | (refine BA BP mxd (by kernel_rfl) ?_;simp[BP,qX,m2];try simp (disch:=omega) only[Ag]) | refine Ao ?_ | (refine AX ?_ ?_ ?_;(· (simp[qX,m2];done));(try (rotate_left;(· (intro hc;(try simp[qX,m2]at hc);done))))) | (refine AE ?_;simp[Tryz.results3,qX,m2]) | ((first | refine Aw ?_ | refine Av ?_);simp[qX,m2]) | (intro hc;(try simp[qX,m2]at hc);(try (exfalso;omega))) | (refine⟨?_,?_⟩; · omega) | omega | apply_assumption -exfalso -symm | (exfalso;omega)))
    refine ER (s':=⟨[(0,Au g),(1,.int .i64 n),(6,.ref [CB H L,Pw (Cl 0 A),.int .i64 (Co A)])],[]⟩) (Sub.lit (by simp[CB])) ?_;clear m2 hi qV z0 e3;refine AC fun K20 hK20=> ?_
    have main:∀(st:Int) (F:List Int) (R:List Arc) (s':DS),F.length<=1073741888->R.length<=1073741888->(∀(x:Code) (Q':Exit->DS->Prop),DW Tryz.prog B x Q' ⟨[(0,Au g),(6,.ref [CB H L,Pw (Cl 0 A),.int .i64 (Co A)]),(12,.bx 12 1 0)],[⟨12,1,.box [.int .i64 st,.osl 37 1,.osl 40 1]⟩,⟨37,1,.row 3 1 8 (F.map Dj)⟩,⟨40,1,.row 42 4 32 (R.map AN)⟩]⟩->DW Tryz.prog B x Q' s')->K20 s':=by
     intro st F R s' hF hR vN;refine hK20 _ (vN _ _ ?_);clear vN hK20
     (refine AL Ab Ab Ab ?_;intros;refine Am ?_)
     have z0:=Oj (fun _=>II) R;refine Ai (X:={i:Nat//i<=R.length}) (fun i=>⟨[(0,Au g),(6,.ref [CB H L,Pw (Cl 0 A),.int .i64 (Co A)]),(12,.bx 12 1 0),(14,.int .i64 i.1)],[⟨12,1,.box [.int .i64 st,.osl 37 1,.osl 40 1]⟩,⟨37,1,.row 3 1 8 (F.map Dj)⟩,⟨40,1,.row 42 4 32 ((GZ (fun _=>II) R i.1).map AN)⟩]⟩) (fun i=>R.length-i.1) ⟨0,by simp⟩ (Sub.lit (by simp[CB,z0])) ?_;rintro⟨i,hi⟩;simp only;have m2:(GZ (fun _=>II) R i).length=R.length:=KS R i (fun _=>II) hi
     by_cases qV:i<R.length
     ·obtain⟨x,hx,qB,vD⟩:=Ap qV;have s1:((GZ (fun _=>II) R i).map AN).set i [.int .i64 0,.bool false,.int .i64 0,.int .i64 0]=(GZ (fun _=>II) R (i+1)).map AN:=JO AN (fun _=>II) hx;obtain⟨Z,hZ⟩:∃Z,Z=GZ (fun _=>II) R i:=⟨_,rfl⟩;rw[<-hZ]at s1 m2 |-;have vA:i<Z.length:=by omega
      obtain⟨zz,zQ,vT,_⟩:=Ap vA;have wU:IntKind.i64.wrap ((i:Int)+1)=(i:Int)+1:=wq
      (refine AL Ab Ab (KG @AN.eq_1 qV m2 zQ vT vA wU s1) ?_;intros;refine Am ?_)
      refine Al.mk ⟨i+1,by omega⟩ (Sub.lit (by simp[CB])) (by simp;omega)
      skip
     ·have hii:i=R.length:=by omega
      subst hii;obtain⟨Z,hZ⟩:∃Z,Z=GZ (fun _=>II) R R.length:=⟨_,rfl⟩;rw[<-hZ]at m2 |-
      (refine AL Ab Ab (AH m2) ?_;intros;refine Am ?_)
      have z1:=AQ_ F;refine Ai (X:={i:Nat//i<=F.length}) (fun i=>⟨[(0,Au g),(6,.ref [CB H L,Pw (Cl 0 A),.int .i64 (Co A)]),(12,.bx 12 1 0),(15,.int .i64 i.1)],[⟨12,1,.box [.int .i64 st,.osl 37 1,.osl 40 1]⟩,⟨37,1,.row 3 1 8 ((iR F i.1).map Dj)⟩,⟨40,1,.row 42 4 32 (Z.map AN)⟩]⟩) (fun i=>F.length-i.1) ⟨0,by simp⟩ (Sub.lit (by simp[CB,z1])) ?_;rintro⟨i,hi⟩;simp only;have m3:(iR F i).length=F.length:=KS F i (fun _=>(-1:Int)) hi
      by_cases qV:i<F.length
      ·obtain⟨x,hx,qB,vD⟩:=Ap qV;have s1:((iR F i).map Dj).set i [.int .i64 (-1)]=(iR F (i+1)).map Dj:=JO Dj (fun _=>(-1:Int)) hx;obtain⟨Y,hY⟩:∃Y,Y=iR F i:=⟨_,rfl⟩;rw[<-hY]at s1 m3 |-;have vA:i<Y.length:=by omega
       obtain⟨zz,zQ,vT,_⟩:=Ap vA;have wU:IntKind.i64.wrap ((i:Int)+1)=(i:Int)+1:=wq
       (refine AL Ab Ab (KG @Dj.eq_1 qV m3 zQ vT vA wU s1) ?_;intros;refine Am ?_)
       refine Al.mk ⟨i+1,by omega⟩ (Sub.lit (by simp[CB])) (by simp;omega)
       skip
      ·have hii:i=F.length:=by omega
       subst hii;exact Az (Lj e2 e4 e5 e6 e7) Ab (AH m3)
    by_cases hn:n<0\/(A.length:Int)<=n
    ·have e8:=aI (BG_ H L A n hn);unfold CR at e8
     iterate 3 ((first | refine AC fun K hK=> ?_ | (refine BA BP mxd (by kernel_rfl) ?_;simp[BP,qX];try simp (disch:=omega) only[Ag]) | refine Ao ?_ | (refine AX ?_ ?_ ?_;(· (simp[qX];done));(try (rotate_left;(· (intro hc;(try simp[qX]at hc);done))))) | (refine AE ?_;simp[Tryz.results3,qX]) | ((first | refine Aw ?_ | refine Av ?_);simp[qX]) | (intro hc;(try simp[qX]at hc);(try (exfalso;omega))) | (refine AO [] [] (e8) ?_ ?_;(· (simp[qX];done));(intro _;try simp[qX])) | (refine⟨?_,?_⟩; · omega) | omega | apply_assumption -exfalso -symm | (exfalso;omega)))
     exact main 0 [] [] _ (by simp) (by simp) fun x Q' hw=>Ct 12 1 37 3 1 8 (by simp) fun n1=>Ct 12 2 40 42 4 32 (by simp) fun n2=>ER (Sub.lit (by simp[CB])) hw
    ·obtain⟨k,rfl⟩:∃k:Nat,n=(k:Int):=⟨n.toNat,by omega⟩;have yJ:k<A.length:=by omega
     obtain⟨a,hx,qB,vD⟩:=Ap yJ;obtain⟨f,hf⟩:=rO (f:=0) hx;have e8:=Zm H L A k a f (kT a vD) hf;unfold CR at e8
     iterate 3 ((first | refine AC fun K hK=> ?_ | (refine BA BP mxd (by kernel_rfl) ?_;simp[BP,qX];try simp (disch:=omega) only[Ag]) | refine Ao ?_ | (refine AX ?_ ?_ ?_;(· (simp[qX];done));(try (rotate_left;(· (intro hc;(try simp[qX]at hc);done))))) | (refine AE ?_;simp[Tryz.results3,qX]) | ((first | refine Aw ?_ | refine Av ?_);simp[qX]) | (intro hc;(try simp[qX]at hc);(try (exfalso;omega))) | (refine AO [] [(37,0),(40,1)] (e8) ?_ ?_;(· (simp[qX];done));(intro _;try simp[qX])) | (refine⟨?_,?_⟩; · omega) | omega | apply_assumption -exfalso -symm | (exfalso;omega)))
     have nW:=(kT a vD).fi;have mE:=(kT a vD).ar;exact main a.st a.fin a.arcs _ (by omega) (by omega) fun x Q' hw=>ER (Sub.lit (by simp[CB])) hw
 ·have e1:DO Tryz.prog 5 [Au g] (.tup [.nilp,.int .i64 c]):=DO.of_simple rfl (AM_ g c hc p1);have e2:=Xi;have e3:=eA n;have e4:=Fu_ n;have hcb:(c==0)=false:=by simpa using hc
  refine Ae [] BP Tryz.func3 Tryz.call3 Tryz.ntmps3 mxd (AB @BP.eq_1 Tryz.results3) rfl (fun qJ B qX qQ=> ?_);clear qJ;simp only[Aq]
  iterate 4 ((first | refine AC fun K hK=> ?_ | (refine BA BP mxd (by kernel_rfl) ?_;simp[BP,qX];try simp (disch:=omega) only[Ag]) | refine Ao ?_ | (refine AX ?_ ?_ ?_;(· (simp[qX];done));(try (rotate_left;(· (intro hc;(try simp[qX]at hc);done))))) | (refine AE ?_;simp[Tryz.results3,qX]) | ((first | refine Aw ?_ | refine Av ?_);simp[qX]) | (intro hc;(try simp[qX]at hc);(try (exfalso;omega))) | (refine⟨?_,?_⟩; · omega) | omega | apply_assumption -exfalso -symm | (exfalso;omega)))
  refine DA_ (by rw[qX.1];decide) rfl (by simp[Hk,mx]) ?_;simp only[IG]
  iterate 2 ((first | refine AC fun K hK=> ?_ | (refine BA BP mxd (by kernel_rfl) ?_;simp[BP,qX];try simp (disch:=omega) only[Ag]) | refine Ao ?_ | (refine AX ?_ ?_ ?_;(· (simp[qX];done));(try (rotate_left;(· (intro hc;(try simp[qX]at hc);done))))) | (refine AE ?_;simp[Tryz.results3,qX]) | ((first | refine Aw ?_ | refine Av ?_);simp[qX]) | (intro hc;(try simp[qX]at hc);(try (exfalso;omega))) | (refine⟨?_,?_⟩; · omega) | omega | apply_assumption -exfalso -symm | (exfalso;omega)))
  refine Dz_ (by rw[qX.1];decide) rfl e1 ?_;simp only[IG];exact Az (IF p2 e2 e3 e4) Ab (AB hc hcb)
end Go.Proofs.Wy
end
