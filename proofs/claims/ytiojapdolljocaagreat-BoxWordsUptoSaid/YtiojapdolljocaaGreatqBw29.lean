/- Parts of a proof, laid together: BX2, BY3, BO3. -/
import Derived.Test.YtiojapdolljocaaGreatqBw15
import Derived.Test.YtiojapdolljocaaGreatqBw27
import Derived.Test.YtiojapdolljocaaGreatqBw28
set_option linter.unusedSimpArgs false
set_option maxHeartbeats 8000000
set_option linter.unusedVariables false
set_option linter.unusedSectionVars false
section
namespace Go.Proofs.Wy
open Go Go.Dm Tryz
variable [DMode]
attribute [local irreducible] DW Bh Bk
set_option maxRecDepth 100000
def Pi : Ann:=⟨[],[⟨10,[8],[],[]⟩]⟩
theorem Jr (a:Auto):Ag prog 80 [.agg (Bj a)] (.int .i64 (if Cf a then 0 else 200)):=by
 refine Ad [] Pi func80 call80 ntmps80 mxd (Az @Pi.eq_1 results80) rfl (fun qJ B qX qQ=> ?_);obtain⟨_,dK,hw3⟩:=DV_ (a:=a) (by simpa only[Iy,Ef,and_true]using qJ);clear qJ;have yI:(-1:Int).toNat=0:=rfl;have cQ:IntKind.i64.wrap (-1)= -1:=wq;simp only[Ap];obtain⟨b0,qH⟩:∃b0:Bool,b0=(decide (1<=a.st)&&decide (a.st<=65)):=⟨_,rfl⟩;have zZ:Cf a=(b0&&((List.range a.fin.length).all (iU a.st a.fin)&&(List.range a.arcs.length).all (sF a.st a.arcs))):=by rw[qH];rfl
 (refine Ba Ac Ac (AQ @Bj.eq_1) ?_;intros;refine Al ?_)
 refine An (X:={k:Nat//k<=a.fin.length}) (fun k=>⟨[(1,.ref [.int .i64 a.st,Fu a.fin,Ga a.arcs]),(3,.fn (.func 121) [] [.ref [.int .i64 a.st,Fu a.fin,Ga a.arcs]]),(4,.bool (b0&&(List.range k.1).all (iU a.st a.fin))),(19,Fu a.fin),(20,.int .i64 a.fin.length),(21,.int .i64 k.1)],[]⟩) (fun k=>a.fin.length-k.1) ⟨0,by simp⟩ (Sub.lit (by simp[qH])) ?_;rintro⟨k,hk⟩;simp only
 by_cases qV:k<a.fin.length
 ·obtain⟨q,hq,vH,hqm⟩:=Ar qV;have qR:=IP (n:=k) (iU a.st a.fin);obtain⟨b,hb⟩:∃b:Bool,b=(b0&&(List.range k).all (iU a.st a.fin)):=⟨_,rfl⟩;have qS:(b0&&(List.range (k+1)).all (iU a.st a.fin))=(b&&iU a.st a.fin k):=by rw[qR,hb,eM0]
  have e1:=HE a q;simp only[Bj]at e1;simp only[<-hb]
  cases k with
  | zero =>
   have ho:=Ws (s:=a.st) hq;rw[ho]at qS;cases b<;>(refine Ba (AQ e1) Ac (Rp @CT.eq_1 qV vH yI cQ hq) ?_;intros;refine Al ?_)
   all_goals
    refine Ak.mk ⟨0+1,by omega⟩ (Sub.lit (by simp only[qS];simp)) (by simp;omega)
   skip
  | succ m =>
   obtain⟨p,hp,zD,_⟩:=Ar (l:=a.fin) (k:=m) (by omega);have ho:=iT (s:=a.st) (k:=m+1) (by omega) hq hp;rw[ho]at qS;have jE:¬(m:Int)+1=0:=by omega
   have gD:m<a.fin.length:=by omega
   have hm5:(m:Int)+1<(a.fin.length:Int):=by omega
   have hm3:(((m:Int)+1)==0)=false:=by simpa using jE
   have hm4:IntKind.i64.wrap (m:Int)=m:=wq;cases b<;>(refine Ba (AQ e1) Ac (Rq @CT.eq_1 qV vH jE gD hm3 hm4 hm5 zD hp) ?_;intros;refine Al ?_)
   all_goals
    refine Ak.mk ⟨m+1+1,by omega⟩ (Sub.lit (by simp only[qS];simp)) (by simp;omega)
   skip
 ·have qN:k=a.fin.length:=by omega
  subst qN;obtain⟨b1,qS⟩:∃b:Bool,b=(b0&&(List.range a.fin.length).all (iU a.st a.fin)):=⟨_,rfl⟩;rw[<-eM0,<-qS]at zZ;rw[<-qS]
  (refine Ba Ac Ac Ac ?_;intros;refine Al ?_)
  refine An (X:={k:Nat//k<=a.arcs.length}) (fun k=>⟨[(1,.ref [.int .i64 a.st,Fu a.fin,Ga a.arcs]),(3,.fn (.func 121) [] [.ref [.int .i64 a.st,Fu a.fin,Ga a.arcs]]),(4,.bool (b1&&(List.range k.1).all (sF a.st a.arcs))),(48,Ga a.arcs),(49,.int .i64 a.arcs.length),(50,.int .i64 k.1)],[]⟩) (fun k=>a.arcs.length-k.1) ⟨0,by simp⟩ (Sub.lit (by simp)) ?_;rintro⟨k,hk⟩;simp only
  by_cases qV:k<a.arcs.length
  ·obtain⟨x,hq,vH,hqm⟩:=Ar qV;have qR:=IP (n:=k) (sF a.st a.arcs);obtain⟨b,hb⟩:∃b:Bool,b=(b1&&(List.range k).all (sF a.st a.arcs)):=⟨_,rfl⟩;have wV:(b1&&(List.range (k+1)).all (sF a.st a.arcs))=(b&&sF a.st a.arcs k):=by rw[qR,hb,eM0]
   have e1:=HE a x.fr;have e2:=HE a x.to;simp only[Bj]at e1 e2;simp only[<-hb]
   cases k with
   | zero =>
    have ho:=Wt (s:=a.st) hq;rw[ho]at wV;unfold NX at wV;cases b
    ·(refine Ba (Az e1 e2) Ac (Rp @CB.eq_1 qV vH yI cQ hq) ?_;intros;refine Al ?_)
     refine Ak.mk ⟨0+1,by omega⟩ (Sub.lit (by simp only[wV];simp)) (by simp;omega)
     skip
    cases hS:Zf a.st x.fr<;>rw[hS]at wV<;>(refine Ba (Az e1 e2) Ac (OB @CB.eq_1 qV vH hS yI cQ hq) ?_;intros;refine Al ?_)
    all_goals
     refine Ak.mk ⟨0+1,by omega⟩ (Sub.lit (by simp only[wV];simp)) (by simp;omega)
     skip
   | succ m =>
    obtain⟨p,hp,zD,_⟩:=Ar (l:=a.arcs) (k:=m) (by omega);have ho:=iV (s:=a.st) (k:=m+1) (by omega) hq hp;rw[ho,Rh]at wV;unfold NX at wV;have jE:¬(m:Int)+1=0:=by omega
    have gD:m<a.arcs.length:=by omega
    have hm5:(m:Int)+1<(a.arcs.length:Int):=by omega
    have hm3:(((m:Int)+1)==0)=false:=by simpa using jE
    have hm4:IntKind.i64.wrap (m:Int)=m:=wq;have e3:=LI p x;simp only[CB]at e3;cases b
    ·(refine Ba (HB e1 e2 e3) Ac (Rq @CB.eq_1 qV vH jE gD hm3 hm4 hm5 zD hp) ?_;intros;refine Al ?_)
     refine Ak.mk ⟨m+1+1,by omega⟩ (Sub.lit (by simp only[wV];simp)) (by simp;omega)
     skip
    cases hS:Zf a.st x.fr<;>rw[hS]at wV
    ·(refine Ba (HB e1 e2 e3) Ac (Sm @CB.eq_1 qV vH hS jE gD hm3 hm4 hm5 zD hp) ?_;intros;refine Al ?_)
     refine Ak.mk ⟨m+1+1,by omega⟩ (Sub.lit (by simp only[wV];simp)) (by simp;omega)
     skip
    cases hT:Zf a.st x.to<;>rw[hT]at wV
    ·(refine Ba (HB e1 e2 e3) Ac (eO @CB.eq_1 qV vH hS hT jE gD hm3 hm4 hm5 zD hp) ?_;intros;refine Al ?_)
     refine Ak.mk ⟨m+1+1,by omega⟩ (Sub.lit (by simp only[wV];simp)) (by simp;omega)
     skip
    by_cases hN:0<=x.sy.n<;>simp only[hN,decide_true,decide_false]at wV<;>(refine Ba (HB e1 e2 e3) Ac (FJ_ @CB.eq_1 qV vH hS hT hN jE gD hm3 hm4 hm5 zD hp) ?_;intros;refine Al ?_)
    all_goals
     refine Ak.mk ⟨m+1+1,by omega⟩ (Sub.lit (by simp only[wV];simp)) (by simp;omega)
     skip
  ·have qN:k=a.arcs.length:=by omega
   subst qN;rw[<-zZ];cases hA:Cf a<;>(repeat (first | refine AC fun K hK=> ?_ | (refine BL Pi mxd (by kernel_rfl) ?_;simp[Pi,qX,hA];try simp (disch:=omega) only[Ai]) | refine Am ?_ | (refine AX ?_ ?_ ?_;(· (simp[qX,hA];done));(try (rotate_left;(· (intro hc;(try simp[qX,hA]at hc);done))))) | (refine AI ?_;simp[results80,qX,hA]) | ((first | refine Av ?_ | refine Au ?_);simp[qX,hA]) | (intro hc;(try simp[qX,hA]at hc);(try (exfalso;omega))) | (refine⟨?_,?_⟩; · omega) | omega | apply_assumption -exfalso -symm | (exfalso;omega)))
theorem EF_ {S:List Bool} {u:Nat} {b:Bool} (h:S[u]? =some b):(bD S)[u]? =some [.bool b]:=by unfold bD;rw[bH0,h];rfl
end Go.Proofs.Wy
end
section
namespace Go.Proofs.Wy
open Go Go.Dm Go.Shelf Tryz
variable [DMode]
attribute [local irreducible] DW Bh Bk
set_option maxRecDepth 100000
abbrev Mb (e:Bool) (f l:List Nat):DVal:= .agg [.bool e,Ey f,Ey l]
theorem FG_ (a b:List Nat):Mh [a,b]=a++b:=by simp[Mh]
theorem EY_ (a b:List Nat):JZ [a,b]=a.length+b.length:=by simp[JZ,Mh]
theorem FB (a b:List Nat) (hb:(a.length+b.length)*8<=140737488355328):Bl prog (.func 109) [.sl 1 24 [[Ey a],[Ey b]]] [] (.osl 0 1) [⟨0,1,.row 3 1 8 ((a++b).map BK)⟩]:=by
 have h:=QS [a,b] (by rw[EY_];exact hb);rw[FG_]at h;exact h
def oL : Ann:=⟨[16,22],[⟨1,[],[],[3,4,5,12,13,14,15,16]⟩]⟩
theorem eN (e e':Bool) (f f' l l':List Nat) (hf:(f.length+f'.length)*8<=140737488355328) (hl:(l.length+l'.length)*8<=140737488355328) :
  Ag prog 60 [Mb e f l,Mb e' f' l'] (Mb (e||e') (f++f') (l++l')):=by
 refine Ad [16,22,4] oL func60 call60 ntmps60 mxd (Az @oL.eq_1 results60) rfl (fun qJ B qX qQ=> ?_);clear qJ;simp only[Ap];have e1:=FB f f' hf;have e2:=FB l l' hl;obtain⟨F,hF⟩:∃F,F=f++f':=⟨_,rfl⟩;obtain⟨L,hL⟩:∃L,L=l++l':=⟨_,rfl⟩;rw[<-hF]at e1 |-;rw[<-hL]at e2 |-;have gL:List.range 2=[0,1]:=rfl;cases e
 ·exact AA Ac (Az (Ii [] [(16,0)] e1) (Ii [] [(22,0)] e2)) (AQ gL)
 ·exact AA Ac (Az (Ii [] [(16,0)] e1) (Ii [] [(22,0)] e2)) (AQ gL)
def TB : Ann:=⟨[16,22],[⟨1,[],[],[3,4,5,12,13,14,15,16]⟩]⟩
theorem eM (e e':Bool) (f f' l l':List Nat) (hf:(f.length+f'.length)*8<=140737488355328) (hl:(l.length+l'.length)*8<=140737488355328) :
  Bl prog (.func 60) [Mb e f l,Mb e' f' l'] [] (.agg [.bool (e||e'),Ey (f++f'),.osl 0 1]) [⟨0,1,.row 3 1 8 ((l++l').map BK)⟩]:=by
 refine BU [16,4] [(22,0,1)] TB func60 call60 ntmps60 mxd (Az @TB.eq_1 results60) rfl (fun qJ B qX qQ=> ?_);clear qJ;simp only[Ap,List.nil_append];have e1:=FB f f' hf;have e2:=FB l l' hl;obtain⟨F,hF⟩:∃F,F=f++f':=⟨_,rfl⟩;obtain⟨L,hL⟩:∃L,L=l++l':=⟨_,rfl⟩;rw[<-hF]at e1 |-;rw[<-hL]at e2 |-;have gL:List.range 2=[0,1]:=rfl;cases e
 ·exact AA Ac (Az (Ii [] [(16,0)] e1) (Ii [] [(22,0)] e2)) (AQ gL)
 ·exact AA Ac (Az (Ii [] [(16,0)] e1) (Ii [] [(22,0)] e2)) (AQ gL)
def oM : Ann:=⟨[],[⟨1,[4],[],[]⟩]⟩
theorem sG (H L:List ByteArray) (x:Nd):Ag prog 59 [.agg (Bu x),.ref [Iu H L]] (.agg (AR (Co H L x))):=by
 refine Ad [] oM func59 call59 ntmps59 mxd (Az @oM.eq_1 results59) rfl (fun qJ B qX qQ=> ?_) (hd:=(by simp[mx,AR]));clear qJ;simp only[Ap];have e1:=Pt H L x;exact AA (AQ e1) Ac (Az @Bu.eq_1 @AR.eq_1)
end Go.Proofs.Wy
end
