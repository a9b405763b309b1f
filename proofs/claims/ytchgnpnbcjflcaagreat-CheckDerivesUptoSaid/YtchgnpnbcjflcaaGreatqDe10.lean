/- Parts of a proof, laid together: EnZ, CF1, W18, W100, WS, W58, W29, CF2, W88, W90, W43, W94, W25, WF, W57, W26, W19, W14, W81, W13, W45, W7, W23, W9, W89, W91, W50, W21, W93, W52, WG, CK0, W17, CK1, CK2, CF3, W30, W8, W22, WN1. -/
import Derived.Test.YtchgnpnbcjflcaaGreatqDe4
import Derived.Test.YtchgnpnbcjflcaaGreatqDe5
import Derived.Test.YtchgnpnbcjflcaaGreatqDe9
set_option linter.unusedSimpArgs false
set_option maxHeartbeats 8000000
set_option linter.unusedVariables false
set_option linter.unusedSectionVars false
section
namespace Go.Dm
variable [DMode]
theorem Bk_ : ∀{a b:List DVal},WL a b->a.length=b.length
 | [],[],_=>rfl
 | [],_::_,h=>h.elim
 | _::_,[],h=>h.elim
 | _::a,_::b,h=>by simp[Bk_ h.2]
def Jb : List (List DVal)->List (List DVal)->Prop
 | [],[]=>True
 | a::r,b::t=>WL a b/\Jb r t
 | _,_=>False
theorem Ro : ∀{a b:List (List DVal)},Jb a b->a.length=b.length
 | [],[],_=>rfl
 | [],_::_,h=>h.elim
 | _::_,[],h=>h.elim
 | _::a,_::b,h=>by simp[Ro h.2]
theorem BL_ {cur:Fb} {M:List Nat} {h:Array Obj}:∀{a b:List DVal} {arr:Array Value} {o:Nat},WL a b->Ea cur M h a arr o->Ea cur M h b arr o
 | [],[],_,_,_,hr=>hr
 | [],_::_,_,_,hw,_=>hw.elim
 | _::_,[],_,_,hw,_=>hw.elim
 | d::a,e::b,arr,o,hw,hr=>by
  simp only[Ea]at hr |-;obtain⟨⟨v,h1,h2,h3⟩,h4⟩:=hr;exact⟨⟨v,h1,h2,Zr hw.1 h3⟩,BL_ hw.2 h4⟩
theorem Sg {cur:Fb} {M:List Nat} {h:Array Obj} {k:Nat}:∀{a b:List (List DVal)} {arr:Array Value} {o:Nat},Jb a b->EB cur M h k a arr o->EB cur M h k b arr o
 | [],[],_,_,_,hr=>hr
 | [],_::_,_,_,hw,_=>hw.elim
 | _::_,[],_,_,hw,_=>hw.elim
 | d::a,e::b,arr,o,hw,hr=>by
  simp only[EB]at hr |-;obtain⟨h1,h2,h3⟩:=hr;exact⟨by rw[<-h1,Bk_ hw.1],BL_ hw.1 h2,Sg hw.2 h3⟩
def Hj_ (es':List (List DVal)):DObj->DObj
 | .row et k bs _=> .row et k bs es'
 | o=>o
def JO (id:Nat) (es':List (List DVal)):List Ent->List Ent
 | []=>[]
 | e::t=>(if e.id=id then ⟨e.id,e.r,Hj_ es' e.obj⟩else e)::JO id es' t
attribute [simp] Hj_ JO
theorem Zp (id:Nat) (es':List (List DVal)):∀own:List Ent,(JO id es' own).map (·.id)=own.map (·.id)
 | []=>rfl
 | e::t=>by simp only[JO,List.map_cons,Zp id es' t];split<;>rfl
theorem Eh (id:Nat) (es':List (List DVal)) (loc:Nat->Loc):∀own:List Ent,Ab (JO id es' own) loc=Ab own loc
 | []=>rfl
 | e::t=>by
  have:=Eh id es' loc t;simp only[Ab,JO,cO0]at this |-;rw[this];split<;>rfl
theorem Ki {id:Nat} {es':List (List DVal)}:∀{own:List Ent} {x:Ent},x∈JO id es' own->∃e∈own,e.id=x.id/\e.r=x.r/\((e.id≠id/\x=e)\/(e.id=id/\x.obj=Hj_ es' e.obj))
 | [],_,h=>by simp[JO]at h
 | e::t,x,h=>by
  simp only[JO,aJ0]at h
  rcases h with h | h
  ·refine⟨e,aE0,?_⟩
   split at h
   ·rename_i he;subst h;exact⟨rfl,rfl,.inr ⟨he,rfl⟩⟩
   ·rename_i he;subst h;exact⟨rfl,rfl,.inl ⟨he,rfl⟩⟩
  ·obtain⟨e',h1,h2⟩:=Ki h;exact⟨e',aC0 _ h1,h2⟩
theorem RO (id:Nat) (es':List (List DVal)) (loc:Nat->Loc) (own:List Ent):Ae (JO id es' own) loc=Ae own loc:=by
 funext i r
 have h:∀own:List Ent,(Ar (JO id es' own) i).map (·.r)=(Ar own i).map (·.r):=by
  intro own
  induction own with
  | nil=>rfl
  | cons e t ih =>
   simp only[JO,Ar]
   by_cases h1:e.id=id
   ·simp only[h1,if_true]
    by_cases h2:id=i
    ·simp[h2]
    ·simp only[h2,if_false];exact ih
   ·simp only[h1,if_false]
    by_cases h2:e.id=i
    ·simp[h2]
    ·simp only[h2,if_false];exact ih
 have h0:=h own;unfold Ae;cases ha:Ar (JO id es' own) i<;>cases hb:Ar own i<;>rw[ha,hb]at h0<;>simp only[eP0,dN0,aA0,reduceCtorEq]at h0 |-;rw[h0]
theorem St.rowWk {own:List Ent} {loc:Nat->Loc} {M:List Nat} {h:Array Obj} (S:St own loc M h) (id:Nat) {et k bs:Nat} {es es':List (List DVal)} {e:Ent} (he:Ar own id=some e) (qW:e.obj= .row et k bs es) (hw:Jb es es'):St (JO id es' own) loc M h:=by
 refine⟨by rw[Zp];exact S.nd,by rw[Eh];exact S.bl,by rw[Eh];exact S.ap,by rw[Eh];exact S.lt,?_⟩;intro x hx;simp only[RO,Eh];obtain⟨e',h1,h2,h3,h4⟩:=Ki hx;have hk:=S.ok e' h1
 rcases h4 with ⟨_,rfl⟩ | ⟨h4,h5⟩
 ·exact hk
 ·have pY:e'=e:=by
   have:=Cn S.nd h1;rw[h4,he]at this;simpa using this.symm
  subst pY;rw[<-h2,h5,qW];rw[qW]at hk;simp only[Hj_];obtain⟨k1,k2⟩:=hk;have hl:=Ro hw;refine⟨by rw[<-hl];exact k1,?_⟩
  rcases k2 with ⟨rfl,q2,q3⟩ | ⟨b,arr,cap,q1,q2,q3,q4,q5,q6,q7⟩
  ·refine .inl ⟨?_,q2,q3⟩
   cases es' with
   | nil=>rfl
   | cons x t=>simp at hl
  ·exact .inr ⟨b,arr,cap,q1,by rw[<-hl];exact q2,q3,by rw[<-hl];exact q4,q5,q6,Sg hw q7⟩
theorem Sub.rowWk {B:Base} {s:DS} (id:Nat) {et k bs:Nat} {es es':List (List DVal)} {e:Ent} (he:Ar s.own id=some e) (qW:e.obj= .row et k bs es) (hw:Jb es es'):Sub B s ⟨s.slots,JO id es' s.own⟩:=by
 intro a w loc R;refine⟨loc,⟨R.st.rowWk id he qW hw,R.upd,by rw[Eh];exact R.new,?_,?_,R.nt,by rw[Eh];exact R.df⟩⟩
 ·intro x hx;obtain⟨e',h1,h2,h3,_⟩:=Ki hx;rw[<-h2,<-h3];exact R.ver e' h1
 ·intro i;have:=R.sl i;simp only[RO,Eh];exact this
theorem AS.rowWk {P:Program} {f:Fn} {args:List DVal} {own own':List Ent} {d:DVal} (h:AS P f args own d own') (id:Nat) {et k bs:Nat} {es es':List (List DVal)} {e:Ent} (he:Ar own' id=some e) (qW:e.obj= .row et k bs es) (hw:Jb es es'):AS P f args own d (JO id es' own'):=by
 obtain⟨h1,h2,h3⟩:=h;refine⟨fun x hx=> ?_,h2,fun M w loc vs S hr=> ?_⟩
 ·obtain⟨e',g1,g2,g3,_⟩:=Ki hx;rw[<-g3];exact h1 e' g1
 ·have key:∀(R R':Value->World->Prop),(∀v w',R v w'->R' v w')->HQ P f vs w R->HQ P f vs w R':=fun R R' hRR hF=>hF.mono hRR
  refine key _ _ ?_ (h3 M w loc vs S hr);rintro v w' ⟨loc',k1,k2,k3,k4,k5⟩;refine⟨loc',k1.rowWk id he qW hw,k2,by rw[Eh];exact k3,?_,by rw[RO,Eh];exact k5⟩;intro x hx nC;obtain⟨e',g1,g2,g3,_⟩:=Ki hx;rw[<-g2,<-g3];exact k4 e' g1 (by omega)
theorem JP_ {P:Program} {B:Base} {Q:Exit->DS->Prop} {s:DS} {x:Code} (id:Nat) {et k bs:Nat} {es es':List (List DVal)} {e:Ent} (he:Ar s.own id=some e) (qW:e.obj= .row et k bs es) (hw:Jb es es') (h:DW P B x Q ⟨s.slots,JO id es' s.own⟩):DW P B x Q s :=
 Hg (Sub.rowWk id he qW hw) h
end Go.Dm
end
section
namespace Go.Proofs.Wy
open Go Go.Dm Tryz
attribute [local irreducible] DW Bi Bk
set_option maxRecDepth 100000
theorem Rn {α:Type} (f g:α->List DVal) (h:∀x,WL (f x) (g x)):∀l:List α,Jb (l.map f) (l.map g)
 | []=>by simp[Jb]
 | x::l=>by
  rw[List.map_cons,List.map_cons];exact⟨h x,Rn f g h l⟩
def dF (xs:List Auto) (q:Int):List DVal:=[.int .i64 (GK xs q.toNat:Int),.nilsl]
theorem NX_ (xs:List Auto) (q:Int):WL (dF xs q) (Ag (pF xs q)):=by simp[dF,Ag,pF,Br,WL,wk,wk1,isE]
@[simp] theorem NG_ (xs:List Auto) (q:Int):AR (dF xs q)=0:=by simp[dF,AR,mx]
@[simp] theorem MC_ (xs:List Auto) (l:List Int):Bx (l.map (dF xs))=0:=Im _ (NG_ xs) l
theorem Oe_ {a b:Nat} (h1:a<=1040) (h2:b<=17179870208):(a+b+1)*32<=150000000000000:=by omega
theorem ZX (l:List Nat) (k v:Nat):(l.map BD).set k [.int .i64 (v:Int)]=(l.set k v).map BD:=by rw[eU0];rfl
def KK (xs:List Auto) (l:List Int):List (List DVal):=l.map (dF xs)
def prF (xs:List Auto) (l:List Int):List Prod:=l.map (pF xs)
def prA (xs:List Auto) (l:List Arc):List Prod:=l.map (pA xs)
theorem Hm_ {xs:List Auto} {z:List Arc} {k:Nat} {x:Arc} (h:z[k]? =some x):prA xs (z.take (k+1))=prA xs (z.take k)++[pA xs x]:=by unfold prA;rw[bF0,h,bA0];rfl
theorem FC_ {xs:List Auto} {l:List Int} {k:Nat} {q:Int} (h:l[k]? =some q):KK xs (l.take (k+1))=KK xs (l.take k)++[[.int .i64 (GK xs q.toNat:Int),.nilsl]]:=by unfold KK;rw[bF0,h,bA0];rfl
theorem KX_ (xs:List Auto) (l:List Int):Bx (KK xs l)=0:=MC_ xs l
theorem Cq_ {xs:List Auto} (h:∀a∈xs,SmA a) {q:Int} (hq:q∈Qq xs):0<=q/\q.toNat<Bb xs:=by
 unfold Qq at hq;obtain⟨p,hp,hq⟩:=bT0.1 hq;obtain⟨r,hr,rfl⟩:=aR0.1 hq;have h1:=So hp;have h2:=Hx_ (h _ (GI hp).1).ok hr;unfold mvF;omega
theorem CE_ {xs:List Auto} (h:∀a∈xs,SmA a) {x:Arc} (hx:x∈NZ xs):0<=x.fr/\x.fr.toNat<Bb xs/\0<=x.to/\x.to.toNat<Bb xs:=by
 unfold NZ at hx;obtain⟨p,hp,hx⟩:=bT0.1 hx;obtain⟨y,hy,rfl⟩:=aR0.1 hx;have h1:=So hp;have h2:=Hy_ (h _ (GI hp).1).ok hy;unfold tV;simp only;omega
def Dv_ : Ann:=⟨[],[⟨22,[12],[],[]⟩]⟩
theorem Yr (H L:List ByteArray) (xs:List Auto) (yM:∀a∈xs,SmA a) (hl:xs.length<=16) (hH:H.length=xs.length) (qC:1<=Bb xs):Ad prog 11 [Dk H L xs] (.tup [.agg (Av (BB (KN xs))),.int .i64 0]):=by
 refine Ac [2] Dv_ func11 call11 ntmps11 mxd (Aq @Dv_.eq_1 results11) rfl (fun qJ B qX qQ=> ?_) (hd:=(by simp[mx,AR,Av]));clear qJ;simp only[Am];have gF:∀a∈xs,1<=a.st:=fun a ha=>(Nl (yM a ha).ok).1
 have hsl:=KZ (l:=xs) fun a ha=>(yM a ha).ok
 have nD:Bb xs<=1040:=Nat.le_trans hsl (cE0 65 hl);have e1:=UD H L xs;have e2:=UT H L xs;have e3:∀n,_:=fun n=>EL_ H L xs yM hl n
 have e4:∀n,_:=fun n=>Xb H L xs n
 have e5:=SB H L xs yM hl;have e6:=XU H L xs yM hl;have e7:=PD (KN xs);obtain⟨PR,hPR⟩:∃PR,PR=(BB (KN xs)).prods:=⟨_,rfl⟩;obtain⟨NN,hNN⟩:∃NN,NN=(BB (KN xs)).nts:=⟨_,rfl⟩;have hR:Av (BB (KN xs))=[.int .i64 NN,BT PR]:=by rw[hPR,hNN];rfl
 rw[hR]at e7 |-;clear hR hPR hNN;have vX:∀q∈Qq xs,0<=q/\q.toNat<Bb xs:=fun q hq=>Cq_ yM hq
 have pW:∀x∈NZ xs,0<=x.fr/\x.fr.toNat<Bb xs/\0<=x.to/\x.to.toNat<Bb xs:=fun x hx=>CE_ yM hx
 have zN:(Qq xs).length<=1040:=Nat.le_trans (Tl yM 0) (cE0 65 hl);have cD:(NZ xs).length<=17179870208:=Nat.le_trans (Ue yM 0) (cE0 1073741888 hl);simp only[Dk]at e1 e2 e3 e4 e5 e6 |-;clear hsl;have hS0:¬((Bb xs:Nat):Int)=0:=by omega
 have hSb:(((Bb xs:Nat):Int)==0)=false:=by simpa using hS0
 have hS1:Bb xs*8<=150000000000000:=by omega
 (refine AM (Aq e1 e2) Aa (Aq hS0 hSb) ?_;intros;refine Aj ?_)
 have hz0:(HH xs 0).map BD=List.replicate (Bb xs) [.int .i64 0]:=by unfold HH;simp[BD]
 have hzm:Bx (List.replicate (Bb xs) [DVal.int .i64 0])=0:=by rw[<-hz0];simp
 refine Ak (X:={q:Nat//q<=Bb xs}) (fun q=>⟨[(0,.ref [FM H L,AE_ (BZ 0 xs),.int .i64 (Bb xs)]),(2,.bx 2 1 0),(5,.osl 22 1),(6,.int .i64 ((xs.length+Hm xs q.1:Nat):Int)),(25,.int .i64 (Bb xs)),(26,.int .i64 q.1)],[⟨2,1,.box [.int .i64 0,.nilsl]⟩,⟨22,1,.row 3 1 8 ((HH xs q.1).map BD)⟩]⟩) (fun q=>Bb xs-q.1) ⟨0,by simp⟩ (Sub.lit (by simp[hz0,hzm,hH,FS_])) ?_;rintro⟨q,hq⟩;simp only
 by_cases qV:q<Bb xs
 ·have pP:=XJ xs;obtain⟨k,hk⟩:∃k,(ntL xs)[q]? =some k:=⟨_,aH0 (by omega)⟩;have hsi:=Ee_ gF hk;have yJ:=LP_ hk;have f1:=e3 q;have f2:=e4 k;rw[Uc hk]at f1;have cI:=ZK xs hq;have cQ:=Hs_ xs qV;have zS:=Pk xs q;have dQ:=Cz_ xs q;have g1:=ZX (HH xs q) q k;have g2:=ZX ((HH xs q).set q k) q (xs.length+Hm xs q);have jM:((HH xs q).set q k).set q (xs.length+Hm xs q)=(HH xs q).set q (xs.length+Hm xs q):=List.set_set _
  have nX:q<(HH xs q).length:=by omega
  have g3:((HH xs q).set q k)[q]? =some k:=by rw[List.getElem?_set_self nX]
  have cX:q<((HH xs q).set q k).length:=by rw[List.length_set];exact nX
  obtain⟨Y,hY⟩:∃Y,Y=(HH xs q).set q k:=⟨_,rfl⟩;rw[<-hY]at g1 g2 g3 cX jM;have g3':Y[q]'cX=k:=(aB0.1 g3).2;have hwq:IntKind.i64.wrap ((q:Int)+1)=(q:Int)+1:=wq;have hqi:(q:Int)<(Bb xs:Int):=by omega
  obtain⟨S,hS⟩:∃S,S=atI (Oy xs) k:=⟨_,rfl⟩;rw[<-hS]at hsi f2
  by_cases vV:q∈Oy xs
  ·have hSq:=hsi.2 vV;have pI:=BS_ vV hk;rw[pI,<-hY]at cQ;rw[if_pos vV,dQ0]at zS;rw[cQ]at g1 g3 cX;have g3':(HH xs (q+1))[q]'cX=k:=(aB0.1 g3).2;clear hY jM g2;rw[hSq]at f2
   (refine AM (Aq f1 f2) Aa (JB hqi nX cX @BD.eq_1 g1 g3 g3') ?_;intros;refine Aj ?_)
   refine Al.mk ⟨q+1,by omega⟩ (Sub.lit (by simp[zS])) (by simp;omega)
   skip
  ·have hSq:¬S=(q:Int):=fun hh=>vV (hsi.1 hh)
   have hSb2:(S==(q:Int))=false:=by simpa using hSq
   have pI:=ZM vV;rw[pI]at cQ;rw[if_neg vV]at zS;rw[jM,cQ]at g2;clear hY jM cQ;have hwn:IntKind.i64.wrap (((xs.length+Hm xs q:Nat):Int)+1)=((xs.length+Hm xs (q+1):Nat):Int):=by rw[wq,zS];omega
   obtain⟨N,hN⟩:∃N,N=xs.length+Hm xs q:=⟨_,rfl⟩;rw[<-hN]at hwn g2 |-
   (refine AM (Aq f1 f2) Aa (Pu hqi nX cX @BD.eq_1 g1 g2 g3 g3' hSq hSb2 hwn) ?_;intros;refine Aj ?_)
   refine Al.mk ⟨q+1,by omega⟩ (Sub.lit (by simp)) (by simp;omega)
   skip
 ·have qZ:q=Bb xs:=by omega
  subst qZ;have hqi:¬((Bb xs:Nat):Int)<(Bb xs:Int):=by omega
  clear e3 e4 gF;have pI:∀q:Nat,q<Bb xs->(HH xs (Bb xs))[q]? =some (GK xs q):=fun q hq=>Ko_ xs hq
  have hol:=ZK xs (Nat.le_refl (Bb xs));have zS:=Cz_ xs (Bb xs);unfold KN at e7;obtain⟨N,hN⟩:∃N,N=xs.length+Hm xs (Bb xs):=⟨_,rfl⟩;rw[<-hN]at e7 |-;obtain⟨W,hW⟩:∃W,W=HH xs (Bb xs):=⟨_,rfl⟩;rw[<-hW]at pI hol |-;obtain⟨F,hF⟩:∃F,F=Qq xs:=⟨_,rfl⟩;rw[<-hF]at e5 e7 vX zN;obtain⟨Z,hZ⟩:∃Z,Z=NZ xs:=⟨_,rfl⟩;rw[<-hZ]at e6 e7 pW cD;clear hW hF hZ zS yM;refine Hg (Sub.freezeL [22] _) ?_;simp
  (refine AM (AA e5) Aa (AA hqi) ?_;intros;refine Aj ?_)
  refine DY 8 1 60 92 2 32 (by simp) (fun n1=> ?_);have f0:KK xs []=[]:=rfl;refine Ak (X:={k:Nat//k<=F.length}) (fun k=>⟨[(0,.ref [FM H L,AE_ (BZ 0 xs),.int .i64 (Bb xs)]),(2,.bx 2 1 0),(5,En W),(8,.bx 8 1 0),(53,Cg F),(54,.int .i64 F.length),(55,.int .i64 k.1)],[⟨2,1,.box [.int .i64 0,.nilsl]⟩,⟨8,1,.box [.int .i64 (N:Int),.osl 60 1]⟩,⟨60,1,.row 92 2 32 (KK xs (F.take k.1))⟩]⟩) (fun k=>F.length-k.1) ⟨0,by simp⟩ (Sub.lit (by simp[f0])) ?_
  rintro⟨k,hk⟩;simp only
  by_cases qS:k<F.length
  ·obtain⟨q,wG,hq1',nF⟩:=Aw qS;obtain⟨q0,q1⟩:=vX q nF;obtain⟨u,rfl⟩:∃u:Nat,q=(u:Int):=⟨q.toNat,by omega⟩;rw[dI0]at q1;have bU:=pI u q1;have jT:u<W.length:=by omega
   have hW1':W[u]'jT=GK xs u:=(aB0.1 bU).2;have wT:=FC_ (xs:=xs) wG;rw[dI0]at wT;have yY:(KK xs (F.take k)).length<=1040:=by unfold KK;rw[aL0,bE0];omega
   have zU:=KX_ xs (F.take k);obtain⟨T,hT⟩:∃T,T=KK xs (F.take k):=⟨_,rfl⟩;rw[<-hT]at wT yY zU |-;have hb:(T.length+1)*32<=150000000000000:=by omega
   have pB:IntKind.i64.wrap ((k:Int)+1)=(k:Int)+1:=wq;clear cD zN pW vX hT yY
   (refine AM Aa Aa (MM @Cl.eq_1 @BD.eq_1 qS wG hq1' jT bU hW1' hb pB) ?_;intros;refine Aj ?_)
   refine Al.mk ⟨k+1,by omega⟩ (Sub.lit (by simp[wT,zU])) (by simp;omega)
   skip
  ·have qZ:k=F.length:=by omega
   subst qZ;rw[aY0];refine JP_ 60 (es':=(prF xs F).map Ag) (e:=⟨60,1,.row 92 2 32 (KK xs F)⟩) rfl rfl (by unfold KK prF;rw[cC0];exact Rn _ _ (NX_ xs) F) ?_;simp only[JO,Hj_];simp
   (refine AM (AA e6) Aa Aa ?_;intros;refine Aj ?_)
   have p0:prA xs []=[]:=rfl;refine Ak (X:={k:Nat//k<=Z.length}) (fun k=>⟨[(2,.bx 2 1 0),(5,En W),(8,.bx 8 1 0),(71,Hw Z),(72,.int .i64 Z.length),(73,.int .i64 k.1)],[⟨2,1,.box [.int .i64 0,.nilsl]⟩,⟨8,1,.box [.int .i64 (N:Int),.osl 60 1]⟩,⟨60,1,.row 92 2 32 ((prF xs F).map Ag++(prA xs (Z.take k.1)).map Ag)⟩]⟩) (fun k=>Z.length-k.1) ⟨0,by simp⟩ (Sub.lit (by simp[p0])) ?_;rintro⟨k,hk⟩;simp only
   by_cases yC:k<Z.length
   ·obtain⟨x,hx,qG,vN⟩:=Aw yC;obtain⟨x0,x1,x2,x3⟩:=pW x vN;obtain⟨fr,sy,to⟩:=x;simp only at x0 x1 x2 x3;obtain⟨u,rfl⟩:∃u:Nat,fr=(u:Int):=⟨fr.toNat,by omega⟩;obtain⟨v,rfl⟩:∃v:Nat,to=(v:Int):=⟨to.toNat,by omega⟩;rw[dI0]at x1 x3;have bU:=pI u x1;have hW2:=pI v x3;have jT:u<W.length:=by omega
    have hvl:v<W.length:=by omega
    have hW1':W[u]'jT=GK xs u:=(aB0.1 bU).2;have hW2':W[v]'hvl=GK xs v:=(aB0.1 hW2).2;have wT:=congrArg (List.map Ag) (Hm_ (xs:=xs) hx);rw[bA0]at wT;have pQ:List.map Ag (prA xs (Z.take (k+1)))=List.map Ag (prA xs (Z.take k))++[[.int .i64 (GK xs u:Int),.sl 2 16 [[.bool sy.label,.int .i64 sy.n],[.bool false,.int .i64 (GK xs v:Int)]]]]:=by rw[wT];simp[Ag,pA,Br,Az]
    have yY:(prF xs F).length<=1040:=by unfold prF;rw[aL0];exact zN
    have nK:(prA xs (Z.take k)).length<=17179870208:=by unfold prA;rw[aL0,bE0];omega
    have pB:IntKind.i64.wrap ((k:Int)+1)=(k:Int)+1:=wq;obtain⟨T,hT⟩:∃T,T=prA xs (Z.take k):=⟨_,rfl⟩;rw[<-hT]at pQ nK |-;obtain⟨PF,hPF⟩:∃PF,PF=prF xs F:=⟨_,rfl⟩;rw[<-hPF]at yY |-;have hb:(PF.length+T.length+1)*32<=150000000000000:=Oe_ yY nK;have pN:PF.length+T.length<=9223372036854775806:=by omega
    have vB:List.range 2=[0,1]:=rfl;clear cD zN pW vX hT yY nK wT hPF
    (refine AM Aa Aa (MX_ @CO.eq_1 @BD.eq_1 yC hx qG jT hvl bU hW1' hW2 hW2' hb pN vB pB) ?_;intros;refine Aj ?_)
    refine Al.mk ⟨k+1,by omega⟩ (Sub.lit (by simp[pQ])) (by simp;omega)
    skip
   ·have qZ:k=Z.length:=by omega
    subst qZ;rw[aY0];have hPP:List.map Ag (prF xs F)++List.map Ag (prA xs Z)=(List.map (pF xs) F++List.map (pA xs) Z).map Ag:=by unfold prF prA;rw[<-bA0]
    rw[hPP];obtain⟨PP,hPq⟩:∃PP,PP=List.map (pF xs) F++List.map (pA xs) Z:=⟨_,rfl⟩;rw[<-hPq]at e7 |-;simp only[Av]at e7;refine Hg (Sub.freezeL [60] _) ?_;simp;exact Au (AA e7) Aa Aa
end Go.Proofs.Wy
end
section
namespace Go.Proofs.Wy
open Go Go.Dm Tryz
variable [DMode]
attribute [local irreducible] DW Bi Bk

end Go.Proofs.Wy
end
section
namespace Go.Proofs.Wy
open Go Go.Dm Tryz
variable [DMode]
attribute [local irreducible] DW Bi Bk
set_option maxRecDepth 100000

end Go.Proofs.Wy
end
section
namespace Go.Proofs.Wy

end Go.Proofs.Wy
end
section
namespace Go.Proofs.Wy
open Go Go.Dm Tryz
variable [DMode]
attribute [local irreducible] DW Bi Bk
set_option maxRecDepth 100000

def LL_ (l:List Prod):DVal:=if l=[]then .nilsl else BT l
@[local simp] theorem Ny_ (l:List Prod):mx (LL_ l)=0:=by unfold LL_;split<;>simp[mx]
end Go.Proofs.Wy
end
section
namespace Go.Proofs.Wy
open Go Go.Dm Tryz
attribute [local irreducible] DW Bi Bk
set_option maxRecDepth 100000
theorem GV_ : ∀(xs:List Auto) (f:Nat),(∀a∈xs,1<=a.st)->((BZ f xs).map (·.2)).Pairwise (· < ·)/\∀q∈(BZ f xs).map (·.2),f<=q/\q<f+Bb xs
 | [],f,_=>by simp[BZ]
 | a::xs,f,h=>by
  have h3:Bb (a::xs)=a.st.toNat+Bb xs:=by simp[Bb]
  have h4:=h a aE0;obtain⟨h1,h2⟩:=GV_ xs (f+a.st.toNat) fun x hx=>h x (aC0 _ hx)
  rw[BZ,List.map_cons];refine⟨cK0.2 ⟨fun q hq=> ?_,h1⟩,fun q hq=> ?_⟩
  ·have:=h2 q hq;simp only;omega
  ·rcases aJ0.1 hq with rfl | hq
   ·first | omega | (simp only;omega)
   ·have:=h2 q hq;omega
theorem HH_ {xs:List Auto} (h:∀a∈xs,1<=a.st):xs.length+Hm xs (Bb xs)=Bb xs:=by
 obtain⟨h1,h2⟩:=GV_ xs 0 h;have kT:(Oy xs).Pairwise (· < ·):=h1;have jG:∀q∈Oy xs,q<Bb xs:=fun q hq=>by have:=h2 q hq;omega
 have hp:((List.range (Bb xs)).filter fun p=>decide (p∈Oy xs)).Perm (Oy xs):=by
  refine(List.perm_ext_iff_of_nodup (List.nodup_range.filter _) (kT.imp fun h=>Nat.ne_of_lt h)).2 fun q=> ?_
  rw[cP0,cD0];simp only[decide_eq_true_eq];exact⟨fun h=>h.2,fun h=>⟨jG q h,h⟩⟩
 have hl:=hp.length_eq;rw[Bz_]at hl
 have hs:∀l:List Nat,(l.filter fun p=>decide (p∈Oy xs)).length+(l.filter fun p=>decide (¬p∈Oy xs)).length=l.length:=by
  intro l
  induction l with
  | nil=>rfl
  | cons x l ih=>by_cases hx:x∈Oy xs<;>simp[hx]at ih |- <;>omega
 have:=hs (List.range (Bb xs));rw[eH0]at this;unfold Hm;omega
end Go.Proofs.Wy
end
section
namespace Go.Proofs.Wy
open Go Go.Dm Tryz
variable [DMode]
attribute [local irreducible] DW Bi Bk
set_option maxRecDepth 100000
structure Mk where
 nts:Int
 prods:List Prod
 hs:List (Int×Int)
 no:Int
def Fw (p:Int×Int):DVal:= .int .i64 p.1
def FO (p:Int×Int):DVal:= .int .i64 p.2
def BE (v:Nat) (m:Mk):List Ent:=[⟨0,0,.box [.int .i64 m.nts,.osl 1 v,.omp 2 0,.int .i64 m.no]⟩,⟨1,v,.row 92 2 32 (m.prods.map Ag)⟩,⟨2,0,.map (m.hs.map Fw) (m.hs.map FO)⟩]
@[simp] theorem NJ_ (l:List (Int×Int)):AR (l.map Fw)=0:=by induction l<;>simp_all [AR,mx,Fw]
@[simp] theorem Ni_ (l:List (Int×Int)):AR (l.map FO)=0:=by induction l<;>simp_all [AR,mx,FO]
def oC : Ann:=⟨[],[]⟩
theorem Hv (m:Mk) (h1: -9223372036854775808<=m.nts) (h2:m.nts+1<=9223372036854775807):AS prog (.func 299) [.bx 0 0 0] (BE 0 m) (.int .i64 m.nts) (BE 1 { m with nts:=m.nts+1 }):=by
 refine Bj [] [(0,0,0),(1,1,1),(2,2,0)] oC func299 call299 ntmps299 mxd (Aq @oC.eq_1 results299) rfl (fun qJ B qX qQ=> ?_) (hv:=(by simp[BE]));simp only[Am];exact Au Aa Aa (AA @BE.eq_1)
def oD : Ann:=⟨[],[]⟩
theorem Ij (m:Mk) (h:Int) (b:List Sym) (hb:(m.prods.length+1)*32<=150000000000000):AS prog (.func 213) [.bx 0 0 0,.int .i64 h,Br b] (BE 0 m) (.tup []) (BE 1 { m with prods:=m.prods++[⟨h,b⟩] }):=by
 refine Bj [] [(0,0,0),(1,1,1),(2,2,0)] oD func213 call213 ntmps213 mxd (Aq @oD.eq_1 results213) rfl (fun qJ B qX qQ=> ?_) (hv:=(by simp[BE]));simp only[Am];exact Au Aa Aa (Aq @BE.eq_1 @Ag.eq_1)
def Mk.put (m:Mk) (h:Int) (b:List Sym):Mk:={ m with prods:=m.prods++[⟨h,b⟩] }
def Mk.nothing (m:Mk):Mk:=if m.no=0 then { m with nts:=m.nts+1,no:=m.nts,prods:=m.prods++[⟨m.nts,[]⟩] }else m
def IL : Ann:=⟨[10,18],[]⟩
theorem XK (m:Mk) (h1: -9223372036854775808<=m.nts) (h2:m.nts+1<=9223372036854775807) (h3:(m.prods.length+1)*32<=150000000000000) :
  AS prog (.func 215) [.bx 0 0 0] (BE 0 m) (.int .i64 m.nothing.no) (BE 1 m.nothing):=by
 refine Bj [] [(0,0,0),(1,1,1),(2,2,0)] IL func215 call215 ntmps215 mxd (Aq @IL.eq_1 results215) rfl (fun qJ B qX qQ=> ?_) (hv:=(by simp[BE]));simp only[Am]
 by_cases h:m.no=0
 ·(repeat (first | refine AE fun K hK=> ?_ | (refine Bv IL mxd (by kernel_rfl) ?_;simp[IL,qX,BE,h,Mk.nothing,Br];try simp (disch:=omega) only[Af]) | refine An ?_ | (refine AW ?_ ?_ ?_;(· (simp[qX,BE,h,Mk.nothing,Br];done));(try (rotate_left;(· (intro hc;(try simp[qX,BE,h,Mk.nothing,Br]at hc);done))))) | (refine AH ?_;simp[results215,qX,BE,h,Mk.nothing,Br]) | ((first | refine Ay ?_ | refine Ax ?_);simp[qX,BE,h,Mk.nothing,Br]) | (intro hc;(try simp[qX,BE,h,Mk.nothing,Br]at hc);(try (exfalso;omega))) | (refine AK [(0,0),(1,1),(2,2)] [] (Hv m h1 h2) ?_ ?_;(· (simp[qX,BE,h,Mk.nothing,Br];done));(intro _;try simp[qX,BE,h,Mk.nothing,Br])) | (refine AK [(0,0),(1,1),(2,2)] [] (Ij { m with nts:=m.nts+1,no:=m.nts } m.nts [] h3) ?_ ?_;(· (simp[qX,BE,h,Mk.nothing,Br];done));(intro _;try simp[qX,BE,h,Mk.nothing,Br])) | (refine⟨?_,?_⟩; · omega) | omega | apply_assumption -exfalso -symm | (exfalso;omega)))
 ·(repeat (first | refine AE fun K hK=> ?_ | (refine Bv IL mxd (by kernel_rfl) ?_;simp[IL,qX,BE,h,Mk.nothing,Br];try simp (disch:=omega) only[Af]) | refine An ?_ | (refine AW ?_ ?_ ?_;(· (simp[qX,BE,h,Mk.nothing,Br];done));(try (rotate_left;(· (intro hc;(try simp[qX,BE,h,Mk.nothing,Br]at hc);done))))) | (refine AH ?_;simp[results215,qX,BE,h,Mk.nothing,Br]) | ((first | refine Ay ?_ | refine Ax ?_);simp[qX,BE,h,Mk.nothing,Br]) | (intro hc;(try simp[qX,BE,h,Mk.nothing,Br]at hc);(try (exfalso;omega))) | (refine AK [(0,0),(1,1),(2,2)] [] (Hv m h1 h2) ?_ ?_;(· (simp[qX,BE,h,Mk.nothing,Br];done));(intro _;try simp[qX,BE,h,Mk.nothing,Br])) | (refine AK [(0,0),(1,1),(2,2)] [] (Ij { m with nts:=m.nts+1,no:=m.nts } m.nts [] h3) ?_ ?_;(· (simp[qX,BE,h,Mk.nothing,Br];done));(intro _;try simp[qX,BE,h,Mk.nothing,Br])) | (refine⟨?_,?_⟩; · omega) | omega | apply_assumption -exfalso -symm | (exfalso;omega)))
def Mk.look (m:Mk) (a:Int):Option Nat:=AQ (m.hs.map Fw) (.int .i64 a)
end Go.Proofs.Wy
end
section
namespace Go.Proofs.Wy
open Go Go.Dm Tryz
variable [DMode]
attribute [local irreducible] DW Bi Bk
def AO : List Sym->Int
 | []=>1
 | [s]=>if s.label then 2 else 0
 | [s,t]=>if !s.label&& !t.label then 3 else 0
 | _=>0
def oH : Ann:=⟨[],[]⟩
set_option maxRecDepth 100000 in
theorem QO (l:List Sym):Ad prog 151 [Br l] (.int .i64 (AO l)):=by
 refine Ac [] oH func151 call151 ntmps151 mxd (Aq @oH.eq_1 results151) rfl (fun qJ B qX qQ=> ?_);simp only[Am]
 match l with
 | []=>exact Au Aa Aa (Ja @Az.eq_1 @AO.eq_1 @AO.eq_2 @AO.eq_3 @AO.eq_4)
 | [s] =>
  cases hl:s.label<;>exact Au Aa Aa (JT @Az.eq_1 @AO.eq_1 @AO.eq_2 @AO.eq_3 @AO.eq_4 hl)
 | [s,t] =>
  exact Au Aa Aa (Ja @Az.eq_1 @AO.eq_1 @AO.eq_2 @AO.eq_3 @AO.eq_4)
 | s::t::u::r =>
  exact Au Aa Aa (Ja @Az.eq_1 @AO.eq_1 @AO.eq_2 @AO.eq_3 @AO.eq_4)
end Go.Proofs.Wy
end
section
namespace Go.Proofs.Wy
open Go Go.Dm Tryz
variable [DMode]
attribute [local irreducible] DW Bi Bk
set_option maxRecDepth 100000
def Od : Ann:=⟨[],[]⟩
theorem Pd (g:FuncId) (us cs:List DVal) (l:List Sym) (q:Sym->Bool) (hq:∀x∈l,Ad prog g (us++[.agg (Az x)]++cs) (.bool (q x))) :
  Ad prog 198 [Br l,.fn (.func g) us cs] (.int .i64 (if l.any q then ((l.findIdx q:Nat):Int)else -1)):=by
 refine Ac [] Od func198 call198 ntmps198 mxd (Aq @Od.eq_1 results198) rfl (fun qJ B qX qQ=> ?_);have hw:Vk l:=Rr qJ.1;obtain⟨wR,gA,nN⟩:=hw;clear qJ nN;simp only[Am]
 (refine AM Aa Aa Aa ?_;intros;refine Aj ?_)
 refine Ak (X:={k:Nat//k<=l.length/\∀i x,i<k->l[i]? =some x->q x=false}) (fun x=>⟨[(0,Br l),(1,.fn (.func g) us cs),(7,.int .i64 l.length),(8,.int .i64 x.1)],[]⟩) (fun x=>l.length-x.1) ⟨0,by simp⟩ (Sub.lit (by simp)) ?_;rintro⟨k,hk,vA⟩
 by_cases qV:k<l.length
 ·obtain⟨x,hx,qG,vN⟩:=Aw qV;have zK:=hq x vN;simp only[Az,aQ0,List.cons_append,List.nil_append]at zK;cases hb:q x
  ·rw[hb]at zK
   have fQ:∀i y,i<k+1->l[i]? =some y->q y=false:=by
    intro i y hi hy
    by_cases gZ:i=k
    ·subst gZ;rw[hx]at hy;simp only[aA0]at hy;subst hy;exact hb
    ·exact vA i y (by omega) hy
   (refine AM (AA zK) Aa (Ez @Az.eq_1 qV qG) ?_;intros;refine Aj ?_)
   exact Al.mk ⟨k+1,by omega,fQ⟩ (Sub.lit (by simp[])) (by simp;omega)
   skip
  ·rw[hb]at zK;have wU:l.any q=true:=cM0.2 ⟨x,vN,hb⟩
   have bX:l.findIdx q=k:=by
    rw[List.findIdx_eq qV];refine⟨by rw[qG];exact hb,fun i hi=> ?_⟩;exact vA i _ hi (aH0 (by omega))
   exact Au (AA zK) Aa (Ja @Az.eq_1 qV qG wU bX)
 ·have qZ:k=l.length:=by omega
  have wU:l.any q=false:=by
   rw[dA0];intro x hx;obtain⟨i,hi,rfl⟩:=bK0 hx;rw[vA i _ (by omega) (aH0 hi)];simp
  (repeat (first | refine AE fun K hK=> ?_ | (refine Bv Od mxd (by kernel_rfl) ?_;simp[Od,qX,Az,qZ,wU];try simp (disch:=omega) only[Af]) | refine An ?_ | (refine AW ?_ ?_ ?_;(· (simp[qX,Az,qZ,wU];done));(try (rotate_left;(· (intro hc;(try simp[qX,Az,qZ,wU]at hc);done))))) | (refine AH ?_;simp[results198,qX,Az,qZ,wU]) | ((first | refine Ay ?_ | refine Ax ?_);simp[qX,Az,qZ,wU]) | (intro hc;(try simp[qX,Az,qZ,wU]at hc);(try (exfalso;omega))) | ((first | refine Ai (zK) ?_ | (refine Ah (zK) ?_ ?_;(· (simp;done))));try simp[qX,Az,qZ,wU]) | (refine⟨?_,?_⟩; · omega) | omega | apply_assumption -exfalso -symm | (exfalso;omega)))
def oB : Ann:=⟨[],[]⟩
theorem LG (g:FuncId) (us cs:List DVal) (l:List Sym) (q:Sym->Bool) (hq:∀x∈l,Ad prog g (us++[.agg (Az x)]++cs) (.bool (q x))) :
  Ad prog 127 [Br l,.fn (.func g) us cs] (.bool (l.any q)):=by
 refine Ac [] oB func127 call127 ntmps127 mxd (Aq @oB.eq_1 results127) rfl (fun qJ B qX qQ=> ?_);simp only[Am];have hi:=Pd g us cs l q hq;have jU:(0:Int)<=(l.findIdx q:Nat):=by omega
 cases hb:l.any q
 ·rw[hb]at hi;exact Au (AA hi) Aa (AA hb)
 ·rw[hb]at hi;exact Au (AA hi) Aa (AA hb)
def UP (c:Cnf) (n:Int):Bool:=decide (0<=n)&&decide (n<c.nts)
def HE (c:Cnf) (s:Sym):Bool:=s.label&&(decide (s.n<0)||decide (16<=s.n))|| !s.label&& !UP c s.n
def Ds (c:Cnf) (p:Prod):Bool:=UP c p.head&& !p.body.any (HE c)
def BK (c:Cnf):Bool:=decide (1<=c.nts)&&decide (c.nts<=1024)&&c.prods.all (Ds c)
def oK : Ann:=⟨[],[]⟩
theorem EE (c:Cnf) (n:Int):Ad prog 126 [.int .i64 n,.ref [.int .i64 c.nts,BT c.prods]] (.bool (UP c n)):=by
 refine Ac [] oK func126 call126 ntmps126 mxd (Aq @oK.eq_1 results126) rfl (fun qJ B qX qQ=> ?_);simp only[Am]
 by_cases h1:0<=n<;>by_cases h2:n<c.nts<;>exact Au Aa Aa (Ez h1 h2 @UP.eq_1)
abbrev dNt (c:Cnf):DVal:= .fn (.func 126) [] [.ref [.int .i64 c.nts,BT c.prods]]
def oJ : Ann:=⟨[],[]⟩
theorem iT (c:Cnf) (s:Sym):Ad prog 128 [.agg [.bool s.label,.int .i64 s.n],.ref [dNt c]] (.bool (HE c s)):=by
 refine Ac [] oJ func128 call128 ntmps128 mxd (Aq @oJ.eq_1 results128) rfl (fun qJ B qX qQ=> ?_);simp only[Am];cases hl:s.label
 ·cases hb:UP c s.n<;>exact Au (AA (EE c s.n)) Aa (Ez hl hb @HE.eq_1)
 ·by_cases h1:s.n<0<;>by_cases h2:16<=s.n<;>exact Au (AA (EE c s.n)) Aa (EU hl h1 h2 @HE.eq_1)
def Lv : Ann:=⟨[],[⟨1,[3],[],[]⟩,⟨5,[6],[],[]⟩]⟩
theorem Jw (c:Cnf):Ad prog 43 [.agg (Av c)] (.int .i64 (if BK c then 0 else 220)):=by
 refine Ac [] Lv func43 call43 ntmps43 mxd (Aq @Lv.eq_1 results43) rfl (fun qJ B qX qQ=> ?_);have hw:Ka_ c:=GB_ (by simpa[IZ,EI]using qJ.1);obtain⟨wR,gA,nN,gV⟩:=hw;clear qJ wR;simp only[Am]
 have Ek:∀k,(hk:k<c.prods.length)->(c.prods.take (k+1)).all (Ds c)=((c.prods.take k).all (Ds c)&&Ds c c.prods[k]):=by
  intro k hk;rw[List.take_succ_eq_append_getElem hk,List.all_append];simp
 obtain⟨b0,qR⟩:∃b0:Bool,b0=(decide (1<=c.nts)&&decide (c.nts<=1024)):=⟨_,rfl⟩;have vX:BK c=(b0&&c.prods.all (Ds c)):=by rw[qR];rfl
 by_cases h1:1<=c.nts<;>by_cases h2:c.nts<=1024<;>simp only[h1,h2,decide_true,decide_false,eZ0,Bool.and_false]at qR<;>(repeat (first | refine AE fun K hK=> ?_ | (refine Bv Lv mxd (by kernel_rfl) ?_;simp[Lv,qX,Av,h1,h2];try simp (disch:=omega) only[Af]) | refine An ?_ | (refine AW ?_ ?_ ?_;(· (simp[qX,Av,h1,h2];done));(try (rotate_left;(· (intro hc;(try simp[qX,Av,h1,h2]at hc);done))))) | (refine AH ?_;simp[results43,qX,Av,h1,h2]) | ((first | refine Ay ?_ | refine Ax ?_);simp[qX,Av,h1,h2]) | (intro hc;(try simp[qX,Av,h1,h2]at hc);(try (exfalso;omega))) | (refine⟨?_,?_⟩; · omega) | omega | apply_assumption -exfalso -symm | (exfalso;omega)))
 all_goals
  refine Ak (X:={k:Nat//k<=c.prods.length}) (fun k=>⟨[(1,.ref [.int .i64 c.nts,BT c.prods]),(3,.ref [dNt c]),(4,.bool (b0&&(c.prods.take k.1).all (Ds c))),(17,BT c.prods),(18,.int .i64 c.prods.length),(19,.int .i64 k.1)],[]⟩) (fun k=>c.prods.length-k.1) ⟨0,by simp⟩ (Sub.lit (by simp[qR])) ?_;rintro⟨k,hk⟩
  by_cases qV:k<c.prods.length
  ·obtain⟨p,hp,qN,zU⟩:=Aw qV;have qL:=Ek k qV;rw[qN]at qL;obtain⟨b,hb⟩:∃b:Bool,b=(b0&&(c.prods.take k).all (Ds c)):=⟨_,rfl⟩;have wQ:(b0&&(c.prods.take (k+1)).all (Ds c))=(b&&Ds c p):=by rw[qL,hb,Bool.and_assoc]
   have hq:=LG 128 [] [.ref [dNt c]] p.body (HE c) (fun x _=>iT c x);simp only[<-hb];cases b
   ·(refine AM (Aq (EE c p.head) hq) Aa (Ja @Av.eq_1 @Ag.eq_1 qV qN wQ) ?_;intros;refine Aj ?_)
    refine Al.mk ⟨k+1,by omega⟩ (Sub.lit (by simp[wQ])) (by simp;omega)
    skip
   ·cases hn:UP c p.head
    ·(refine AM (Aq (EE c p.head) hq) Aa (JT @Av.eq_1 @Ag.eq_1 qV qN wQ hn) ?_;intros;refine Aj ?_)
     refine Al.mk ⟨k+1,by omega⟩ (Sub.lit (by simp[wQ,Ds,hn])) (by simp;omega)
     skip
    ·cases ha:p.body.any (HE c)
     ·rw[ha]at hq
      (refine AM (Aq (EE c p.head) hq) Aa (JB @Av.eq_1 @Ag.eq_1 qV qN wQ hn ha) ?_;intros;refine Aj ?_)
      refine Al.mk ⟨k+1,by omega⟩ (Sub.lit (by simp[wQ,Ds,hn,ha])) (by simp;omega)
      skip
     ·rw[ha]at hq
      (refine AM (Aq (EE c p.head) hq) Aa (JB @Av.eq_1 @Ag.eq_1 qV qN wQ hn ha) ?_;intros;refine Aj ?_)
      refine Al.mk ⟨k+1,by omega⟩ (Sub.lit (by simp[wQ,Ds,hn,ha])) (by simp;omega)
      skip
  ·have qZ:k=c.prods.length:=by omega
   subst qZ;rw[aY0]at *;cases yD:BK c<;>rw[yD]at vX<;>(repeat (first | refine AE fun K hK=> ?_ | (refine Bv Lv mxd (by kernel_rfl) ?_;simp[Lv,qX,Av,yD,<-vX];try simp (disch:=omega) only[Af]) | refine An ?_ | (refine AW ?_ ?_ ?_;(· (simp[qX,Av,yD,<-vX];done));(try (rotate_left;(· (intro hc;(try simp[qX,Av,yD,<-vX]at hc);done))))) | (refine AH ?_;simp[results43,qX,Av,yD,<-vX]) | ((first | refine Ay ?_ | refine Ax ?_);simp[qX,Av,yD,<-vX]) | (intro hc;(try simp[qX,Av,yD,<-vX]at hc);(try (exfalso;omega))) | (refine⟨?_,?_⟩; · omega) | omega | apply_assumption -exfalso -symm | (exfalso;omega)))
end Go.Proofs.Wy
end
section
namespace Go.Proofs.Wy
open Go Go.Dm Tryz
variable [DMode]
def nS (n:Int):Sym:=⟨false,n⟩
def Ff : List (Int×Int)->Int->Option Int
 | [],_=>none
 | (k,h)::l,a=>if a=k then some h else Ff l a
def Mk.sym (m:Mk) (s:Sym):Mk×Int :=
 if s.label then match Ff m.hs s.n with
  | some h=>(m,h)
  | none=>({ m with nts:=m.nts+1,hs:=m.hs++[(s.n,m.nts)],prods:=m.prods++[⟨m.nts,[s]⟩] },m.nts)
 else (m,s.n)
def Mk.syms (m:Mk):List Sym->Mk×List Int
 | []=>(m,[])
 | s::l=>(((m.sym s).1.syms l).1,(m.sym s).2::((m.sym s).1.syms l).2)
def Ey (nts head:Int):List Int->List Prod
 | []=>[]
 | [_]=>[]
 | [a,b]=>[⟨head,[nS a,nS b]⟩]
 | a::b::c::r=>⟨head,[nS a,nS nts]⟩::Ey (nts+1) nts (b::c::r)
def Mk.chain (m:Mk) (h:Int) (ns:List Int):Mk:={ m with nts:=m.nts+(ns.length-2:Nat),prods:=m.prods++Ey m.nts h ns }
def Mk.add (m:Mk) (p:Prod):Mk :=
 if AO p.body=1\/AO p.body=2 then m.put p.head p.body
 else if p.body.length=1 then (m.syms p.body).1.nothing.chain p.head ((m.syms p.body).2++[(m.syms p.body).1.nothing.no])
 else (m.syms p.body).1.chain p.head (m.syms p.body).2
def Mk.adds : Mk->List Prod->Option Mk
 | m,[]=>some m
 | m,p::l=>if 1024<(m.add p).nts then none else (m.add p).adds l
theorem MV (m:Mk) (l:List Sym):(m.syms l).2.length=l.length:=by
 induction l generalizing m with
 | nil=>rfl
 | cons s l ih=>simp[Mk.syms,ih]
theorem TS : ∀(l:List Int) (nts head:Int),(Ey nts head l).length=l.length-1
 | [],_,_=>rfl
 | [_],_,_=>rfl
 | [_,_],_,_=>rfl
 | _::b::c::r,_,_=>by simp[Ey,TS (b::c::r)]
def Mk.gap (m:Mk):Int:=(m.prods.length:Int)-m.nts
theorem By_ (m:Mk) (s:Sym):(m.sym s).1.gap=m.gap/\m.nts<=(m.sym s).1.nts/\(m.sym s).1.nts<=m.nts+1:=by
 unfold Mk.sym
 split
 ·split
  ·exact⟨rfl,eR0 _,Int.le_add_of_nonneg_right (by decide)⟩
  ·simp only[Mk.gap,aD0,List.length_cons,List.length_nil];exact⟨by omega,by omega,by omega⟩
 ·exact⟨rfl,eR0 _,Int.le_add_of_nonneg_right (by decide)⟩
theorem JX (l:List Sym):∀(m:Mk),(m.syms l).1.gap=m.gap/\m.nts<=(m.syms l).1.nts/\(m.syms l).1.nts<=m.nts+l.length:=by
 induction l with
 | nil=>intro m;simp[Mk.syms]
 | cons s l ih =>
  intro m;obtain⟨h1,h2,h3⟩:=By_ m s;obtain⟨h4,h5,h6⟩:=ih (m.sym s).1;simp only[Mk.syms,List.length_cons];exact⟨by omega,by omega,by omega⟩
theorem Ku (m:Mk):m.nothing.gap=m.gap/\m.nts<=m.nothing.nts/\m.nothing.nts<=m.nts+1:=by
 unfold Mk.nothing
 split
 ·simp only[Mk.gap,aD0,List.length_cons,List.length_nil];exact⟨by omega,by omega,by omega⟩
 ·exact⟨rfl,eR0 _,Int.le_add_of_nonneg_right (by decide)⟩
theorem Wq (m:Mk) (h:Int) (ns:List Int) (hl:2<=ns.length):(m.chain h ns).gap=m.gap+1/\(m.chain h ns).nts=m.nts+ns.length-2:=by
 simp only[Mk.chain,Mk.gap,aD0,TS];exact⟨by omega,by omega⟩
theorem eP {l:List Sym} (h1:¬AO l=1) (h2:¬AO l=2):1<=l.length:=by
 cases l with
 | nil=>exact absurd rfl h1
 | cons s l=>simp
theorem Ri (m:Mk) (p:Prod):(m.add p).gap=m.gap+1/\m.nts<=(m.add p).nts/\(m.nts+p.body.length-2<=(m.add p).nts)/\(m.add p).nts<=m.nts+2*p.body.length+1:=by
 obtain⟨h1,h2,h3⟩:=JX p.body m;have h0:=MV m p.body;unfold Mk.add
 split
 ·rename_i hf
  have hl:p.body.length<=1:=by
   match hb:p.body with
   | []=>simp
   | [s]=>simp
   | [s,t]=>rw[hb]at hf;simp only[AO]at hf;split at hf<;>simp at hf
   | s::t::u::r=>rw[hb]at hf;simp[AO]at hf
  simp only[Mk.put,Mk.gap,aD0,List.length_cons,List.length_nil];exact⟨by omega,by omega,by omega,by omega⟩
 ·rename_i hf;have hl:=eP (fun h=>hf (.inl h)) (fun h=>hf (.inr h))
  split
  ·rename_i h4;obtain⟨g1,g2,g3⟩:=Ku (m.syms p.body).1;obtain⟨c1,c2⟩:=Wq (m.syms p.body).1.nothing p.head ((m.syms p.body).2++[(m.syms p.body).1.nothing.no]) (by simp;omega);simp only[aD0,List.length_cons,List.length_nil]at c2;exact⟨by omega,by omega,by omega,by omega⟩
  ·obtain⟨c1,c2⟩:=Wq (m.syms p.body).1 p.head (m.syms p.body).2 (by omega);exact⟨by omega,by omega,by omega,by omega⟩
end Go.Proofs.Wy
end
section
namespace Go.Proofs.Wy
open Go Go.Dm Tryz
variable [DMode]
attribute [local irreducible] DW Bi Bk
set_option maxRecDepth 100000

@[local simp] theorem OI_ (l:List Sym):Bx (l.map Az).reverse=0:=by rw[<-List.map_reverse];exact HL_ _
def oI : Ann:=⟨[],[]⟩
theorem Aq_ (c:Cnf):Ad prog 144 [.agg (Av c)] (if BK c then .tup [.agg (Av (BB c)),.int .i64 0]else .tup [.agg [.int .i64 0,.nilsl],.int .i64 220]):=by
 refine Ac [] oI func144 call144 ntmps144 mxd (Aq @oI.eq_1 results144) rfl (fun qJ B qX qQ=> ?_) (hd:=(by cases BK c<;>simp[mx,Av]));simp only[Am];have h1:=Jw c;have h2:=PD c;cases hb:BK c
 ·rw[hb]at h1;exact Au (Aq h1 h2) Aa (AA @Av.eq_1)
 ·rw[hb]at h1;exact Au (Aq h1 h2) Aa (AA @Av.eq_1)

end Go.Proofs.Wy
end
section
namespace Go.Proofs.Wy
open Go Go.Dm Tryz
variable [DMode]
attribute [local irreducible] DW Bi Bk

end Go.Proofs.Wy
end
section
namespace Go.Proofs.Wy
open Go Go.Dm Tryz
variable [DMode]
attribute [local irreducible] DW Bi Bk
set_option maxRecDepth 100000
def Og : Ann:=⟨[],[]⟩
theorem Pe (g:FuncId) (us cs:List DVal) (l:List Prod) (q:Prod->Bool) (hq:∀x∈l,Ad prog g (us++[.agg (Ag x)]++cs) (.bool (q x))) :
  Ad prog 219 [BT l,.fn (.func g) us cs] (.int .i64 (if l.any q then ((l.findIdx q:Nat):Int)else -1)):=by
 refine Ac [] Og func219 call219 ntmps219 mxd (Aq @Og.eq_1 results219) rfl (fun qJ B qX qQ=> ?_);have hw:uC l:=Bp_ qJ.1;obtain⟨wR,gA,nN⟩:=hw;clear qJ nN;simp only[Am]
 (refine AM Aa Aa Aa ?_;intros;refine Aj ?_)
 refine Ak (X:={k:Nat//k<=l.length/\∀i x,i<k->l[i]? =some x->q x=false}) (fun x=>⟨[(0,BT l),(1,.fn (.func g) us cs),(7,.int .i64 l.length),(8,.int .i64 x.1)],[]⟩) (fun x=>l.length-x.1) ⟨0,by simp⟩ (Sub.lit (by simp)) ?_;rintro⟨k,hk,vA⟩
 by_cases qV:k<l.length
 ·obtain⟨x,hx,qG,vN⟩:=Aw qV;have zK:=hq x vN;simp only[Ag,aQ0,List.cons_append,List.nil_append]at zK;cases hb:q x
  ·rw[hb]at zK
   have fQ:∀i y,i<k+1->l[i]? =some y->q y=false:=by
    intro i y hi hy
    by_cases gZ:i=k
    ·subst gZ;rw[hx]at hy;simp only[aA0]at hy;subst hy;exact hb
    ·exact vA i y (by omega) hy
   (refine AM (AA zK) Aa (Ez @Ag.eq_1 qV qG) ?_;intros;refine Aj ?_)
   exact Al.mk ⟨k+1,by omega,fQ⟩ (Sub.lit (by simp[])) (by simp;omega)
   skip
  ·rw[hb]at zK;have wU:l.any q=true:=cM0.2 ⟨x,vN,hb⟩
   have bX:l.findIdx q=k:=by
    rw[List.findIdx_eq qV];refine⟨by rw[qG];exact hb,fun i hi=> ?_⟩;exact vA i _ hi (aH0 (by omega))
   exact Au (AA zK) Aa (Ja @Ag.eq_1 qV qG wU bX)
 ·have qZ:k=l.length:=by omega
  have wU:l.any q=false:=by
   rw[dA0];intro x hx;obtain⟨i,hi,rfl⟩:=bK0 hx;rw[vA i _ (by omega) (aH0 hi)];simp
  (repeat (first | refine AE fun K hK=> ?_ | (refine Bv Og mxd (by kernel_rfl) ?_;simp[Og,qX,Ag,qZ,wU];try simp (disch:=omega) only[Af]) | refine An ?_ | (refine AW ?_ ?_ ?_;(· (simp[qX,Ag,qZ,wU];done));(try (rotate_left;(· (intro hc;(try simp[qX,Ag,qZ,wU]at hc);done))))) | (refine AH ?_;simp[results219,qX,Ag,qZ,wU]) | ((first | refine Ay ?_ | refine Ax ?_);simp[qX,Ag,qZ,wU]) | (intro hc;(try simp[qX,Ag,qZ,wU]at hc);(try (exfalso;omega))) | ((first | refine Ai (zK) ?_ | (refine Ah (zK) ?_ ?_;(· (simp;done))));try simp[qX,Ag,qZ,wU]) | (refine⟨?_,?_⟩; · omega) | omega | apply_assumption -exfalso -symm | (exfalso;omega)))
def oE : Ann:=⟨[],[]⟩
theorem LH (g:FuncId) (us cs:List DVal) (l:List Prod) (q:Prod->Bool) (hq:∀x∈l,Ad prog g (us++[.agg (Ag x)]++cs) (.bool (q x))) :
  Ad prog 149 [BT l,.fn (.func g) us cs] (.bool (l.any q)):=by
 refine Ac [] oE func149 call149 ntmps149 mxd (Aq @oE.eq_1 results149) rfl (fun qJ B qX qQ=> ?_);simp only[Am];have hi:=Pe g us cs l q hq;have jU:(0:Int)<=(l.findIdx q:Nat):=by omega
 cases hb:l.any q
 ·rw[hb]at hi;exact Au (AA hi) Aa (AA hb)
 ·rw[hb]at hi;exact Au (AA hi) Aa (AA hb)
def Hu (p:Prod):Bool:=AO p.body==0
def Hy (c:Cnf):Bool:=BK c&& !c.prods.any Hu
def oL : Ann:=⟨[],[]⟩
theorem Ip_ (p:Prod):Ad prog 150 [.agg (Ag p)] (.bool (Hu p)):=by
 refine Ac [] oL func150 call150 ntmps150 mxd (Aq @oL.eq_1 results150) rfl (fun qJ B qX qQ=> ?_);simp only[Am];exact Au (AA (QO p.body)) Aa (Aq @Ag.eq_1 @Hu.eq_1)
def CU_ : Ann:=⟨[],[]⟩
theorem KS_ (c:Cnf):Ad prog 58 [.agg (Av c)] (.bool (Hy c)):=by
 refine Ac [] CU_ func58 call58 ntmps58 mxd (Aq @CU_.eq_1 results58) rfl (fun qJ B qX qQ=> ?_);simp only[Am];have hq:=LH 150 [] [] c.prods Hu (fun x _=>Ip_ x);have hc:=Jw c;simp only[Av]at hc;cases h1:BK c
 ·rw[h1]at hc;exact Au (Aq hc hq) Aa (Ez @Av.eq_1 @Hy.eq_1 h1)
 ·rw[h1]at hc;cases h2:c.prods.any Hu
  ·rw[h2]at hq;exact Au (Aq hc hq) Aa (EU @Av.eq_1 @Hy.eq_1 h1 h2)
  ·rw[h2]at hq;exact Au (Aq hc hq) Aa (EU @Av.eq_1 @Hy.eq_1 h1 h2)

theorem Ad.wkT {P:Program} {f:FuncId} {args ds es:List DVal} (h:Ad P f args (.tup ds)) (hw:WL ds es) (hd:mx (.tup es)=0):Ad P f args (.tup es):=by
 refine⟨h.1,hd,fun cur M w vs hM hr=>(h.2.2 cur M w vs hM hr).mono fun e w' ⟨v,h1,h2,h3⟩=>⟨v,h1,h2,?_⟩⟩;simp only[rd]at h3 |-;obtain⟨us,rfl,h4⟩:=h3;exact⟨us,rfl,Sc hw h4⟩
def TM : Cnf:=⟨0,[]⟩
theorem eN (c:Cnf):Ad prog 144 [.agg (Av c)] (.tup [.agg (Av (if BK c then BB c else TM)),.int .i64 (if BK c then 0 else 220)]):=by
 have h:=Aq_ c;cases hb:BK c<;>rw[hb]at h
 ·exact Ad.wkT h (by simp[TM,Av,BT]) (by simp[mx])
 ·exact h

theorem No (c:Cnf) (p:Prod):p∈(BB c).prods↔p∈c.prods:=by
 have h:=(EQ Jj (DO Jj c.prods)).2 p;simp only[BB];rw[h,(Fk _ _).mem_iff]
theorem TL (c:Cnf):BK (BB c)=BK c:=by
 have h:(BB c).prods.all (Ds (BB c))=c.prods.all (Ds c):=by
  rw[Bool.eq_iff_iff,aV0,aV0];have e:Ds (BB c)=Ds c:=rfl;rw[e];exact⟨fun hh p hp=>hh p ((No c p).2 hp),fun hh p hp=>hh p ((No c p).1 hp)⟩
 simp only[BK];rw[h];rfl
theorem EM_ (c:Cnf):BB (BB c)=BB c:=by
 simp only[BB,Cnf.mk.injEq,true_and];exact EN_ Jj c.prods
theorem ZW (c:Cnf):(BB c).prods.length<=c.prods.length:=by
 have h:=FR_ (e:=fun p q=>Fe p q==0) (FF Fe c.prods);rw[(Fk _ _).length_eq]at h;exact h
theorem Fc_ {l:List (Int×Int)} {a h:Int}:Ff l a=some h->∃j,AQ (l.map Fw) (.int .i64 a)=some j/\(l.map FO).getD j .any= .int .i64 h:=by
 induction l with
 | nil=>simp[Ff]
 | cons p l ih =>
  obtain⟨k,g⟩:=p;simp only[Ff,List.map_cons,AQ];intro hh
  by_cases hk:a=k
  ·rw[if_pos hk]at hh;simp only[aA0]at hh;subst hh;subst hk;exact⟨0,by simp[Fw,BH,Du],by simp[FO]⟩
  ·rw[if_neg hk]at hh;obtain⟨j,h1,h2⟩:=ih hh;exact⟨j+1,by simp[Fw,BH,Du,hk,h1],by simpa using h2⟩
theorem Fd_ {l:List (Int×Int)} {a:Int}:Ff l a=none->AQ (l.map Fw) (.int .i64 a)=none:=by
 induction l with
 | nil=>simp[AQ]
 | cons p l ih =>
  obtain⟨k,g⟩:=p;simp only[Ff,List.map_cons,AQ];intro hh
  by_cases hk:a=k
  ·rw[if_pos hk]at hh;simp at hh
  ·rw[if_neg hk]at hh;simp[Fw,BH,Du,hk,ih hh]
def Da (n:Int):List DVal:=[.int .i64 n]
@[simp] theorem Oq_ (n:Int):AR (Da n)=0:=by simp[Da,AR,mx]
@[simp] theorem Op_ (l:List Int):Bx (l.map Da)=0:=Im _ (fun x=>by simp[Da,AR,mx]) l
def IM : Ann:=⟨[34,46],[⟨4,[7],[],[]⟩]⟩
theorem ZT (m:Mk) (l:List Sym) (h1: -9223372036854775808<=m.nts) (h2:m.nts+l.length+1<=9223372036854775807) (h3:(m.prods.length+l.length+1)*32<=150000000000000) :
  AS prog (.func 214) [.bx 0 0 0,Br l] (BE 0 m) (.osl 3 1) (BE 1 (m.syms l).1++[⟨3,1,.row 3 1 8 ((m.syms l).2.map Da)⟩]):=by
 refine Bj [] [(0,0,0),(1,1,1),(2,2,0),(50,3,1)] IM func214 call214 ntmps214 mxd (Aq @IM.eq_1 results214) rfl (fun qJ B qX qQ=> ?_) (hv:=(by simp[BE]));simp only[Am]
 (refine AM Aa Aa (AA @BE.eq_1) ?_;intros;refine Aj ?_)
 refine BY 5 50 3 1 8 (by simp[qX,ntmps214]) (fun n=> ?_)
 refine Ak (X:={x:Nat×Mk×List Int//x.1<=l.length/\((x.2.1.syms (l.drop x.1)).1,x.2.2++(x.2.1.syms (l.drop x.1)).2)=m.syms l/\m.nts<=x.2.1.nts/\x.2.1.nts<=m.nts+x.1/\x.2.1.prods.length<=m.prods.length+x.1/\x.2.2.length=x.1})
  (fun x=>⟨[(0,.bx 0 0 0),(5,.osl 50 1),(11,Br l),(12,.int .i64 l.length),(13,.int .i64 x.1.1)],BE 1 x.1.2.1++[⟨50,1,.row 3 1 8 (x.1.2.2.map Da)⟩]⟩) (fun x=>l.length-x.1.1) ⟨(0,m,[]),by simp⟩ (Sub.lit (by simp[BE])) ?_
 rintro⟨⟨k,m1,acc⟩,hk,hR,b1,b2,b3,b4⟩;simp only at hk hR b1 b2 b3 b4 |-
 by_cases qV:k<l.length
 ·obtain⟨s,hs,zE,yM⟩:=Aw qV;rw[aW0 qV,zE]at hR;simp only[Mk.syms]at hR
  have hz:(acc.length+1)*8<=150000000000000:=by
   have h4:(m.prods.length+l.length+1)*8<=(m.prods.length+l.length+1)*32:=cE0 _ (by omega);have h5:(acc.length+1)*8<=(m.prods.length+l.length+1)*8:=aS0 _ (by omega);omega
  have yQ:acc.length<=9223372036854775806:=by omega
  cases hl:s.label
  ·have dO:m1.sym s=(m1,s.n):=by unfold Mk.sym;simp[hl]
   rw[dO]at hR
   (refine AM Aa Aa (JB @BE.eq_1 @Az.eq_1 qV zE hl hz yQ) ?_;intros;refine Aj ?_)
   refine Al.mk ⟨(k+1,m1,acc++[s.n]),show k+1<=l.length/\_/\m.nts<=m1.nts/\m1.nts<=m.nts+((k+1:Nat):Int)/\m1.prods.length<=m.prods.length+(k+1)/\(acc++[s.n]).length=k+1 from ⟨by omega,by simpa using hR,b1,by omega,by omega,by simp;omega⟩⟩ (Sub.lit (by simp[BE,Da])) (by simp;omega)
   skip
  ·cases fV:Ff m1.hs s.n with
   | some h =>
    have dO:m1.sym s=(m1,h):=by unfold Mk.sym;simp[hl,fV]
    rw[dO]at hR;obtain⟨j,cZ,jH⟩:=Fc_ fV;simp only[bJ0,bN0]at jH
    (repeat (first | refine AE fun K hK=> ?_ | (refine Bv IM mxd (by kernel_rfl) ?_;simp[IM,qX,BE,Az,qV,zE,hl,hz,yQ,cZ,jH,Fw,Bu];try simp (disch:=omega) only[Af]) | refine An ?_ | (refine AW ?_ ?_ ?_;(· (simp[qX,BE,Az,qV,zE,hl,hz,yQ,cZ,jH,Fw,Bu];done));(try (rotate_left;(· (intro hc;(try simp[qX,BE,Az,qV,zE,hl,hz,yQ,cZ,jH,Fw,Bu]at hc);done))))) | (refine AH ?_;simp[results214,qX,BE,Az,qV,zE,hl,hz,yQ,cZ,jH,Fw,Bu]) | ((first | refine Ay ?_ | refine Ax ?_);simp[qX,BE,Az,qV,zE,hl,hz,yQ,cZ,jH,Fw,Bu]) | (intro hc;(try simp[qX,BE,Az,qV,zE,hl,hz,yQ,cZ,jH,Fw,Bu]at hc);(try (exfalso;omega))) | (refine⟨?_,?_⟩; · omega) | omega | apply_assumption -exfalso -symm | (exfalso;omega)))
    refine Al.mk ⟨(k+1,m1,acc++[h]),show k+1<=l.length/\_/\m.nts<=m1.nts/\m1.nts<=m.nts+((k+1:Nat):Int)/\m1.prods.length<=m.prods.length+(k+1)/\(acc++[h]).length=k+1 from ⟨by omega,by simpa using hR,b1,by omega,by omega,by simp;omega⟩⟩ (Sub.lit (by simp[BE,Da])) (by simp;omega)
    skip
   | none =>
    have dO:m1.sym s=({ m1 with nts:=m1.nts+1,hs:=m1.hs++[(s.n,m1.nts)],prods:=m1.prods++[⟨m1.nts,[s]⟩] },m1.nts):=by unfold Mk.sym;simp[hl,fV]
    rw[dO]at hR;have hj:=Fd_ fV;have e1:=Hv m1 (by omega) (by omega);have e2:=Ij { m1 with nts:=m1.nts+1,hs:=m1.hs++[(s.n,m1.nts)] } m1.nts [⟨true,s.n⟩] (Nat.le_trans (aS0 32 (show m1.prods.length+1<=m.prods.length+l.length+1 by omega)) h3)
    (repeat (first | refine AE fun K hK=> ?_ | (refine Bv IM mxd (by kernel_rfl) ?_;simp[IM,qX,BE,Az,qV,zE,hl,hz,yQ,hj,Fw,FO,Bu];try simp (disch:=omega) only[Af]) | refine An ?_ | (refine AW ?_ ?_ ?_;(· (simp[qX,BE,Az,qV,zE,hl,hz,yQ,hj,Fw,FO,Bu];done));(try (rotate_left;(· (intro hc;(try simp[qX,BE,Az,qV,zE,hl,hz,yQ,hj,Fw,FO,Bu]at hc);done))))) | (refine AH ?_;simp[results214,qX,BE,Az,qV,zE,hl,hz,yQ,hj,Fw,FO,Bu]) | ((first | refine Ay ?_ | refine Ax ?_);simp[qX,BE,Az,qV,zE,hl,hz,yQ,hj,Fw,FO,Bu]) | (intro hc;(try simp[qX,BE,Az,qV,zE,hl,hz,yQ,hj,Fw,FO,Bu]at hc);(try (exfalso;omega))) | (refine AK [(0,0),(1,1),(2,2)] [] (e1) ?_ ?_;(· (simp[qX,BE,Az,qV,zE,hl,hz,yQ,hj,Fw,FO,Bu];done));(intro _;try simp[qX,BE,Az,qV,zE,hl,hz,yQ,hj,Fw,FO,Bu])) | (refine AK [(0,0),(1,1),(2,2)] [] (e2) ?_ ?_;(· (simp[qX,BE,Az,qV,zE,hl,hz,yQ,hj,Fw,FO,Bu];done));(intro _;try simp[qX,BE,Az,qV,zE,hl,hz,yQ,hj,Fw,FO,Bu])) | (refine⟨?_,?_⟩; · omega) | omega | apply_assumption -exfalso -symm | (exfalso;omega)))
    refine Al.mk ⟨(k+1,{ m1 with nts:=m1.nts+1,hs:=m1.hs++[(s.n,m1.nts)],prods:=m1.prods++[⟨m1.nts,[s]⟩] },acc++[m1.nts]),show k+1<=l.length/\_/\m.nts<=m1.nts+1/\m1.nts+1<=m.nts+((k+1:Nat):Int)/\(m1.prods++[(⟨m1.nts,[s]⟩:Prod)]).length<=m.prods.length+(k+1)/\(acc++[m1.nts]).length=k+1 from ⟨by omega,by simpa using hR,by omega,by omega,by simp;omega,by simp;omega⟩⟩ (Sub.lit (by simp[BE,Da,Ag,Az,hl,Fw,FO])) (by simp;omega)
    skip
 ·have qZ:k=l.length:=by omega
  subst qZ;rw[cR0]at hR;simp only[Mk.syms,bR0]at hR
  (refine AM Aa Aa (AA @BE.eq_1) ?_;intros;refine Aj ?_)
  rw[<-hR];exact⟨⟨rfl,rfl⟩,rfl,⟨rfl,rfl⟩,rfl⟩
def tlC (m:Mk) (h:Int) (k:Nat):List Int:=h::(List.range k).map fun i:Nat=>m.nts+(i:Int)
theorem Bv_ (m:Mk) (h:Int) (k:Nat):(tlC m h k).length=k+1:=by simp[tlC]
theorem GI_ (m:Mk) (h:Int) (k:Nat):tlC m h (k+1)=tlC m h k++[m.nts+k]:=by simp[tlC,dF0]
theorem Mf_ (m:Mk) (h:Int) (k i:Nat) (hi:i<k):(tlC m h k)[i+1]? =some (m.nts+i):=by simp[tlC,hi]
theorem NU_ {ns:List Int} {i:Nat} {a b:Int} (hi:i+2<ns.length) (ha:ns[i]? =some a):∀nts head,Ey nts head (ns.drop i)=⟨head,[nS a,nS nts]⟩::Ey (nts+1) nts (ns.drop (i+1)):=by
 intro nts head;obtain⟨h1,rfl⟩:=aB0.1 ha;rw[aW0 h1,aW0 (show i+1<ns.length by omega),aW0 (show i+1+1<ns.length by omega)];rfl
theorem NV_ {ns:List Int} {i:Nat} {a b:Int} (hi:i+2=ns.length) (ha:ns[i]? =some a) (hb:ns[i+1]? =some b):∀nts head,Ey nts head (ns.drop i)=[⟨head,[nS a,nS b]⟩]:=by
 intro nts head;obtain⟨h1,rfl⟩:=aB0.1 ha;obtain⟨h2,rfl⟩:=aB0.1 hb;rw[aW0 h1,aW0 h2,dE0 (by omega)];rfl
def Oe : Ann:=⟨[12,22,52,71],[]⟩
theorem TR (m:Mk) (h:Int) (ns:List Int) (h0:2<=ns.length) (h1: -9223372036854775808<=m.nts) (h2:m.nts+ns.length<=9223372036854775807) (h3:(m.prods.length+ns.length+1)*32<=150000000000000) :
  AS prog (.func 216) [.bx 0 0 0,.int .i64 h,.sl 1 8 (ns.map Da)] (BE 0 m) (.tup []) (BE 1 (m.chain h ns)):=by
 refine Bj [] [(0,0,0),(1,1,1),(2,2,0)] Oe func216 call216 ntmps216 mxd (Aq @Oe.eq_1 results216) rfl (fun qJ B qX qQ=> ?_) (hv:=(by simp[BE]));simp only[Am];obtain⟨q,hq⟩:∃q,ns.length=q+2:=⟨ns.length-2,by omega⟩;rw[hq]at h2 h3;have hw:IntKind.i64.wrap (q:Int)=q:=wq;have wG:((q:Int)+2-2)=q:=by omega
 (refine AM Aa Aa (EU @BE.eq_1 hw hq wG) ?_;intros;refine Aj ?_)
 refine Ak (X:={k:Nat//k<=q}) (fun k=>⟨[(0,.bx 0 0 0),(1,.int .i64 h),(2,.sl 1 8 (ns.map Da)),(6,.osl 12 1),(7,.fn (.func 299) [.bx 0 0 0] []),(17,.int .i64 q),(18,.int .i64 k.1)],BE 1 { m with nts:=m.nts+k.1 }++[⟨12,1,.row 3 1 8 ((tlC m h k.1).map Da)⟩]⟩)
  (fun k=>q-k.1) ⟨0,by omega⟩ (Sub.lit (by simp[BE,tlC,Da])) ?_
 rintro⟨k,hk⟩
 have hz:(k+1+1)*8<=150000000000000:=by
  have h4:(m.prods.length+(q+2)+1)*8<=(m.prods.length+(q+2)+1)*32:=cE0 _ (by omega);have h5:(k+1+1)*8<=(m.prods.length+(q+2)+1)*8:=aS0 _ (by omega);exact Nat.le_trans h5 (Nat.le_trans h4 h3)
 by_cases qV:k<q
 ·have e1:=Hv { m with nts:=m.nts+k } (by simp only;omega) (by simp only;omega);have yQ:k+1<=9223372036854775806:=by omega
  have gM:=GI_ m h k
  (refine AM Aa (AA (Ee [(0,0),(1,1),(2,2)] [] e1)) (Ja @BE.eq_1 qV hz yQ Bv_) ?_;intros;refine Aj ?_)
  refine Al.mk ⟨k+1,by omega⟩ (Sub.lit (by simp[BE,Da,gM];omega)) (by simp;omega)
  skip
 ·have qZ:k=q:=by omega
  subst qZ;clear qV;obtain⟨T,hT⟩:∃T,T=tlC m h k:=⟨_,rfl⟩;have hTl:T.length=k+1:=by rw[hT,Bv_]
  have rB:T[0]? =some h:=by rw[hT];rfl
  have hTs:∀i,i<k->T[i+1]? =some (m.nts+i):=fun i hi=>by rw[hT];exact Mf_ m h k i hi
  rw[<-hT];clear hT;have kR:((k:Int)+1-1)=k:=by omega
  (refine AM Aa Aa (EU @BE.eq_1 hTl kR hw) ?_;intros;refine Aj ?_)
  refine Ak (X:={x:Nat×List Prod//x.1<=k/\x.2.length=m.prods.length+x.1/\∀t,T[x.1]? =some t->x.2++Ey (m.nts+x.1) t (ns.drop x.1)=m.prods++Ey m.nts h ns})
   (fun x=>⟨[(0,.bx 0 0 0),(1,.int .i64 h),(2,.sl 1 8 (ns.map Da)),(6,.osl 12 1),(8,.int .i64 k),(31,.vw 12 1 1 8 0 k),(32,.int .i64 k),(33,.int .i64 x.1.1)],BE 1 { m with nts:=m.nts+k,prods:=x.1.2 }++[⟨12,1,.row 3 1 8 (T.map Da)⟩]⟩)
   (fun x=>k-x.1.1) ⟨(0,m.prods),by simp[rB]⟩ (Sub.lit (by simp[BE])) ?_
  rintro⟨⟨i,P⟩,hi,hP,hR⟩;simp only at hi hP hR |-;obtain⟨t,ht,gE,_⟩:=Aw (show i<T.length by omega);obtain⟨a,ha,ha',_⟩:=Aw (show i<ns.length by omega);have hR:=hR t ht
  by_cases qV:i<k
  ·have hT1:=hTs i qV;have hT1':T[i+1]'(by omega)=m.nts+i:=(aB0.1 hT1).2;rw[NU_ (b:=0) (by omega) ha]at hR;have e2:=Ij { m with nts:=m.nts+k,prods:=P } t [nS a,nS (m.nts+i)] (Nat.le_trans (aS0 32 (show P.length+1<=m.prods.length+(k+2)+1 by omega)) h3);simp only[nS]at e2;have hv:k<=T.length:=by omega
   have dU:((i:Int)+1).toNat=i+1:=by omega
   have wQ:(0:Int)<=(i:Int)+1:=by omega
   have wB:(i:Int)+1<(k:Int)+1:=by omega
   have vV:i<ns.length:=by omega
   have hmp:Option.map ((fun cs=>cs)∘Da) T[((i:Int)+1).toNat]? =some [.int .i64 (m.nts+i)]:=by rw[dU,hT1];rfl
   have vB:(([0,1]:List Nat)=List.range 2)=True:=eq_true rfl
   (refine AM Aa (AA (Ee [(0,0),(1,1),(2,2)] [] e2)) (Aq (Gp @BE.eq_1 @Az.eq_1 @Da.eq_1 qV gE ht ha ha' hT1 hT1' hTl hq hv dU wQ wB) (Aq hmp vB)) ?_;intros;refine Aj ?_)
   simp only[dU,hT1];simp[qX,results216,Oe,BE,Az,Da,qV,gE,ht,ha,ha',hT1,hT1',hTl,hq,hv,dU,wQ,wB,hmp,vB]
   (refine AM Aa (AA (Ee [(0,0),(1,1),(2,2)] [] e2)) (Aq (Gp @BE.eq_1 @Az.eq_1 @Da.eq_1 qV gE ht ha ha' hT1 hT1' hTl hq hv dU wQ wB) (Aq hmp vB)) ?_;intros;refine Aj ?_)
   refine Al.mk ⟨(i+1,P++[⟨t,[nS a,nS (m.nts+i)]⟩]),show i+1<=k/\(P++[(⟨t,[nS a,nS (m.nts+i)]⟩:Prod)]).length=m.prods.length+(i+1)/\_ from ⟨by omega,by simp;omega,fun t' h'=> ?_⟩⟩ (Sub.lit (by simp[BE,nS])) (by simp;omega)
   ·simp only at h' |-;rw[hT1]at h';simp only[aA0]at h';subst h';rw[<-hR,aQ0,show m.nts+((i+1:Nat):Int)=m.nts+i+1 by omega];rfl
   skip
  ·have gZ:i=k:=by omega
   subst gZ;obtain⟨b,hb,qD,_⟩:=Aw (show i+1<ns.length by omega);rw[NV_ (by omega) ha hb]at hR;have e2:=Ij { m with nts:=m.nts+i,prods:=P } t [nS a,nS b] (Nat.le_trans (aS0 32 (show P.length+1<=m.prods.length+(i+2)+1 by omega)) h3);simp only[nS]at e2;have dU:((i:Int)+1).toNat=i+1:=by omega
   have hmp:Option.map ((fun cs=>cs)∘Da) ns[((i:Int)+1).toNat]? =some [.int .i64 b]:=by rw[dU,hb];rfl
   have vB:(([0,1]:List Nat)=List.range 2)=True:=eq_true rfl
   (refine AM Aa (AA (Ee [(0,0),(1,1),(2,2)] [] e2)) (YD @BE.eq_1 @Az.eq_1 @Da.eq_1 gE ht ha ha' hb qD hTl hq dU hmp vB) ?_;intros;refine Aj ?_)
   simp only[dU,hb];simp[qX,results216,Oe,BE,Az,Da,gE,ht,ha,ha',hb,qD,hTl,hq,dU,hmp,vB]
   (refine AM Aa (AA (Ee [(0,0),(1,1),(2,2)] [] e2)) (YD @BE.eq_1 @Az.eq_1 @Da.eq_1 gE ht ha ha' hb qD hTl hq dU hmp vB) ?_;intros;refine Aj ?_)
   have e3:m.chain h ns={ m with nts:=m.nts+i,prods:=P++[⟨t,[nS a,nS b]⟩] }:=by
    unfold Mk.chain;rw[hR,hq];rfl
   rw[e3];simp[nS]
theorem Mm_ (m:Mk) (h:Int) (b:List Sym):m.put h b={ m with prods:=m.prods++[⟨h,b⟩] }:=rfl
theorem SA {a b:Nat} (h:a<=b) (hb:b*32<=150000000000000):a*32<=150000000000000:=Nat.le_trans (aS0 32 h) hb
def oF : Ann:=⟨[18,22,28,35],[]⟩
theorem JG_ (m:Mk) (p:Prod) (hf:AO p.body=1\/AO p.body=2) (h3:(m.prods.length+1)*32<=150000000000000) :
  AS prog (.func 143) [.bx 0 0 0,.agg (Ag p)] (BE 0 m) (.tup []) (BE 1 (m.add p)):=by
 refine Bj [] [(0,0,0),(1,1,1),(2,2,0)] oF func143 call143 ntmps143 mxd (Aq @oF.eq_1 results143) rfl (fun qJ B qX qQ=> ?_) (hv:=(by simp[BE]));simp only[Am];have e1:=QO p.body;have e2:=TP p.body;have e3:=Ij m p.head p.body h3;have e4:m.add p=m.put p.head p.body:=by unfold Mk.add;rw[if_pos hf]
 rw[e4,Mm_]
 rcases hf with hf | hf
 ·rw[hf]at e1;exact Au (Aq e1 e2) (AA (Ee [(0,0),(1,1),(2,2)] [] e3)) (Aq @BE.eq_1 @Ag.eq_1)
 ·rw[hf]at e1;exact Au (Aq e1 e2) (AA (Ee [(0,0),(1,1),(2,2)] [] e3)) (Aq @BE.eq_1 @Ag.eq_1)
def Uj : Ann:=⟨[18,22,28,35],[⟨7,[50],[],[]⟩]⟩
theorem LE_ (m:Mk) (p:Prod) (hf:¬(AO p.body=1\/AO p.body=2)) (hl:p.body.length=1) (h1: -9223372036854775808<=m.nts) (h2:m.nts+10<=9223372036854775807) (h3:(m.prods.length+10)*32<=150000000000000) :
  AS prog (.func 143) [.bx 0 0 0,.agg (Ag p)] (BE 0 m) (.tup []) (BE 1 (m.add p)):=by
 refine Bj [] [(0,0,0),(1,1,1),(2,2,0)] Uj func143 call143 ntmps143 mxd (Aq @Uj.eq_1 results143) rfl (fun qJ B qX qQ=> ?_) (hv:=(by simp[BE]));simp only[Am];have e1:=QO p.body;obtain⟨g1,g2,g3⟩:=JX p.body m;obtain⟨k1,k2,k3⟩:=Ku (m.syms p.body).1;have hsl:=MV m p.body;rw[hl]at hsl;simp only[Mk.gap]at g1 k1;have e2:=ZT m p.body h1 (by omega) (SA (by omega) h3);have e3:=XK (m.syms p.body).1 (by omega) (by omega) (SA (by omega) h3)
 have e5:=TR (m.syms p.body).1.nothing p.head ((m.syms p.body).2++[(m.syms p.body).1.nothing.no]) (by simp;omega) (by omega) (by simp;omega) (SA (by simp;omega) h3);have e4:m.add p=(m.syms p.body).1.nothing.chain p.head ((m.syms p.body).2++[(m.syms p.body).1.nothing.no]):=by unfold Mk.add;rw[if_neg hf,if_pos hl]
 rw[e4];clear g1 g2 g3 k1 k2 k3 e4
 generalize (m.syms p.body).1.nothing.chain p.head ((m.syms p.body).2++[(m.syms p.body).1.nothing.no])=m3 at e5 |-
 generalize dS:(m.syms p.body).1.nothing=m2 at e3 e5
 generalize (m.syms p.body).1=m1 at e2 e3
 generalize (m.syms p.body).2=ns at e2 e5 hsl
 simp only[bA0,List.map_cons,List.map_nil,Da]at e5
 generalize hF:AO p.body=F at hf e1
 have f1:¬F=1:=fun h=>hf (.inl h)
 have f2:¬F=2:=fun h=>hf (.inr h)
 exact Au (AA e1) (Ez (Ee [(0,0),(1,1),(2,2)] [(50,3)] e2) (Ee [(0,0),(1,1),(2,2)] [] e3) (Ee [(0,0),(1,1),(2,2)] [] e5)) (JT @BE.eq_1 @Ag.eq_1 hsl f1 f2 @Da.eq_1)
def Ui : Ann:=⟨[18,22,28,35],[⟨5,[50],[],[]⟩]⟩
theorem JF_ (m:Mk) (p:Prod) (hf:¬(AO p.body=1\/AO p.body=2)) (hl:¬p.body.length=1) (h1: -9223372036854775808<=m.nts) (h2:m.nts+2*p.body.length+10<=9223372036854775807) (h3:(m.prods.length+2*p.body.length+10)*32<=150000000000000) :
  AS prog (.func 143) [.bx 0 0 0,.agg (Ag p)] (BE 0 m) (.tup []) (BE 1 (m.add p)):=by
 refine Bj [] [(0,0,0),(1,1,1),(2,2,0)] Ui func143 call143 ntmps143 mxd (Aq @Ui.eq_1 results143) rfl (fun qJ B qX qQ=> ?_) (hv:=(by simp[BE]));simp only[Am];have e1:=QO p.body;obtain⟨g1,g2,g3⟩:=JX p.body m;have hsl:=MV m p.body;have jU:=eP (fun h=>hf (.inl h)) (fun h=>hf (.inr h));simp only[Mk.gap]at g1;have e2:=ZT m p.body h1 (by omega) (SA (by omega) h3);have e5:=TR (m.syms p.body).1 p.head (m.syms p.body).2 (by omega) (by omega) (by omega) (SA (by omega) h3)
 have e4:m.add p=(m.syms p.body).1.chain p.head (m.syms p.body).2:=by unfold Mk.add;rw[if_neg hf,if_neg hl]
 rw[e4];have hsl2:¬(m.syms p.body).2.length=1:=by omega
 clear g1 g2 g3 e4 hsl
 generalize (m.syms p.body).1.chain p.head (m.syms p.body).2=m3 at e5 |-
 generalize (m.syms p.body).1=m1 at e2 e5
 generalize (m.syms p.body).2=ns at e2 e5 hsl2
 generalize hF:AO p.body=F at hf e1
 have f1:¬F=1:=fun h=>hf (.inl h)
 have f2:¬F=2:=fun h=>hf (.inr h)
 have f3:¬(ns.length:Int)=1:=by omega
 exact Au (AA e1) (Aq (Ee [(0,0),(1,1),(2,2)] [(50,3)] e2) (Ee [(0,0),(1,1),(2,2)] [] e5)) (JT @BE.eq_1 @Ag.eq_1 hsl2 f1 f2 f3)
theorem JE_ (m:Mk) (p:Prod) (h1: -9223372036854775808<=m.nts) (h2:m.nts+2*p.body.length+10<=9223372036854775807) (h3:(m.prods.length+2*p.body.length+10)*32<=150000000000000) :
  AS prog (.func 143) [.bx 0 0 0,.agg (Ag p)] (BE 0 m) (.tup []) (BE 1 (m.add p)):=by
 by_cases hf:AO p.body=1\/AO p.body=2
 ·exact JG_ m p hf (SA (by omega) h3)
 ·by_cases hl:p.body.length=1
  ·exact LE_ m p hf hl h1 (by omega) (SA (by omega) h3)
  ·exact JF_ m p hf hl h1 h2 h3
def Mk.start (c:Cnf):Mk:=⟨c.nts,[],[],0⟩
def Mk.cnf (m:Mk):Cnf:=⟨m.nts,m.prods⟩
def ML_ (m:Option Mk):Cnf×Int:=match m with
 | none=>(TM,240)
 | some m=>(if BK m.cnf then BB m.cnf else TM,if BK m.cnf then 0 else 220)
def xO (c:Cnf):Cnf×Int:=if BK c then ML_ ((Mk.start c).adds c.prods)else (TM,220)
def DV : Ann:=⟨[19,47],[⟨7,[7],[],[]⟩]⟩
theorem EF_ (c:Cnf) (qH:(c.prods.length+8000)*32<=150000000000000):Ad prog 56 [.agg (Av c)] (.tup [.agg (Av (xO c).1),.int .i64 (xO c).2]):=by
 have key:∀d,d=(if BK c then (match (Mk.start c).adds c.prods with | none=> .tup [.agg [.int .i64 0,.nilsl],.int .i64 240] | some m=> .tup [.agg (Av (if BK m.cnf then BB m.cnf else TM)),.int .i64 (if BK m.cnf then 0 else 220)])else .tup [.agg [.int .i64 0,.nilsl],.int .i64 220])->Ad prog 56 [.agg (Av c)] d:=by
  intro d hd;refine Ow [] func56 rfl call56 (by simp[ntmps56]) ?_ ?_
  ·subst hd
   split
   ·split<;>simp[mx,Av]
   ·simp[mx]
  intro qJ B qX;simp only[ntmps56]at qX;have qQ:=CF_ DV mxd (Aq @DV.eq_1 results56);have hw:Ka_ c:=GB_ (by simpa[IZ,EI]using qJ.1);obtain⟨wR,gA,nN,gV⟩:=hw;clear qJ;simp only[Am];have h1:=Jw c;cases hb:BK c
  ·rw[hb]at h1 hd;simp only[aU0,if_false]at hd;subst hd;exact Au (AA h1) Aa (AA @Av.eq_1)
  rw[hb]at h1 hd;simp only[if_true]at hd
  (refine AM (AA h1) Aa (AA @Av.eq_1) ?_;intros;refine Aj ?_)
  refine DY 19 1 50 92 2 32 (by simp) (fun n=> ?_)
  have hn:1<=c.nts/\c.nts<=1024:=by
   simp only[BK,aM0,decide_eq_true_eq]at hb;exact hb.1
  obtain⟨cY,pQ⟩:=hn;obtain⟨R,hR⟩:∃R,R=(Mk.start c).adds c.prods:=⟨_,rfl⟩;rw[<-hR]at hd;clear h1
  refine Ak (X:={x:Nat×Mk//x.1<=c.prods.length/\x.2.adds (c.prods.drop x.1)=R/\c.nts<=x.2.nts/\x.2.nts<=1024/\(x.2.prods.length:Int)=x.1+x.2.nts-c.nts})
   (fun x=>⟨[(1,.ref (Av c)),(2,.bx 2 1 0),(3,.int .i64 0),(5,.bx 19 1 0),(21,BT c.prods),(22,.int .i64 c.prods.length),(23,.int .i64 x.1.1)],[⟨2,1,.box [.int .i64 0,.nilsl]⟩,⟨19,1,.box [.int .i64 x.1.2.nts,.osl 50 1,.omp 17 1,.int .i64 x.1.2.no]⟩,⟨50,1,.row 92 2 32 (x.1.2.prods.map Ag)⟩,⟨17,1,.map (x.1.2.hs.map Fw) (x.1.2.hs.map FO)⟩]⟩)
   (fun x=>c.prods.length-x.1.1) ⟨(0,Mk.start c),by simp[hR,Mk.start];omega⟩ (Sub.lit (by simp[Av,Mk.start])) ?_
  rintro⟨⟨k,m1⟩,hk,hA,b1,b2,b3⟩;simp only at hk hA b1 b2 b3 |-;clear hR
  by_cases qV:k<c.prods.length
  ·obtain⟨p,hp,qN,zU⟩:=Aw qV;obtain⟨hw5,hw6,hw7,hw8⟩:=gV p zU;rw[aW0 qV,qN]at hA;simp only[Mk.adds]at hA;obtain⟨g1,g2,g3,g4⟩:=Ri m1 p;simp only[Mk.gap]at g1;have wG:IntKind.i64.wrap (m1.nts+p.body.length)=m1.nts+p.body.length:=wq;have wH:IntKind.i64.wrap (m1.nts+p.body.length-2)=m1.nts+p.body.length-2:=wq
   by_cases jO:2<p.body.length/\1024<m1.nts+p.body.length-2
   ·obtain⟨wP,vM⟩:=jO;rw[if_pos (by omega)]at hA;subst hA;simp only at hd;subst hd;have vO:(2:Int)<p.body.length:=by omega
    (repeat (first | refine AE fun K hK=> ?_ | (refine Bv DV mxd (by kernel_rfl) ?_;simp[DV,qX,Av,Ag,qV,qN,wG,wH,wP,vM,vO];try simp (disch:=omega) only[Af]) | refine An ?_ | (refine AW ?_ ?_ ?_;(· (simp[qX,Av,Ag,qV,qN,wG,wH,wP,vM,vO];done));(try (rotate_left;(· (intro hc;(try simp[qX,Av,Ag,qV,qN,wG,wH,wP,vM,vO]at hc);done))))) | (refine AH ?_;simp[results56,qX,Av,Ag,qV,qN,wG,wH,wP,vM,vO]) | ((first | refine Ay ?_ | refine Ax ?_);simp[qX,Av,Ag,qV,qN,wG,wH,wP,vM,vO]) | (intro hc;(try simp[qX,Av,Ag,qV,qN,wG,wH,wP,vM,vO]at hc);(try (exfalso;omega))) | ((first | refine Ai (h1) ?_ | (refine Ah (h1) ?_ ?_;(· (simp;done))));try simp[qX,Av,Ag,qV,qN,wG,wH,wP,vM,vO]) | (refine⟨?_,?_⟩; · omega) | omega | apply_assumption -exfalso -symm | (exfalso;omega)))
   ·have hN:p.body.length<=1026:=by omega
    have e1:=JE_ m1 p (by omega) (by omega) (Nat.le_trans (aS0 32 (show m1.prods.length+2*p.body.length+10<=c.prods.length+8000 by omega)) qH);have cW:¬((2:Int)<p.body.length/\1024<m1.nts+p.body.length-2):=by omega
    generalize dS:m1.add p=m2 at e1 hA g1 g2 g3 g4
    by_cases vC:1024<m2.nts
    ·rw[if_pos vC]at hA;subst hA;simp only at hd;subst hd
     by_cases wP:2<p.body.length
     ·have vO:(2:Int)<p.body.length:=by omega
      have vM:¬1024<m1.nts+p.body.length-2:=by omega
      (repeat (first | refine AE fun K hK=> ?_ | (refine Bv DV mxd (by kernel_rfl) ?_;simp[DV,qX,BE,Av,Ag,qV,qN,wG,wH,wP,vM,vO,vC];try simp (disch:=omega) only[Af]) | refine An ?_ | (refine AW ?_ ?_ ?_;(· (simp[qX,BE,Av,Ag,qV,qN,wG,wH,wP,vM,vO,vC];done));(try (rotate_left;(· (intro hc;(try simp[qX,BE,Av,Ag,qV,qN,wG,wH,wP,vM,vO,vC]at hc);done))))) | (refine AH ?_;simp[results56,qX,BE,Av,Ag,qV,qN,wG,wH,wP,vM,vO,vC]) | ((first | refine Ay ?_ | refine Ax ?_);simp[qX,BE,Av,Ag,qV,qN,wG,wH,wP,vM,vO,vC]) | (intro hc;(try simp[qX,BE,Av,Ag,qV,qN,wG,wH,wP,vM,vO,vC]at hc);(try (exfalso;omega))) | ((first | refine Ai (h1) ?_ | (refine Ah (h1) ?_ ?_;(· (simp;done))));try simp[qX,BE,Av,Ag,qV,qN,wG,wH,wP,vM,vO,vC]) | (refine AK [(19,0),(50,1),(17,2)] [] (e1) ?_ ?_;(· (simp[qX,BE,Av,Ag,qV,qN,wG,wH,wP,vM,vO,vC];done));(intro _;try simp[qX,BE,Av,Ag,qV,qN,wG,wH,wP,vM,vO,vC])) | (refine⟨?_,?_⟩; · omega) | omega | apply_assumption -exfalso -symm | (exfalso;omega)))
     ·have vO:¬(2:Int)<p.body.length:=by omega
      (repeat (first | refine AE fun K hK=> ?_ | (refine Bv DV mxd (by kernel_rfl) ?_;simp[DV,qX,BE,Av,Ag,qV,qN,wG,wH,wP,vO,vC];try simp (disch:=omega) only[Af]) | refine An ?_ | (refine AW ?_ ?_ ?_;(· (simp[qX,BE,Av,Ag,qV,qN,wG,wH,wP,vO,vC];done));(try (rotate_left;(· (intro hc;(try simp[qX,BE,Av,Ag,qV,qN,wG,wH,wP,vO,vC]at hc);done))))) | (refine AH ?_;simp[results56,qX,BE,Av,Ag,qV,qN,wG,wH,wP,vO,vC]) | ((first | refine Ay ?_ | refine Ax ?_);simp[qX,BE,Av,Ag,qV,qN,wG,wH,wP,vO,vC]) | (intro hc;(try simp[qX,BE,Av,Ag,qV,qN,wG,wH,wP,vO,vC]at hc);(try (exfalso;omega))) | ((first | refine Ai (h1) ?_ | (refine Ah (h1) ?_ ?_;(· (simp;done))));try simp[qX,BE,Av,Ag,qV,qN,wG,wH,wP,vO,vC]) | (refine AK [(19,0),(50,1),(17,2)] [] (e1) ?_ ?_;(· (simp[qX,BE,Av,Ag,qV,qN,wG,wH,wP,vO,vC];done));(intro _;try simp[qX,BE,Av,Ag,qV,qN,wG,wH,wP,vO,vC])) | (refine⟨?_,?_⟩; · omega) | omega | apply_assumption -exfalso -symm | (exfalso;omega)))
    ·rw[if_neg vC]at hA
     by_cases wP:2<p.body.length
     ·have vO:(2:Int)<p.body.length:=by omega
      have vM:¬1024<m1.nts+p.body.length-2:=by omega
      (repeat (first | refine AE fun K hK=> ?_ | (refine Bv DV mxd (by kernel_rfl) ?_;simp[DV,qX,BE,Av,Ag,qV,qN,wG,wH,wP,vM,vO,vC];try simp (disch:=omega) only[Af]) | refine An ?_ | (refine AW ?_ ?_ ?_;(· (simp[qX,BE,Av,Ag,qV,qN,wG,wH,wP,vM,vO,vC];done));(try (rotate_left;(· (intro hc;(try simp[qX,BE,Av,Ag,qV,qN,wG,wH,wP,vM,vO,vC]at hc);done))))) | (refine AH ?_;simp[results56,qX,BE,Av,Ag,qV,qN,wG,wH,wP,vM,vO,vC]) | ((first | refine Ay ?_ | refine Ax ?_);simp[qX,BE,Av,Ag,qV,qN,wG,wH,wP,vM,vO,vC]) | (intro hc;(try simp[qX,BE,Av,Ag,qV,qN,wG,wH,wP,vM,vO,vC]at hc);(try (exfalso;omega))) | ((first | refine Ai (h1) ?_ | (refine Ah (h1) ?_ ?_;(· (simp;done))));try simp[qX,BE,Av,Ag,qV,qN,wG,wH,wP,vM,vO,vC]) | (refine AK [(19,0),(50,1),(17,2)] [] (e1) ?_ ?_;(· (simp[qX,BE,Av,Ag,qV,qN,wG,wH,wP,vM,vO,vC];done));(intro _;try simp[qX,BE,Av,Ag,qV,qN,wG,wH,wP,vM,vO,vC])) | (refine⟨?_,?_⟩; · omega) | omega | apply_assumption -exfalso -symm | (exfalso;omega)))
      refine Al.mk ⟨(k+1,m2),show k+1<=c.prods.length/\_/\c.nts<=m2.nts/\m2.nts<=1024/\(m2.prods.length:Int)=((k+1:Nat):Int)+m2.nts-c.nts from ⟨by omega,hA,by omega,by omega,by omega⟩⟩ (Sub.lit (by simp[BE,Av])) (by simp;omega)
      skip
     ·have vO:¬(2:Int)<p.body.length:=by omega
      (repeat (first | refine AE fun K hK=> ?_ | (refine Bv DV mxd (by kernel_rfl) ?_;simp[DV,qX,BE,Av,Ag,qV,qN,wG,wH,wP,vO,vC];try simp (disch:=omega) only[Af]) | refine An ?_ | (refine AW ?_ ?_ ?_;(· (simp[qX,BE,Av,Ag,qV,qN,wG,wH,wP,vO,vC];done));(try (rotate_left;(· (intro hc;(try simp[qX,BE,Av,Ag,qV,qN,wG,wH,wP,vO,vC]at hc);done))))) | (refine AH ?_;simp[results56,qX,BE,Av,Ag,qV,qN,wG,wH,wP,vO,vC]) | ((first | refine Ay ?_ | refine Ax ?_);simp[qX,BE,Av,Ag,qV,qN,wG,wH,wP,vO,vC]) | (intro hc;(try simp[qX,BE,Av,Ag,qV,qN,wG,wH,wP,vO,vC]at hc);(try (exfalso;omega))) | ((first | refine Ai (h1) ?_ | (refine Ah (h1) ?_ ?_;(· (simp;done))));try simp[qX,BE,Av,Ag,qV,qN,wG,wH,wP,vO,vC]) | (refine AK [(19,0),(50,1),(17,2)] [] (e1) ?_ ?_;(· (simp[qX,BE,Av,Ag,qV,qN,wG,wH,wP,vO,vC];done));(intro _;try simp[qX,BE,Av,Ag,qV,qN,wG,wH,wP,vO,vC])) | (refine⟨?_,?_⟩; · omega) | omega | apply_assumption -exfalso -symm | (exfalso;omega)))
      refine Al.mk ⟨(k+1,m2),show k+1<=c.prods.length/\_/\c.nts<=m2.nts/\m2.nts<=1024/\(m2.prods.length:Int)=((k+1:Nat):Int)+m2.nts-c.nts from ⟨by omega,hA,by omega,by omega,by omega⟩⟩ (Sub.lit (by simp[BE,Av])) (by simp;omega)
      skip
  ·have qZ:k=c.prods.length:=by omega
   subst qZ;rw[cR0]at hA;simp only[Mk.adds]at hA;subst hA;simp only at hd;subst hd;refine Hg (Sub.freezeL [50] _) ?_;simp[qX,results56,DV,Av];have h2:=eN m1.cnf;exact Au (AA h2) Aa (AA @Av.eq_1)
 have hk:=key _ rfl;unfold xO;cases hb:BK c<;>rw[hb]at hk
 ·exact Ad.wkT hk (by simp[TM,Av,BT]) (by simp[mx])
 ·simp only[if_true]at hk |-
  cases hA:(Mk.start c).adds c.prods with
  | none =>
   rw[hA]at hk;exact Ad.wkT hk (by simp[TM,Av,BT,ML_]) (by simp[mx])
  | some m =>
   rw[hA]at hk;exact hk
theorem Fe_ (l:List (Int×Int)) (k h a:Int):Ff (l++[(k,h)]) a=match Ff l a with | some x=>some x | none=>if a=k then some h else none:=by
 induction l with
 | nil=>simp[Ff]
 | cons p l ih =>
  obtain⟨k',h'⟩:=p;simp only[List.cons_append,Ff]
  split
  ·rfl
  ·exact ih
theorem Fw_ {l:List Sym} (h:AO l=1\/AO l=2):l=[]\/∃n,l=[⟨true,n⟩]:=by
 match l with
 | []=>exact .inl rfl
 | [⟨b,n⟩] =>
  cases b
  ·simp[AO]at h
  ·exact .inr ⟨n,rfl⟩
 | [s,t]=>simp only[AO]at h;split at h<;>simp at h
 | s::t::u::r=>simp[AO]at h
def Mk.Pos (m:Mk):Prop:=0<=m.nts/\∀a h,Ff m.hs a=some h->0<=h
end Go.Proofs.Wy
end
section
namespace Go.Proofs.Wy
open Go Go.Dm Tryz
variable [DMode]
def GB (N:Int) (s:Sym):Prop:=if s.label then 0<=s.n/\s.n<16 else 0<=s.n/\s.n<N
def gP (N:Int) (p:Prod):Prop:=(0<=p.head/\p.head<N)/\AO p.body≠0/\∀s∈p.body,GB N s
structure GoodM (m:Mk):Prop where
 one:1<=m.nts
 ps:∀p∈m.prods,gP m.nts p
 hs:∀a h,Ff m.hs a=some h->0<=h/\h<m.nts
 no:0<=m.no/\(m.no=0\/m.no<m.nts)
theorem OE {N N':Int} (h:N<=N') {s:Sym} (hs:GB N s):GB N' s:=by
 unfold GB at *
 split
 ·rename_i hl;rw[if_pos hl]at hs;exact hs
 ·rename_i hl;rw[if_neg hl]at hs;exact⟨hs.1,by omega⟩
theorem Yg {N N':Int} (h:N<=N') {p:Prod} (hp:gP N p):gP N' p:=⟨⟨hp.1.1,by have:=hp.1.2;omega⟩,hp.2.1,fun s hs=>OE h (hp.2.2 s hs)⟩
theorem GoodM.pos {m:Mk} (h:GoodM m):m.Pos:=⟨by have:=h.one;omega,fun a x hx=>(h.hs a x hx).1⟩
theorem Iv_ {m:Mk} (h:GoodM m) {s:Sym} (hs:GB m.nts s):GoodM (m.sym s).1/\0<=(m.sym s).2/\(m.sym s).2<(m.sym s).1.nts:=by
 have h1:=h.one;unfold Mk.sym;unfold GB at hs
 split
 ·rename_i hl;rw[if_pos hl]at hs
  split
  ·rename_i x hx;exact⟨h,h.hs _ _ hx⟩
  ·rename_i hx;refine⟨⟨by simp only;omega,?_,?_,?_⟩,by simp only;omega,by simp only;omega⟩
   ·intro p hp
    rcases aI0.1 hp with hp | hp
    ·exact Yg (by simp only;omega) (h.ps p hp)
    ·simp only[aG0]at hp;subst hp;refine⟨by simp only;omega,by simp[AO,hl],?_⟩;intro t ht;simp only[aG0]at ht;subst ht;unfold GB;rw[if_pos hl];exact hs
   ·intro a x qG;simp only[Fe_]at qG
    split at qG
    ·rename_i y hy;simp only[aA0]at qG;subst qG;have:=h.hs _ _ hy;exact⟨this.1,by simp only;omega⟩
    ·split at qG
     ·simp only[aA0]at qG;subst qG;exact⟨by omega,by simp only;omega⟩
     ·simp at qG
   ·have:=h.no;exact⟨this.1,by simp only;omega⟩
 ·rename_i hl;rw[if_neg hl]at hs;exact⟨h,hs⟩
theorem Wa : ∀{l:List Sym} {m:Mk},GoodM m->(∀s∈l,GB m.nts s)->GoodM (m.syms l).1/\∀n∈(m.syms l).2,0<=n/\n<(m.syms l).1.nts
 | [],m,h,_=>⟨h,by simp[Mk.syms]⟩
 | s::l,m,h,hs=>by
  obtain⟨h1,h2,h3⟩:=Iv_ h (hs s aE0);have wY:=(By_ m s).2.1;obtain⟨h4,h5⟩:=Wa h1 fun t ht=>OE wY (hs t (aC0 _ ht))
  have hle2:=(JX l (m.sym s).1).2.1;refine⟨h4,fun n hn=> ?_⟩;simp only[Mk.syms,aJ0]at hn
  rcases hn with rfl | hn
  ·exact⟨h2,by simp only[Mk.syms];omega⟩
  ·exact h5 n hn
theorem Yf {m:Mk} (h:GoodM m):GoodM m.nothing/\0<=m.nothing.no/\m.nothing.no<m.nothing.nts:=by
 have h1:=h.one;unfold Mk.nothing
 split
 ·refine⟨⟨by simp only;omega,?_,?_,by simp only;omega⟩,by simp only;omega,by simp only;omega⟩
  ·intro p hp
   rcases aI0.1 hp with hp | hp
   ·exact Yg (by simp only;omega) (h.ps p hp)
   ·simp only[aG0]at hp;subst hp;exact⟨by simp only;omega,by simp[AO],by simp⟩
  ·intro a x hx;have:=h.hs a x hx;exact⟨this.1,by simp only;omega⟩
 ·rename_i hn;have:=h.no;exact⟨h,this.1,by omega⟩
theorem PQ : ∀(ns:List Int) (N nts head:Int),(0<=head/\head<N)->(0<=nts/\nts+(ns.length-2:Nat)<=N)->(∀n∈ns,0<=n/\n<N)->∀p∈Ey nts head ns,gP N p
 | [],_,_,_,_,_,_,p,hp=>by simp[Ey]at hp
 | [_],_,_,_,_,_,_,p,hp=>by simp[Ey]at hp
 | [a,b],N,nts,head,h1,h2,h3,p,hp=>by
  simp only[Ey,aG0]at hp;subst hp;refine⟨h1,by simp[AO,nS],fun s hs=> ?_⟩;simp only[aJ0,eD0,or_false]at hs
  rcases hs with rfl | rfl
  ·exact h3 a (by simp)
  ·exact h3 b (by simp)
 | a::b::c::r,N,nts,head,h1,h2,h3,p,hp=>by
  simp only[Ey,aJ0]at hp;have hl:(a::b::c::r).length-2=r.length+1:=by simp
  rw[hl]at h2
  rcases hp with rfl | hp
  ·refine⟨h1,by simp[AO,nS],fun s hs=> ?_⟩;simp only[aJ0,eD0,or_false]at hs
   rcases hs with rfl | rfl
   ·exact h3 a (by simp)
   ·exact⟨h2.1,by simp only[nS];omega⟩
  ·refine PQ (b::c::r) N (nts+1) nts ⟨h2.1,by omega⟩ ⟨by omega,?_⟩ (fun n hn=>h3 n (aC0 _ hn)) p (by simpa using hp);have vW:(b::c::r).length-2=r.length:=by simp
   rw[vW];omega
theorem Te {m:Mk} (h:GoodM m) {hd:Int} {ns:List Int} (h1:0<=hd/\hd<m.nts) (h2:∀n∈ns,0<=n/\n<m.nts):GoodM (m.chain hd ns):=by
 have h0:=h.one;have wY:m.nts<=m.nts+((ns.length-2:Nat):Int):=by omega
 refine⟨by simp only[Mk.chain];omega,?_,fun a x hx=> ?_,?_⟩
 ·intro p hp
  rcases aI0.1 hp with hp | hp
  ·exact Yg wY (h.ps p hp)
  ·exact PQ ns (m.chain hd ns).nts m.nts hd ⟨h1.1,by simp only[Mk.chain];omega⟩ ⟨by omega,eR0 _⟩ (fun n hn=>⟨(h2 n hn).1,by have:=(h2 n hn).2;simp only[Mk.chain];omega⟩) p hp
 ·have:=h.hs a x hx;exact⟨this.1,by simp only[Mk.chain];omega⟩
 ·have:=h.no;exact⟨this.1,by simp only[Mk.chain];omega⟩
theorem Iw_ {m:Mk} (h:GoodM m) {p:Prod} (hp:gP m.nts p):GoodM (m.put p.head p.body):=by
 refine⟨h.one,fun q hq=> ?_,h.hs,h.no⟩
 rcases aI0.1 hq with hq | hq
 ·exact h.ps q hq
 ·simp only[aG0]at hq;subst hq;exact hp
theorem Ix_ {m:Mk} (h:GoodM m) {p:Prod} (h1:0<=p.head/\p.head<m.nts) (h2:∀s∈p.body,GB m.nts s):GoodM (m.add p):=by
 unfold Mk.add
 split
 ·rename_i hf;exact Iw_ h ⟨h1,by rcases hf with hf | hf<;>rw[hf]<;>decide,h2⟩
 ·obtain⟨g1,g2⟩:=Wa h h2;have wY:=(JX p.body m).2.1
  split
  ·obtain⟨k1,k2,k3⟩:=Yf g1;have hle2:=(Ku (m.syms p.body).1).2.1;refine Te k1 ⟨h1.1,by omega⟩ fun n hn=> ?_
   rcases aI0.1 hn with hn | hn
   ·have:=g2 n hn;exact⟨this.1,by omega⟩
   ·simp only[aG0]at hn;subst hn;exact⟨k2,k3⟩
  ·exact Te g1 ⟨h1.1,by omega⟩ g2
theorem GP_ {c:Cnf} {s:Sym} (h:HE c s=false):GB c.nts s:=by
 unfold HE at h;unfold GB;cases hl:s.label<;>simp_all [UP]
theorem GO_ {c:Cnf} {s:Sym} (h:GB c.nts s):HE c s=false:=by
 unfold GB at h;unfold HE;cases hl:s.label<;>simp_all [UP]
theorem xC {c:Cnf} {p:Prod}:Ds c p=true↔(0<=p.head/\p.head<c.nts)/\∀s∈p.body,GB c.nts s:=by
 unfold Ds;rw[aM0]
 constructor
 ·rintro⟨h1,h2⟩;refine⟨by simpa[UP]using h1,fun s hs=>GP_ ?_⟩;simp only[eC0,dA0]at h2;simpa using h2 s hs
 ·rintro⟨h1,h2⟩;refine⟨by simpa[UP]using h1,?_⟩;simp only[eC0,dA0];intro s hs;rw[GO_ (h2 s hs)];simp
theorem CP {c:Cnf}:BK c=true↔(1<=c.nts/\c.nts<=1024)/\∀p∈c.prods,(0<=p.head/\p.head<c.nts)/\∀s∈p.body,GB c.nts s:=by
 unfold BK;simp only[aM0,decide_eq_true_eq,aV0,xC]
theorem Wb : ∀{l:List Prod} {m r:Mk},GoodM m->m.nts<=1024->(∀p∈l,(0<=p.head/\p.head<m.nts)/\∀s∈p.body,GB m.nts s)->m.adds l=some r->GoodM r/\r.nts<=1024
 | [],m,r,h,hn,_,hr=>by simp only[Mk.adds,aA0]at hr;subst hr;exact⟨h,hn⟩
 | p::l,m,r,h,hn,hl,hr=>by
  simp only[Mk.adds]at hr
  split at hr
  ·simp at hr
  ·rename_i vC;obtain⟨h1,h2⟩:=hl p aE0;have wY:=(Ri m p).2.1
   exact Wb (Ix_ h h1 h2) (by omega) (fun q hq=>by
    obtain⟨g1,g2⟩:=hl q (aC0 _ hq)
    exact⟨⟨g1.1,by omega⟩,fun s hs=>OE wY (g2 s hs)⟩) hr
theorem Ap_ {c:Cnf} (h:BK c=true):GoodM (Mk.start c):=by
 obtain⟨h1,_⟩:=CP.1 h;exact⟨h1.1,by simp[Mk.start],by simp[Mk.start,Ff],by simp[Mk.start]⟩
theorem Pv {c:Cnf} {r:Mk} (h:BK c=true) (hr:(Mk.start c).adds c.prods=some r):GoodM r/\r.nts<=1024:=by
 obtain⟨h1,h2⟩:=CP.1 h;exact Wb (Ap_ h) h1.2 h2 hr
theorem Cn_ {m:Mk} (h:GoodM m) (hn:m.nts<=1024):BK m.cnf=true:=CP.2 ⟨⟨h.one,hn⟩,fun p hp=>⟨(h.ps p hp).1,(h.ps p hp).2.2⟩⟩
theorem Sw (c:Cnf):xO c=if BK c then ((match (Mk.start c).adds c.prods with | none=>(TM,240) | some m=>(BB m.cnf,0)):Cnf×Int)else (TM,220):=by
 unfold xO
 split
 ·rename_i h
  cases hA:(Mk.start c).adds c.prods with
  | none=>rfl
  | some m =>
   obtain⟨g1,g2⟩:=Pv h hA;simp[ML_,Cn_ g1 g2]
 ·rfl
theorem LT_ {l:List Sym} (h0:AO l≠0) (h:¬(AO l=1\/AO l=2)):∃a b,l=[nS a,nS b]:=by
 match l with
 | []=>simp[AO]at h
 | [s]=>cases hs:s.label<;>simp_all [AO]
 | [⟨x,a⟩,⟨y,b⟩] =>
  cases x<;>cases y<;>simp_all [AO];exact⟨⟨a,rfl⟩,⟨b,rfl⟩⟩
 | s::t::u::r=>simp[AO]at h0
theorem JD_ {m:Mk} {p:Prod} (h:AO p.body≠0):m.add p={ m with prods:=m.prods++[p] }:=by
 unfold Mk.add
 split
 ·rfl
 ·rename_i hf;obtain⟨a,b,hb⟩:=LT_ h hf;obtain⟨hd,bd⟩:=p;simp only at hb;subst hb;simp[Mk.syms,Mk.sym,Mk.chain,Ey,nS]
theorem WI : ∀{l:List Prod} {m:Mk},m.nts<=1024->(∀p∈l,AO p.body≠0)->m.adds l=some { m with prods:=m.prods++l }
 | [],m,_,_=>by simp[Mk.adds]
 | p::l,m,hn,h=>by
  simp only[Mk.adds];rw[JD_ (h p aE0),if_neg (by simp only;omega),WI (m:={ m with prods:=m.prods++[p] }) hn fun q hq=>h q (aC0 _ hq)];simp
theorem HD_ {c:Cnf} (h:BK c=true) (hw:∀p∈c.prods,AO p.body≠0):xO c=(BB c,0):=by
 rw[Sw,if_pos h];have h1:=(CP.1 h).1;rw[WI (by simp only[Mk.start];omega) hw];simp[Mk.start,Mk.cnf]
theorem tH : ∀{l:List Prod} {m r:Mk},m.adds l=some r->r.gap=m.gap+l.length
 | [],m,r,h=>by simp only[Mk.adds,aA0]at h;subst h;simp
 | p::l,m,r,h=>by
  simp only[Mk.adds]at h
  split at h
  ·simp at h
  ·have h1:=tH h;have h2:=(Ri m p).1;simp only[List.length_cons];omega
theorem Kv_ {c x:Cnf} (h:xO c=(x,0)):x.prods.length<=c.prods.length+1024:=by
 rw[Sw]at h
 split at h
 ·rename_i hk
  cases hA:(Mk.start c).adds c.prods with
  | none=>rw[hA]at h;simp at h
  | some m =>
   rw[hA]at h;simp only[_root_.Prod.mk.injEq,and_true]at h;subst h;obtain⟨_,g2⟩:=Pv hk hA;have g3:=tH hA;simp only[Mk.gap,Mk.start,List.length_nil]at g3;have h1:=((CP.1 hk).1).1;have h2:=ZW m.cnf;simp only[Mk.cnf]at h2 |-;omega
 ·simp at h
theorem ED_ (c:Cnf):(∃x,xO c=(x,0)/\BK x=true/\(∀p∈x.prods,AO p.body≠0)/\xO x=(x,0))\/∃e,e≠0/\xO c=(TM,e):=by
 rw[Sw]
 split
 ·rename_i h
  cases hA:(Mk.start c).adds c.prods with
  | none=>exact .inr ⟨240,by decide,rfl⟩
  | some m =>
   obtain⟨g1,g2⟩:=Pv h hA;have qY:=Cn_ g1 g2;have nT:BK (BB m.cnf)=true:=by rw[TL];exact qY
   have hw:∀p∈(BB m.cnf).prods,AO p.body≠0:=fun p hp=>(g1.ps p ((No _ p).1 hp)).2.1
   refine .inl ⟨BB m.cnf,rfl,nT,hw,?_⟩;rw[HD_ nT hw,EM_]
 ·exact .inr ⟨220,by decide,rfl⟩
end Go.Proofs.Wy
end
section
namespace Go.Proofs.Wy
open Go Go.Dm Tryz
theorem Ts : ∀(n:Nat) (l:List Int),l.Nodup->(∀x∈l,0<=x/\x<(n:Int))->l.length<=n
 | 0,l,_,h=>by
  cases l with
  | nil=>simp
  | cons x l=>have:=h x aE0;omega
 | n+1,l,hn,h=>by
  by_cases hm:(n:Int)∈l
  ·have h1:=Ts n (l.erase (n:Int)) (hn.erase _) fun x hx=>by
    have h2:=h x (List.mem_of_mem_erase hx)
    have h3:x≠(n:Int):=fun e=>by
     subst e;exact(List.Nodup.not_mem_erase hn) hx
    omega
   rw[List.length_erase_of_mem hm]at h1;omega
  ·have h1:=Ts n l hn fun x hx=>by
    have h2:=h x hx;have h3:x≠(n:Int):=fun e=>hm (e▸hx)
    omega
   omega
structure HelpI (n0:Int) (m:Mk):Prop where
 nd:(m.hs.map (·.1)).Nodup
 rg:∀a∈m.hs.map (·.1),0<=a/\a<16
 nt:m.nts=n0+(m.hs.length:Int)
theorem SJ : ∀{l:List (Int×Int)} {a:Int},Ff l a=none->¬a∈l.map (·.1)
 | [],_,_=>by simp
 | (k,h)::l,a,hl=>by
  unfold Ff at hl
  split at hl
  ·simp at hl
  ·rename_i qC;have:=SJ hl;rw[List.map_cons,aJ0];rintro (e | e)
   ·exact qC e
   ·exact this e
theorem It_ {n0:Int} {m:Mk} (h:HelpI n0 m) {s:Sym} (hs:s.label=true->0<=s.n/\s.n<16):HelpI n0 (m.sym s).1:=by
 unfold Mk.sym
 split
 ·rename_i hl
  cases hk:Ff m.hs s.n with
  | some x=>exact h
  | none =>
   have h1:=SJ hk;refine⟨?_,?_,?_⟩
   ·show ((m.hs++[(s.n,m.nts)]).map (·.1)).Nodup
    rw[bA0];exact bV0.2 ⟨h.nd,by simp,by rintro a ha b hb rfl;simp at hb;subst hb;exact h1 ha⟩
   ·intro a ha;have mI:a∈(m.hs++[(s.n,m.nts)]).map (·.1):=ha;rw[bA0,aI0]at mI
    rcases mI with mI | mI
    ·exact h.rg a mI
    ·simp at mI;subst mI;exact hs hl
   ·show m.nts+1=n0+((m.hs++[(s.n,m.nts)]).length:Int)
    rw[aD0,h.nt];simp only[List.length_cons,List.length_nil];omega
 ·exact h
theorem VW {n0:Int}:∀{l:List Sym} {m:Mk},HelpI n0 m->(∀s∈l,s.label=true->0<=s.n/\s.n<16)->HelpI n0 (m.syms l).1
 | [],_,h,_=>h
 | s::l,m,h,hl=>by
  show HelpI n0 (((m.sym s).1.syms l).1)
  exact VW (It_ h (hl s aE0)) fun x hx=>hl x (aC0 _ hx)
theorem Iu_ {n0:Int} {m:Mk} (h:HelpI n0 m) {p:Prod} (h1:p.body=[]\/p.body.length=2) (h2:∀s∈p.body,s.label=true->0<=s.n/\s.n<16):HelpI n0 (m.add p):=by
 have hx:=VW h h2;have hy:=MV m p.body;unfold Mk.add
 split
 ·exact⟨h.nd,h.rg,h.nt⟩
 ·rename_i hf
  rcases h1 with h1 | h1
  ·exfalso;rw[h1]at hf;exact hf (.inl rfl)
  ·rw[if_neg (by omega)];refine⟨hx.nd,hx.rg,?_⟩
   show (m.syms p.body).1.nts+(((m.syms p.body).2.length-2:Nat):Int)=n0+((m.syms p.body).1.hs.length:Int)
   rw[hy,h1,hx.nt];omega
theorem KU_ {n0:Int} {m:Mk} (h:HelpI n0 m):m.nts<=n0+16:=by
 have h1:=Ts 16 _ h.nd h.rg;rw[aL0]at h1;rw[h.nt];omega
theorem Us {n0:Int} (hn:n0<=1000):∀{l:List Prod} {m:Mk},HelpI n0 m->(∀p∈l,(p.body=[]\/p.body.length=2)/\∀s∈p.body,s.label=true->0<=s.n/\s.n<16)->∃r,m.adds l=some r/\m.nts<=r.nts
 | [],m,_,_=>⟨m,rfl,eR0 _⟩
 | p::l,m,h,hl=>by
  obtain⟨h1,h2⟩:=hl p aE0;have h3:=Iu_ h h1 h2;have h4:=KU_ h3;have h5:=(Ri m p).2.1;obtain⟨r,h6,h7⟩:=Us hn h3 fun q hq=>hl q (aC0 _ hq)
  refine⟨r,?_,by omega⟩;unfold Mk.adds;rw[if_neg (by omega)];exact h6
theorem EC_ {c:Cnf} (h:BK c=true) (hn:c.nts<=1000) (hp:∀p∈c.prods,p.body=[]\/p.body.length=2):∃x,xO c=(x,0)/\BK x=true/\(∀p∈x.prods,AO p.body≠0)/\c.nts<=x.nts:=by
 obtain⟨_,h2⟩:=CP.1 h;have hi:HelpI c.nts (Mk.start c):=⟨by simp[Mk.start],by simp[Mk.start],by simp[Mk.start]⟩
 obtain⟨r,hr,wY⟩:=Us hn (l:=c.prods) hi fun p hq=>⟨hp p hq,fun s hs hl=>by
  have:=(h2 p hq).2 s hs;unfold GB at this;rw[if_pos hl]at this
  exact this⟩
 rcases ED_ c with ⟨x,e1,e2,e3,_⟩ | ⟨e,he,e1⟩
 ·refine⟨x,e1,e2,e3,?_⟩;rw[Sw,if_pos h,hr]at e1;simp only[_root_.Prod.mk.injEq,and_true]at e1;rw[<-e1];exact wY
 ·exfalso;rw[Sw,if_pos h,hr]at e1;simp only[_root_.Prod.mk.injEq]at e1;exact he e1.2.symm
theorem RD : ∀{l:List Nat},(∀x∈l,x=0)->l.sum=0
 | [],_=>rfl
 | x::l,h=>by rw[cZ0,h x aE0,RD fun y hy=>h y (aC0 _ hy)]
theorem GS_ {α:Type} [DecidableEq α] (k:Nat) (a:α):∀(l:List α),l.Nodup->(l.map fun s=>if a=s then k else 0).sum<=k
 | [],_=>by simp
 | b::l,h=>by
  obtain⟨h1,h2⟩:=cS0.1 h;have ih:=GS_ k a l h2;rw[List.map_cons,cZ0]
  split
  ·rename_i e;subst e
   have hz:(l.map fun s=>if a=s then k else 0).sum=0:=by
    refine RD fun x hx=> ?_
    obtain⟨s,hs,rfl⟩:=aR0.1 hx;have qC:¬a=s:=fun e=>h1 (by rw[e];exact hs)
    rw[if_neg qC]
   omega
  ·omega
theorem Xa {α:Type} (f g:α->Nat):∀l:List α,(l.map fun s=>f s+g s).sum=(l.map f).sum+(l.map g).sum
 | []=>rfl
 | a::l=>by
  rw[List.map_cons,List.map_cons,List.map_cons,cZ0,cZ0,cZ0,Xa f g l];omega
theorem VI : ∀(g:List Rul) (hs:List ByteArray),hs.Nodup->(hs.map fun s=>CR (Lr g s)).sum<=CS g
 | [],hs,_=>by
  have:(hs.map fun s=>CR (Lr [] s)).sum=0:=by
   refine RD fun x hx=> ?_
   obtain⟨s,_,rfl⟩:=aR0.1 hx;rfl
  omega
 | r::g,hs,h=>by
  have ih:=VI g hs h
  have h1:∀s,CR (Lr (r::g) s)=(if r.h=s then GM r.b else 0)+CR (Lr g s):=by
   intro s
   by_cases hr:r.h=s<;>simp[Lr,CR,hr]
  have h2:CS (r::g)=GM r.b+CS g:=by simp[CS]
  have h3:=GS_ (GM r.b) r.h hs h;simp only[h1];rw[Xa];omega
theorem GU_ {gt:GT} (h:OkgT gt):Bb (CQ gt)<=80:=by
 have h1:=VI (AZ gt) _ (Nx (AZ gt))
 have h2:Bb (CQ gt)=((AB (AZ gt)).map fun s=>CR (Lr (AZ gt) s)+1).sum:=by
  unfold Bb CQ;rw[cC0]
  congr 1
  refine cN0 fun s _=> ?_
  show ((CY (YM gt s)).length+1:Int).toNat=_
  rw[TX,Jk];omega
 have h3:∀l:List ByteArray,(l.map fun _=>1).sum=l.length:=by
  intro l
  induction l with
  | nil=>rfl
  | cons a l ih=>rw[List.map_cons,cZ0,ih,List.length_cons];omega
 rw[h2,Xa,h3];have:=h.hd;have:=h.oc;omega
theorem Wp (xs:List Auto) {a:Nat}:∀{b:Nat},a<=b->Hm xs a<=Hm xs b
 | 0,h=>by rw[Nat.le_zero.1 h];exact Nat.le_refl _
 | b+1,h=>by
  rcases Nat.lt_or_ge b a with h1 | h1
  ·rw[show a=b+1 by omega];exact Nat.le_refl _
  ·have:=Wp xs (b:=b) h1;rw[Pk];omega
theorem XA {xs:List Auto} (qL:∀a∈xs,1<=a.st) {q:Nat} (h:q<Bb xs):GK xs q<Bb xs:=by
 have hl:=XJ xs;have hn:=HH_ qL;have hk:=aH0 (show q<(ntL xs).length by omega);have h1:=LP_ hk
 by_cases hq:q∈Oy xs
 ·rw[BS_ hq hk];omega
 ·rw[ZM hq];have h2:=Wp xs (show q+1<=Bb xs by omega);rw[Pk,if_neg hq]at h2;omega
theorem Mh_ {H L:List ByteArray} (hL:L.length<=16) {N:Int} (hN:(H.length:Int)<=N) (h1:1<=N) (x:Nd):GB N (EW H L x):=by
 unfold EW GB
 split
 ·split
  ·rename_i h2;have:=KA h2;simp only[if_true];omega
  ·simp only[aU0,if_false];omega
 ·split
  ·split
   ·rename_i h2;have:=KA h2;simp only[aU0,if_false];omega
   ·simp only[aU0,if_false];omega
  ·simp only[aU0,if_false];omega
theorem LC_ {gt:GT} (h:OkgT gt) {N:Int} (hN:((AB (AZ gt)).length:Int)<=N) (h1:1<=N) {x:Arc} (hx:x∈NZ (CQ gt)):GB N x.sy:=by
 unfold NZ at hx;obtain⟨p,hp,hx⟩:=bT0.1 hx;obtain⟨y,hy,rfl⟩:=aR0.1 hx;have h2:=(GI hp).1;unfold CQ at h2;obtain⟨s,_,hs⟩:=aR0.1 h2;rw[<-hs]at hy;obtain⟨p,q,_,_,_,rfl⟩:=CD_ (show y∈NY (syG (AZ gt)) (YM gt s) from hy);unfold tV;simp only;rw[bJ0]
 cases hg:(QH (syG (AZ gt)) (YM gt s))[q-1]? with
 | none=>simp[GB];omega
 | some z =>
  have h3:=bH0 hg;unfold QH at h3;obtain⟨n,_,rfl⟩:=aR0.1 h3;exact Mh_ h.lb hN h1 n
theorem Mg {gt:GT} (h:OkgT gt) (qL:∀a∈CQ gt,SmA a):∃x,xO (BB (KN (CQ gt)))=(x,0)/\BK x=true/\(∀p∈x.prods,AO p.body≠0)/\((AB (AZ gt)).length:Int)<=x.nts:=by
 have gF:∀a∈CQ gt,1<=a.st:=fun a ha=>(Nl (qL a ha).ok).1
 have h1:=HH_ gF;have h2:=GU_ h;have h3:=NW gt;have hn0:(KN (CQ gt)).nts=(Bb (CQ gt):Int):=by show (((CQ gt).length+Hm (CQ gt) (Bb (CQ gt)):Nat):Int)=_;rw[h1]
 have qC:=SZ h;have hN:((AB (AZ gt)).length:Int)<=(KN (CQ gt)).nts:=by rw[hn0];omega
 have qY:BK (KN (CQ gt))=true:=by
  rw[CP];refine⟨⟨by omega,by omega⟩,fun p hp=> ?_⟩
  rcases aI0.1 (show p∈(Qq (CQ gt)).map (pF (CQ gt))++(NZ (CQ gt)).map (pA (CQ gt)) from hp)with hp | hp
  ·obtain⟨q,hq,rfl⟩:=aR0.1 hp;have h5:=Cq_ qL hq;have h6:=XA gF h5.2;refine⟨?_,by simp[pF]⟩
   show (0:Int)<=(GK (CQ gt) q.toNat:Int)/\(GK (CQ gt) q.toNat:Int)<_
   omega
  ·obtain⟨x,hx,rfl⟩:=aR0.1 hp;have h5:=CE_ qL hx;have h6:=XA gF h5.2.1;have h7:=XA gF h5.2.2.2;have h8:=LC_ h hN (by omega) hx;refine⟨?_,?_⟩
   ·show (0:Int)<=(GK (CQ gt) x.fr.toNat:Int)/\(GK (CQ gt) x.fr.toNat:Int)<_
    omega
   ·intro s hs;simp only[pA,aJ0,eD0,or_false]at hs
    rcases hs with rfl | rfl
    ·exact h8
    ·simp only[GB,aU0,if_false];omega
 have nT:BK (BB (KN (CQ gt)))=true:=by rw[TL];exact qY
 have hnn:(BB (KN (CQ gt))).nts=(KN (CQ gt)).nts:=rfl
 obtain⟨x,e1,e2,e3,e4⟩:=EC_ nT (by rw[hnn];omega) fun p hp=>by
  have bG:=(No _ p).1 hp
  rcases aI0.1 (show p∈(Qq (CQ gt)).map (pF (CQ gt))++(NZ (CQ gt)).map (pA (CQ gt)) from bG)with bG | bG
  ·obtain⟨q,_,rfl⟩:=aR0.1 bG;exact .inl rfl
  ·obtain⟨x,_,rfl⟩:=aR0.1 bG;exact .inr rfl
 exact⟨x,e1,e2,e3,by omega⟩
end Go.Proofs.Wy
end
section
namespace Go.Proofs.Wy
open Go Go.Dm Tryz
variable [DMode]
attribute [local irreducible] DW Bi Bk
set_option maxRecDepth 100000

end Go.Proofs.Wy
end
section
namespace Go.Proofs.Wy
open Go Go.Dm Tryz
attribute [local irreducible] DW Bi Bk
set_option maxRecDepth 100000
structure Stp where
 pr:Int
 fr:Int
 to:Int
def Cs (x:Stp):List DVal:=[.int .i64 x.pr,.int .i64 x.fr,.int .i64 x.to]
abbrev FN (l:List Stp):DVal:= .sl 3 24 (l.map Cs)
@[simp] theorem KF_ (s:Stp):AR (Cs s)=0:=by simp[Cs,AR,mx]
@[simp] theorem ND_ (l:List Stp):Bx (l.map Cs)=0:=Im _ KF_ l
def MR (rec:Int->List Stp->Int->Int->Nat) (a b:Sym) (l:List Stp) (i j:Int):Nat :=
 match l with
 | []=>0
 | t::_=>if i<=t.to/\t.to<=j then (if rec a.n l i t.to=0 then 0 else if rec b.n (l.drop (rec a.n l i t.to)) t.to j=0 then 0 else 1+rec a.n l i t.to+rec b.n (l.drop (rec a.n l i t.to)) t.to j)else 0
def FP (rec:Int->List Stp->Int->Int->Nat) (w:List Int) (body:List Sym) (l:List Stp) (i j:Int):Nat :=
 match body with
 | []=>if i=j then 1 else 0
 | [a]=>if j=i+1/\w[i.toNat]? =some a.n then 1 else 0
 | a::b::_=>MR rec a b l i j
def Ma (rec:Int->List Stp->Int->Int->Nat) (w:List Int) (nt:Int) (p:Option Prod) (l:List Stp) (i j:Int):Nat :=
 match p with
 | none=>0
 | some p=>if p.head=nt then FP rec w p.body l i j else 0
def OA_ (rec:Int->List Stp->Int->Int->Nat) (c:Cnf) (w:List Int) (nt:Int) (l:List Stp) (i j:Int):Nat :=
 match l with
 | []=>0
 | s::l=>if 0<=s.pr/\s.pr<c.prods.length/\s.fr=i/\s.to=j then Ma rec w nt c.prods[s.pr.toNat]? l i j else 0
def HS (c:Cnf) (w:List Int):Nat->Int->List Stp->Int->Int->Nat
 | 0=>fun _ _ _ _=>0
 | n+1=>OA_ (HS c w n) c w
theorem Xp (c:Cnf) (w:List Int) (n:Nat) (nt i j:Int):HS c w n nt [] i j=0:=by cases n<;>rfl
theorem Ig (c:Cnf) (w:List Int) (n:Nat) (nt i j:Int) (s:Stp) (l:List Stp):HS c w (n+1) nt (s::l) i j=if 0<=s.pr/\s.pr<c.prods.length/\s.fr=i/\s.to=j then Ma (HS c w n) w nt c.prods[s.pr.toNat]? l i j else 0:=rfl
theorem RZ (c:Cnf) (w:List Int):∀(n:Nat) (nt i j:Int) (l:List Stp),HS c w n nt l i j<=l.length
 | 0,_,_,_,_=>cH0 _
 | n+1,nt,i,j,[]=>by rw[Xp];exact cH0 _
 | n+1,nt,i,j,s::l=>by
  rw[Ig]
  split
  ·unfold Ma
   split
   ·exact cH0 _
   ·split
    ·unfold FP
     split
     ·split<;>simp
     ·split<;>simp
     ·unfold MR
      split
      ·exact cH0 _
      ·rename_i t l'
       split
       ·split
        ·exact cH0 _
        ·split
         ·exact cH0 _
         ·rename_i a b _ _ _ _ _ _;have h1:=RZ c w n a.n i t.to (t::l');have h2:=RZ c w n b.n t.to j ((t::l').drop (HS c w n a.n (t::l') i t.to));rw[bW0]at h2;rw[List.length_cons (a:=s)];omega
       ·exact cH0 _
    ·exact cH0 _
  ·exact cH0 _
theorem Mk_ {c:Cnf} {w:List Int} {n:Nat} {nt i j:Int} {s:Stp} {l:List Stp} (h:HS c w n nt (s::l) i j≠0):s.fr=i:=by
 cases n with
 | zero=>exact absurd rfl h
 | succ n =>
  rw[Ig]at h
  split at h
  ·rename_i hh;exact hh.2.2.1
  ·exact absurd rfl h
def FS : Ann:=⟨[],[⟨3,[13],[],[0,1,2,3,4,5,6,7]⟩]⟩
theorem En_ (c:Cnf) (w:List Int) (n:Nat) (nt i j:Int):Ad prog 157 [.agg (Av c),.int .i64 nt,Cg w,FN [],.int .i64 i,.int .i64 j] (.int .i64 (HS c w n nt [] i j:Int)):=by
 rw[Xp];refine Ac [] FS func157 call157 ntmps157 mxd (Aq @FS.eq_1 results157) rfl (fun qJ B qX qQ=> ?_);clear qJ;simp only[Am];exact Au Aa Aa (AA @Av.eq_1)
theorem uU (c:Cnf) (w:List Int) (hw:w.length<=64) (n:Nat) (ih:∀(nt i j:Int) (l:List Stp),l.length<=n->l.length<=4096->0<=i->i<=j->j<=w.length->Ad prog 157 [.agg (Av c),.int .i64 nt,Cg w,FN l,.int .i64 i,.int .i64 j] (.int .i64 (HS c w n nt l i j:Int))) (nt i j:Int) (s:Stp) (l:List Stp) (hl:(s::l).length<=n+1) (hm:(s::l).length<=4096) (hi:0<=i) (yK:i<=j) (hj:j<=w.length):Ad prog 157 [.agg (Av c),.int .i64 nt,Cg w,FN (s::l),.int .i64 i,.int .i64 j] (.int .i64 (HS c w (n+1) nt (s::l) i j:Int)):=by
 rw[Ig];refine Ac [] FS func157 call157 ntmps157 mxd (Aq @FS.eq_1 results157) rfl (fun qJ B qX qQ=> ?_) (hd:=(by simp[mx,Cs]));clear qJ;simp only[Am]
 by_cases h1:s.pr<0
 ·rw[if_neg (by omega)];exact Au Aa Aa (Ez @Cs.eq_1 @Av.eq_1 h1)
 by_cases h2:(c.prods.length:Int)<=s.pr
 ·rw[if_neg (by omega)];exact Au Aa Aa (EU @Cs.eq_1 @Av.eq_1 h1 h2)
 by_cases h3:s.fr=i
 rotate_left
 ·rw[if_neg (by omega)];have rF:(s.fr != i)=true:=by simpa using h3
  exact Au Aa Aa (JT @Cs.eq_1 @Av.eq_1 h1 h2 h3 rF)
 by_cases h4:s.to=j
 rotate_left
 ·rw[if_neg (by omega)];have h4b:(s.to != j)=true:=by simpa using h4
  exact Au Aa Aa (JB @Cs.eq_1 @Av.eq_1 h1 h2 h3 h4 h4b)
 rw[if_pos (by omega)];obtain⟨p,hp,qN,zU⟩:=Aw (l:=c.prods) (k:=s.pr.toNat) (by omega);rw[hp];have h5:s.pr.toNat<c.prods.length:=by omega
 by_cases h6:p.head=nt
 rotate_left
 ·have e:Ma (HS c w n) w nt (some p) l i j=0:=by unfold Ma;simp only;rw[if_neg h6]
  rw[e];have h6b:(p.head != nt)=true:=by simpa using h6
  exact Au Aa Aa (Pu @Cs.eq_1 @Av.eq_1 @Ag.eq_1 h1 h2 h3 h4 h5 qN h6 h6b)
 have e0:Ma (HS c w n) w nt (some p) l i j=FP (HS c w n) w p.body l i j:=by unfold Ma;simp only;rw[if_pos h6]
 rw[e0];clear e0;obtain⟨hd,body⟩:=p;simp only at h6 qN |-
 match body with
 | [] =>
  by_cases h7:i=j
  ·have e:FP (HS c w n) w [] l i j=1:=by unfold FP;simp only;rw[if_pos h7]
   rw[e];exact Au Aa Aa (Pu @Cs.eq_1 @Av.eq_1 @Ag.eq_1 h1 h2 h3 h4 h5 qN h6 h7)
  ·have e:FP (HS c w n) w [] l i j=0:=by unfold FP;simp only;rw[if_neg h7]
   rw[e];have h7b:(i==j)=false:=by simpa using h7
   cases hq:w[i.toNat]? <;>cases l<;>exact Au Aa Aa (YD @Cs.eq_1 @Av.eq_1 @Ag.eq_1 @Cl.eq_1 h1 h2 h3 h4 h5 qN h6 h7 h7b hq)
 | [a] =>
  have w1:IntKind.i64.wrap (i+1)=i+1:=wq
  by_cases h7:j=i+1
  ·obtain⟨x,hx,qG,_⟩:=Aw (l:=w) (k:=i.toNat) (by omega);have h8:i.toNat<w.length:=by omega
   have h9:¬i<0:=by omega
   by_cases zF:x=a.n
   ·have e:FP (HS c w n) w [a] l i j=1:=by unfold FP;simp only;rw[if_pos ⟨h7,by rw[hx,zF]⟩]
    rw[e];exact Au Aa Aa (Aq (Gp @Cs.eq_1 @Av.eq_1 @Ag.eq_1 @Az.eq_1 @Cl.eq_1 h1 h2 h3 h4 h5 qN h6 h7 w1 qG h8) (Aq h9 zF))
   ·have e:FP (HS c w n) w [a] l i j=0:=by unfold FP;simp only;rw[if_neg (by rintro⟨_,hh⟩;rw[hx]at hh;exact zF (Option.some.inj hh))]
    rw[e];have zL:(x==a.n)=false:=by simpa using zF
    cases l<;>exact Au Aa Aa (Aq (Gp @Cs.eq_1 @Av.eq_1 @Ag.eq_1 @Az.eq_1 @Cl.eq_1 h1 h2 h3 h4 h5 qN h6 h7 w1 qG h8) (Ez h9 zF zL))
  ·have e:FP (HS c w n) w [a] l i j=0:=by unfold FP;simp only;rw[if_neg (fun hh=>h7 hh.1)]
   rw[e];have h7b:(j==i+1)=false:=by simpa using h7
   cases hq:w[i.toNat]? <;>cases l<;>exact Au Aa Aa (Gp @Cs.eq_1 @Av.eq_1 @Ag.eq_1 @Az.eq_1 @Cl.eq_1 h1 h2 h3 h4 h5 qN h6 h7 h7b w1 hq)
 | a::b::r =>
  have h0:FP (HS c w n) w (a::b::r) l i j=MR (HS c w n) a b l i j:=rfl;rw[h0];clear h0;have q1:¬r.length+1+1=1:=by omega
  have q1b:¬((r.length:Int)+1+1)=1:=by omega
  have q1c:((r.length:Int)+1+1==1)=false:=by simpa using q1b
  have q0b:¬((r.length:Int)+1+1)=0:=by omega
  have q0c:((r.length:Int)+1+1==0)=false:=by simpa using q0b
  have q2:¬((r.length:Int)+1+1)<2:=by omega
  have q3:(1:Int)<(r.length:Int)+1+1:=by omega
  match l with
  | [] =>
   have e:MR (HS c w n) a b [] i j=0:=rfl;rw[e];cases hq:w[i.toNat]? <;>exact Au Aa Aa (Aq (Gp @Cs.eq_1 @Av.eq_1 @Ag.eq_1 @Az.eq_1 @Cl.eq_1 hq h1 h2 h3 h4 h5 qN h6 q1 q1b q1c) (Ez q0b q0c q2))
  | t::l' =>
   have vW:(t::l').length<=n:=by simp only[List.length_cons]at hl |-;omega
   have dS:(t::l').length<=4096:=by simp only[List.length_cons]at hm |-;omega
   have p2:¬((l'.length:Int)+1+1)<2:=by omega
   have k1:((l'.length:Int)+1+1).toNat-1=l'.length+1:=by omega
   have k2:∀x,List.take (l'.length+1) (x::List.map Cs l')=x::List.map Cs l':=fun x=>cL0 (by simp)
   by_cases h7:t.fr=i
   rotate_left
   ·have e:MR (HS c w n) a b (t::l') i j=0:=by
     unfold MR;simp only
     have hz:∀nt j,HS c w n nt (t::l') i j=0:=fun nt j=>by
      by_cases hh:HS c w n nt (t::l') i j=0
      ·exact hh
      ·exact absurd (Mk_ hh) h7
     rw[hz];simp
    rw[e];have h7b:(t.fr != i)=true:=by simpa using h7
    cases hq:w[i.toNat]? <;>exact Au Aa Aa (Aq (Gp @Cs.eq_1 @Av.eq_1 @Ag.eq_1 @Az.eq_1 @Cl.eq_1 hq h1 h2 h3 h4 h5 qN h6 q1 q1b q1c) (JT q0b q0c q2 p2 h7 h7b))
   by_cases h8:t.to<i
   ·have e:MR (HS c w n) a b (t::l') i j=0:=by unfold MR;simp only;rw[if_neg (by omega)]
    rw[e];cases hq:w[i.toNat]? <;>exact Au Aa Aa (Aq (Gp @Cs.eq_1 @Av.eq_1 @Ag.eq_1 @Az.eq_1 @Cl.eq_1 hq h1 h2 h3 h4 h5 qN h6 q1 q1b q1c) (JT q0b q0c q2 p2 h7 h8))
   by_cases h9:j<t.to
   ·have e:MR (HS c w n) a b (t::l') i j=0:=by unfold MR;simp only;rw[if_neg (by omega)]
    rw[e];cases hq:w[i.toNat]? <;>exact Au Aa Aa (Aq (Gp @Cs.eq_1 @Av.eq_1 @Ag.eq_1 @Az.eq_1 @Cl.eq_1 hq h1 h2 h3 h4 h5 qN h6 q1 q1b q1c) (JB q0b q0c q2 p2 h7 h8 h9))
   have e1:=ih a.n i t.to (t::l') vW dS hi (by omega) (by omega);have wY:=RZ c w n a.n i t.to (t::l')
   have e3:MR (HS c w n) a b (t::l') i j=if HS c w n a.n (t::l') i t.to=0 then 0 else if HS c w n b.n ((t::l').drop (HS c w n a.n (t::l') i t.to)) t.to j=0 then 0 else 1+HS c w n a.n (t::l') i t.to+HS c w n b.n ((t::l').drop (HS c w n a.n (t::l') i t.to)) t.to j:=by
    unfold MR;simp only;rw[if_pos (by omega)]
   rw[e3];clear e3;have e2:=fun(k:Nat)=>ih b.n t.to j ((t::l').drop k) (by rw[bW0];omega) (by rw[bW0];omega) (by omega) (by omega) hj
   have mU:=fun k=>RZ c w n b.n t.to j ((t::l').drop k)
   obtain⟨o,ho⟩:∃o,o=HS c w n a.n (t::l') i t.to:=⟨_,rfl⟩;rw[<-ho]at e1 wY |-;simp only[List.length_cons]at wY dS
   by_cases zF:o=0
   ·subst zF;rw[if_pos rfl];simp only[FN,List.map_cons,Av,Cs,h7]at e1;cases hq:w[i.toNat]? <;>exact Au (AA e1) Aa (Aq (Gp @Cs.eq_1 @Av.eq_1 @Ag.eq_1 @Az.eq_1 @Cl.eq_1 hq h1 h2 h3 h4 h5 qN h6 q1 q1b q1c) (MM q0b q0c q2 q3 p2 k1 k2 h7 h8 h9))
   ·rw[if_neg zF];have e4:=e2 o;have hl4:=mU o;obtain⟨u,hu⟩:∃u,u=HS c w n b.n ((t::l').drop o) t.to j:=⟨_,rfl⟩;rw[<-hu]at e4 hl4 |-;rw[bW0,List.length_cons]at hl4;have zL:¬(o:Int)=0:=by omega
    have yG:((o:Int)==0)=false:=by simpa using zL
    have w2:IntKind.i64.wrap (1+(o:Int))=1+(o:Int):=wq;have w3:(1+(o:Int)).toNat=o+1:=by omega
    have k3:((l'.length:Int)+1+1).toNat-(o+1)=l'.length+1-o:=by omega
    have k4:∀x,List.take (l'.length+1-o) (List.drop o (x::List.map Cs l'))=List.drop o (x::List.map Cs l'):=fun x=>cL0 (by simp)
    have g1:¬(1+(o:Int))<0:=by omega
    have g2:1+(o:Int)<=(l'.length:Int)+1+1:=by omega
    have w4:IntKind.i64.wrap (1+(o:Int)+(u:Int))=1+(o:Int)+(u:Int):=wq;have g3:(0:Int)<=1+(o:Int):=by omega
    have g4:o+1<=l'.length+1+1:=by omega
    simp only[Av,FN,Cs,List.map_drop,List.map_cons,h7]at e4;simp only[FN,List.map_cons,Av,Cs,h7]at e1
    by_cases fL:u=0
    ·rw[if_pos fL];rw[fL]at e4;cases hq:w[i.toNat]? <;>(repeat (first | refine AE fun K hK=> ?_ | (refine Bv FS mxd (by kernel_rfl) ?_;simp[FS,qX,Cs,Av,Ag,Az,Cl,hq,h1,h2,h3,h4,h5,qN,h6,q1,q1b,q1c,q0b,q0c,q2,q3,p2,k1,k2,h7,h8,h9,zF,zL,yG,w2,w3,k3,k4,g1,g2,g3,g4];try simp (disch:=omega) only[Af]) | refine An ?_ | (refine AW ?_ ?_ ?_;(· (simp[qX,Cs,Av,Ag,Az,Cl,hq,h1,h2,h3,h4,h5,qN,h6,q1,q1b,q1c,q0b,q0c,q2,q3,p2,k1,k2,h7,h8,h9,zF,zL,yG,w2,w3,k3,k4,g1,g2,g3,g4];done));(try (rotate_left;(· (intro hc;(try simp[qX,Cs,Av,Ag,Az,Cl,hq,h1,h2,h3,h4,h5,qN,h6,q1,q1b,q1c,q0b,q0c,q2,q3,p2,k1,k2,h7,h8,h9,zF,zL,yG,w2,w3,k3,k4,g1,g2,g3,g4]at hc);done))))) | (refine AH ?_;simp[results157,qX,Cs,Av,Ag,Az,Cl,hq,h1,h2,h3,h4,h5,qN,h6,q1,q1b,q1c,q0b,q0c,q2,q3,p2,k1,k2,h7,h8,h9,zF,zL,yG,w2,w3,k3,k4,g1,g2,g3,g4]) | ((first | refine Ay ?_ | refine Ax ?_);simp[qX,Cs,Av,Ag,Az,Cl,hq,h1,h2,h3,h4,h5,qN,h6,q1,q1b,q1c,q0b,q0c,q2,q3,p2,k1,k2,h7,h8,h9,zF,zL,yG,w2,w3,k3,k4,g1,g2,g3,g4]) | (intro hc;(try simp[qX,Cs,Av,Ag,Az,Cl,hq,h1,h2,h3,h4,h5,qN,h6,q1,q1b,q1c,q0b,q0c,q2,q3,p2,k1,k2,h7,h8,h9,zF,zL,yG,w2,w3,k3,k4,g1,g2,g3,g4]at hc);(try (exfalso;omega))) | ((first | refine Ai (e1) ?_ | refine Ai (e4) ?_ | (refine Ah (e1) ?_ ?_;(· (simp;done))) | (refine Ah (e4) ?_ ?_;(· (simp;done))));try simp[qX,Cs,Av,Ag,Az,Cl,hq,h1,h2,h3,h4,h5,qN,h6,q1,q1b,q1c,q0b,q0c,q2,q3,p2,k1,k2,h7,h8,h9,zF,zL,yG,w2,w3,k3,k4,g1,g2,g3,g4]) | (refine⟨?_,?_⟩; · omega) | omega | apply_assumption -exfalso -symm | (exfalso;omega)))
    ·rw[if_neg fL];have gJ:¬(u:Int)=0:=by omega
     have bO:((u:Int)==0)=false:=by simpa using gJ
     have hR:((1+o+u:Nat):Int)=1+(o:Int)+(u:Int):=by omega
     rw[hR];cases hq:w[i.toNat]? <;>(repeat (first | refine AE fun K hK=> ?_ | (refine Bv FS mxd (by kernel_rfl) ?_;simp[FS,qX,Cs,Av,Ag,Az,Cl,hq,h1,h2,h3,h4,h5,qN,h6,q1,q1b,q1c,q0b,q0c,q2,q3,p2,k1,k2,h7,h8,h9,zF,zL,yG,w2,w3,k3,k4,g1,g2,g3,g4,fL,gJ,bO,w4];try simp (disch:=omega) only[Af]) | refine An ?_ | (refine AW ?_ ?_ ?_;(· (simp[qX,Cs,Av,Ag,Az,Cl,hq,h1,h2,h3,h4,h5,qN,h6,q1,q1b,q1c,q0b,q0c,q2,q3,p2,k1,k2,h7,h8,h9,zF,zL,yG,w2,w3,k3,k4,g1,g2,g3,g4,fL,gJ,bO,w4];done));(try (rotate_left;(· (intro hc;(try simp[qX,Cs,Av,Ag,Az,Cl,hq,h1,h2,h3,h4,h5,qN,h6,q1,q1b,q1c,q0b,q0c,q2,q3,p2,k1,k2,h7,h8,h9,zF,zL,yG,w2,w3,k3,k4,g1,g2,g3,g4,fL,gJ,bO,w4]at hc);done))))) | (refine AH ?_;simp[results157,qX,Cs,Av,Ag,Az,Cl,hq,h1,h2,h3,h4,h5,qN,h6,q1,q1b,q1c,q0b,q0c,q2,q3,p2,k1,k2,h7,h8,h9,zF,zL,yG,w2,w3,k3,k4,g1,g2,g3,g4,fL,gJ,bO,w4]) | ((first | refine Ay ?_ | refine Ax ?_);simp[qX,Cs,Av,Ag,Az,Cl,hq,h1,h2,h3,h4,h5,qN,h6,q1,q1b,q1c,q0b,q0c,q2,q3,p2,k1,k2,h7,h8,h9,zF,zL,yG,w2,w3,k3,k4,g1,g2,g3,g4,fL,gJ,bO,w4]) | (intro hc;(try simp[qX,Cs,Av,Ag,Az,Cl,hq,h1,h2,h3,h4,h5,qN,h6,q1,q1b,q1c,q0b,q0c,q2,q3,p2,k1,k2,h7,h8,h9,zF,zL,yG,w2,w3,k3,k4,g1,g2,g3,g4,fL,gJ,bO,w4]at hc);(try (exfalso;omega))) | ((first | refine Ai (e1) ?_ | refine Ai (e4) ?_ | (refine Ah (e1) ?_ ?_;(· (simp;done))) | (refine Ah (e4) ?_ ?_;(· (simp;done))));try simp[qX,Cs,Av,Ag,Az,Cl,hq,h1,h2,h3,h4,h5,qN,h6,q1,q1b,q1c,q0b,q0c,q2,q3,p2,k1,k2,h7,h8,h9,zF,zL,yG,w2,w3,k3,k4,g1,g2,g3,g4,fL,gJ,bO,w4]) | (refine⟨?_,?_⟩; · omega) | omega | apply_assumption -exfalso -symm | (exfalso;omega)))
theorem RY (c:Cnf) (w:List Int) (hw:w.length<=64):∀(n:Nat) (nt i j:Int) (l:List Stp),l.length<=n->l.length<=4096->0<=i->i<=j->j<=w.length->Ad prog 157 [.agg (Av c),.int .i64 nt,Cg w,FN l,.int .i64 i,.int .i64 j] (.int .i64 (HS c w n nt l i j:Int))
 | n,nt,i,j,[],_,_,_,_,_=>En_ c w n nt i j
 | 0,nt,i,j,s::l,hl,_,_,_,_=>absurd hl (by simp)
 | n+1,nt,i,j,s::l,hl,hm,hi,yK,hj=>uU c w hw n (RY c w hw n) nt i j s l hl hm hi yK hj
def Vg (c:Cnf) (nt:Int) (n:Nat):Int:=if BK c then (if Hy c then (if 0<=nt/\nt<c.nts then (if n<=64 then 0 else 3)else 2)else 250)else 220
def Dt_ : Ann:=⟨[],[]⟩
theorem MK (c:Cnf) (nt:Int) (w:List Int):Ad prog 96 [.agg (Av c),.int .i64 nt,Cg w] (.int .i64 (Vg c nt w.length)):=by
 refine Ac [] Dt_ func96 call96 ntmps96 mxd (Aq @Dt_.eq_1 results96) rfl (fun qJ B qX qQ=> ?_);clear qJ;simp only[Am];have e1:=Jw c;have e2:=KS_ c;simp only[Av]at e1 e2;unfold Vg;cases h1:BK c
 ·rw[h1]at e1;exact Au (AA e1) Aa (AA @Av.eq_1)
 rw[h1]at e1;cases h2:Hy c
 ·rw[h2]at e2;exact Au (Aq e1 e2) Aa (AA @Av.eq_1)
 rw[h2]at e2
 by_cases h3:nt<0
 ·have rF:¬(0<=nt/\nt<c.nts):=by omega
  exact Au (Aq e1 e2) Aa (Ez @Av.eq_1 h3 rF)
 by_cases h4:c.nts<=nt
 ·have rF:¬(0<=nt/\nt<c.nts):=by omega
  exact Au (Aq e1 e2) Aa (EU @Av.eq_1 h3 h4 rF)
 have rF:0<=nt/\nt<c.nts:=by omega
 by_cases h5:w.length<=64
 ·have h5b:¬(64:Int)<(w.length:Int):=by omega
  exact Au (Aq e1 e2) Aa (JT @Av.eq_1 h3 h4 rF h5 h5b)
 ·have h5b:(64:Int)<(w.length:Int):=by omega
  exact Au (Aq e1 e2) Aa (JT @Av.eq_1 h3 h4 rF h5 h5b)
def Kk (c:Cnf) (nt:Int) (w:List Int) (l:List Stp):Bool:=decide (HS c w l.length nt l 0 w.length≠0)&&decide (HS c w l.length nt l 0 w.length=l.length)
def sG : Ann:=⟨[],[]⟩
theorem FU_ (l:List Stp):Ad prog 156 [FN l] (FN l):=by
 refine Ac [] sG func156 call156 ntmps156 mxd (Aq @sG.eq_1 results156) rfl (fun qJ B qX qQ=> ?_);clear qJ;simp only[Am];have ht:List.take l.length (List.map Cs l)=List.map Cs l:=cL0 (by simp);exact Au Aa Aa (AA ht)
def Du_ : Ann:=⟨[],[]⟩
theorem He_ (c:Cnf) (nt:Int) (w:List Int) (l:List Stp) (h:Vg c nt w.length=0) (hw:w.length<=64) (hl:l.length<=4096):Ad prog 65 [.agg (Av c),.int .i64 nt,Cg w,FN l] (.tup [.bool (Kk c nt w l),.int .i64 0]):=by
 refine Ac [] Du_ func65 call65 ntmps65 mxd (Aq @Du_.eq_1 results65) rfl (fun qJ B qX qQ=> ?_);clear qJ;simp only[Am];have e1:=MK c nt w;rw[h]at e1;have e2:=FU_ l;have e3:=RY c w hw l.length nt 0 w.length l (Nat.le_refl _) hl (by omega) (by omega) (by omega);unfold Kk;obtain⟨k,hk⟩:∃k,k=HS c w l.length nt l 0 w.length:=⟨_,rfl⟩;have yJ:=RZ c w l.length nt 0 w.length l;rw[<-hk]at e3 yJ |-;simp only[Av]at e1 e3
 have g1:¬(4096:Int)<(l.length:Int):=by omega
 by_cases h0:l.length=0
 ·have g2:¬(0:Int)<(l.length:Int):=by omega
  have g3:k=0:=by omega
  have g5:¬0<l.length:=by omega
  exact Au (Ez e1 e2 e3) Aa (Ja @Av.eq_1 g1 g2 g3 g5)
 ·have g2:(0:Int)<(l.length:Int):=by omega
  have g4:(decide (k≠0)&&decide (k=l.length))=((k:Int)==(l.length:Int)):=by
   by_cases hh:k=l.length
   ·rw[hh];simp[h0]
   ·have hh2:((k:Int)==(l.length:Int))=false:=by simpa using (by omega:¬(k:Int)=(l.length:Int))
    rw[hh2];simp[hh]
  rw[g4];have g5:0<l.length:=by omega
  exact Au (Ez e1 e2 e3) Aa (EU @Av.eq_1 g1 g2 g5)
theorem GT_ {xs:List Auto} (h:∀a∈xs,SmA a) (hn:xs.length≠0):1<=Bb xs:=by
 cases xs with
 | nil=>simp at hn
 | cons a xs =>
  have h3:Bb (a::xs)=a.st.toNat+Bb xs:=by simp[Bb]
  have:=(Nl (h a aE0).ok).1;omega
end Go.Proofs.Wy
end
section
namespace Go.Proofs.Wy
open Go Go.Dm Tryz
variable [DMode]
attribute [local irreducible] DW Bi Bk
set_option maxRecDepth 100000



end Go.Proofs.Wy
end
section
namespace Go.Proofs.Wy
open Go Go.Dm Tryz
attribute [local irreducible] DW Bi Bk
set_option maxRecDepth 100000
theorem Od_ {a b n:Nat} (h1:a<=1040) (h2:b<=17179870208) (h3:n<=a+b):(n+8000)*32<=150000000000000:=by omega
theorem CA_ {xs:List Auto} (yM:∀a∈xs,SmA a) (hl:xs.length<=16):((BB (KN xs)).prods.length+8000)*32<=150000000000000:=by
 have zN:(Qq xs).length<=1040:=Nat.le_trans (Tl yM 0) (cE0 65 hl);have cD:(NZ xs).length<=17179870208:=Nat.le_trans (Ue yM 0) (cE0 1073741888 hl);refine Od_ zN cD (Nat.le_trans (ZW _) ?_);simp[KN]
def Dx (gt:GT):Cnf×Int:=xO (BB (KN (CQ gt)))
def CG_ : Ann:=⟨[],[⟨4,[6],[],[]⟩]⟩
theorem Vh (gt:GT) (h:OkgT gt) (hs:Fa (AZ gt)) (p1:Ad prog 76 [AD (AZ gt)] (.int .i64 0)):Ad prog 17 [AD (AZ gt)] (.tup [.agg (Av (Dx gt).1),.int .i64 (Dx gt).2]):=by
 have e1:=xS gt h hs p1;have yM:=Rb h;have cD:=NW gt;have hhd:=h.hd;have qC:=SZ h;unfold Dx;obtain⟨A,hA⟩:∃A,A=CQ gt:=⟨_,rfl⟩;rw[<-hA]at e1 yM cD |-;have hA16:A.length<=16:=by omega
 have e3:=Yr (AB (AZ gt)) (AC (AZ gt)) A yM hA16 (by omega) (GT_ yM (by omega));have qH:=CA_ yM hA16;obtain⟨NC,hNC⟩:∃NC,NC=BB (KN A):=⟨_,rfl⟩;rw[<-hNC]at e3 qH |-;have e7:=EF_ NC qH;obtain⟨X,hX⟩:∃X,X=(xO NC).1:=⟨_,rfl⟩;obtain⟨E,hE⟩:∃E,E=(xO NC).2:=⟨_,rfl⟩;rw[<-hX,<-hE]at e7 |-;unfold Dk at e1 e3;simp only[Av]at e3 e7;refine Ac [] CG_ func17 call17 ntmps17 mxd (Aq @CG_.eq_1 results17) rfl (fun qJ B qX qQ=> ?_) (hd:=(by simp[mx,AR,Av]))
 clear qJ;simp only[Am];exact Au (Ez e1 e3 e7) Aa (AA @Av.eq_1)
end Go.Proofs.Wy
end
