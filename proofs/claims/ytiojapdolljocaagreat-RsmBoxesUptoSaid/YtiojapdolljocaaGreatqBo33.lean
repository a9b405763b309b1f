/- Parts of a proof, laid together: RS0, RS1, RS2, RS3, RS4, RS5, RS6, RS7. -/
import Derived.Test.YtiojapdolljocaaGreatqBo15
import Derived.Test.YtiojapdolljocaaGreatqBo32
set_option linter.unusedSimpArgs false
set_option maxHeartbeats 8000000
set_option linter.unusedVariables false
set_option linter.unusedSectionVars false
section
namespace Go.Proofs.Wy
open Go Go.Dm Tryz
variable [DMode]
def Hv (g:List Rul) (h:ByteArray):List (List Nd):=(g.filter fun r=>decide (r.h=h)).map (·.b)
def QY (gt:GT) (h:ByteArray):List RT:=(gt.filter fun p=>decide (p.1=h)).map (·.2)
theorem Bp_ (g:List Rul) (r:Rul) (h:ByteArray):Hv (g++[r]) h=Hv g h++(if r.h=h then [r.b]else []):=by
 unfold Hv;rw[dH0,bF0]
 congr 1
 by_cases hr:r.h=h<;>simp[hr]
theorem Dm_ (g:List Rul) (h:ByteArray):(Hv g h).length<=g.length:=by unfold Hv;rw[aO0];exact cI0 _ _
theorem MR (gt:GT) (h:ByteArray):Hv (AY gt) h=(QY gt h).map flat:=by
 unfold Hv QY AY;rw[List.filter_map,bY0,bY0];rfl
theorem Th {gt:GT} {h:ByteArray} {t:RT} (ht:t∈QY gt h):∃p∈gt,p.2=t:=by
 unfold QY at ht;obtain⟨p,hp,rfl⟩:=aR0.1 ht;exact⟨p,(cC0.1 hp).1,rfl⟩
theorem Mz : ∀(g:List Rul) (h:ByteArray),Ce (Hv g h)<=BX g
 | [],h=>by simp[Hv,Ce,BX]
 | r::g,h=>by
  have ih:=Mz g h;have h2:BX (r::g)=EP r.b+BX g:=by simp[BX]
  by_cases hr:r.h=h
  ·have h1:Hv (r::g) h=r.b::Hv g h:=by simp[Hv,hr]
   have h3:Ce (r.b::Hv g h)=EP r.b+Ce (Hv g h):=by simp[Ce]
   rw[h1,h3,h2];omega
  ·have h1:Hv (r::g) h=Hv g h:=by simp[Hv,hr]
   rw[h1,h2];omega
structure OkgT (gt:GT):Prop where
 ok:tU gt
 one:1<=gt.length
 le:gt.length<=64
 hd:(Av (AY gt)).length<=16
 lb:(AC (AY gt)).length<=16
 oc:BX (AY gt)<=64
 dp:Ff gt=false
 ms:(CF (AY gt)).length=0
 tx:(BP gt).size<=2048
theorem Cp_ {gt:GT} (hk:tU gt) (h1:1<=gt.length) (h2:gt.length<=64) (h:LG gt=0):OkgT gt:=by
 unfold LG at h
 repeat' split at h
 all_goals first
  | omega
  | skip
 rename_i a1 a2 a3 a4 a5 a6;exact⟨hk,h1,h2,by omega,by omega,by omega,by simpa using a4,by omega,by omega⟩
theorem aO {gt:GT} (h:OkgT gt) {p:ByteArray×RT} (hp:p∈gt):EZ p.2=true/\(flat p.2).length<=2048/\CV p.2=0:=by
 have h1:=(h.ok p hp).2;have h2:=Vq hp;have h3:=h.tx;have h4:=Tg p.2 h1;refine⟨h1,by omega,?_⟩
 have h5:¬16<Ih p.2:=fun hh=>by
  have:Ff gt=true:=by unfold Ff;rw[cL0];exact⟨p,hp,by simpa using hh⟩
  rw[h.dp]at this;simp at this
 unfold CV;rw[if_neg h5,if_neg (by omega)]
theorem oW {gt:GT} (h:OkgT gt) {p:ByteArray×RT} (hp:p∈gt) {x:Nd} (hx:x∈flat p.2):YM (Av (AY gt)) (AC (AY gt)) x≠4:=by
 have hr:(⟨p.1,flat p.2⟩:Rul)∈AY gt:=aR0.2 ⟨p,hp,rfl⟩;unfold YM
 split
 ·rename_i h3
  have hm:x.s∈AC (AY gt):=by
   unfold AC;rw[(GG _).2];unfold AK Cg;exact bQ0.2 ⟨_,hr,aR0.2 ⟨x,cC0.2 ⟨hx,by simpa using h3⟩,rfl⟩⟩
  unfold JK;rw[if_pos hm];omega
 ·split
  ·rename_i h2
   have hm:x.s∈Av (AY gt):=by
    rcases Classical.em (x.s∈Av (AY gt))with hh | hh
    ·exact hh
    ·exfalso
     have:x.s∈CF (AY gt):=by
      unfold CF;rw[cC0,(GG _).2];refine⟨?_,by simpa using hh⟩;unfold AK Cg;exact bQ0.2 ⟨_,hr,aR0.2 ⟨x,cC0.2 ⟨hx,by simpa using h2⟩,rfl⟩⟩
     have h3:=List.length_pos_of_mem this;have:=h.ms;omega
   unfold JK;rw[if_pos hm];omega
  ·omega
theorem Bx_ {gt:GT} (h:OkgT gt) (s:ByteArray):(Hv (AY gt) s).any (MU (Av (AY gt)) (AC (AY gt)))=false:=by
 rw[Bool.eq_false_iff];intro hh;rw[cL0]at hh;obtain⟨l,hl,hb⟩:=hh;rw[MR]at hl;obtain⟨t,ht,rfl⟩:=aR0.1 hl;obtain⟨p,hp,rfl⟩:=Th ht;unfold MU at hb;rw[cL0]at hb;obtain⟨x,hx,kO⟩:=hb;exact oW h hp hx (by simpa using kO)
theorem uK {gt:GT} (h:OkgT gt) (s:ByteArray):∀t∈QY gt s,EZ t=true/\(flat t).length<=2048:=fun t ht=>by
 obtain⟨p,hp,rfl⟩:=Th ht;have:=aO h hp;exact⟨this.1,this.2.1⟩
theorem Zv {gt:GT} (h:OkgT gt) (s:ByteArray):(CB (QY gt s)).length<=64:=by
 rw[<-FF,<-MR];have:=Mz (AY gt) s;have:=h.oc;omega
def Cu (gt:GT):List Auto:=(Av (AY gt)).map fun s=>Xe (syG (AY gt)) (QY gt s)
theorem QG (gt:GT):(Cu gt).length=(Av (AY gt)).length:=by simp[Cu]
theorem iR {gt:GT} {i:Nat} {s:ByteArray} (h:(Av (AY gt))[i]? =some s):(Cu gt)[i]? =some (Xe (syG (AY gt)) (QY gt s)):=by unfold Cu;rw[bM0,h];rfl
def AV (l:List Auto):Nat:=(l.map fun a=>a.st.toNat).sum
theorem RL (l:List Auto) (a:Auto):AV (l++[a])=AV l+a.st.toNat:=by simp[AV]
theorem iQ {gt:GT} (h:OkgT gt):∀a∈Cu gt,GC a=true:=fun a ha=>by
 obtain⟨s,_,rfl⟩:=aR0.1 ha;exact Dn_ _ _ _ (Zv h s)
theorem Od : ∀{l:List Auto},(∀a∈l,GC a=true)->AV l<=65*l.length
 | [],_=>by simp[AV]
 | a::l,h=>by
  have h1:=Pj (h a aH0);have h2:=Od (l:=l) fun x hx=>h x (aF0 _ hx)
  have h3:AV (a::l)=a.st.toNat+AV l:=by simp[AV]
  rw[h3,List.length_cons];omega
def Cr : Nat->List Auto->List (Auto×Nat)
 | _,[]=>[]
 | f,a::l=>(a,f)::Cr (f+a.st.toNat) l
theorem Mv (a:Auto):∀(l:List Auto) (f:Nat),Cr f (l++[a])=Cr f l++[(a,f+AV l)]
 | [],f=>by simp[Cr,AV]
 | b::l,f=>by
  have h3:AV (b::l)=b.st.toNat+AV l:=by simp[AV]
  rw[List.cons_append,Cr,Cr,Mv a l,h3,cR0];rfl
theorem GS : ∀(l:List Auto) (f:Nat),(Cr f l).length=l.length
 | [],_=>rfl
 | a::l,f=>by rw[Cr,List.length_cons,List.length_cons,GS l]
def Uq (p:Auto×Nat):List DVal:=[.int .i64 p.1.st,Gk p.1.fin,FS p.1.arcs,.int .i64 (p.2:Int)]
abbrev tA (l:List (Auto×Nat)):DVal:= .sl 4 64 (l.map Uq)
@[simp] theorem Ed_ (p:Auto×Nat):AH (Uq p)=0:=by simp[Uq,AH,mx]
@[simp] theorem FS_ (l:List (Auto×Nat)):Bo (l.map Uq)=0:=Ie _ Ed_ l
def Ca (H L:List ByteArray) (xs:List Auto):DVal:= .ref [ES H L,tA (Cr 0 xs),.int .i64 (AV xs)]
end Go.Proofs.Wy
end
section
namespace Go.Proofs.Wy
open Go Go.Dm Tryz
variable [DMode]
attribute [local irreducible] DW Bm Bq
set_option maxRecDepth 100000
def LZ : Ann:=⟨[],[⟨4,[7],[],[]⟩]⟩
theorem Kd (g:List Rul) (h:ByteArray) (hl:g.length<=64):Ae prog 18 [AB g,.str h] (EI (Hv g h)):=by
 refine Ac [50] LZ func18 call18 ntmps18 mxd (Ar @LZ.eq_1 results18) rfl (fun qJ B qX qQ=> ?_);clear qJ;simp only[Ak]
 iterate 6 ((first | refine AI fun K hK=> ?_ | (refine BS LZ mxd (by kernel_rfl) ?_;simp[LZ,qX];try simp (disch:=omega) only[Ai]) | refine Ao ?_ | (refine Bg ?_ ?_ ?_;(· (simp[qX];done));(try (rotate_left;(· (intro hc;(try simp[qX]at hc);done))))) | (refine AL ?_;simp[results18,qX]) | ((first | refine Az ?_ | refine Ay ?_);simp[qX]) | (intro hc;(try simp[qX]at hc);(try (exfalso;omega))) | (refine⟨?_,?_⟩; · omega) | omega | apply_assumption -exfalso -symm | (exfalso;omega)))
 refine Ci 5 50 63 1 24 (by simp[qX,results18,LZ]) (fun n=> ?_)
 (refine AX Ab Ab Ab ?_;intros;refine Am ?_)
 refine Al (X:={k:Nat//k<=g.length}) (fun k=>⟨[(1,.str h),(5,.osl 50 1),(8,AB g),(9,.int .i64 g.length),(10,.int .i64 k.1)],[⟨50,1,.row 63 1 24 ((Hv (g.take k.1) h).map GQ)⟩]⟩) (fun k=>g.length-k.1) ⟨0,by omega⟩ (Sub.lit (by simp[Hv])) ?_;rintro⟨k,hk⟩;simp only
 by_cases qV:k<g.length
 ·obtain⟨r,hr,wJ,gY⟩:=Ax qV;have e1:=Nx r.b;have yG:=Bp_ (g.take k) r h;rw[<-BD hr]at yG;have gK:=Dm_ (g.take k) h;rw[bD0]at gK;obtain⟨T,hT⟩:∃T,T=Hv (g.take k) h:=⟨_,rfl⟩;rw[<-hT]at yG gK |-;have hb:(T.length+1)*24<=150000000000000:=by omega
  have dO:IntKind.i64.wrap ((k:Int)+1)=(k:Int)+1:=wq
  by_cases hh:r.h=h
  ·rw[if_pos hh]at yG;have kZ:(Hv (g.take (k+1)) h).map GQ=T.map GQ++[[Bl r.b]]:=by rw[yG,bF0];rfl
   (refine AX (AJ e1) Ab (NA @BB.eq_1 qV hr wJ hh hb dO) ?_;intros;refine Am ?_)
   refine An.mk ⟨k+1,by omega⟩ (Sub.lit (by simp[kZ])) (by simp;omega)
   skip
  ·rw[if_neg hh,bX0]at yG;have hh2:(r.h==h)=false:=by simpa using hh
   (refine AX Ab Ab (NA @BB.eq_1 qV hr wJ hh hh2 dO) ?_;intros;refine Am ?_)
   refine An.mk ⟨k+1,by omega⟩ (Sub.lit (by simp[yG])) (by simp;omega)
   skip
 ·have qZ:k=g.length:=by omega
  subst qZ;rw[bC0];exact Aw Ab Ab Ab
def UF : Ann:=⟨[],[]⟩
theorem Le (g:List Rul) (hs:EE g) (hl:g.length*40<=140737488355328):Ae prog 26 [AB g] (AB g):=by
 refine Ac [50] UF func26 call26 ntmps26 mxd (Ar @UF.eq_1 results26) rfl (fun qJ B qX qQ=> ?_);clear qJ;simp only[Ak]
 (refine AX Ab Ab Ab ?_;intros;refine Am ?_)
 refine Ci 3 50 65 2 40 (by simp[qX,results26,UF]) (fun n=> ?_);refine Al (X:={k:Nat//k<=g.length}) (fun k=>⟨[(0,AB g),(3,.osl 50 1),(4,.int .i64 k.1)],[⟨50,1,.row 65 2 40 ((g.take k.1).map BB)⟩]⟩) (fun k=>g.length-k.1) ⟨0,by omega⟩ (Sub.lit (by simp)) ?_;rintro⟨k,hk⟩;simp only
 by_cases qV:k<g.length
 ·obtain⟨r,hr,wJ,gY⟩:=Ax qV;have e1:=TF r.b (hs r gY);have hts2:List.take (k+1) (List.map BB g)=(g.take k).map BB++[[.str r.h,Bl r.b]]:=by rw[<-List.map_take,BD hr,bF0];rfl
  have gK:(g.take k).length<=k:=by rw[bD0];omega
  obtain⟨T,hT⟩:∃T,T=g.take k:=⟨_,rfl⟩;rw[<-hT]at hts2 gK |-;have hb:(T.length+1)*40<=150000000000000:=by omega
  have dO:IntKind.i64.wrap ((k:Int)+1)=(k:Int)+1:=wq
  (refine AX (AJ e1) Ab (MY @BB.eq_1 qV hr wJ hb dO) ?_;intros;refine Am ?_)
  refine An.mk ⟨k+1,by omega⟩ (Sub.lit (by simp[hts2])) (by simp;omega)
  skip
 ·have qZ:k=g.length:=by omega
  subst qZ;rw[bC0];exact Aw Ab Ab Ab
end Go.Proofs.Wy
end
section
namespace Go.Proofs.Wy
open Go Go.Dm Tryz
attribute [local irreducible] DW Bm Bq
set_option maxRecDepth 100000
theorem SC : ∀{ls:List (List Nd)},(∀l∈ls,LO l=0)->KE ls=0
 | [],_=>rfl
 | l::ls,h=>by
  unfold KE;rw[if_pos (h l aH0)];exact SC fun x hx=>h x (aF0 _ hx)
theorem Bt_ {gt:GT} (h:OkgT gt) {p:ByteArray×RT} (hp:p∈gt):LO (flat p.2)=0:=by
 obtain⟨h1,h2,h3⟩:=aO h hp;obtain⟨t,ht,he,hc⟩:=Dq_ h2 (Ev h1);have:=(PW p.2 t [] [] h1 ht (by rw[he])).1;rw[hc,<-this];exact h3
theorem CY_ {gt:GT} (h:OkgT gt) (s:ByteArray):KE (Hv (AY gt) s)=0:=SC fun l hl=>by
 rw[MR]at hl;obtain⟨t,ht,rfl⟩:=aR0.1 hl;obtain⟨p,hp,rfl⟩:=Th ht;exact Bt_ h hp
theorem Cw_ {gt:GT} (h:OkgT gt) (s:ByteArray):Ce (Hv (AY gt) s)<=64:=by
 have:=Mz (AY gt) s;have:=h.oc;omega
theorem PP {gt:GT} (h:OkgT gt):(Av (AY gt)).length≠0:=by
 intro h0
 cases gt with
 | nil=>have:=h.one;simp at this
 | cons p gt =>
  have h1:p.1∈Av (AY (p::gt)):=KA.2 ⟨⟨p.1,flat p.2⟩,aH0,rfl⟩;rw[cS0.1 h0]at h1;simp at h1
theorem DO_ {gt:GT} (h:OkgT gt) (s:ByteArray):∀ts',Hv (AY gt) s=ts'.map flat->(∀t∈ts',EZ t=true/\(flat t).length<=2048)->ts'=QY gt s:=fun ts' h1 h2=>RE ts' (QY gt s) (fun t ht=>(h2 t ht).1) (fun t ht=>(uK h s t ht).1) (by rw[<-h1,MR])
theorem Xf {gt:GT} (h:OkgT gt) (s:ByteArray):Ae prog 17 [ES (Av (AY gt)) (AC (AY gt)),EI (Hv (AY gt) s)] (.tup [.agg (FQ (Xe (syG (AY gt)) (QY gt s))),.int .i64 0]):=by
 have h1:=CY_ h s;have h2:=Bx_ h s;have h3:=Cw_ h s;have e5:=rA (Av (AY gt)) (AC (AY gt)) (Hv (AY gt) s) (.tup [Br_ (Av (AY gt)) (AC (AY gt)) (QY gt s),.int .i64 0]) (PP h) ⟨fun hh=>absurd h1 hh,fun _ hh=>by rw[h2]at hh;simp at hh,fun _ _ hh=>by omega,fun _ ts' h4 h5 _ _=>by rw[DO_ h s ts' h4 h5]⟩ (by simp[Br_,BA_,mx,AH]);rw[Do_]at e5;exact e5
def OC : Ann:=⟨[21],[⟨8,[9],[],[]⟩,⟨11,[],[0],[]⟩]⟩
theorem rF (g:List Rul) (c:Int) (hc:c≠0) (h:Ae prog 49 [AB g] (.int .i64 c)):Ae prog 27 [AB g] (.tup [.nilp,.int .i64 c]):=by
 have e1:=xX g c hc h;have hcb:(c==0)=false:=by simpa using hc
 refine Ac [] OC func27 call27 ntmps27 mxd (Ar @OC.eq_1 results27) rfl (fun qJ B qX qQ=> ?_);clear qJ;simp only[Ak];exact Aw (AJ e1) Ab (Ar hc hcb)
theorem Zo (gt:GT) (h:OkgT gt) (hs:EE (AY gt)) (hck:Ae prog 49 [AB (AY gt)] (.int .i64 0)):Ae prog 27 [AB (AY gt)] (.tup [Ca (Av (AY gt)) (AC (AY gt)) (Cu gt),.int .i64 0]):=by
 refine Ac [52,21] OC func27 call27 ntmps27 mxd (Ar @OC.eq_1 results27) rfl (fun qJ B qX qQ=> ?_) (hd:=(by simp[mx,Ca,AH,ES]));clear qJ;simp only[Ak];have hgl:=Fi gt;have yL:=h.le;have gP:=EQ (k:=3) hs;have hhd:=h.hd;have hlb:=h.lb;have e1:=eM (AY gt) (by omega) (by omega) (by omega) hck;have e2:=HE (Av (AY gt)) (AC (AY gt));have dC:=QG gt;have haok:=iQ h;obtain⟨R,hR⟩:∃R,R=Ca (Av (AY gt)) (AC (AY gt)) (Cu gt):=⟨_,rfl⟩
 rw[<-hR];have hbx:∀i s,(Av (AY gt))[i]? =some s->_:=fun i s hi=>iR (gt:=gt) hi
 have qR:∀s,_:=fun s=>Kd (AY gt) s (by omega)
 have wM:∀s,_:=fun s=>Xf h s
 obtain⟨A,hA⟩:∃A,A=Cu gt:=⟨_,rfl⟩;rw[<-hA]at hR dC haok hbx;obtain⟨H,hH⟩:∃H,H=Av (AY gt):=⟨_,rfl⟩;rw[<-hH]at e1 e2 hR dC hhd hbx wM;obtain⟨L,hL⟩:∃L,L=AC (AY gt):=⟨_,rfl⟩;rw[<-hL]at e1 e2 hR wM;obtain⟨g,hg⟩:∃g,g=AY gt:=⟨_,rfl⟩;rw[<-hg]at e1 qR wM hbx |-;clear hH hL hck gP hlb hs hA
 (refine AX (Ar e1 e2) Ab Ab ?_;intros;refine Am ?_)
 refine Hu 21 1 52 106 4 64 (by simp) (fun n1=> ?_);refine Al (X:={i:Nat//i<=H.length}) (fun i=>⟨[(0,AB g),(4,ES H L),(6,.bx 21 1 0),(23,Bu H),(24,.int .i64 H.length),(25,.int .i64 i.1)],[⟨21,1,.box [ES H L,.osl 52 1,.int .i64 (AV (A.take i.1))]⟩,⟨52,1,.row 106 4 64 ((Cr 0 (A.take i.1)).map Uq)⟩]⟩) (fun i=>H.length-i.1) ⟨0,by simp⟩ (Sub.lit (by simp[AV,Cr,ES])) ?_;rintro⟨i,hi⟩;simp only
 by_cases qV:i<H.length
 ·obtain⟨s,hx,qA,vN⟩:=Ax qV;have cI:=hbx i s hx;obtain⟨a,ha⟩:∃a,a=Xe (syG g) (QY gt s):=⟨_,rfl⟩;have e3:=qR s;have e4:=wM s;rw[<-ha]at cI e4;have qK:=Pj (haok a (bU0 cI));have yG:=Mv a (A.take i) 0;have dN:=RL (A.take i) a;rw[<-BD cI]at yG dN;have yV:=GS (A.take i) 0;have hsl:=Od (l:=A.take i) fun x hx=>haok x (dI0 hx)
  rw[bD0]at yV hsl;rw[bN0]at yG;obtain⟨T,hT⟩:∃T,T=Cr 0 (A.take i):=⟨_,rfl⟩;obtain⟨S,hS⟩:∃S,S=AV (A.take i):=⟨_,rfl⟩;rw[<-hT]at yG yV |-;rw[<-hS]at yG dN hsl |-;have zA:(Cr 0 (A.take (i+1))).map Uq=T.map Uq++[[.int .i64 a.st,Gk a.fin,FS a.arcs,.int .i64 (S:Int)]]:=by rw[yG,bF0];rfl
  have hb:(T.length+1)*64<=150000000000000:=by omega
  have dO:IntKind.i64.wrap ((i:Int)+1)=(i:Int)+1:=wq;have hws:IntKind.i64.wrap ((S:Int)+a.st)=(AV (A.take (i+1)):Int):=by rw[wq,dN];omega
  simp only[FQ]at e4
  (refine AX (Ar e3 e4) Ab (Mi @AE.eq_1 @FQ.eq_1 qV hx qA hb dO hws) ?_;intros;refine Am ?_)
  refine An.mk ⟨i+1,by omega⟩ (Sub.lit (by simp[zA,ES])) (by simp;omega)
  skip
 ·have qZ:i=H.length:=by omega
  subst qZ;have hAt:A.take H.length=A:=cE0 (by omega);rw[hAt];unfold Ca at hR
  (refine AX Ab Ab Ab ?_;intros;refine Am ?_)
  exact hR.symm
def uU (l:List Auto):List Nat:=(Cr 0 l).map (·.2)
def ntL (l:List Auto):List Nat:=l.zipIdx.flatMap fun p=>List.replicate p.1.st.toNat p.2
def Sl (f:Nat) (x:Arc):Arc:=⟨(f:Int)+x.fr,x.sy,(f:Int)+x.to⟩
def Dc (l:List Auto):List Arc:=(Cr 0 l).flatMap fun p=>p.1.arcs.map (Sl p.2)
theorem Jw (l:List Auto) (a:Auto):Dc (l++[a])=Dc l++a.arcs.map (Sl (AV l)):=by unfold Dc;rw[Mv,List.flatMap_append];simp
theorem Cc_ (l:List Auto):(uU l).length=l.length:=by unfold uU;rw[aO0,GS]
theorem Cy_ (l:List Auto):(ntL l).length=AV l:=by
 unfold ntL AV;rw[List.length_flatMap];simp only[cY0]
 congr 1
 refine List.ext_getElem (by simp) fun i h1 h2=> ?_
 simp
theorem WL : ∀(ts:List RT) (ah:Nat),(KC ah ts).length<=(CB ts).length
 | [],_=>by simp[KC]
 | t::ts,ah=>by
  have h1:(CB (t::ts)).length=(CU (flat t)).length+(CB ts).length:=by simp[CB]
  have h2:=WL ts (ah+(CU (flat t)).length);have h3:((Rk (flat t) (flat t).length).filter (enT t 0)).length<=(Rk (flat t) (flat t).length).length:=cI0 _ _;rw[TI (Nat.le_refl _),Jm]at h3;rw[KC,aB0,aO0];omega
theorem sR (ts:List RT):(IW ts).length<=(CB ts).length+1:=by
 have:=WL ts 0;unfold IW;rw[aB0,aO0]
 split
 ·simp;omega
 ·simp;omega
structure SmA (a:Auto):Prop where
 ok:GC a=true
 fi:a.fin.length<=65
 ar:a.arcs.length<=1073741888
theorem iP {gt:GT} (h:OkgT gt):∀a∈Cu gt,SmA a:=fun a ha=>by
 have qW:=iQ h a ha;obtain⟨s,_,rfl⟩:=aR0.1 ha;refine⟨qW,?_,tM _ _ (fun t ht=>(uK h s t ht).2) (Zv h s)⟩;have h1:=sR (QY gt s);have h2:=Zv h s
 show (IW (QY gt s)).length<=65
 omega
theorem QJ : ∀{l:List Auto},(∀a∈l,SmA a)->∀f,((Cr f l).flatMap fun p=>p.1.arcs.map (Sl p.2)).length<=1073741888*l.length
 | [],_,_=>by simp[Cr]
 | a::l,h,f=>by
  have h1:=(h a aH0).ar;have h2:=QJ (l:=l) (fun x hx=>h x (aF0 _ hx)) (f+a.st.toNat);rw[Cr,cT0,aB0,aO0,List.length_cons];simp only;omega
@[simp] theorem EG_ (l:List Auto):Bo (l.map FQ)=0:=Ie _ Ah_ l
theorem DL_ {j n:Nat} (h1:j<n) (h2:n<=1073741888):IntKind.i64.wrap ((j:Int)+1)=(j:Int)+1:=wq
def JB : Ann:=⟨[5],[]⟩
theorem WZ (l:List Int) (hl:l.length*8<=140737488355328):Bh prog (.func 53) [Gk l] [] (.osl 0 1) [⟨0,1,.row 3 1 8 (l.map Qn)⟩]:=by
 match l,hl with
 | [],_ =>
  refine QS ?_ ?_
  ·refine HQ ?_;refine Ac [] JB func53 call53 ntmps53 mxd (Ar @JB.eq_1 results53) rfl (fun qJ B qX qQ=> ?_);simp only[Ak];exact Aw Ab Ab Ab
  ·refine BI [] [(5,0,1)] JB func53 call53 ntmps53 mxd (Ar @JB.eq_1 results53) rfl (fun qJ B qX qQ=> ?_);simp only[Ak,List.nil_append];exact Aw Ab Ab Ab
 | x::l,hl =>
  refine BI [] [(5,0,1)] JB func53 call53 ntmps53 mxd (Ar @JB.eq_1 results53) rfl (fun qJ B qX qQ=> ?_);simp only[List.length_cons]at hl;have zH:(l.length+1)*8<=150000000000000:=by omega
  have gS:l.length<9223372036854775807:=by omega
  simp only[Ak,List.nil_append,List.map_cons,Gk,Qn];exact Aw Ab Ab Ab
def JA : Ann:=⟨[5],[]⟩
theorem Ny (l:List Arc) (hl:l.length*32<=140737488355328):Bh prog (.func 54) [FS l] [] (.osl 0 1) [⟨0,1,.row 39 4 32 (l.map Cs)⟩]:=by
 match l,hl with
 | [],_ =>
  refine QS ?_ ?_
  ·refine HQ ?_;refine Ac [] JA func54 call54 ntmps54 mxd (Ar @JA.eq_1 results54) rfl (fun qJ B qX qQ=> ?_);simp only[Ak];exact Aw Ab Ab Ab
  ·refine BI [] [(5,0,1)] JA func54 call54 ntmps54 mxd (Ar @JA.eq_1 results54) rfl (fun qJ B qX qQ=> ?_);simp only[Ak,List.nil_append];exact Aw Ab Ab Ab
 | x::l,hl =>
  refine BI [] [(5,0,1)] JA func54 call54 ntmps54 mxd (Ar @JA.eq_1 results54) rfl (fun qJ B qX qQ=> ?_);simp only[List.length_cons]at hl;have zH:(l.length+1)*32<=150000000000000:=by omega
  have gS:l.length<9223372036854775807:=by omega
  simp only[Ak,List.nil_append,List.map_cons,FS,Cs];exact Aw Ab Ab Ab
theorem uZ {α β:Type} {l:List α} {i:Nat} {x:α} (f:α->β) (g:α->α) (h:l[i]? =some x):(((l.take i).map g++l.drop i).map f).set i (f (g x))=((l.take (i+1)).map g++l.drop (i+1)).map f:=by
 obtain⟨hi,rfl⟩:=aG0.1 h;have h2:((l.take i).map g).length=i:=by rw[aO0,bD0];omega
 have h3:((l.take i).map g++l.drop i).set i (g l[i])=(l.take (i+1)).map g++l.drop (i+1):=by
  rw[List.set_append,if_neg (by omega),h2,eH0,aW0 hi,eI0,bP0,aD0 hi,bF0,aT0];rfl
 rw[<-eJ0,h3]
theorem Ej_ {α:Type} {l:List α} {i:Nat} {x:α} (g:α->α) (h:l[i]? =some x):((l.take i).map g++l.drop i)[i]? =some x:=by
 obtain⟨hi,rfl⟩:=aG0.1 h;have h2:((l.take i).map g).length=i:=by rw[aO0,bD0];omega
 rw[aX0 (by omega),h2,eH0,cJ0];simp[hi]
theorem CM_ {α:Type} (l:List α) (i:Nat) (g:α->α) (h:i<=l.length):((l.take i).map g++l.drop i).length=l.length:=by
 rw[aB0,aO0,bD0,cB0];omega
def Rp (g:Arc->Arc) (l:List Arc) (i:Nat):List Arc:=(l.take i).map g++l.drop i
def Rn (f:Nat) (l:List Arc):List Arc:=l.map (Sl f)
theorem rL (g:Arc->Arc) (l:List Arc):Rp g l 0=l:=by simp[Rp]
theorem Ao_ (f:Nat) (l:List Arc):Rp (Sl f) l l.length=Rn f l:=by simp[Rp,Rn]
def lJ : Ann:=⟨[8],[]⟩
theorem Rm (a:Auto) (f:Nat) (h:SmA a) (hf:f<=1040):Ae prog 71 [.agg (Uq (a,f))] (FS (Rn f a.arcs)):=by
 refine Ac [8] lJ func71 call71 ntmps71 mxd (Ar @lJ.eq_1 results71) rfl (fun qJ B qX qQ=> ?_);clear qJ;simp only[Ak];have har:=h.ar;have qK:=Pj h.ok;have e1:=Ny a.arcs (by omega);have z0:=rL (Sl f) a.arcs
 (refine AX Ab (AJ (Ji [] [(8,0)] e1)) (AJ @Uq.eq_1) ?_;intros;refine Am ?_)
 refine Al (X:={i:Nat//i<=a.arcs.length}) (fun i=>⟨[(1,.ref [.int .i64 a.st,Gk a.fin,FS a.arcs,.int .i64 (f:Int)]),(3,.osl 8 1),(10,.int .i64 a.arcs.length),(11,.int .i64 i.1)],[⟨8,1,.row 39 4 32 ((Rp (Sl f) a.arcs i.1).map Cs)⟩]⟩) (fun i=>a.arcs.length-i.1) ⟨0,by simp⟩ (Sub.lit (by simp[z0])) ?_;rintro⟨i,hi⟩;simp only
 by_cases qV:i<a.arcs.length
 ·obtain⟨x,hx,qA,vN⟩:=Ax qV;have hxk:=Pk h.ok vN;have s1:((Rp (Sl f) a.arcs i).map Cs).set i [.int .i64 ((f:Int)+x.fr),.bool x.sy.label,.int .i64 x.sy.n,.int .i64 ((f:Int)+x.to)]=(Rp (Sl f) a.arcs (i+1)).map Cs:=uZ Cs (Sl f) hx;have m1:(Rp (Sl f) a.arcs i)[i]? =some x:=Ej_ (Sl f) hx;have m2:(Rp (Sl f) a.arcs i).length=a.arcs.length:=CM_ a.arcs i (Sl f) hi;obtain⟨Z,hZ⟩:∃Z,Z=Rp (Sl f) a.arcs i:=⟨_,rfl⟩
  rw[<-hZ]at s1 m1 m2 |-;have vI:i<Z.length:=by omega
  have m1':Z[i]'vI=x:=(aG0.1 m1).2;have kS:IntKind.i64.wrap ((i:Int)+1)=(i:Int)+1:=DL_ qV har;have hwq:IntKind.i64.wrap (x.fr+(f:Int))=(f:Int)+x.fr:=by rw[wq];omega
  have gI:IntKind.i64.wrap (x.to+(f:Int))=(f:Int)+x.to:=by rw[wq];omega
  clear qK har hxk hf
  (refine AX Ab Ab (YF @Cs.eq_1 qV m1 m1' vI kS hwq gI s1) ?_;intros;refine Am ?_)
  refine An.mk ⟨i+1,by omega⟩ (Sub.lit (by simp)) (by simp;omega)
  skip
 ·have qZ:i=a.arcs.length:=by omega
  subst qZ;rw[Ao_];exact Aw Ab Ab Ab
def lE : Ann:=⟨[],[]⟩
theorem BT (H L:List ByteArray) (xs:List Auto):Ae prog 41 [Ca H L xs] (.bool true):=by
 refine Ac [] lE func41 call41 ntmps41 mxd (Ar @lE.eq_1 results41) rfl (fun qJ B qX qQ=> ?_);clear qJ;simp only[Ak,Ca];exact Aw Ab Ab Ab
def lG : Ann:=⟨[],[]⟩
theorem QZ (H L:List ByteArray) (xs:List Auto):Ae prog 23 [Ca H L xs] (.int .i64 (AV xs)):=by
 refine Ac [] lG func23 call23 ntmps23 mxd (Ar @lG.eq_1 results23) rfl (fun qJ B qX qQ=> ?_);clear qJ;have e1:=BT H L xs;simp only[Ak,Ca]at e1 |-;exact Aw (AJ e1) Ab Ab
def lD : Ann:=⟨[],[]⟩
theorem PF (H L:List ByteArray):Ae prog 69 [ES H L] (Bu L):=by
 refine Ac [] lD func69 call69 ntmps69 mxd (Ar @lD.eq_1 results69) rfl (fun qJ B qX qQ=> ?_);clear qJ;simp only[Ak];have e1:=DR H L;have e2:=Nw L;exact Aw (Ar e1 e2) Ab Ab
def lI : Ann:=⟨[],[]⟩
theorem Ro (H L:List ByteArray) (xs:List Auto):Ae prog 15 [Ca H L xs] (Bu H):=by
 refine Ac [] lI func15 call15 ntmps15 mxd (Ar @lI.eq_1 results15) rfl (fun qJ B qX qQ=> ?_);clear qJ;have e1:=BT H L xs;have e2:=HE H L;simp only[Ak,Ca]at e1 |-;exact Aw (Ar e1 e2) Ab Ab
def lH : Ann:=⟨[],[]⟩
theorem Pu (H L:List ByteArray) (xs:List Auto):Ae prog 22 [Ca H L xs] (Bu L):=by
 refine Ac [] lH func22 call22 ntmps22 mxd (Ar @lH.eq_1 results22) rfl (fun qJ B qX qQ=> ?_);clear qJ;have e1:=BT H L xs;have e2:=PF H L;simp only[Ak,Ca]at e1 |-;exact Aw (Ar e1 e2) Ab Ab
def MV (P:List (Auto×Nat)):List Arc:=P.flatMap fun p=>Rn p.2 p.1.arcs
theorem tO {P:List (Auto×Nat)} {i:Nat} {p:Auto×Nat} (h:P[i]? =some p):MV (P.take (i+1))=MV (P.take i)++Rn p.2 p.1.arcs:=by
 unfold MV;rw[bP0,h,List.flatMap_append];simp
theorem Xl : ∀{P:List (Auto×Nat)},(∀p∈P,SmA p.1)->(MV P).length<=1073741888*P.length
 | [],_=>by simp[MV]
 | p::P,h=>by
  have h1:=(h p aH0).ar;have h2:=Xl (P:=P) fun x hx=>h x (aF0 _ hx)
  have h3:MV (p::P)=Rn p.2 p.1.arcs++MV P:=by simp[MV]
  rw[h3,aB0,List.length_cons];unfold Rn;rw[aO0];omega
theorem BD_ (xs:List Auto):MV (Cr 0 xs)=Dc xs:=rfl
theorem ID : ∀{xs:List Auto} {f:Nat} {p:Auto×Nat},p∈Cr f xs->p.1∈xs/\p.2<=f+AV xs
 | [],_,_,h=>by simp[Cr]at h
 | a::xs,f,p,h=>by
  have h3:AV (a::xs)=a.st.toNat+AV xs:=by simp[AV]
  rw[Cr]at h
  rcases aJ0.1 h with rfl | h
  ·exact⟨aH0,by simp only;omega⟩
  ·have:=ID h;exact⟨aF0 _ this.1,by omega⟩
theorem FD_ {a b:Nat} (h1:a<=17179870208) (h2:b<=1073741888):(a+b)*32<=150000000000000:=by omega
def LY : Ann:=⟨[],[⟨5,[7],[],[]⟩]⟩
theorem ZK (H L:List ByteArray) (xs:List Auto) (h:∀a∈xs,SmA a) (hl:xs.length<=16):Ae prog 70 [Ca H L xs,.fn (.func 71) [] []] (FS (Dc xs)):=by
 refine Ac [50] LY func70 call70 ntmps70 mxd (Ar @LY.eq_1 results70) rfl (fun qJ B qX qQ=> ?_);clear qJ;have e1:=BT H L xs;have hsl:=Od (l:=xs) fun a ha=>(h a ha).ok
 have hs10:AV xs<=1040:=Nat.le_trans hsl (dT0 65 hl);have yV:=GS xs 0
 have hP:∀p∈Cr 0 xs,SmA p.1/\p.2<=1040:=fun p hp=>by
  have:=ID hp;exact⟨h _ this.1,by omega⟩
 rw[<-BD_];simp only[Ak,Ca]at e1 |-;obtain⟨P,hPP⟩:∃P,P=Cr 0 xs:=⟨_,rfl⟩;rw[<-hPP]at e1 hP yV |-;clear hPP hsl h
 iterate 6 ((first | refine AI fun K hK=> ?_ | (refine BS LY mxd (by kernel_rfl) ?_;simp[LY,qX];try simp (disch:=omega) only[Ai]) | refine Ao ?_ | (refine Bg ?_ ?_ ?_;(· (simp[qX];done));(try (rotate_left;(· (intro hc;(try simp[qX]at hc);done))))) | (refine AL ?_;simp[results70,qX]) | ((first | refine Az ?_ | refine Ay ?_);simp[qX]) | (intro hc;(try simp[qX]at hc);(try (exfalso;omega))) | (refine⟨?_,?_⟩; · omega) | omega | apply_assumption -exfalso -symm | (exfalso;omega)))
 refine Ci 5 50 39 4 32 (by simp[qX,results70,LY]) (fun n=> ?_)
 (refine AX (AJ e1) Ab Ab ?_;intros;refine Am ?_)
 refine Al (X:={i:Nat//i<=P.length}) (fun i=>⟨[(1,.fn (.func 71) [] []),(5,.osl 50 1),(13,tA P),(14,.int .i64 P.length),(15,.int .i64 i.1)],[⟨50,1,.row 39 4 32 ((MV (P.take i.1)).map Cs)⟩]⟩) (fun i=>P.length-i.1) ⟨0,by simp⟩ (Sub.lit (by simp[MV])) ?_;rintro⟨i,hi⟩;simp only
 by_cases qV:i<P.length
 ·obtain⟨p,hp,zS,gO⟩:=Ax qV;obtain⟨k1,k2⟩:=hP p gO;obtain⟨a,f⟩:=p;have e2:=Rm a f k1 k2;have wP:=congrArg (List.map Cs) (tO hp);rw[bF0]at wP;have har:a.arcs.length<=1073741888:=k1.ar;have vT:(Rn f a.arcs).length=a.arcs.length:=by unfold Rn;rw[aO0]
  have gK:=Xl (P:=P.take i) fun x hx=>(hP x (dI0 hx)).1
  have h16:(P.take i).length<=16:=by rw[bD0];omega
  have htl':(MV (P.take i)).length<=17179870208:=Nat.le_trans gK (dT0 1073741888 h16);clear gK;obtain⟨T,hT⟩:∃T,T=MV (P.take i):=⟨_,rfl⟩;rw[<-hT]at wP htl' |-;obtain⟨V,hV⟩:∃V,V=Rn f a.arcs:=⟨_,rfl⟩;simp only at wP;rw[<-hV]at e2 wP vT;have hb:(T.length+V.length)*32<=150000000000000:=FD_ htl' (by omega);have kS:IntKind.i64.wrap ((i:Int)+1)=(i:Int)+1:=wq;simp only[Uq]at e2;clear hP k1 k2 yV hT hV
  (refine AX (AJ e2) Ab (MY @Uq.eq_1 qV hp zS hb kS) ?_;intros;refine Am ?_)
  refine An.mk ⟨i+1,by omega⟩ (Sub.lit (by simp[wP])) (by simp;omega)
  skip
 ·have qZ:i=P.length:=by omega
  subst qZ;rw[bC0];exact Aw Ab Ab Ab
def lF : Ann:=⟨[],[]⟩
theorem Lp (H L:List ByteArray) (xs:List Auto) (h:∀a∈xs,SmA a) (hl:xs.length<=16):Ae prog 25 [Ca H L xs] (FS (Dc xs)):=by
 refine Ac [] lF func25 call25 ntmps25 mxd (Ar @lF.eq_1 results25) rfl (fun qJ B qX qQ=> ?_);clear qJ;have e1:=ZK H L xs h hl;simp only[Ak,Ca]at e1 |-;exact Aw (AJ e1) Ab Ab
theorem Fy_ (g:List Rul) (hs:EE g):∃c:Int,Ae prog 49 [AB g] (.int .i64 c)/\Ae prog 28 [AB g] (.int .i64 c)/\(c=0->∃gt,g=AY gt/\OkgT gt):=by
 by_cases h:g.length<1\/64<g.length
 ·exact⟨180,Rw g h,Pe g h,by omega⟩
 ·cases ht:Eu g with
  | false=>exact⟨170,Xa g (by omega) (by omega) hs ht,TG g (by omega) (by omega) hs ht,by omega⟩
  | true =>
   obtain⟨gt,rfl,hk⟩:=Vb ht;have hl:=Fi gt;exact⟨LG gt,ZQ gt (by omega) (by omega) hk hs,VB gt (by omega) (by omega) hk hs,fun h0=>⟨gt,rfl,Cp_ hk (by omega) (by omega) h0⟩⟩
def UE : Ann:=⟨[],[]⟩
theorem Rq (g:List Rul) (c:Int) (hs:EE g) (hl:g.length*40<=140737488355328) (hc:c≠0) (h1:Ae prog 49 [AB g] (.int .i64 c)) (h2:Ae prog 28 [AB g] (.int .i64 c)):Ae prog 7 [AB g] (.tup [.nilp,.bool true]):=by
 refine Ac [] UE func7 call7 ntmps7 mxd (Ar @UE.eq_1 results7) rfl (fun qJ B qX qQ=> ?_);clear qJ;simp only[Ak];have e1:=Le g hs hl;have e2:=rF g c hc h1;have hcb:(c==0)=false:=by simpa using hc
 exact Aw (GE e1 e2 h2) Ab (Ar hc hcb)
theorem Py (gt:GT) (h:OkgT gt) (hs:EE (AY gt)) (h1:Ae prog 49 [AB (AY gt)] (.int .i64 0)) (h2:Ae prog 28 [AB (AY gt)] (.int .i64 0)):Ae prog 7 [AB (AY gt)] (.tup [Ca (Av (AY gt)) (AC (AY gt)) (Cu gt),.bool true]):=by
 refine Ac [] UE func7 call7 ntmps7 mxd (Ar @UE.eq_1 results7) rfl (fun qJ B qX qQ=> ?_) (hd:=(by simp[mx,Ca,AH]));clear qJ;simp only[Ak];have hgl:=Fi gt;have yL:=h.le;have e1:=Le (AY gt) hs (by omega);have e2:=Zo gt h hs h1;unfold Ca at e2 |-;exact Aw (GE e1 e2 h2) Ab Ab
end Go.Proofs.Wy
end
