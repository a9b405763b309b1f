/- Parts of a proof, laid together: RS0, RS1, RS2, RS3, RS4, RS5. -/
import Derived.Test.YtiojapdolljocaaGreatqMx15
import Derived.Test.YtiojapdolljocaaGreatqMx33
import Derived.Test.YtiojapdolljocaaGreatqMx35
set_option linter.unusedSimpArgs false
set_option maxHeartbeats 8000000
set_option linter.unusedVariables false
set_option linter.unusedSectionVars false
section
namespace Go.Proofs.Wy
open Go Go.Dm Tryz
variable [DMode]
def HE (g:List Rul) (h:ByteArray):List (List Nd):=(g.filter fun r=>decide (r.h=h)).map (·.b)
def Sy (gt:GT) (h:ByteArray):List RT:=(gt.filter fun p=>decide (p.1=h)).map (·.2)
theorem YC (g:List Rul) (r:Rul) (h:ByteArray):HE (g++[r]) h=HE g h++(if r.h=h then [r.b]else []):=by
 unfold HE;rw[cV0,bD0]
 congr 1
 by_cases hr:r.h=h<;>simp[hr]
theorem VT (g:List Rul) (h:ByteArray):(HE g h).length<=g.length:=by unfold HE;rw[aN0];exact cI0 _ _
theorem Sb (gt:GT) (h:ByteArray):HE (Be gt) h=(Sy gt h).map flat:=by
 unfold HE Sy Be;rw[List.filter_map,bY0,bY0];rfl
theorem UC {gt:GT} {h:ByteArray} {t:RT} (ht:t∈Sy gt h):∃p∈gt,p.2=t:=by
 unfold Sy at ht;obtain⟨p,hp,rfl⟩:=aT0.1 ht;exact⟨p,(cE0.1 hp).1,rfl⟩
theorem NK : ∀(g:List Rul) (h:ByteArray),BZ (HE g h)<=CJ g
 | [],h=>by simp[HE,BZ,CJ]
 | r::g,h=>by
  have ih:=NK g h;have h2:CJ (r::g)=FS r.b+CJ g:=by simp[CJ]
  by_cases hr:r.h=h
  ·have h1:HE (r::g) h=r.b::HE g h:=by simp[HE,hr]
   have h3:BZ (r.b::HE g h)=FS r.b+BZ (HE g h):=by simp[BZ]
   rw[h1,h3,h2];omega
  ·have h1:HE (r::g) h=HE g h:=by simp[HE,hr]
   rw[h1,h2];omega
structure OkgT (gt:GT):Prop where
 ok:OkG gt
 one:1<=gt.length
 le:gt.length<=64
 hd:(Ax (Be gt)).length<=16
 lb:(Ay (Be gt)).length<=16
 oc:CJ (Be gt)<=64
 dp:FL gt=false
 ms:(CP (Be gt)).length=0
 tx:(BY gt).size<=2048
theorem EZ_ {gt:GT} (hk:OkG gt) (h1:1<=gt.length) (h2:gt.length<=64) (h:MN gt=0):OkgT gt:=by
 unfold MN at h
 repeat' split at h
 all_goals first
  | omega
  | skip
 rename_i a1 a2 a3 a4 a5 a6;exact⟨hk,h1,h2,by omega,by omega,by omega,by simpa using a4,by omega,by omega⟩
theorem oN {gt:GT} (h:OkgT gt) {p:ByteArray×RT} (hp:p∈gt):Ew p.2=true/\(flat p.2).length<=2048/\Df p.2=0:=by
 have h1:=(h.ok p hp).2;have h2:=WR hp;have h3:=h.tx;have h4:=UB p.2 h1;refine⟨h1,by omega,?_⟩
 have h5:¬16<Jk p.2:=fun hh=>by
  have:FL gt=true:=by unfold FL;rw[cH0];exact⟨p,hp,by simpa using hh⟩
  rw[h.dp]at this;simp at this
 unfold Df;rw[if_neg h5,if_neg (by omega)]
theorem xF {gt:GT} (h:OkgT gt) {p:ByteArray×RT} (hp:p∈gt) {x:Nd} (hx:x∈flat p.2):Qb (Ax (Be gt)) (Ay (Be gt)) x≠4:=by
 have hr:(⟨p.1,flat p.2⟩:Rul)∈Be gt:=aT0.2 ⟨p,hp,rfl⟩;unfold Qb
 split
 ·rename_i h3
  have hm:x.s∈Ay (Be gt):=by
   unfold Ay;rw[(HG _).2];unfold AI Cr;exact bQ0.2 ⟨_,hr,aT0.2 ⟨x,cE0.2 ⟨hx,by simpa using h3⟩,rfl⟩⟩
  unfold Fp;rw[if_pos hm];omega
 ·split
  ·rename_i h2
   have hm:x.s∈Ax (Be gt):=by
    rcases Classical.em (x.s∈Ax (Be gt))with hh | hh
    ·exact hh
    ·exfalso
     have:x.s∈CP (Be gt):=by
      unfold CP;rw[cE0,(HG _).2];refine⟨?_,by simpa using hh⟩;unfold AI Cr;exact bQ0.2 ⟨_,hr,aT0.2 ⟨x,cE0.2 ⟨hx,by simpa using h2⟩,rfl⟩⟩
     have h3:=List.length_pos_of_mem this;have:=h.ms;omega
   unfold Fp;rw[if_pos hm];omega
  ·omega
theorem YG {gt:GT} (h:OkgT gt) (s:ByteArray):(HE (Be gt) s).any (GS (Ax (Be gt)) (Ay (Be gt)))=false:=by
 rw[dQ0];intro hh;rw[cH0]at hh;obtain⟨l,hl,hb⟩:=hh;rw[Sb]at hl;obtain⟨t,ht,rfl⟩:=aT0.1 hl;obtain⟨p,hp,rfl⟩:=UC ht;unfold GS at hb;rw[cH0]at hb;obtain⟨x,hx,jJ⟩:=hb;exact xF h hp hx (by simpa using jJ)
theorem aR {gt:GT} (h:OkgT gt) (s:ByteArray):∀t∈Sy gt s,Ew t=true/\(flat t).length<=2048:=fun t ht=>by
 obtain⟨p,hp,rfl⟩:=UC ht;have:=oN h hp;exact⟨this.1,this.2.1⟩
theorem iK {gt:GT} (h:OkgT gt) (s:ByteArray):(BT (Sy gt s)).length<=64:=by
 rw[<-Gq,<-Sb];have:=NK (Be gt) s;have:=h.oc;omega
def HD (gt:GT):List Auto:=(Ax (Be gt)).map fun s=>VU (Hp (Be gt)) (Sy gt s)
theorem Si (gt:GT):(HD gt).length=(Ax (Be gt)).length:=by simp[HD]
theorem sY {gt:GT} {i:Nat} {s:ByteArray} (h:(Ax (Be gt))[i]? =some s):(HD gt)[i]? =some (VU (Hp (Be gt)) (Sy gt s)):=by unfold HD;rw[bK0,h];rfl
def BE (l:List Auto):Nat:=(l.map fun a=>a.st.toNat).sum
theorem Th (l:List Auto) (a:Auto):BE (l++[a])=BE l+a.st.toNat:=by simp[BE]
theorem sX {gt:GT} (h:OkgT gt):∀a∈HD gt,FG a=true:=fun a ha=>by
 obtain⟨s,_,rfl⟩:=aT0.1 ha;exact FO_ _ _ _ (iK h s)
theorem Pp : ∀{l:List Auto},(∀a∈l,FG a=true)->BE l<=65*l.length
 | [],_=>by simp[BE]
 | a::l,h=>by
  have h1:=Xk (h a aI0);have h2:=Pp (l:=l) fun x hx=>h x (aG0 _ hx)
  have h3:BE (a::l)=a.st.toNat+BE l:=by simp[BE]
  rw[h3,List.length_cons];omega
def DM : Nat->List Auto->List (Auto×Nat)
 | _,[]=>[]
 | f,a::l=>(a,f)::DM (f+a.st.toNat) l
theorem HR (a:Auto):∀(l:List Auto) (f:Nat),DM f (l++[a])=DM f l++[(a,f+BE l)]
 | [],f=>by simp[DM,BE]
 | b::l,f=>by
  have h3:BE (b::l)=b.st.toNat+BE l:=by simp[BE]
  rw[List.cons_append,DM,DM,HR a l,h3,cQ0];rfl
theorem Mj : ∀(l:List Auto) (f:Nat),(DM f l).length=l.length
 | [],_=>rfl
 | a::l,f=>by rw[DM,List.length_cons,List.length_cons,Mj l]
def dPt (p:Auto×Nat):List DVal:=[.int .i64 p.1.st,FM p.1.fin,Cg p.1.arcs,.int .i64 (p.2:Int)]
abbrev Ib_ (l:List (Auto×Nat)):DVal:= .sl 4 64 (l.map dPt)
@[simp] theorem GE_ (p:Auto×Nat):AL (dPt p)=0:=by simp[dPt,AL,mx]
@[simp] theorem Iv_ (l:List (Auto×Nat)):Bp (l.map dPt)=0:=HT _ GE_ l
def DU (H L:List ByteArray) (xs:List Auto):DVal:= .ref [GR H L,Ib_ (DM 0 xs),.int .i64 (BE xs)]
end Go.Proofs.Wy
end
section
namespace Go.Proofs.Wy
open Go Go.Dm Tryz
variable [DMode]
attribute [local irreducible] DW Bs Bt
set_option maxRecDepth 100000
def Nj : Ann:=⟨[],[⟨4,[7],[],[]⟩]⟩
theorem SZ (g:List Rul) (h:ByteArray) (hl:g.length<=64):Ae prog 18 [Ar g,.str h] (Cb (HE g h)):=by
 refine Ac [50] Nj func18 call18 ntmps18 mxd (Au @Nj.eq_1 results18) rfl (fun qJ B qX qQ=> ?_);clear qJ;simp only[Am]
 iterate 6 ((first | refine AJ fun K hK=> ?_ | (refine BV Nj mxd (by kernel_rfl) ?_;simp[Nj,qX];try simp (disch:=omega) only[Al]) | refine Aq ?_ | (refine Bi ?_ ?_ ?_;(· (simp[qX];done));(try (rotate_left;(· (intro hc;(try simp[qX]at hc);done))))) | (refine AN ?_;simp[results18,qX]) | ((first | refine AB ?_ | refine AA ?_);simp[qX]) | (intro hc;(try simp[qX]at hc);(try (exfalso;omega))) | (refine⟨?_,?_⟩; · omega) | omega | apply_assumption -exfalso -symm | (exfalso;omega)))
 refine BO 5 50 63 1 24 (by simp[qX,results18,Nj]) (fun n=> ?_)
 (refine AG Ab Ab Ab ?_;intros;refine Ah ?_)
 refine Ai (X:={k:Nat//k<=g.length}) (fun k=>⟨[(1,.str h),(5,.osl 50 1),(8,Ar g),(9,.int .i64 g.length),(10,.int .i64 k.1)],[⟨50,1,.row 63 1 24 ((HE (g.take k.1) h).map En)⟩]⟩) (fun k=>g.length-k.1) ⟨0,by omega⟩ (Sub.lit (by simp[HE])) ?_;rintro⟨k,hk⟩;simp only
 by_cases qV:k<g.length
 ·obtain⟨r,hr,qG,gR⟩:=Ao qV;have e1:=OL r.b;have zP:=YC (g.take k) r h;rw[<-Bc hr]at zP;have jY:=VT (g.take k) h;rw[bA0]at jY;obtain⟨T,hT⟩:∃T,T=HE (g.take k) h:=⟨_,rfl⟩;rw[<-hT]at zP jY |-;have hb:(T.length+1)*24<=150000000000000:=by omega
  have jC:IntKind.i64.wrap ((k:Int)+1)=(k:Int)+1:=wq
  by_cases hh:r.h=h
  ·rw[if_pos hh]at zP;have yO:(HE (g.take (k+1)) h).map En=T.map En++[[AU r.b]]:=by rw[zP,bD0];rfl
   (refine AG (AD e1) Ab (Iw @BD.eq_1 qV hr qG hh hb jC) ?_;intros;refine Ah ?_)
   refine Aj.mk ⟨k+1,by omega⟩ (Sub.lit (by simp[yO])) (by simp;omega)
   skip
  ·rw[if_neg hh,bO0]at zP;have hh2:(r.h==h)=false:=by simpa using hh
   (refine AG Ab Ab (Iw @BD.eq_1 qV hr qG hh hh2 jC) ?_;intros;refine Ah ?_)
   refine Aj.mk ⟨k+1,by omega⟩ (Sub.lit (by simp[zP])) (by simp;omega)
   skip
 ·have qZ:k=g.length:=by omega
  subst qZ;rw[aW0];exact Av Ab Ab Ab
def Ni : Ann:=⟨[],[]⟩
theorem QB (g:List Rul) (h:ByteArray) (hl:g.length<=64):Ae prog 40 [Ar g,.str h] (Cb (HE g h)):=by
 refine Ac [50] Ni func40 call40 ntmps40 mxd (Au @Ni.eq_1 results40) rfl (fun qJ B qX qQ=> ?_);clear qJ;simp only[Am]
 iterate 6 ((first | refine AJ fun K hK=> ?_ | (refine BV Ni mxd (by kernel_rfl) ?_;simp[Ni,qX];try simp (disch:=omega) only[Al]) | refine Aq ?_ | (refine Bi ?_ ?_ ?_;(· (simp[qX];done));(try (rotate_left;(· (intro hc;(try simp[qX]at hc);done))))) | (refine AN ?_;simp[results40,qX]) | ((first | refine AB ?_ | refine AA ?_);simp[qX]) | (intro hc;(try simp[qX]at hc);(try (exfalso;omega))) | (refine⟨?_,?_⟩; · omega) | omega | apply_assumption -exfalso -symm | (exfalso;omega)))
 refine BO 5 50 63 1 24 (by simp[qX,results40,Ni]) (fun n=> ?_)
 (refine AG Ab Ab Ab ?_;intros;refine Ah ?_)
 refine Ai (X:={k:Nat//k<=g.length}) (fun k=>⟨[(0,Ar g),(1,.str h),(5,.osl 50 1),(6,.int .i64 k.1)],[⟨50,1,.row 63 1 24 ((HE (g.take k.1) h).map En)⟩]⟩) (fun k=>g.length-k.1) ⟨0,by omega⟩ (Sub.lit (by simp[HE])) ?_;rintro⟨k,hk⟩;simp only
 by_cases qV:k<g.length
 ·obtain⟨r,hr,qG,gR⟩:=Ao qV;have zP:=YC (g.take k) r h;rw[<-Bc hr]at zP;have jY:=VT (g.take k) h;rw[bA0]at jY;obtain⟨T,hT⟩:∃T,T=HE (g.take k) h:=⟨_,rfl⟩;rw[<-hT]at zP jY |-;have hb:(T.length+1)*24<=150000000000000:=by omega
  have jC:IntKind.i64.wrap ((k:Int)+1)=(k:Int)+1:=wq
  by_cases hh:r.h=h
  ·rw[if_pos hh]at zP;have yO:(HE (g.take (k+1)) h).map En=T.map En++[[AU r.b]]:=by rw[zP,bD0];rfl
   (refine AG Ab Ab (Iw @BD.eq_1 qV hr qG hh hb jC) ?_;intros;refine Ah ?_)
   refine Aj.mk ⟨k+1,by omega⟩ (Sub.lit (by simp[yO])) (by simp;omega)
   skip
  ·rw[if_neg hh,bO0]at zP;have hh2:(r.h==h)=false:=by simpa using hh
   (refine AG Ab Ab (Iw @BD.eq_1 qV hr qG hh hh2 jC) ?_;intros;refine Ah ?_)
   refine Aj.mk ⟨k+1,by omega⟩ (Sub.lit (by simp[zP])) (by simp;omega)
   skip
 ·have qZ:k=g.length:=by omega
  subst qZ;rw[aW0];exact Av Ab Ab Ab
def We : Ann:=⟨[],[]⟩
theorem Mi (g:List Rul) (hs:EJ g) (hl:g.length*40<=140737488355328):Ae prog 26 [Ar g] (Ar g):=by
 refine Ac [50] We func26 call26 ntmps26 mxd (Au @We.eq_1 results26) rfl (fun qJ B qX qQ=> ?_);clear qJ;simp only[Am]
 (refine AG Ab Ab Ab ?_;intros;refine Ah ?_)
 refine BO 3 50 65 2 40 (by simp[qX,results26,We]) (fun n=> ?_);refine Ai (X:={k:Nat//k<=g.length}) (fun k=>⟨[(0,Ar g),(3,.osl 50 1),(4,.int .i64 k.1)],[⟨50,1,.row 65 2 40 ((g.take k.1).map BD)⟩]⟩) (fun k=>g.length-k.1) ⟨0,by omega⟩ (Sub.lit (by simp)) ?_;rintro⟨k,hk⟩;simp only
 by_cases qV:k<g.length
 ·obtain⟨r,hr,qG,gR⟩:=Ao qV;have e1:=UX r.b (hs r gR);have hts2:List.take (k+1) (List.map BD g)=(g.take k).map BD++[[.str r.h,AU r.b]]:=by rw[<-eK0,Bc hr,bD0];rfl
  have jY:(g.take k).length<=k:=by rw[bA0];omega
  obtain⟨T,hT⟩:∃T,T=g.take k:=⟨_,rfl⟩;rw[<-hT]at hts2 jY |-;have hb:(T.length+1)*40<=150000000000000:=by omega
  have jC:IntKind.i64.wrap ((k:Int)+1)=(k:Int)+1:=wq
  (refine AG (AD e1) Ab (GN @BD.eq_1 qV hr qG hb jC) ?_;intros;refine Ah ?_)
  refine Aj.mk ⟨k+1,by omega⟩ (Sub.lit (by simp[hts2])) (by simp;omega)
  skip
 ·have qZ:k=g.length:=by omega
  subst qZ;rw[aW0];exact Av Ab Ab Ab
end Go.Proofs.Wy
end
section
namespace Go.Proofs.Wy
open Go Go.Dm Tryz
attribute [local irreducible] DW Bs Bt
set_option maxRecDepth 100000
theorem TW : ∀{ls:List (List Nd)},(∀l∈ls,Jg l=0)->HA ls=0
 | [],_=>rfl
 | l::ls,h=>by
  unfold HA;rw[if_pos (h l aI0)];exact TW fun x hx=>h x (aG0 _ hx)
theorem Eg_ {gt:GT} (h:OkgT gt) {p:ByteArray×RT} (hp:p∈gt):Jg (flat p.2)=0:=by
 obtain⟨h1,h2,h3⟩:=oN h hp;obtain⟨t,ht,he,hc⟩:=FQ_ h2 (EV h1);have:=(Rp p.2 t [] [] h1 ht (by rw[he])).1;rw[hc,<-this];exact h3
theorem sK {gt:GT} (h:OkgT gt) (s:ByteArray):HA (HE (Be gt) s)=0:=TW fun l hl=>by
 rw[Sb]at hl;obtain⟨t,ht,rfl⟩:=aT0.1 hl;obtain⟨p,hp,rfl⟩:=UC ht;exact Eg_ h hp
theorem rI {gt:GT} (h:OkgT gt) (s:ByteArray):BZ (HE (Be gt) s)<=64:=by
 have:=NK (Be gt) s;have:=h.oc;omega
theorem BO_ {gt:GT} (h:OkgT gt) (s:ByteArray):Hm (Ax (Be gt)) (Ay (Be gt)) (HE (Be gt) s)=0:=by
 unfold Hm;have:=rI h s;rw[if_pos (sK h s),if_neg (by rw[YG h s];simp),if_neg (by omega)]
theorem Dp_ {gt:GT} (h:OkgT gt):(Ax (Be gt)).length≠0:=by
 intro h0
 cases gt with
 | nil=>have:=h.one;simp at this
 | cons p gt =>
  have h1:p.1∈Ax (Be (p::gt)):=LA.2 ⟨⟨p.1,flat p.2⟩,aI0,rfl⟩;rw[cZ0.1 h0]at h1;simp at h1
theorem BV_ {gt:GT} (h:OkgT gt) (s:ByteArray):∀ts',HE (Be gt) s=ts'.map flat->(∀t∈ts',Ew t=true/\(flat t).length<=2048)->ts'=Sy gt s:=fun ts' h1 h2=>Td ts' (Sy gt s) (fun t ht=>(h2 t ht).1) (fun t ht=>(aR h s t ht).1) (by rw[<-h1,Sb])
theorem Ee_ {gt:GT} (h:OkgT gt) (s:ByteArray):Ae prog 17 [GR (Ax (Be gt)) (Ay (Be gt)),Cb (HE (Be gt) s)] (.tup [.agg (Fw (VU (Hp (Be gt)) (Sy gt s))),.int .i64 0]):=by
 have h1:=sK h s;have h2:=YG h s;have h3:=rI h s;have e5:=An_ (Ax (Be gt)) (Ay (Be gt)) (HE (Be gt) s) (.tup [lO (Ax (Be gt)) (Ay (Be gt)) (Sy gt s),.int .i64 0]) (Dp_ h) ⟨fun hh=>absurd h1 hh,fun _ hh=>by rw[h2]at hh;simp at hh,fun _ _ hh=>by omega,fun _ ts' h4 h5 _ _=>by rw[BV_ h s ts' h4 h5]⟩ (by simp[lO,Ui,mx,AL]);rw[sU]at e5;exact e5
theorem Cq_ {gt:GT} (h:OkgT gt) (hs:EJ (Be gt)) (s:ByteArray):Ae prog 39 [Ar (Be gt),Cb (HE (Be gt) s)] (.tup [.agg (Fw (VU (Hp (Be gt)) (Sy gt s))),.int .i64 0]):=by
 have jD:=VT (Be gt) s;have nI:=Ea gt;have yW:=h.le;have cZ:=DN (k:=3) hs;have e6:=eG (Be gt) (HE (Be gt) s) (.tup [xU (Be gt) (Sy gt s),.int .i64 0]) (by omega) (by simp[xU,Ui,mx,AL]) (fun hh=>absurd (BO_ h s) hh) (fun ts' h4 h5 _ _=>by rw[BV_ h s ts' h4 h5]);rw[<-GV_ (Be gt) (Sy gt s) fun t ht=>(aR h s t ht).1,sU]at e6;exact e6
def PM : Ann:=⟨[21],[⟨8,[9],[],[]⟩,⟨11,[],[0],[]⟩]⟩
theorem Ao_ (g:List Rul) (c:Int) (hc:c≠0) (h:Ae prog 49 [Ar g] (.int .i64 c)):Ae prog 27 [Ar g] (.tup [.nilp,.int .i64 c]):=by
 have e1:=CI_ g c hc h;have hcb:(c==0)=false:=by simpa using hc
 refine Ac [] PM func27 call27 ntmps27 mxd (Au @PM.eq_1 results27) rfl (fun qJ B qX qQ=> ?_);clear qJ;simp only[Am];exact Av (AD e1) Ab (Au hc hcb)
theorem iE (gt:GT) (h:OkgT gt) (hs:EJ (Be gt)) (hck:Ae prog 49 [Ar (Be gt)] (.int .i64 0)):Ae prog 27 [Ar (Be gt)] (.tup [DU (Ax (Be gt)) (Ay (Be gt)) (HD gt),.int .i64 0]):=by
 refine Ac [52,21] PM func27 call27 ntmps27 mxd (Au @PM.eq_1 results27) rfl (fun qJ B qX qQ=> ?_) (hd:=(by simp[mx,DU,AL,GR]));clear qJ;simp only[Am];have nI:=Ea gt;have yW:=h.le;have cZ:=DN (k:=3) hs;have hhd:=h.hd;have hlb:=h.lb;have e1:=Fg_ (Be gt) (by omega) (by omega) (by omega) hck;have e2:=Ms (Ax (Be gt)) (Ay (Be gt));have cG:=Si gt;have haok:=sX h;obtain⟨R,hR⟩:∃R,R=DU (Ax (Be gt)) (Ay (Be gt)) (HD gt):=⟨_,rfl⟩
 rw[<-hR];have pX:∀i s,(Ax (Be gt))[i]? =some s->_:=fun i s hi=>sY (gt:=gt) hi
 have qI:∀s,_:=fun s=>SZ (Be gt) s (by omega)
 have qT:∀s,_:=fun s=>Ee_ h s
 obtain⟨A,hA⟩:∃A,A=HD gt:=⟨_,rfl⟩;rw[<-hA]at hR cG haok pX;obtain⟨H,hH⟩:∃H,H=Ax (Be gt):=⟨_,rfl⟩;rw[<-hH]at e1 e2 hR cG hhd pX qT;obtain⟨L,hL⟩:∃L,L=Ay (Be gt):=⟨_,rfl⟩;rw[<-hL]at e1 e2 hR qT;obtain⟨g,hg⟩:∃g,g=Be gt:=⟨_,rfl⟩;rw[<-hg]at e1 qI qT pX |-;clear hH hL hck cZ hlb hs hA
 (refine AG (Au e1 e2) Ab Ab ?_;intros;refine Ah ?_)
 refine CI 21 1 52 106 4 64 (by simp) (fun n1=> ?_);refine Ai (X:={i:Nat//i<=H.length}) (fun i=>⟨[(0,Ar g),(4,GR H L),(6,.bx 21 1 0),(23,Bv H),(24,.int .i64 H.length),(25,.int .i64 i.1)],[⟨21,1,.box [GR H L,.osl 52 1,.int .i64 (BE (A.take i.1))]⟩,⟨52,1,.row 106 4 64 ((DM 0 (A.take i.1)).map dPt)⟩]⟩) (fun i=>H.length-i.1) ⟨0,by simp⟩ (Sub.lit (by simp[BE,DM,GR])) ?_;rintro⟨i,hi⟩;simp only
 by_cases qV:i<H.length
 ·obtain⟨s,hx,qA,vO⟩:=Ao qV;have rV:=pX i s hx;obtain⟨a,ha⟩:∃a,a=VU (Hp g) (Sy gt s):=⟨_,rfl⟩;have e3:=qI s;have e4:=qT s;rw[<-ha]at rV e4;have wJ:=Xk (haok a (bP0 rV));have zP:=HR a (A.take i) 0;have kO:=Th (A.take i) a;rw[<-Bc rV]at zP kO;have zS:=Mj (A.take i) 0;have hsl:=Pp (l:=A.take i) fun x hx=>haok x (dB0 hx)
  rw[bA0]at zS hsl;rw[bR0]at zP;obtain⟨T,hT⟩:∃T,T=DM 0 (A.take i):=⟨_,rfl⟩;obtain⟨S,hS⟩:∃S,S=BE (A.take i):=⟨_,rfl⟩;rw[<-hT]at zP zS |-;rw[<-hS]at zP kO hsl |-;have vD:(DM 0 (A.take (i+1))).map dPt=T.map dPt++[[.int .i64 a.st,FM a.fin,Cg a.arcs,.int .i64 (S:Int)]]:=by rw[zP,bD0];rfl
  have hb:(T.length+1)*64<=150000000000000:=by omega
  have jC:IntKind.i64.wrap ((i:Int)+1)=(i:Int)+1:=wq;have hws:IntKind.i64.wrap ((S:Int)+a.st)=(BE (A.take (i+1)):Int):=by rw[wq,kO];omega
  simp only[Fw]at e4
  (refine AG (Au e3 e4) Ab (KQ @AH.eq_1 @Fw.eq_1 qV hx qA hb jC hws) ?_;intros;refine Ah ?_)
  refine Aj.mk ⟨i+1,by omega⟩ (Sub.lit (by simp[vD,GR])) (by simp;omega)
  skip
 ·have qZ:i=H.length:=by omega
  subst qZ;have hAt:A.take H.length=A:=cD0 (by omega);rw[hAt];unfold DU at hR
  (refine AG Ab Ab Ab ?_;intros;refine Ah ?_)
  exact hR.symm
def oP (l:List Auto):List Nat:=(DM 0 l).map (·.2)
def ntL (l:List Auto):List Nat:=l.zipIdx.flatMap fun p=>List.replicate p.1.st.toNat p.2
def SJ (f:Nat) (x:Arc):Arc:=⟨(f:Int)+x.fr,x.sy,(f:Int)+x.to⟩
def mvF (f:Nat) (q:Int):Int:=(f:Int)+q
def Rt (l:List Auto):List Int:=(DM 0 l).flatMap fun p=>p.1.fin.map (mvF p.2)
def Ei (l:List Auto):List Arc:=(DM 0 l).flatMap fun p=>p.1.arcs.map (SJ p.2)
theorem Cf_ (l:List Auto) (a:Auto):oP (l++[a])=oP l++[BE l]:=by unfold oP;rw[HR,bD0];simp
theorem CL_ (l:List Auto) (a:Auto):ntL (l++[a])=ntL l++List.replicate a.st.toNat l.length:=by unfold ntL;rw[List.zipIdx_append,eB0];simp
theorem Ba_ (l:List Auto) (a:Auto):Rt (l++[a])=Rt l++a.fin.map (mvF (BE l)):=by unfold Rt;rw[HR,eB0];simp
theorem Um (l:List Auto) (a:Auto):Ei (l++[a])=Ei l++a.arcs.map (SJ (BE l)):=by unfold Ei;rw[HR,eB0];simp
theorem EN_ (l:List Auto):(oP l).length=l.length:=by unfold oP;rw[aN0,Mj]
theorem Fh_ (l:List Auto):(ntL l).length=BE l:=by
 unfold ntL BE;rw[List.length_flatMap];simp only[List.length_replicate]
 congr 1
 refine List.ext_getElem (by simp) fun i h1 h2=> ?_
 simp
theorem Yi : ∀(ts:List RT) (ah:Nat),(Fv ah ts).length<=(BT ts).length
 | [],_=>by simp[Fv]
 | t::ts,ah=>by
  have h1:(BT (t::ts)).length=(Cs (flat t)).length+(BT ts).length:=by simp[BT]
  have h2:=Yi ts (ah+(Cs (flat t)).length);have h3:((FZ (flat t) (flat t).length).filter (MH t 0)).length<=(FZ (flat t) (flat t).length).length:=cI0 _ _;rw[Kq (Nat.le_refl _),GZ]at h3;rw[Fv,aC0,aN0];omega
theorem AX_ (ts:List RT):(Hg ts).length<=(BT ts).length+1:=by
 have:=Yi ts 0;unfold Hg;rw[aC0,aN0]
 split
 ·simp;omega
 ·simp;omega
structure SmA (a:Auto):Prop where
 ok:FG a=true
 fi:a.fin.length<=65
 ar:a.arcs.length<=1073741888
theorem sW {gt:GT} (h:OkgT gt):∀a∈HD gt,SmA a:=fun a ha=>by
 have qW:=sX h a ha;obtain⟨s,_,rfl⟩:=aT0.1 ha;refine⟨qW,?_,Bt_ _ _ (fun t ht=>(aR h s t ht).2) (iK h s)⟩;have h1:=AX_ (Sy gt s);have h2:=iK h s
 show (Hg (Sy gt s)).length<=65
 omega
theorem Yj : ∀{l:List Auto},(∀a∈l,SmA a)->∀f,((DM f l).flatMap fun p=>p.1.fin.map (mvF p.2)).length<=65*l.length
 | [],_,_=>by simp[DM]
 | a::l,h,f=>by
  have h1:=(h a aI0).fi;have h2:=Yj (l:=l) (fun x hx=>h x (aG0 _ hx)) (f+a.st.toNat);rw[DM,dD0,aC0,aN0,List.length_cons];simp only;omega
theorem MY : ∀{l:List Auto},(∀a∈l,SmA a)->∀f,((DM f l).flatMap fun p=>p.1.arcs.map (SJ p.2)).length<=1073741888*l.length
 | [],_,_=>by simp[DM]
 | a::l,h,f=>by
  have h1:=(h a aI0).ar;have h2:=MY (l:=l) (fun x hx=>h x (aG0 _ hx)) (f+a.st.toNat);rw[DM,dD0,aC0,aN0,List.length_cons];simp only;omega
abbrev lH (l:List Auto):DVal:= .sl 3 56 (l.map Fw)
def xT (l:List Auto):DVal:= .agg [.int .i64 (BE l),Cz (oP l),Cz (ntL l),FM (Rt l),Cg (Ei l),lH l]
@[simp] theorem Hg_ (l:List Auto):Bp (l.map Fw)=0:=HT _ CR_ l
theorem Fk_ (j i:Nat):Bp (List.replicate j (Bb i))=0:=by
 have:=HT Bb (by intro x;simp[Bb,AL,mx]) (List.replicate j i)
 rwa[List.map_replicate]at this
theorem Ig_ {a b n:Nat} (h1:a<=17179870208) (h2:b<n) (h3:n<=1073741888):(a+b+1)*32<=150000000000000:=by omega
theorem BQ_ {j n:Nat} (h1:j<n) (h2:n<=1073741888):IntKind.i64.wrap ((j:Int)+1)=(j:Int)+1:=wq
theorem BP_ {S:Nat} {y st:Int} (h1:S<=1040) (h2:0<=y) (h3:y<st) (h4:st<=65):IntKind.i64.wrap ((S:Int)+y)=(S:Int)+y:=wq
theorem Hw {α β:Type} {l:List α} {i:Nat} {x:α} (f:α->β) (h:l[i]? =some x):(l.take (i+1)).map f=(l.take i).map f++[f x]:=by rw[bJ0,h,bD0];rfl
def Et_ : Ann:=⟨[],[⟨6,[6],[],[]⟩,⟨21,[12],[],[]⟩]⟩
theorem Ot (gt:GT) (h:OkgT gt) (hs:EJ (Be gt)):Ae prog 8 [Ar (Be gt)] (xT (HD gt)):=by
 refine Ac [201,202,203,204,205,3,2] Et_ func8 call8 ntmps8 mxd (Au @Et_.eq_1 results8) rfl (fun qJ B qX qQ=> ?_) (hd:=(by simp[mx,xT,AL]));clear qJ;simp only[Am];have nI:=Ea gt;have yW:=h.le;have hhd:=h.hd;have e1:=DK (Be gt);have cG:=Si gt;have kZ:=sW h;obtain⟨R,hR⟩:∃R,R=xT (HD gt):=⟨_,rfl⟩;rw[<-hR];have pX:∀i s,(Ax (Be gt))[i]? =some s->_:=fun i s hi=>sY (gt:=gt) hi
 have qI:∀s,_:=fun s=>QB (Be gt) s (by omega)
 have qT:∀s,_:=fun s=>Cq_ h hs s
 obtain⟨A,hA⟩:∃A,A=HD gt:=⟨_,rfl⟩;rw[<-hA]at hR cG kZ pX;obtain⟨H,hH⟩:∃H,H=Ax (Be gt):=⟨_,rfl⟩;rw[<-hH]at e1 cG hhd pX;obtain⟨g,hg⟩:∃g,g=Be gt:=⟨_,rfl⟩;rw[<-hg]at e1 qI qT pX |-;clear hH hs hA
 (refine AG (AD e1) Ab Ab ?_;intros;refine Ah ?_)
 refine CI 3 1 201 3 1 8 (by simp) (fun n1=> ?_);refine CI 3 2 202 3 1 8 (by simp) (fun n2=> ?_);refine CI 3 3 203 3 1 8 (by simp) (fun n3=> ?_);refine CI 3 4 204 39 4 32 (by simp) (fun n4=> ?_);refine CI 3 5 205 49 3 56 (by simp) (fun n5=> ?_)
 refine Ai (X:={i:Nat//i<=H.length}) (fun i=>⟨[(0,Ar g),(2,.bx 2 1 0),(3,.bx 3 1 0),(4,Bv H),(5,.int .i64 i.1)],
  [⟨2,1,.box [.int .i64 0,.nilsl,.nilsl,.nilsl,.nilsl,.nilsl]⟩,⟨3,1,.box [.int .i64 (BE (A.take i.1)),.osl 201 1,.osl 202 1,.osl 203 1,.osl 204 1,.osl 205 1]⟩,
   ⟨201,1,.row 3 1 8 ((oP (A.take i.1)).map Bb)⟩,⟨202,1,.row 3 1 8 ((ntL (A.take i.1)).map Bb)⟩,⟨203,1,.row 3 1 8 ((Rt (A.take i.1)).map IR)⟩,⟨204,1,.row 39 4 32 ((Ei (A.take i.1)).map AW)⟩,⟨205,1,.row 49 3 56 ((A.take i.1).map Fw)⟩]⟩) (fun i=>H.length-i.1) ⟨0,by simp⟩ (Sub.lit (by simp[BE,oP,ntL,Rt,Ei,DM])) ?_
 rintro⟨i,hi⟩;simp only
 by_cases qV:i<H.length
 ·obtain⟨s,hx,qA,vO⟩:=Ao qV;have rV:=pX i s hx;obtain⟨a,ha⟩:∃a,a=VU (Hp g) (Sy gt s):=⟨_,rfl⟩;have e3:=qI s;have e4:=qT s;rw[<-ha]at rV e4;have hsa:=kZ a (bP0 rV);have wJ:=Xk hsa.ok;have kO:=Th (A.take i) a;have cP:=Cf_ (A.take i) a;have yO:=CL_ (A.take i) a;have hs3:=Ba_ (A.take i) a;have hs4:=Um (A.take i) a;rw[<-Bc rV]at kO cP yO hs3 hs4;have hs5:List.take (i+1) (List.map Fw A)=(A.take i).map Fw++[[.int .i64 a.st,FM a.fin,Cg a.arcs]]:=by rw[<-eK0,Hw Fw rV];rfl
  have hmt:∀x∈A.take i,SmA x:=fun x hx=>kZ x (dB0 hx)
  have hsl:=Pp (l:=A.take i) fun x hx=>(hmt x hx).ok
  have yK:=EN_ (A.take i);have zL:=Fh_ (A.take i);have gA:=Yj hmt 0;have hl4:=MY hmt 0;have hl5:(A.take i).length=i:=by rw[bA0];omega
  rw[hl5]at hsl yK gA hl4 yO;have hi16:i<=16:=by omega
  have hl3':(Rt (A.take i)).length<=1040:=Nat.le_trans (show _<=65*i from gA) (dM0 65 hi16);have hl4':(Ei (A.take i)).length<=17179870208:=Nat.le_trans (show _<=1073741888*i from hl4) (dM0 1073741888 hi16);have hsl':BE (A.take i)<=1040:=Nat.le_trans hsl (dM0 65 hi16);clear gA hl4 hsl;obtain⟨S,hS⟩:∃S,S=BE (A.take i):=⟨_,rfl⟩;rw[<-hS]at kO hsl' cP hs3 hs4 zL |-;obtain⟨T1,hT1⟩:∃T,T=oP (A.take i):=⟨_,rfl⟩;obtain⟨T2,hT2⟩:∃T,T=ntL (A.take i):=⟨_,rfl⟩
  obtain⟨T3,hT3⟩:∃T,T=Rt (A.take i):=⟨_,rfl⟩;obtain⟨T4,hT4⟩:∃T,T=Ei (A.take i):=⟨_,rfl⟩;obtain⟨T5,hT5⟩:∃T,T=A.take i:=⟨_,rfl⟩;rw[<-hT1]at cP yK |-;rw[<-hT2]at yO zL |-;rw[<-hT3]at hs3 hl3' |-;rw[<-hT4]at hs4 hl4' |-;rw[<-hT5]at hs5 hl5 |-;clear hT1 hT2 hT3 hT4 hT5 hmt hS;have fQ:=congrArg (List.map Bb) cP;have kW:=congrArg (List.map Bb) yO;have gU:=congrArg (List.map IR) hs3;have hq4:=congrArg (List.map AW) hs4
  rw[bD0]at fQ kW gU hq4;have hb1':(T1.length+1)*8<=150000000000000:=by omega
  have hb5':(T5.length+1)*56<=150000000000000:=by omega
  have jC:IntKind.i64.wrap ((i:Int)+1)=(i:Int)+1:=wq;simp only[Fw]at e4
  (refine AG (Au e3 e4) Ab (Iw @AH.eq_1 @Fw.eq_1 qV hx qA hb1' hb5') ?_;intros;refine Ah ?_)
  refine Ai (X:={j:Nat//j<=a.st.toNat}) (fun j=>⟨[(0,Ar g),(2,.bx 2 1 0),(3,.bx 3 1 0),(4,Bv H),(5,.int .i64 i),(6,.ref [.int .i64 a.st,FM a.fin,Cg a.arcs]),(8,.int .i64 (S:Int)),(9,.int .i64 j.1)],
    [⟨2,1,.box [.int .i64 0,.nilsl,.nilsl,.nilsl,.nilsl,.nilsl]⟩,⟨3,1,.box [.int .i64 (S:Int),.osl 201 1,.osl 202 1,.osl 203 1,.osl 204 1,.osl 205 1]⟩,
     ⟨201,1,.row 3 1 8 (T1.map Bb++[[.int .i64 (S:Int)]])⟩,⟨202,1,.row 3 1 8 (T2.map Bb++List.replicate j.1 (Bb i))⟩,⟨203,1,.row 3 1 8 (T3.map IR)⟩,⟨204,1,.row 39 4 32 (T4.map AW)⟩,⟨205,1,.row 49 3 56 (T5.map Fw++[[.int .i64 a.st,FM a.fin,Cg a.arcs]])⟩]⟩) (fun j=>a.st.toNat-j.1) ⟨0,by simp⟩ (Sub.lit (by simp)) ?_
  rintro⟨j,hj⟩;simp only
  by_cases qL:j<a.st.toNat
  · have mH:List.replicate (j+1) (Bb i)=List.replicate j (Bb i)++[[.int .i64 (i:Int)]]:=by rw[List.replicate_succ'];rfl
    have hZm:=Fk_ j i;have hji:(j:Int)<a.st:=by omega
    have kB:(List.replicate j (Bb i)).length=j:=by simp
    obtain⟨Z,hZ⟩:∃Z,Z=List.replicate j (Bb i):=⟨_,rfl⟩;rw[<-hZ]at mH kB hZm |-;have mW:(T2.length+Z.length+1)*8<=150000000000000:=by omega
    have nU:IntKind.i64.wrap ((j:Int)+1)=(j:Int)+1:=wq
    (refine AG Ab Ab (CD hji mW nU) ?_;intros;refine Ah ?_)
    refine Aj.mk ⟨j+1,by omega⟩ (Sub.lit (by simp[mH,hZm])) (by simp;omega)
    skip
  · have qZ:j=a.st.toNat:=by omega
    subst qZ;have hji:¬((a.st.toNat:Nat):Int)<a.st:=by omega
    (refine AG Ab Ab (AD hji) ?_;intros;refine Ah ?_)
    rw[List.map_replicate]at kW;obtain⟨FA,hFA⟩:∃FA,FA=a.fin.map (mvF S):=⟨_,rfl⟩;obtain⟨AR,hAR⟩:∃AR,AR=a.arcs.map (SJ S):=⟨_,rfl⟩;have hFl:FA.length=a.fin.length:=by rw[hFA,aN0]
    have hAl:AR.length=a.arcs.length:=by rw[hAR,aN0]
    rw[<-hFA]at gU;rw[<-hAR]at hq4;obtain⟨U1,hU1⟩:∃U,U=T1.map Bb++[[.int .i64 (S:Int)]]:=⟨_,rfl⟩;have gT:Bp U1=0:=by rw[hU1];simp[Bp,AL,mx]
    obtain⟨U2,hU2⟩:∃U,U=T2.map Bb++List.replicate a.st.toNat (Bb i):=⟨_,rfl⟩;have gS:Bp U2=0:=by rw[hU2,<-List.map_replicate,<-bD0];exact HT Bb (by intro x;simp[Bb,AL,mx]) _
    obtain⟨U5,hU5⟩:∃U,U=T5.map Fw++[[.int .i64 a.st,FM a.fin,Cg a.arcs]]:=⟨_,rfl⟩;have hm5:Bp U5=0:=by rw[hU5,<-hs5];rw[<-eK0];simp
    have hq1':List.map Bb (oP (List.take (i+1) A))=U1:=by rw[hU1,fQ];rfl
    rw[<-hU2]at kW;rw[<-hU5]at hs5;rw[<-hU1,<-hU2,<-hU5]
    refine Ai (X:={j:Nat//j<=a.fin.length}) (fun j=>⟨[(0,Ar g),(2,.bx 2 1 0),(3,.bx 3 1 0),(4,Bv H),(5,.int .i64 i),(6,.ref [.int .i64 a.st,FM a.fin,Cg a.arcs]),(8,.int .i64 (S:Int)),(10,.int .i64 j.1)],
      [⟨2,1,.box [.int .i64 0,.nilsl,.nilsl,.nilsl,.nilsl,.nilsl]⟩,⟨3,1,.box [.int .i64 (S:Int),.osl 201 1,.osl 202 1,.osl 203 1,.osl 204 1,.osl 205 1]⟩,
       ⟨201,1,.row 3 1 8 U1⟩,⟨202,1,.row 3 1 8 U2⟩,⟨203,1,.row 3 1 8 (T3.map IR++(FA.take j.1).map IR)⟩,⟨204,1,.row 39 4 32 (T4.map AW)⟩,⟨205,1,.row 49 3 56 U5⟩]⟩) (fun j=>a.fin.length-j.1) ⟨0,by simp⟩ (Sub.lit (by simp[gT,gS,hm5])) ?_
    rintro⟨j,hj⟩;simp only
    by_cases yQ:j<a.fin.length
    · obtain⟨q,hq,vY,pD⟩:=Ao yQ
      have hqk:=Gx_ hsa.ok pD;have hFj:FA[j]? =some ((S:Int)+q):=by rw[hFA,bK0,hq];rfl
      have mH:List.take (j+1) (List.map IR FA)=(FA.take j).map IR++[[.int .i64 ((S:Int)+q)]]:=by rw[<-eK0,Hw IR hFj];rfl
      have kB:(FA.take j).length=j:=by rw[bA0];omega
      obtain⟨Z,hZ⟩:∃Z,Z=FA.take j:=⟨_,rfl⟩;rw[<-hZ]at mH kB |-;have hfi:=hsa.fi;have mW:(T3.length+Z.length+1)*8<=150000000000000:=by omega
      have nU:IntKind.i64.wrap ((j:Int)+1)=(j:Int)+1:=wq;have jV:IntKind.i64.wrap ((S:Int)+q)=(S:Int)+q:=wq
      (refine AG Ab Ab (Iw @IR.eq_1 yQ hq vY mW nU jV) ?_;intros;refine Ah ?_)
      refine Aj.mk ⟨j+1,by omega⟩ (Sub.lit (by simp[mH,gT,gS,hm5])) (by simp;omega)
      skip
    · have qZ:j=a.fin.length:=by omega
      subst qZ;rw[show List.take a.fin.length FA=FA from cD0 (by omega),<-gU]
      (refine AG Ab Ab Ab ?_;intros;refine Ah ?_)
      refine Ai (X:={j:Nat//j<=a.arcs.length}) (fun j=>⟨[(0,Ar g),(2,.bx 2 1 0),(3,.bx 3 1 0),(4,Bv H),(5,.int .i64 i),(6,.ref [.int .i64 a.st,FM a.fin,Cg a.arcs]),(8,.int .i64 (S:Int)),(11,.int .i64 j.1)],
        [⟨2,1,.box [.int .i64 0,.nilsl,.nilsl,.nilsl,.nilsl,.nilsl]⟩,⟨3,1,.box [.int .i64 (S:Int),.osl 201 1,.osl 202 1,.osl 203 1,.osl 204 1,.osl 205 1]⟩,
         ⟨201,1,.row 3 1 8 U1⟩,⟨202,1,.row 3 1 8 U2⟩,⟨203,1,.row 3 1 8 ((Rt (A.take (i+1))).map IR)⟩,⟨204,1,.row 39 4 32 (T4.map AW++(AR.take j.1).map AW)⟩,⟨205,1,.row 49 3 56 U5⟩]⟩) (fun j=>a.arcs.length-j.1) ⟨0,by simp⟩ (Sub.lit (by simp[gT,gS,hm5])) ?_
      rintro⟨j,hj⟩;simp only
      by_cases nF:j<a.arcs.length
      · obtain⟨x,hx,qA,vO⟩:=Ao nF
        have fK:=NI hsa.ok vO;have hAj:AR[j]? =some (SJ S x):=by rw[hAR,bK0,hx];rfl
        have mH:List.take (j+1) (List.map AW AR)=(AR.take j).map AW++[[.int .i64 ((S:Int)+x.fr),.bool x.sy.label,.int .i64 x.sy.n,.int .i64 ((S:Int)+x.to)]]:=by rw[<-eK0,Hw AW hAj];rfl
        have kB:(AR.take j).length=j:=by rw[bA0];omega
        obtain⟨Z,hZ⟩:∃Z,Z=AR.take j:=⟨_,rfl⟩;rw[<-hZ]at mH kB |-;have har:=hsa.ar;have mW:(T4.length+Z.length+1)*32<=150000000000000:=Ig_ hl4' (by rw[kB];exact nF) har;have nU:IntKind.i64.wrap ((j:Int)+1)=(j:Int)+1:=BQ_ nF har;have jV:IntKind.i64.wrap ((S:Int)+x.fr)=(S:Int)+x.fr:=BP_ hsl' fK.1 fK.2.1 wJ.2;have gC:IntKind.i64.wrap ((S:Int)+x.to)=(S:Int)+x.to:=BP_ hsl' fK.2.2.1 fK.2.2.2 wJ.2
        (refine AG Ab Ab (KQ @AW.eq_1 nF hx qA mW nU jV gC) ?_;intros;refine Ah ?_)
        refine Aj.mk ⟨j+1,by omega⟩ (Sub.lit (by simp[mH,gT,gS,hm5])) (by simp;omega)
        skip
      · have qZ:j=a.arcs.length:=by omega
        subst qZ;rw[show List.take a.arcs.length AR=AR from cD0 (by omega),<-hq4];have hws:IntKind.i64.wrap ((S:Int)+a.st)=(BE (A.take (i+1)):Int):=by rw[wq,kO];omega
        (refine AG Ab Ab (Au hws jC) ?_;intros;refine Ah ?_)
        refine Aj.mk ⟨i+1,by omega⟩ (Sub.lit (by simp[hq1',kW,hs5,gT,gS,hm5])) (by simp;omega)
        skip
 ·have qZ:i=H.length:=by omega
  subst qZ;have hAt:A.take H.length=A:=cD0 (by omega);rw[hAt];unfold xT at hR
  (refine AG Ab Ab Ab ?_;intros;refine Ah ?_)
  rw[hR];exact oI (.agg [.int .i64 (BE A),Cz (oP A),Cz (ntL A),FM (Rt A),Cg (Ei A),lH A])
def KE : Ann:=⟨[5],[]⟩
theorem Yx (l:List Arc) (hl:l.length*32<=140737488355328):Bn prog (.func 54) [Cg l] [] (.osl 0 1) [⟨0,1,.row 39 4 32 (l.map AW)⟩]:=by
 match l,hl with
 | [],_ =>
  refine aE ?_ ?_
  ·refine Nr ?_;refine Ac [] KE func54 call54 ntmps54 mxd (Au @KE.eq_1 results54) rfl (fun qJ B qX qQ=> ?_);simp only[Am];exact Av Ab Ab Ab
  ·refine Cd [] [(5,0,1)] KE func54 call54 ntmps54 mxd (Au @KE.eq_1 results54) rfl (fun qJ B qX qQ=> ?_);simp only[Am,List.nil_append];exact Av Ab Ab Ab
 | x::l,hl =>
  refine Cd [] [(5,0,1)] KE func54 call54 ntmps54 mxd (Au @KE.eq_1 results54) rfl (fun qJ B qX qQ=> ?_);simp only[List.length_cons]at hl;have zL:(l.length+1)*32<=150000000000000:=by omega
  have gA:l.length<9223372036854775807:=by omega
  simp only[Am,List.nil_append,List.map_cons,Cg,AW];exact Av Ab Ab Ab
theorem Ck_ {α β:Type} {l:List α} {i:Nat} {x:α} (f:α->β) (g:α->α) (h:l[i]? =some x):(((l.take i).map g++l.drop i).map f).set i (f (g x))=((l.take (i+1)).map g++l.drop (i+1)).map f:=by
 obtain⟨hi,rfl⟩:=aB0.1 h;have h2:((l.take i).map g).length=i:=by rw[aN0,bA0];omega
 have h3:((l.take i).map g++l.drop i).set i (g l[i])=(l.take (i+1)).map g++l.drop (i+1):=by
  rw[List.set_append,if_neg (by omega),h2,eG0,aS0 hi,eR0,bJ0,aE0 hi,bD0,aV0];rfl
 rw[<-eS0,h3]
theorem GK_ {α:Type} {l:List α} {i:Nat} {x:α} (g:α->α) (h:l[i]? =some x):((l.take i).map g++l.drop i)[i]? =some x:=by
 obtain⟨hi,rfl⟩:=aB0.1 h;have h2:((l.take i).map g).length=i:=by rw[aN0,bA0];omega
 rw[bB0 (by omega),h2,eG0,cL0];simp[hi]
theorem Fv_ {α:Type} (l:List α) (i:Nat) (g:α->α) (h:i<=l.length):((l.take i).map g++l.drop i).length=l.length:=by
 rw[aC0,aN0,bA0,cF0];omega
def SM (g:Arc->Arc) (l:List Arc) (i:Nat):List Arc:=(l.take i).map g++l.drop i
def SL (f:Nat) (l:List Arc):List Arc:=l.map (SJ f)
theorem At_ (g:Arc->Arc) (l:List Arc):SM g l 0=l:=by simp[SM]
theorem CY_ (f:Nat) (l:List Arc):SM (SJ f) l l.length=SL f l:=by simp[SM,SL]
def tJ : Ann:=⟨[8],[]⟩
theorem SK (a:Auto) (f:Nat) (h:SmA a) (hf:f<=1040):Ae prog 71 [.agg (dPt (a,f))] (Cg (SL f a.arcs)):=by
 refine Ac [8] tJ func71 call71 ntmps71 mxd (Au @tJ.eq_1 results71) rfl (fun qJ B qX qQ=> ?_);clear qJ;simp only[Am];have har:=h.ar;have wJ:=Xk h.ok;have e1:=Yx a.arcs (by omega);have z0:=At_ (SJ f) a.arcs
 (refine AG Ab (AD (KV [] [(8,0)] e1)) (AD @dPt.eq_1) ?_;intros;refine Ah ?_)
 refine Ai (X:={i:Nat//i<=a.arcs.length}) (fun i=>⟨[(1,.ref [.int .i64 a.st,FM a.fin,Cg a.arcs,.int .i64 (f:Int)]),(3,.osl 8 1),(10,.int .i64 a.arcs.length),(11,.int .i64 i.1)],[⟨8,1,.row 39 4 32 ((SM (SJ f) a.arcs i.1).map AW)⟩]⟩) (fun i=>a.arcs.length-i.1) ⟨0,by simp⟩ (Sub.lit (by simp[z0])) ?_;rintro⟨i,hi⟩;simp only
 by_cases qV:i<a.arcs.length
 ·obtain⟨x,hx,qA,vO⟩:=Ao qV;have fK:=NI h.ok vO;have s1:((SM (SJ f) a.arcs i).map AW).set i [.int .i64 ((f:Int)+x.fr),.bool x.sy.label,.int .i64 x.sy.n,.int .i64 ((f:Int)+x.to)]=(SM (SJ f) a.arcs (i+1)).map AW:=Ck_ AW (SJ f) hx;have m1:(SM (SJ f) a.arcs i)[i]? =some x:=GK_ (SJ f) hx;have m2:(SM (SJ f) a.arcs i).length=a.arcs.length:=Fv_ a.arcs i (SJ f) hi;obtain⟨Z,hZ⟩:∃Z,Z=SM (SJ f) a.arcs i:=⟨_,rfl⟩
  rw[<-hZ]at s1 m1 m2 |-;have zM:i<Z.length:=by omega
  have m1':Z[i]'zM=x:=(aB0.1 m1).2;have wC:IntKind.i64.wrap ((i:Int)+1)=(i:Int)+1:=BQ_ qV har;have jV:IntKind.i64.wrap (x.fr+(f:Int))=(f:Int)+x.fr:=by rw[wq];omega
  have gC:IntKind.i64.wrap (x.to+(f:Int))=(f:Int)+x.to:=by rw[wq];omega
  clear wJ har fK hf
  (refine AG Ab Ab (Ut @AW.eq_1 qV m1 m1' zM wC jV gC s1) ?_;intros;refine Ah ?_)
  refine Aj.mk ⟨i+1,by omega⟩ (Sub.lit (by simp)) (by simp;omega)
  skip
 ·have qZ:i=a.arcs.length:=by omega
  subst qZ;rw[CY_];exact Av Ab Ab Ab
end Go.Proofs.Wy
end
