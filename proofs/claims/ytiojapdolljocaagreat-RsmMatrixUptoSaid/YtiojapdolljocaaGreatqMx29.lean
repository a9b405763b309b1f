/- Parts of a proof, laid together: BN2, BN5, BN6, BN7. -/
import Derived.Shelf.SlIter.Nil
import Derived.Shelf.SlIter.Sorted
import Derived.Shelf.SortM.Plain
import Derived.Shelf.SortM.SortNone
import Derived.Test.YtiojapdolljocaaGreatqMx15
import Derived.Test.YtiojapdolljocaaGreatqMx23
import Derived.Test.YtiojapdolljocaaGreatqMx27
import Derived.Test.YtiojapdolljocaaGreatqMx28
set_option linter.unusedSimpArgs false
set_option maxHeartbeats 8000000
set_option linter.unusedVariables false
set_option linter.unusedSectionVars false
section
namespace Go.Proofs.Wy
open Go Go.Dm Tryz
variable [DMode]
attribute [local irreducible] DW Bs Bt
set_option maxRecDepth 100000
def ZR : Ann:=⟨[],[]⟩
theorem Rl (s:ByteArray):Ae prog 142 [.str s] (.bool (Dn 2 s)):=by
 refine Ac [] ZR func142 call142 ntmps142 mxd (Au @ZR.eq_1 results142) rfl (fun qJ B qX qQ=> ?_);clear qJ;simp only[Am];have e1:=SY 2 (.inl rfl) s;simp only[BS]at e1;cases h:Dn 2 s
 ·rw[h]at e1;exact Av (AD e1) Ab Ab
 ·rw[h]at e1;exact Av (AD e1) Ab Ab
def Nm : Ann:=⟨[],[]⟩
theorem Pa (g:FuncId) (us cs:List DVal) (l:List Rul) (q:Rul->Bool) (hq:∀x∈l,Ae prog g (us++[.agg (BD x)]++cs) (.bool (q x))) :
  Ae prog 192 [Ar l,.fn (.func g) us cs] (.int .i64 (if l.any q then ((l.findIdx q:Nat):Int)else -1)):=by
 refine Ac [] Nm func192 call192 ntmps192 mxd (Au @Nm.eq_1 results192) rfl (fun qJ B qX qQ=> ?_);have vQ:=JJ qJ.1;clear qJ;simp only[Am]
 (refine AG Ab Ab Ab ?_;intros;refine Ah ?_)
 refine Ai (X:={k:Nat//k<=l.length/\∀i x,i<k->l[i]? =some x->q x=false}) (fun x=>⟨[(0,Ar l),(1,.fn (.func g) us cs),(7,.int .i64 l.length),(8,.int .i64 x.1)],[]⟩) (fun x=>l.length-x.1) ⟨0,by simp⟩ (Sub.lit (by simp)) ?_;rintro⟨k,hk,vI⟩
 by_cases qV:k<l.length
 ·obtain⟨x,hx,qA,vO⟩:=Ao qV;have hqx:=hq x vO;simp only[BD,aV0,List.cons_append,List.nil_append]at hqx;cases hb:q x
  ·rw[hb]at hqx
   have hno':∀i y,i<k+1->l[i]? =some y->q y=false:=by
    intro i y hi hy
    by_cases mR:i=k
    ·subst mR;rw[hx]at hy;simp only[aA0]at hy;subst hy;exact hb
    ·exact vI i y (by omega) hy
   (refine AG (AD hqx) Ab (CD @BD.eq_1 qV qA) ?_;intros;refine Ah ?_)
   exact Aj.mk ⟨k+1,by omega,hno'⟩ (Sub.lit (by simp[])) (by simp;omega)
   skip
  ·rw[hb]at hqx;have yJ:l.any q=true:=cH0.2 ⟨x,vO,hb⟩
   have hidx:l.findIdx q=k:=by
    rw[List.findIdx_eq qV];refine⟨by rw[qA];exact hb,fun i hi=> ?_⟩;exact vI i _ hi (aE0 (by omega))
   exact Av (AD hqx) Ab (Jh @BD.eq_1 qV qA yJ hidx)
 ·have qZ:k=l.length:=by omega
  have yJ:l.any q=false:=by
   rw[eY0];intro x hx;obtain⟨i,hi,rfl⟩:=bX0 hx;rw[vI i _ (by omega) (aE0 hi)];simp
  (repeat (first | refine AJ fun K hK=> ?_ | (refine BV Nm mxd (by kernel_rfl) ?_;simp[Nm,qX,BD,qZ,yJ];try simp (disch:=omega) only[Al]) | refine Aq ?_ | (refine Bi ?_ ?_ ?_;(· (simp[qX,BD,qZ,yJ];done));(try (rotate_left;(· (intro hc;(try simp[qX,BD,qZ,yJ]at hc);done))))) | (refine AN ?_;simp[results192,qX,BD,qZ,yJ]) | ((first | refine AB ?_ | refine AA ?_);simp[qX,BD,qZ,yJ]) | (intro hc;(try simp[qX,BD,qZ,yJ]at hc);(try (exfalso;omega))) | ((first | refine Ag (hqx) ?_ | (refine Af (hqx) ?_ ?_;(· (simp;done))));try simp[qX,BD,qZ,yJ]) | (refine⟨?_,?_⟩; · omega) | omega | apply_assumption -exfalso -symm | (exfalso;omega)))
def ZU : Ann:=⟨[],[]⟩
theorem LI (g:FuncId) (us cs:List DVal) (l:List Rul) (q:Rul->Bool) (hq:∀x∈l,Ae prog g (us++[.agg (BD x)]++cs) (.bool (q x))) :
  Ae prog 139 [Ar l,.fn (.func g) us cs] (.bool (l.any q)):=by
 refine Ac [] ZU func139 call139 ntmps139 mxd (Au @ZU.eq_1 results139) rfl (fun qJ B qX qQ=> ?_);simp only[Am];have hi:=Pa g us cs l q hq;have fH:(0:Int)<=(l.findIdx q:Nat):=by omega
 cases hb:l.any q
 ·rw[hb]at hi;exact Av (AD hi) Ab (AD hb)
 ·rw[hb]at hi;exact Av (AD hi) Ab (AD hb)
def YH (r:Rul):Bool:= !(Dn 2 r.h&&Dd r.b)
def ZS : Ann:=⟨[],[]⟩
theorem Tt (r:Rul) (hs:r.b.length<=1572864):Ae prog 141 [.agg (BD r)] (.bool (YH r)):=by
 refine Ac [] ZS func141 call141 ntmps141 mxd (Au @ZS.eq_1 results141) rfl (fun qJ B qX qQ=> ?_);clear qJ;simp only[Am];have e1:=Rl r.h;unfold YH;cases h1:Dn 2 r.h
 ·rw[h1]at e1;exact Av (AD e1) Ab (AD @BD.eq_1)
 ·rw[h1]at e1;cases h2:Dd r.b
  ·have e2:=VB r.b hs h2;exact Av (Au e1 e2) Ab (AD @BD.eq_1)
  ·obtain⟨t,ht,hb⟩:=Ll h2;have e2:=Le t ht (by rw[<-hb];exact hs);rw[<-hb]at e2;have hp:1<=Jk t:=by cases t;rw[Vz];omega
   have qF:((Jk t:Int)==0)=false:=by simp;omega
   exact Av (Au e1 e2) Ab (Au @BD.eq_1 qF)
def ZO : Ann:=⟨[],[]⟩
theorem Ag_ (h:ByteArray) (t:RT) (ht:Ew t=true) (hs:(flat t).length<=1572864):Ae prog 148 [.agg (BD ⟨h,flat t⟩)] (.bool (decide (16<Jk t))):=by
 refine Ac [] ZO func148 call148 ntmps148 mxd (Au @ZO.eq_1 results148) rfl (fun qJ B qX qQ=> ?_);clear qJ;simp only[Am];have e2:=Le t ht hs;have hd:decide (16<Jk t)=decide ((16:Int)<(Jk t:Int)):=decide_eq_decide.2 (by omega);rw[hd];exact Av (AD e2) Ab (AD @BD.eq_1)
def ZV : Ann:=⟨[],[]⟩
theorem NH (f:FuncId) (g:List Rul) (q:Rul->Bool) (hq:∀x∈g,Ae prog f [.agg (BD x)] (.bool (q x))):Ae prog 138 [Ar g,.ref [.fn (.func f) [] []]] (.bool (g.any q)):=by
 refine Ac [] ZV func138 call138 ntmps138 mxd (Au @ZV.eq_1 results138) rfl (fun qJ B qX qQ=> ?_);clear qJ;simp only[Am];have e1:=LI f [] [] g q fun x hx=>by simpa using hq x hx
 exact Av (AD e1) Ab Ab
def ZT : Ann:=⟨[],[]⟩
theorem NG (g:List Rul):Ae prog 140 [Ar g] (.bool (decide (g.length<1)||decide (64<g.length))):=by
 refine Ac [] ZT func140 call140 ntmps140 mxd (Au @ZT.eq_1 results140) rfl (fun qJ B qX qQ=> ?_);clear qJ;simp only[Am];have h1:decide (g.length<1)=decide ((g.length:Int)<1):=decide_eq_decide.2 (by omega);have h2:decide (64<g.length)=decide ((64:Int)<(g.length:Int)):=decide_eq_decide.2 (by omega);rw[h1,h2]
 by_cases c:(g.length:Int)<1
 ·exact Av Ab Ab (AD c)
 ·exact Av Ab Ab (AD c)
def ZN : Ann:=⟨[],[]⟩
theorem Af_ (g:List Rul) (hn:(AI 2 g).length<=9223372036854775807):Ae prog 149 [Ar g] (.bool (decide (0<(CP g).length))):=by
 refine Ac [] ZN func149 call149 ntmps149 mxd (Au @ZN.eq_1 results149) rfl (fun qJ B qX qQ=> ?_);clear qJ;simp only[Am];have e1:=Ja g hn;have h2:decide (0<(CP g).length)=decide ((0:Int)<((CP g).length:Int)):=decide_eq_decide.2 (by omega);rw[h2];exact Av (AD e1) Ab Ab
def ZQ : Ann:=⟨[],[]⟩
theorem Aj_ (g:List Rul) (hl:g.length<=64) (hs:EJ g):Ae prog 144 [Ar g] (.bool (decide (16<(Ax g).length+(CP g).length))):=by
 refine Ac [] ZQ func144 call144 ntmps144 mxd (Au @ZQ.eq_1 results144) rfl (fun qJ B qX qQ=> ?_);clear qJ;simp only[Am];have n2:=DN (k:=2) hs;have e1:=Ja g (by omega);have e2:=MD g;have b1:=IL g
 have b2:(CP g).length<=110000000:=by
  have:=HH (AI 2 g);have:=cI0 (fun s=> !decide (s∈Ax g)) (EP (AI 2 g));unfold CP;omega
 obtain⟨H,hH⟩:∃H,H=Ax g:=⟨_,rfl⟩;obtain⟨m,hm⟩:∃m,m=(CP g).length:=⟨_,rfl⟩;rw[<-hH]at e2 b1;rw[<-hm]at e1 b2;rw[<-hH,<-hm];have h2:decide (16<H.length+m)=decide ((16:Int)<(H.length:Int)+(m:Int)):=decide_eq_decide.2 (by omega);rw[h2];have w1:IntKind.i64.wrap ((H.length:Int)+(m:Int))=(H.length:Int)+(m:Int):=wq;exact Av (Au e1 e2) Ab (AD w1)
def uM : Ann:=⟨[],[⟨4,[5],[],[]⟩]⟩
theorem iC (g:List Rul) (hs:EJ g) (hl:g.length<=64):Ae prog 24 [Ar g] (.int .i64 (CJ g)):=by
 refine Ac [] uM func24 call24 ntmps24 mxd (Au @uM.eq_1 results24) rfl (fun qJ B qX qQ=> ?_);clear qJ;simp only[Am];have ho:=Vi hs
 (refine AG Ab Ab Ab ?_;intros;refine Ah ?_)
 refine Ai (X:={i:Nat//i<=g.length}) (fun i=>⟨[(0,Ar g),(3,.int .i64 (CJ (g.take i.1))),(6,Ar g),(7,.int .i64 g.length),(8,.int .i64 i.1)],[]⟩) (fun i=>g.length-i.1) ⟨0,by omega⟩ (Sub.lit (by simp[CJ])) ?_;rintro⟨i,hi⟩;simp only
 by_cases qV:i<g.length
 ·obtain⟨r,hr,qG,gR⟩:=Ao qV;have e1:=QK r.b;have h1:=TB hr;have h2:=Mp g (i+1);have h3:=Vh r.b;have w1:IntKind.i64.wrap ((CJ (g.take i):Int)+(FS r.b:Int))=(CJ (g.take (i+1)):Int):=by rw[wq];omega
  have w2:IntKind.i64.wrap ((i:Int)+1)=(i:Int)+1:=wq
  (refine AG (AD e1) Ab (GN @BD.eq_1 qV hr qG w1 w2) ?_;intros;refine Ah ?_)
  refine Aj.mk ⟨i+1,by omega⟩ (Sub.lit (by simp)) (by simp;omega)
  skip
 ·have qZ:i=g.length:=by omega
  subst qZ;rw[aW0];exact Av Ab Ab Ab
def ZP : Ann:=⟨[],[]⟩
theorem Ah_ (g:List Rul) (hs:EJ g) (hl:g.length<=64):Ae prog 147 [Ar g] (.bool (decide (64<CJ g))):=by
 refine Ac [] ZP func147 call147 ntmps147 mxd (Au @ZP.eq_1 results147) rfl (fun qJ B qX qQ=> ?_);clear qJ;simp only[Am];have e1:=iC g hs hl;have h2:decide (64<CJ g)=decide ((64:Int)<(CJ g:Int)):=decide_eq_decide.2 (by omega);rw[h2];exact Av (AD e1) Ab Ab
def Fg (t:RT):Bool:=decide ((flat t).length<=2048)&&decide (Df t=0)
def eR (t:RT):DVal:=if (flat t).length<=2048 then (if Df t=0 then .tup [.str (CR t),.int .i64 0]else .tup [.str ⟨#[]⟩,.int .i64 (Df t)])else .tup [.str ⟨#[]⟩,.int .i64 3]
def Iv : Ann:=⟨[],[]⟩
theorem SG (t:RT) (ht:Ew t=true):Ae prog 193 [AU (flat t)] (eR t):=by
 unfold eR
 by_cases hl:(flat t).length<=2048
 ·rw[if_pos hl];have e1:=MP t ht hl;have e2:=LQ _ t rfl ht (by omega);obtain⟨b,hb⟩:∃b,b=flat t:=⟨_,rfl⟩;rw[<-hb]at e1 e2 |-
  by_cases h0:Df t=0
  ·rw[if_pos h0];rw[h0]at e1;refine Ac [] Iv func193 call193 ntmps193 mxd (Au @Iv.eq_1 results193) rfl (fun qJ B qX qQ=> ?_);clear qJ;simp only[Am];exact Av (Au e1 e2) Ab Ab
  ·rw[if_neg h0];have vS:(Df t != 0)=true:=by simpa using h0
   refine Ac [] Iv func193 call193 ntmps193 mxd (Au @Iv.eq_1 results193) rfl (fun qJ B qX qQ=> ?_);clear qJ;simp only[Am];have z0:(⟨#[]⟩:ByteArray).size<=maxLen:=dC0 _;exact Av (AD e1) Ab (CD h0 vS z0)
 ·rw[if_neg hl];have e1:=MQ (flat t) (by omega);obtain⟨b,hb⟩:∃b,b=flat t:=⟨_,rfl⟩;rw[<-hb]at e1 |-;refine Ac [] Iv func193 call193 ntmps193 mxd (Au @Iv.eq_1 results193) rfl (fun qJ B qX qQ=> ?_);clear qJ;simp only[Am];have z0:(⟨#[]⟩:ByteArray).size<=maxLen:=dC0 _;exact Av (AD e1) Ab (AD z0)
theorem OQ (x:ByteArray) (hx:x.size≠0):Bn prog (.func 195) [.rx 0 0 2 0 0] [⟨0,0,.row 232 2 32 [[.rx 0 0 2 0 0,.osl 1 0]]⟩,⟨1,0,.row 5 1 1 (AX x)⟩] (.str x) [⟨0,0,.row 232 2 32 [[.rx 0 0 2 0 0,.sl 1 1 (AX x)]]⟩] :=
 Ke Tryz.bldString YD call195 32 x hx
def ZM : Ann:=⟨[],[]⟩
theorem XK (x:ByteArray):Bn prog (.func 196) [.rx 0 0 2 0 0] [⟨0,0,.row 232 2 32 [[.rx 0 0 2 0 0,.sl 1 1 (AX x)]]⟩] (.int .i64 x.size) [⟨0,0,.row 232 2 32 [[.rx 0 0 2 0 0,.sl 1 1 (AX x)]]⟩]:=by
 refine Cd [] [(0,0,0)] ZM func196 call196 ntmps196 mxd (Au @ZM.eq_1 results196) rfl (fun qJ B qX qQ=> ?_) (hv:=(by simp[Ga]));clear qJ;simp only[Am];have h1:=AZ x;have h2:=Ga x;obtain⟨D,hD⟩:∃D,D=AX x:=⟨_,rfl⟩;rw[<-hD]at h1 h2 |-;exact Av Ab Ab (AD h1)
theorem Tp (p:ByteArray×RT):(IX p).size≠0:=by
 unfold IX;simp only[aQ0];have z3:(⟨#[32,61,32]⟩:ByteArray).size=3:=rfl;omega
def JE (gt:GT):Bool:=gt.all (fun p=>Fg p.2)&&decide ((BY gt).size<=2048)
def oO (gt:GT):ByteArray:=if gt.all (fun p=>Fg p.2)then BY gt else ⟨#[]⟩
theorem uY {gt:GT} (h:1<=gt.length):(BY gt).size≠0:=by
 have h1:=Gg (aE0 (show 0<gt.length by omega));have h2:=KU gt 1;rw[h1,aQ0]at h2;have:=Tp (gt[0]'(by omega));omega
def Nl : Ann:=⟨[29,31,32],[⟨1,[4],[],[]⟩,⟨4,[6],[],[]⟩]⟩
theorem UF (gt:GT) (hk:OkG gt) (hs:EJ (Be gt)) (h1:1<=gt.length) (hl:gt.length<=64):Ae prog 151 [Ar (Be gt)] (.tup [.str (oO gt),.bool (JE gt)]):=by
 refine Ac [] Nl func151 call151 ntmps151 mxd (Au @Nl.eq_1 results151) rfl (fun qJ B qX qQ=> ?_);clear qJ;simp only[Am];have zO:=Ea gt;have yC:=fun i p=>iI (gt:=gt) (i:=i) (p:=p)
 have kZ:=fun p=>Ju hs (p:=p)
 have vD:=Ln hk hs;have gP:=fun p=>Ql hk hs (p:=p)
 obtain⟨g,hg⟩:∃g,g=Be gt:=⟨_,rfl⟩;rw[<-hg]at zO yC |-;clear hs hg;obtain⟨R,hR⟩:∃R,R=oO gt:=⟨_,rfl⟩;obtain⟨O,hO⟩:∃O,O=JE gt:=⟨_,rfl⟩;rw[<-hR,<-hO];have z3:(⟨#[32,61,32]⟩:ByteArray).size=3:=rfl;have z4:(⟨#[32,59,10]⟩:ByteArray).size=3:=rfl;have m3:3<=maxLen:=by decide
 have m1:1<=maxLen:=by decide
 have mbig:3000000000<=maxLen:=by decide
 have z0:(⟨#[]⟩:ByteArray).size<=maxLen:=dC0 _;refine AJ fun K0 hK0=> ?_
 (first | refine AJ fun K hK=> ?_ | (refine BV Nl mxd (by kernel_rfl) ?_;simp[Nl,qX,z0];try simp (disch:=omega) only[Al]) | refine Aq ?_ | (refine Bi ?_ ?_ ?_;(· (simp[qX,z0];done));(try (rotate_left;(· (intro hc;(try simp[qX,z0]at hc);done))))) | (refine AN ?_;simp[results151,qX,z0]) | ((first | refine AB ?_ | refine AA ?_);simp[qX,z0]) | (intro hc;(try simp[qX,z0]at hc);(try (exfalso;omega))) | (refine⟨?_,?_⟩; · omega) | omega | apply_assumption -exfalso -symm | (exfalso;omega))
 apply hK0
 refine AJ fun K1 hK1=> ?_
 refine Om (bs:=32) (k:=2) (z:=[.nilp,.nilsl]) (by simp[qX]) (by simp) (by rfl) rfl (by decide) (fun r hr=> ?_);simp
 apply hK1
 (refine AG Ab Ab Ab ?_;intros;refine Ah ?_)
 refine Ai (X:={i:Nat//i<=gt.length/\(gt.take i).all (fun p=>Fg p.2)=true}) (fun i=>⟨[(0,Ar g),(4,.rx 4 1 2 0 0),(9,Ar g),(10,.int .i64 gt.length),(11,.int .i64 i.1)],GW_ 4 50 (BY (gt.take i.1))⟩) (fun i=>gt.length-i.1) ⟨0,by simp⟩ (Sub.lit (by simp only[dV0,show BY []=⟨#[]⟩ from rfl,Og (T:=⟨#[]⟩) rfl];simp[zO])) ?_;rintro⟨i,hi,wY⟩;simp only
 by_cases qV:i<gt.length
 ·obtain⟨p,hp,yE,gN⟩:=Ao qV;have hr:=yC i p hp;have qL:i<g.length:=by omega
  have qG:g[i]'qL=⟨p.1,flat p.2⟩:=(aB0.1 hr).2;have e1:=SG p.2 (hk p gN).2;have w2:IntKind.i64.wrap ((i:Int)+1)=(i:Int)+1:=wq;unfold eR at e1;obtain⟨b,hb⟩:∃b,b=flat p.2:=⟨_,rfl⟩;have mL:(gt.take (i+1)).all (fun p=>Fg p.2)=Fg p.2:=by rw[bJ0,hp,List.all_append,wY];simp
  by_cases hpr:Fg p.2=true
  ·have nE:=hpr;unfold Fg at nE;rw[aJ0,decide_eq_true_eq,decide_eq_true_eq]at nE;rw[if_pos nE.1,if_pos nE.2]at e1;rw[<-hb]at hr qG e1;rw[hpr]at mL;have wK:=Gg hp;have hrs1:=gP p gN;have nN:=vD i hi;have mH:=Tp p;have vV:IX p=p.1++⟨#[32,61,32]⟩++CR p.2++⟨#[32,59,10]⟩:=rfl;obtain⟨s,hs⟩:∃s,s=CR p.2:=⟨_,rfl⟩;rw[<-hs]at e1 vV;obtain⟨T,hT⟩:∃T,T=BY (gt.take i):=⟨_,rfl⟩;rw[<-hT]at wK nN |-;obtain⟨U,hU⟩:∃U,U=IX p:=⟨_,rfl⟩
   rw[<-hU]at hrs1 mH vV wK;have hUs:U.size=p.1.size+3+s.size+3:=by rw[vV];simp only[aQ0,z3,z4]
   have y2:p.1.size+3<=maxLen:=by omega
   have y3:p.1.size+3+s.size<=maxLen:=by omega
   have y4:p.1.size+3+s.size+3<=maxLen:=by omega
   have hNs:(BY (gt.take (i+1))).size≠0:=by rw[wK,aQ0];omega
   have wM:=KA (i:=4) (j:=50) hNs
   by_cases hT0:T.size=0
   ·rw[Og hT0];have e2:=OP U (by omega);rw[Hr_ hT0,Be_]at wK;rw[vV]at e2
    (refine AG (AD e1) (AD (KV [(4,0)] [(50,1)] e2)) (GZ_ @BD.eq_1 qV qL hr qG z3 z4 m3 m1 y2 y3 y4 @aQ0 w2) ?_;intros;refine Ah ?_)
    refine Aj.mk ⟨i+1,by omega,mL⟩ (Sub.lit (by rw[wM,wK,vV];simp)) (by simp;omega)
    skip
   ·rw[KA hT0];have e2:=CE T U (by omega);rw[<-wK]at e2;rw[vV]at e2
    (refine AG (AD e1) (AD (KV [(4,0),(50,1)] [] e2)) (GZ_ @BD.eq_1 qV qL hr qG z3 z4 m3 m1 y2 y3 y4 @aQ0 w2) ?_;intros;refine Ah ?_)
    refine Aj.mk ⟨i+1,by omega,mL⟩ (Sub.lit (by rw[wM];simp)) (by simp;omega)
    skip
  ·have bL:gt.all (fun p=>Fg p.2)=false:=by
    rw[dQ0];intro hh;rw[bC0]at hh;exact hpr (hh p gN)
   have wX:R=⟨#[]⟩:=by rw[hR];unfold oO;rw[bL];rfl
   have hO2:O=false:=by rw[hO];unfold JE;rw[bL];rfl
   subst wX;subst hO2
   obtain⟨c,yT,e2⟩:∃c:Int,(c != 0)=true/\Ae prog 193 [AU (flat p.2)] (.tup [.str ⟨#[]⟩,.int .i64 c]):=by
    by_cases zL:(flat p.2).length<=2048
    ·rw[if_pos zL]at e1
     by_cases h0:Df p.2=0
     ·exact absurd (by unfold Fg;simp[zL,h0]) hpr
     ·rw[if_neg h0]at e1;exact⟨_,by simpa using h0,e1⟩
    ·rw[if_neg zL]at e1;exact⟨3,rfl,e1⟩
   have hc1:¬c=0:=by simpa using yT
   rw[<-hb]at hr qG e2;obtain⟨T,hT⟩:∃T,T=BY (gt.take i):=⟨_,rfl⟩;rw[<-hT];clear e1
   by_cases hT0:T.size=0
   ·rw[Og hT0];exact Av (AD e2) Ab (KQ @BD.eq_1 qV qL hr qG yT hc1 z0)
   ·rw[KA hT0];exact Av (AD e2) Ab (KQ @BD.eq_1 qV qL hr qG yT hc1 z0)
 ·have qZ:i=gt.length:=by omega
  subst qZ;rw[aW0]at wY |-;have qF:=uY h1;have nN:=vD gt.length (Nat.le_refl _);rw[aW0]at nN;have wX:R=BY gt:=by rw[hR];unfold oO;rw[wY];rfl
  have hO2:O=decide ((BY gt).size<=2048):=by rw[hO];unfold JE;rw[wY];rfl
  obtain⟨T,hT⟩:∃T,T=BY gt:=⟨_,rfl⟩;rw[<-hT]at qF wX hO2 nN |-;have hO3:decide (T.size<=2048)=decide ((T.size:Int)<=2048):=decide_eq_decide.2 (by omega);rw[hO3]at hO2;clear hR hO hO3;subst wX;subst hO2;rw[KA qF];have e1:=OQ R qF;have e2:=XK R;have h2:=Ga R;exact Av Ab (Au (KV [(4,0),(50,1)] [] e1) (KV [(4,0)] [] e2)) (AD zO)
end Go.Proofs.Wy
end
section
namespace Go.Proofs.Wy
open Go Go.Dm Go.RowKit Go.Maps Go.Sort Go.Shelf Go.Proofs
set_option maxRecDepth 100000
theorem Go_ (m:Nat):AnyZ.SortsIn Tryz.prog Tryz.sortedM_ren Fence.wide m :=
 ⟨fun blk off cap ss W hH hblk qP=>callsIn_wide.2 (AnyM.slices_Sort_string Tryz.sortStr blk off cap ss W hH hblk qP),
  fun p cap W=>callsIn_wide.2 (AnyM.slices_Sort_string_none Tryz.sortStr p cap W)⟩
theorem Ti {cur:ER} {M:List Nat} {h:Array Obj}:∀{K:List ByteArray} {vs:List Value},Az cur M h (DI K) vs->vs=K.map Value.string/\∀s∈K,s.size<=maxLen
 | [],vs,hr=>by
  simp only[DI,List.map_nil,Az]at hr;subst hr;simp
 | s::K,vs,hr=>by
  rw[Dq]at hr;simp only[Az,Dm.rd]at hr;obtain⟨v,r,rfl,⟨rfl,hs⟩,h2⟩:=hr;obtain⟨h3,h4⟩:=Ti h2;subst h3;refine⟨rfl,fun x hx=> ?_⟩
  rcases aK0.1 hx with rfl | hx
  ·exact hs
  ·exact h4 x hx
def Eq_ : Value->Option (DataW Unit×List MemPlace):=fun _=>some (.nil,[])
theorem EV_ {w:World} {b:Nat} {es:Array MapEntry} {clk:Nat} {K:List ByteArray} (hb:w.heap[b]? =some (.map es clk)) (hB:Od es clk) (hk:es.toList.map (·.key)=K.map Value.string) (qP:∀s∈K,s.size<=maxLen) (hn:K.Nodup) (hl:K.length<=maxLen) :
  ∃D0:DataW Unit,w.ownsMap Tryz.prog 9 Eq_ b K.length D0/\(strKeys D0).Perm (K.map fun s=>s.data.toList)/\Maps.size D0=K.length:=by
 have wP:es.size=K.length:=by
  have:=congrArg List.length hk;simpa using this
 have pG:∀x∈es.toList,∃s∈K,x.key= .string s/\WideElems.rd Tryz.prog 9 Eq_ x=some (.string s.data.toList,.nil):=by
  intro x hx;have:x.key∈K.map Value.string:=by rw[<-hk];exact cS0 hx
  obtain⟨s,hs,he⟩:=aT0.1 this;refine⟨s,hs,he.symm,?_⟩;obtain⟨k,v,bn⟩:=x;simp only at he;subst he;exact WideElems.rd_mk (WideMaps.keyOf_string_mk Tryz.underlying9 (qP s hs)) (show Eq_ v=some (.nil,[]) from rfl)
 have hE:es.toList.map (WideElems.rg Tryz.prog 9 Eq_)=K.map fun s=>(Lit.string s.data.toList,DataW.nil):=by
  have h1:es.toList.map (WideElems.rg Tryz.prog 9 Eq_)=(es.toList.map (·.key)).map fun v=>match v with | .string s=>(Lit.string s.data.toList,DataW.nil) | _=>(.bool false,.nil):=by
   rw[bY0];refine cA0 fun x hx=> ?_
   obtain⟨s,_,he,hr⟩:=pG x hx;rw[WideElems.rg_of hr];simp[he]
  rw[h1,hk,bY0];rfl
 refine⟨_,⟨es,clk,hb,⟨by omega,⟨hB.2,hB.1,?_⟩,fun x hx=> ?_⟩,by omega,rfl⟩,?_,?_⟩
 ·rw[hk];exact cX0.2 (hn.imp fun h e=>h (by cases e;rfl))
 ·obtain⟨s,_,_,hr⟩:=pG x hx;exact⟨_,hr⟩
 ·show ((_:List (Lit×DataW Unit)).map fun p=>strOf p.1).Perm _
  refine((WideShapes.sorted_perm _).map _).trans ?_;rw[hE,bY0];exact List.Perm.refl _
 ·show (_:List (Lit×DataW Unit)).length=_
  rw[(WideShapes.sorted_perm _).length_eq,hE,aN0]
theorem uW {w w':World} (h:Below w.heap.size w w'):Upd [] w w':=⟨h.os,h.tape,h.output,fun hd=>Bool.noConfusion hd,h.size,fun b hb _=>h.block b hb⟩
theorem UI {K:List ByteArray} (hn:K.Nodup):Str (GW K):=by
 have h1:=LX K
 have h2:(GW K).Nodup:=by
  unfold GW;refine cX0.2 (List.Pairwise.imp (R:=(· ≠ ·)) (fun {a b:List UInt8} h (e:(⟨a.toArray⟩:ByteArray)=⟨b.toArray⟩)=>h (by have:=congrArg (fun x:ByteArray=>x.data.toList) e;simpa using this)) ?_);exact(eA0 _ _).nodup_iff.2 (cX0.2 (hn.imp fun h e=>h (Ik e)))
 refine(h1.and h2).imp ?_;rintro a b ⟨h3,h4⟩;cases h5:CO a b
 ·exact absurd (Kn h5 h3) h4
 ·rfl
theorem aX {K es:List ByteArray} (hn:K.Nodup) (hm:∀s,s∈K↔s∈es):GW K=EP es:=oL (UI hn) fun x=>by rw[Tl,hm x]
theorem La (g:List Rul) (kZ:(AI 3 g).length*16<=140737488355328):Ae Tryz.prog 51 [Ar g] (Bv (Ay g)):=by
 refine⟨Tryz.call51,by simp[mx],fun cur M w vs hM hr=> ?_⟩;simp only[Az]at hr;obtain⟨v0,r0,vX,h0,rfl⟩:=hr;have vT:vs= #[v0]:=by cases vs;simpa using vX
 subst vT;have qW:=lI (AI 3 g);have hN:=KY g 3;obtain⟨m,hm⟩:∃m,m=Pe (AI 3 g):=⟨_,rfl⟩;rw[<-hm]at hN qW;obtain⟨_,_,hN⟩:=hN
 have hN:=(hN M w (fun _=>⟨[],Go.undef⟩) #[v0,.int .i64 3] ⟨by simp,by simp[Aa],by simp[Aa],fun b hb=>hM b (by simpa[Aa]using hb),by simp⟩ (by
  simp only[Az];refine⟨v0,_,rfl,?_,_,_,rfl,by simp[Dm.rd],rfl⟩
  exact Cn (n:=0) ⟨fun _ _ _ h _=>absurd h (eM0 _),fun _ _ _ _ h=>h,fun b _ hb _ _ hm=>hb (by simpa[Aa]using hm)⟩ _ _ (by simp[mx]) h0)).2
 have cK:∀mb W,CallsIn Fence.wide 5 Tryz.prog 100 #[.map mb] W fun e w'=>e= .returned (.func (.func 155) #[] #[.pointer (some ⟨W.heap.size,0,none⟩)])/\w'=W.alloc (.cells #[.map mb] 161):=fun mb W=>AnyZ.keys_in Tryz.keysM Fence.wide 5 trivial rfl mb W
 have mS:Fence.wide.fn 101:=trivial;have hf2:Fence.wide.fn 100:=trivial;have hf3:Fence.wide.fn 99:=trivial;refine(callsIn_wide (n:=6)).1 ?_;refine callsIn_of_wp Tryz.func51 rfl trivial ?_ rfl;simp only[Tryz.ntmps51,dK0,List.length_cons,List.length_nil,Nat.reduceAdd,Nat.reduceSub,Array.replicate_succ,Array.replicate_zero,List.push_toArray,List.append_toArray,List.nil_append,List.cons_append]
 gi_wp2_with (gi_at_call 101;refine(callsIn_wide.2 hN).mono ?_;rintro e w1 ⟨v1,rfl,loc1,S1,U1,hnew1,hver1,hrd1⟩)
 simp only[Dm.rd]at hrd1;obtain⟨b,qI,rfl⟩:=hrd1 (loc1 0) rfl;have hO:=S1.ok _ (aF0.2 rfl);obtain⟨b',es,clk,qT,pR,bW,dK,_⟩:=hO;simp only at qT;rw[qI]at qT;simp only[bH0,and_true]at qT;subst qT;obtain⟨hke,zA⟩:=Ti dK;have qU:m.K.length<=(AI 3 g).length:=qW.le;have dL:m.K.length<=maxLen:=by unfold maxLen;omega
 have fA:b<w1.heap.size:=(aD0.1 pR).1;obtain⟨D0,fX,kI,hsize⟩:=EV_ (w:=w1.alloc (.cells #[.map (some b)] 161)) (b:=b) (by rw[<-pR];simp only[World.alloc,bS0];rw[if_neg (by omega)]) bW hke zA qW.nd dL
 gi_wp2_with (gi_at_call 100;refine(cK _ _).mono ?_;rintro e w2 ⟨rfl,rfl⟩)
 have hseq:SeqGives Fence.wide 2 Tryz.prog 155 #[.pointer (some ⟨w1.heap.size,0,none⟩)] encStr (fun ss=>ss.Perm (strKeys D0)) (Maps.size D0) (w1.alloc (.cells #[.map (some b)] 161)) :=
  AnyZ.keys_gives (ρ:=Tryz.keysM_ren) { Tryz.keysM with } Fence.wide _ trivial rfl (by omega) w1.heap.size b m.K.length D0 _ (by simp) (by simp) fX
 have cS:=AnyZ.sorted_in Tryz.sortedM Fence.wide 5 trivial trivial trivial trivial rfl (by omega) (Go_ _) (enters_of Tryz.func154 (by kernel_rfl) rfl) 155 #[.pointer (some ⟨w1.heap.size,0,none⟩)] trivial (enters_of Tryz.func155 (by kernel_rfl) rfl) _ _ (by omega) (by omega) _ hseq
 change CallsIn _ _ Tryz.prog 99 _ _ _ at cS
 gi_wp2_with (gi_at_call 99;refine cS.mono ?_;rintro e w3 ⟨v,ss,rfl,hS,qK,hnil,cA⟩)
 go_ret
 have hU:Upd [] w w3:=(show Upd [] w w1 from U1).trans ((Upd.alloc [] w1 _).trans (uW cA) (by simp)) (by simp)
 have kO:(ss.mergeSort fun x y=>decide (x<=y)).map (fun x=>(⟨x.toArray⟩:ByteArray))=Ay g:=by
  have h1:ss.mergeSort leB=(m.K.map fun s=>s.data.toList).mergeSort leB:=mergeSort_of_perm (hS.trans kI);have h2:=aX qW.nd qW.mem;unfold GW at h2;unfold Ay;rw[<-h2,<-h1]
 have gQ:ss.length=m.K.length:=by rw[hS.length_eq,kI.length_eq,aN0]
 refine⟨v,rfl,hU,?_⟩;simp only[Dm.rd];rw[<-kO];obtain⟨_,qK⟩:=qK
 rcases qK with ⟨rfl,hz⟩ | ⟨gb,cap,cur2,rfl,hbase,hgb,r1,r2,r3,r4⟩
 ·have h0:ss=[]:=bM0 hz;subst h0;exact⟨none,0,by simp,by simp,by simp,by simp,.inl ⟨by simp,fun _=>rfl⟩⟩
 ·have zO:(ss.mergeSort fun x y=>decide (x<=y)).length=ss.length:=List.length_mergeSort _;refine⟨some ⟨gb,0,none⟩,cap,by simp,by simpa using r1,r2,?_,.inr ⟨gb,0,cur2,_,(0,0),rfl,fun hm=> ?_,hgb,?_⟩⟩
  ·simp only[aN0,zO];omega
  ·have h1:=hM gb hm;have h2:=U1.size;simp at hbase;omega
  ·refine Gn _ _ _ _ fun i cs hi=> ?_
   rw[bK0,bK0,Option.map_map,bF0]at hi;obtain⟨x,hx,rfl⟩:=hi;refine⟨rfl,?_⟩;have gG:i<ss.length:=by have:=(aB0.1 hx).1;omega
   have vB:cur2[i]? =some (encStr x):=by
    have h1:(cur2.toList.take (ss.length*1))[i]? =some (encStr x):=by rw[r4,bK0,hx];rfl
    rw[bN0 (by omega)]at h1;simpa using h1
   have mC:x.length<=maxLen:=by
    have h1:x∈m.K.map fun s=>s.data.toList:=(hS.trans kI).mem_iff.1 ((eA0 ss _).mem_iff.1 (bP0 hx))
    obtain⟨s,hs,rfl⟩:=aT0.1 h1;exact zA s hs
   simp only[Function.comp_apply,AH,DL,and_true];exact⟨encStr x,by simpa using vB,rfl,by simp only[Dm.rd];exact⟨trivial,mC⟩⟩
end Go.Proofs.Wy
end
section
namespace Go.Proofs.Wy
open Go Go.Dm Tryz
attribute [local irreducible] DW Bs Bt
set_option maxRecDepth 100000
def ZK : Ann:=⟨[],[]⟩
theorem Ai_ (g:List Rul) (hl:g.length<=64) (hs:EJ g):Ae prog 146 [Ar g] (.bool (decide (16<(Ay g).length))):=by
 refine Ac [] ZK func146 call146 ntmps146 mxd (Au @ZK.eq_1 results146) rfl (fun qJ B qX qQ=> ?_);clear qJ;simp only[Am];have n3:=DN (k:=3) hs;have e1:=La g (by omega);obtain⟨H,hH⟩:∃H,H=Ay g:=⟨_,rfl⟩;rw[<-hH]at e1;rw[<-hH];have h2:decide (16<H.length)=decide ((16:Int)<(H.length:Int)):=decide_eq_decide.2 (by omega);rw[h2];exact Av (AD e1) Ab Ab
def ZJ : Ann:=⟨[],[]⟩
theorem Ae_ (gt:GT) (hk:OkG gt) (hs:EJ (Be gt)) (h1:1<=gt.length) (hl:gt.length<=64):Ae prog 150 [Ar (Be gt)] (.bool (!JE gt)):=by
 refine Ac [] ZJ func150 call150 ntmps150 mxd (Au @ZJ.eq_1 results150) rfl (fun qJ B qX qQ=> ?_);clear qJ;simp only[Am];have e1:=UF gt hk hs h1 hl;obtain⟨g,hg⟩:∃g,g=Be gt:=⟨_,rfl⟩;rw[<-hg]at e1 |-;exact Av (AD e1) Ab Ab
def ZL : Ann:=⟨[],[]⟩
theorem Ts (f:FuncId):Ae prog 137 [.fn (.func f) [] []] (.fn (.func 138) [] [.ref [.fn (.func f) [] []]]):=by
 refine Ac [] ZL func137 call137 ntmps137 mxd (Au @ZL.eq_1 results137) rfl (fun qJ B qX qQ=> ?_) (hd:=(by simp[mx,AL]));clear qJ;simp only[Am];exact Av Ab Ab Ab
structure Ask where
 f:FuncId
 cs:List DVal
 b:Bool
 e:Int
def RE (x:Ask):List DVal:=[.fn (.func x.f) [] x.cs,.int .i64 x.e]
def GU (b1 b2 b3 b4 b5 b6 b7 b8:Bool):List Ask :=
 [⟨140,[],b1,180⟩,⟨138,[.ref [.fn (.func 141) [] []]],b2,170⟩,⟨144,[],b3,181⟩,⟨146,[],b4,182⟩,⟨147,[],b5,183⟩,⟨138,[.ref [.fn (.func 148) [] []]],b6,171⟩,⟨149,[],b7,184⟩,⟨150,[],b8,174⟩]
def uD : Ann:=⟨[],[]⟩
theorem Hu (b1 b2 b3 b4 b5 b6 b7 b8:Bool):Ae prog 97 [] (.sl 2 16 ((GU b1 b2 b3 b4 b5 b6 b7 b8).map RE)):=by
 refine Ac [] uD func97 call97 ntmps97 mxd (Au @uD.eq_1 results97) rfl (fun qJ B qX qQ=> ?_) (hd:=(by simp[mx,Bp,AL,GU,RE]));clear qJ;simp only[Am,GU,RE,List.map_cons,List.map_nil];have e1:=Ts 141;have e2:=Ts 148;have r8:List.range 8=[0,1,2,3,4,5,6,7]:=rfl;exact Av (Au e1 e2) Ab (AD r8)
def LC : List Ask->Int
 | []=>0
 | x::l=>if x.b then x.e else LC l
def uE : Ann:=⟨[],[⟨3,[4],[],[]⟩]⟩
theorem Kd (g:List Rul) (l:List Ask) (hl8:l.length=8) (vA:Bp (l.map RE)=0) (ho:Ae prog 97 [] (.sl 2 16 (l.map RE)))
  (hq:∀(k:Nat) (x:Ask),l[k]? =some x->(∀(j:Nat) (y:Ask),j<k->l[j]? =some y->y.b=false)->Ae prog x.f (Ar g::x.cs) (.bool x.b)):Ae prog 49 [Ar g] (.int .i64 (LC l)):=by
 refine Ac [] uE func49 call49 ntmps49 mxd (Au @uE.eq_1 results49) rfl (fun qJ B qX qQ=> ?_);clear qJ;simp only[Am];obtain⟨R,hR⟩:∃R,R=LC l:=⟨_,rfl⟩;rw[<-hR]
 (refine AG (AD ho) Ab Ab ?_;intros;refine Ah ?_)
 refine Ai (X:={k:Nat//k<=l.length/\R=LC (l.drop k)/\∀(j:Nat) (y:Ask),j<k->l[j]? =some y->y.b=false}) (fun x=>⟨[(0,Ar g),(5,.sl 2 16 (l.map RE)),(6,.int .i64 l.length),(7,.int .i64 x.1)],[]⟩) (fun x=>l.length-x.1) ⟨0,by simp[hR]⟩ (Sub.lit (by simp[vA])) ?_;clear hR;rintro⟨k,hk,hR,vI⟩
 by_cases qV:k<l.length
 ·obtain⟨x,hx,qA,vO⟩:=Ao qV;rw[aS0 qV,qA,LC]at hR;have e1:=hq k x hx vI;cases hb:x.b
  ·rw[hb]at e1 hR;simp only[aR0,if_false]at hR
   have hno':∀(j:Nat) (y:Ask),j<k+1->l[j]? =some y->y.b=false:=by
    intro i y hi hy
    by_cases mR:i=k
    ·subst mR;rw[hx]at hy;simp only[aA0]at hy;subst hy;exact hb
    ·exact vI i y (by omega) hy
   (refine AG (AD e1) Ab (GV @RE.eq_1 qV hx qA) ?_;intros;refine Ah ?_)
   exact Aj.mk ⟨k+1,by omega,hR,hno'⟩ (Sub.lit (by simp[vA])) (by simp;omega)
   skip
  ·rw[hb]at e1 hR;simp only[if_true]at hR;subst hR;exact Av (AD e1) Ab (GV @RE.eq_1 qV hx qA)
 ·have qZ:k=l.length:=by omega
  subst qZ;rw[bT0]at hR;have wX:R=0:=hR;subst wX;exact Av Ab Ab Ab
theorem SX (g:List Rul) (h:g.length<1\/64<g.length):Ae prog 49 [Ar g] (.int .i64 180):=by
 have hq:=NG g;have hb:(decide (g.length<1)||decide (64<g.length))=true:=by simpa using h
 rw[hb]at hq;refine Kd g (GU true true true true true true true true) rfl (by simp[GU,RE,Bp,AL,mx]) (Hu _ _ _ _ _ _ _ _) fun k x hx vI=> ?_
 cases k with
 | zero =>
  simp only[GU,bE0,aA0]at hx;subst hx;exact hq
 | succ k=>have:=vI 0 _ (by omega) rfl;simp at this
theorem Yy (g:List Rul) (h1:1<=g.length) (h2:g.length<=64) (hs:EJ g) (ht:EU g=false):Ae prog 49 [Ar g] (.int .i64 170):=by
 have q1:=NG g;have hb:(decide (g.length<1)||decide (64<g.length))=false:=by rw[decide_eq_false (by omega),decide_eq_false (by omega)];rfl
 rw[hb]at q1;have q2:=NH 141 g YH fun x hx=>Tt x (hs x hx)
 have qT:g.any YH=true:=by
  unfold EU at ht;rw[List.all_eq_false]at ht;obtain⟨r,hr,hn⟩:=ht;refine cH0.2 ⟨r,hr,?_⟩;unfold YH;rw[dU0]at hn;rw[hn];rfl
 rw[qT]at q2;refine Kd g (GU false true true true true true true true) rfl (by simp[GU,RE,Bp,AL,mx]) (Hu _ _ _ _ _ _ _ _) fun k x hx vI=> ?_
 match k,hx,vI with
 | 0,hx,_ =>
  simp only[GU,bE0,aA0]at hx;subst hx;exact q1
 | 1,hx,_ =>
  simp only[GU,bE0,bL0,aA0]at hx;subst hx;exact q2
 | k+2,_,vI=>have:=vI 1 _ (by omega) rfl;simp at this
theorem iA {gt:GT} (hk:OkG gt) (hd:FL gt=false):JE gt=decide ((BY gt).size<=2048):=by
 unfold JE
 by_cases h:(BY gt).size<=2048
 ·rw[decide_eq_true h,eL0,bC0];intro p hp;have h1:=WR hp;have h2:=UB p.2 (hk p hp).2;unfold FL at hd;rw[eY0]at hd;have h3:=hd p hp;simp only[decide_eq_true_eq]at h3;unfold Fg Df;rw[if_neg h3,if_neg (by omega)];simp;omega
 ·rw[decide_eq_false h,dX0]
theorem lJ (gt:GT) (h1:1<=gt.length) (h2:gt.length<=64) (hk:OkG gt) (hs:EJ (Be gt)):Ae prog 49 [Ar (Be gt)] (.int .i64 (MN gt)):=by
 have zO:=Ea gt;have q1:=NG (Be gt);have hb:(decide ((Be gt).length<1)||decide (64<(Be gt).length))=false:=by rw[decide_eq_false (by omega),decide_eq_false (by omega)];rfl
 rw[hb]at q1;have q2:=NH 141 (Be gt) YH fun x hx=>Tt x (hs x hx)
 have qT:(Be gt).any YH=false:=by
  have ht:=XW hk;unfold EU at ht;rw[bC0]at ht;rw[eY0];intro r hr;unfold YH;rw[ht r hr];simp
 rw[qT]at q2;have n2:=DN (k:=2) hs;have q3:=Aj_ (Be gt) (by omega) hs;have q4:=Ai_ (Be gt) (by omega) hs;have q5:=Ah_ (Be gt) hs (by omega)
 have q6:Ae prog 138 [Ar (Be gt),.ref [.fn (.func 148) [] []]] (.bool (FL gt)):=by
  have hq:∃q:Rul->Bool,(∀p∈gt,q ⟨p.1,flat p.2⟩=decide (16<Jk p.2))/\∀x∈Be gt,Ae prog 148 [.agg (BD x)] (.bool (q x)):=by
   refine⟨fun r=>decide (16<(r.b.foldl He ([],0)).2),fun p hp=> ?_,fun x hx=> ?_⟩
   ·simp only[JP (hk p hp).2]
   ·obtain⟨p,hp,rfl⟩:=aT0.1 hx;simp only[JP (hk p hp).2];exact Ag_ p.1 p.2 (hk p hp).2 (Ju hs hp)
  obtain⟨q,fQ,kW⟩:=hq;have e1:=NH 148 (Be gt) q kW
  have:(Be gt).any q=FL gt:=by
   unfold Be FL;rw[List.any_map];rw[eO0,cH0,cH0]
   constructor
   ·rintro⟨p,hp,h⟩;exact⟨p,hp,by rw[<-fQ p hp];exact h⟩
   ·rintro⟨p,hp,h⟩;exact⟨p,hp,by rw[<-fQ p hp]at h;exact h⟩
  rw[this]at e1;exact e1
 have q7:=Af_ (Be gt) (by omega);have q8:=Ae_ gt hk hs h1 h2
 have hf:MN gt=LC (GU false false (decide (16<(Ax (Be gt)).length+(CP (Be gt)).length)) (decide (16<(Ay (Be gt)).length)) (decide (64<CJ (Be gt))) (FL gt) (decide (0<(CP (Be gt)).length)) (!JE gt)):=by
  unfold MN;simp only[GU,LC,aR0,if_false,decide_eq_true_eq];cases hd:FL gt
  ·rw[iA hk hd]
   by_cases h8:2048<(BY gt).size
   ·have h8':¬(BY gt).size<=2048:=by omega
    simp[h8,h8']
   ·have h8':(BY gt).size<=2048:=by omega
    simp[h8,h8']
  ·simp
 rw[hf];refine Kd (Be gt) _ rfl (by simp[GU,RE,Bp,AL,mx]) (Hu _ _ _ _ _ _ _ _) fun k x hx vI=> ?_
 match k,hx with
 | 0,hx=>simp only[GU,bE0,bL0,aA0]at hx;subst hx;exact q1
 | 1,hx=>simp only[GU,bE0,bL0,aA0]at hx;subst hx;exact q2
 | 2,hx=>simp only[GU,bE0,bL0,aA0]at hx;subst hx;exact q3
 | 3,hx=>simp only[GU,bE0,bL0,aA0]at hx;subst hx;exact q4
 | 4,hx=>simp only[GU,bE0,bL0,aA0]at hx;subst hx;exact q5
 | 5,hx=>simp only[GU,bE0,bL0,aA0]at hx;subst hx;exact q6
 | 6,hx=>simp only[GU,bE0,bL0,aA0]at hx;subst hx;exact q7
 | 7,hx=>simp only[GU,bE0,bL0,aA0]at hx;subst hx;exact q8
 | k+8,hx=>simp[GU]at hx
end Go.Proofs.Wy
end
