/- Parts of a proof, laid together: W45, W7, W9, W89, W91, W50, W21, W93, W52, WG, W30, W8, W22, WN1, WN2. -/
import Derived.Test.YtchgnpnbcjflcaaGreatqCw5
import Derived.Test.YtchgnpnbcjflcaaGreatqCw11
set_option linter.unusedSimpArgs false
set_option linter.unusedVariables false
set_option linter.unusedSectionVars false
section
namespace Go.Proofs.YtchgnpnbcjflcaaGreat
open Go Go.Dm
variable [DMode]
attribute [local irreducible] DW Br_ Bu_
set_option maxRecDepth 100000
def AH_ : Ann:=⟨[],[⟨6,[4],[],[]⟩,⟨12,[6],[],[]⟩]⟩
set_option maxHeartbeats 4000000 in
theorem SV_ (c:Cnf):Aj_ Tryz.prog 145 [.agg (dCnf c)] (.int .i64 (if BI_ c then 0 else 220)):=by
 refine Ab_ [] (fn:=Tryz.f145) Tryz.func145 rfl Tryz.call145 (by simp[Tryz.ntmps145]) (by simp[mx]) ?_
 intro hwf B hnt
 simp only[Tryz.ntmps145]at hnt
 have hgAnn:=Ao_ AH_ Tryz.mixed (aj2 @AH_.eq_1 Tryz.results145)
 have hw:wCnf c:=SD_ (by simpa[wfL,wfD]using hwf.1)
 obtain⟨hw1,hw2,hw3,hw4⟩:=hw
 clear hwf hw1
 simp only[argS]
 by_cases h1:1≤c.nts
 rotate_left
 ·have h1':c.nts<1:=by omega
  have hno:BI_ c=false:=by simp[BI_,h1]
  (repeat (first | refine Ak_ fun K hK=> ?_ | (refine DW_r AH_ Tryz.mixed (by kernel_rfl) ?_;simp[AH_,hnt,dCnf,h1',hno];try simp (disch:=omega) only[Aa_]) | refine Ac_ ?_ | (refine As_ ?_ ?_ ?_;(· (simp[hnt,dCnf,h1',hno];done));(try (rotate_left;(· (intro hc;(try simp[hnt,dCnf,h1',hno]at hc);done))))) | (refine Al_ ?_;simp[Tryz.results145,hnt,dCnf,h1',hno]) | ((first | refine Ah_ ?_ | refine Ag_ ?_);simp[hnt,dCnf,h1',hno]) | (intro hc;(try simp[hnt,dCnf,h1',hno]at hc);(try (exfalso;omega))) | (refine⟨?_,?_⟩; · omega) | omega | apply_assumption -exfalso -symm | (exfalso;omega)))
 by_cases h2:c.nts≤1024
 rotate_left
 ·have h2':1024<c.nts:=by omega
  have h1':¬c.nts<1:=by omega
  have hno:BI_ c=false:=by simp[BI_,h2]
  (repeat (first | refine Ak_ fun K hK=> ?_ | (refine DW_r AH_ Tryz.mixed (by kernel_rfl) ?_;simp[AH_,hnt,dCnf,h1',h2',hno];try simp (disch:=omega) only[Aa_]) | refine Ac_ ?_ | (refine As_ ?_ ?_ ?_;(· (simp[hnt,dCnf,h1',h2',hno];done));(try (rotate_left;(· (intro hc;(try simp[hnt,dCnf,h1',h2',hno]at hc);done))))) | (refine Al_ ?_;simp[Tryz.results145,hnt,dCnf,h1',h2',hno]) | ((first | refine Ah_ ?_ | refine Ag_ ?_);simp[hnt,dCnf,h1',h2',hno]) | (intro hc;(try simp[hnt,dCnf,h1',h2',hno]at hc);(try (exfalso;omega))) | (refine⟨?_,?_⟩; · omega) | omega | apply_assumption -exfalso -symm | (exfalso;omega)))
 have h1':¬c.nts<1:=by omega
 have h2':¬1024<c.nts:=by omega
 have hok:BI_ c=c.prods.all (Cb_ c):=by simp[BI_,h1,h2]
 (repeat (first | refine Ak_ fun K hK=> ?_ | (refine DW_r AH_ Tryz.mixed (by kernel_rfl) ?_;simp[AH_,hnt,dCnf,h1',h2'];try simp (disch:=omega) only[Aa_]) | refine Ac_ ?_ | (refine As_ ?_ ?_ ?_;(· (simp[hnt,dCnf,h1',h2'];done));(try (rotate_left;(· (intro hc;(try simp[hnt,dCnf,h1',h2']at hc);done))))) | (refine Al_ ?_;simp[Tryz.results145,hnt,dCnf,h1',h2']) | ((first | refine Ah_ ?_ | refine Ag_ ?_);simp[hnt,dCnf,h1',h2']) | (intro hc;(try simp[hnt,dCnf,h1',h2']at hc);(try (exfalso;omega))) | (refine⟨?_,?_⟩; · omega) | omega | apply_assumption -exfalso -symm | (exfalso;omega)))
 refine Am_ (X:={k:Nat//k≤c.prods.length∧(c.prods.take k).all (Cb_ c)=true}) (fun k=>⟨[(1,.ref [.int .i64 c.nts,Bh_ c.prods]),(3,.int .i64 k.1)],[]⟩) (fun k=>c.prods.length-k.1) ⟨0,by simp⟩ (Sub.lit (by simp)) ?_
 rintro⟨k,hk,hkk⟩
 by_cases hlt:k<c.prods.length
 rotate_left
 ·have hke:k=c.prods.length:=by omega
  subst hke
  rw[aT0]at hkk
  rw[hkk]at hok
  (repeat (first | refine Ak_ fun K hK=> ?_ | (refine DW_r AH_ Tryz.mixed (by kernel_rfl) ?_;simp[AH_,hnt,dCnf,hok];try simp (disch:=omega) only[Aa_]) | refine Ac_ ?_ | (refine As_ ?_ ?_ ?_;(· (simp[hnt,dCnf,hok];done));(try (rotate_left;(· (intro hc;(try simp[hnt,dCnf,hok]at hc);done))))) | (refine Al_ ?_;simp[Tryz.results145,hnt,dCnf,hok]) | ((first | refine Ah_ ?_ | refine Ag_ ?_);simp[hnt,dCnf,hok]) | (intro hc;(try simp[hnt,dCnf,hok]at hc);(try (exfalso;omega))) | (refine⟨?_,?_⟩; · omega) | omega | apply_assumption -exfalso -symm | (exfalso;omega)))
 obtain⟨p,hp,hp',hpm⟩:=Aq_ hlt
 obtain⟨hw5,hw6,hw7,hw8⟩:=hw4 p hpm
 have hbad:Cb_ c p=false→BI_ c=false:=by
  intro hb
  rw[hok,List.all_eq_false]
  exact⟨p,hpm,by simp[hb]⟩
 have Fz_:Cb_ c p=true→(c.prods.take (k+1)).all (Cb_ c)=true:=by
  intro hb
  rw[eL0 hlt,eU0,hkk,hp'];simp[hb]
 by_cases hh1:p.head<0
 ·have:=hbad (by simp[Cb_,ntOK,show ¬(0≤p.head) by omega])
  (repeat (first | refine Ak_ fun K hK=> ?_ | (refine DW_r AH_ Tryz.mixed (by kernel_rfl) ?_;simp[AH_,hnt,dCnf,Af_,hlt,hp',hh1,this];try simp (disch:=omega) only[Aa_]) | refine Ac_ ?_ | (refine As_ ?_ ?_ ?_;(· (simp[hnt,dCnf,Af_,hlt,hp',hh1,this];done));(try (rotate_left;(· (intro hc;(try simp[hnt,dCnf,Af_,hlt,hp',hh1,this]at hc);done))))) | (refine Al_ ?_;simp[Tryz.results145,hnt,dCnf,Af_,hlt,hp',hh1,this]) | ((first | refine Ah_ ?_ | refine Ag_ ?_);simp[hnt,dCnf,Af_,hlt,hp',hh1,this]) | (intro hc;(try simp[hnt,dCnf,Af_,hlt,hp',hh1,this]at hc);(try (exfalso;omega))) | (refine⟨?_,?_⟩; · omega) | omega | apply_assumption -exfalso -symm | (exfalso;omega)))
 by_cases hh2:c.nts≤p.head
 ·have:=hbad (by simp[Cb_,ntOK,show ¬(p.head<c.nts) by omega])
  (repeat (first | refine Ak_ fun K hK=> ?_ | (refine DW_r AH_ Tryz.mixed (by kernel_rfl) ?_;simp[AH_,hnt,dCnf,Af_,hlt,hp',hh1,hh2,this];try simp (disch:=omega) only[Aa_]) | refine Ac_ ?_ | (refine As_ ?_ ?_ ?_;(· (simp[hnt,dCnf,Af_,hlt,hp',hh1,hh2,this];done));(try (rotate_left;(· (intro hc;(try simp[hnt,dCnf,Af_,hlt,hp',hh1,hh2,this]at hc);done))))) | (refine Al_ ?_;simp[Tryz.results145,hnt,dCnf,Af_,hlt,hp',hh1,hh2,this]) | ((first | refine Ah_ ?_ | refine Ag_ ?_);simp[hnt,dCnf,Af_,hlt,hp',hh1,hh2,this]) | (intro hc;(try simp[hnt,dCnf,Af_,hlt,hp',hh1,hh2,this]at hc);(try (exfalso;omega))) | (refine⟨?_,?_⟩; · omega) | omega | apply_assumption -exfalso -symm | (exfalso;omega)))
 have hnt':ntOK c p.head=true:=by simp[ntOK,show 0≤p.head by omega,show p.head<c.nts by omega]
 (repeat (first | refine Ak_ fun K hK=> ?_ | (refine DW_r AH_ Tryz.mixed (by kernel_rfl) ?_;simp[AH_,hnt,dCnf,Af_,hlt,hp',hh1,hh2];try simp (disch:=omega) only[Aa_]) | refine Ac_ ?_ | (refine As_ ?_ ?_ ?_;(· (simp[hnt,dCnf,Af_,hlt,hp',hh1,hh2];done));(try (rotate_left;(· (intro hc;(try simp[hnt,dCnf,Af_,hlt,hp',hh1,hh2]at hc);done))))) | (refine Al_ ?_;simp[Tryz.results145,hnt,dCnf,Af_,hlt,hp',hh1,hh2]) | ((first | refine Ah_ ?_ | refine Ag_ ?_);simp[hnt,dCnf,Af_,hlt,hp',hh1,hh2]) | (intro hc;(try simp[hnt,dCnf,Af_,hlt,hp',hh1,hh2]at hc);(try (exfalso;omega))) | (refine⟨?_,?_⟩; · omega) | omega | apply_assumption -exfalso -symm | (exfalso;omega)))
 refine Am_ (X:={j:Nat//j≤p.body.length∧(p.body.take j).any (CJ_ c)=false}) (fun j=>⟨[(1,.ref [.int .i64 c.nts,Bh_ c.prods]),(3,.int .i64 k),(4,.ref [.int .i64 p.head,AM_ p.body]),(5,.int .i64 j.1)],[]⟩) (fun j=>p.body.length-j.1) ⟨0,by simp⟩ (Sub.lit (by simp)) ?_
 rintro⟨j,hj,hjj⟩
 by_cases hlj:j<p.body.length
 rotate_left
 ·have hje:j=p.body.length:=by omega
  subst hje
  rw[aT0]at hjj
  have hgood:=Fz_ (by simp[Cb_,hnt',hjj])
  (repeat (first | refine Ak_ fun K hK=> ?_ | (refine DW_r AH_ Tryz.mixed (by kernel_rfl) ?_;simp[AH_,hnt];try simp (disch:=omega) only[Aa_]) | refine Ac_ ?_ | (refine As_ ?_ ?_ ?_;(· (simp[hnt];done));(try (rotate_left;(· (intro hc;(try simp[hnt]at hc);done))))) | (refine Al_ ?_;simp[Tryz.results145,hnt]) | ((first | refine Ah_ ?_ | refine Ag_ ?_);simp[hnt]) | (intro hc;(try simp[hnt]at hc);(try (exfalso;omega))) | (refine⟨?_,?_⟩; · omega) | omega | apply_assumption -exfalso -symm | (exfalso;omega)))
  refine Ap_.mk ⟨k+1,by omega,hgood⟩ (Sub.lit (by simp)) (by simp;omega)
  (repeat (first | refine Ak_ fun K hK=> ?_ | (refine DW_r AH_ Tryz.mixed (by kernel_rfl) ?_;simp[AH_,hnt];try simp (disch:=omega) only[Aa_]) | refine Ac_ ?_ | (refine As_ ?_ ?_ ?_;(· (simp[hnt];done));(try (rotate_left;(· (intro hc;(try simp[hnt]at hc);done))))) | (refine Al_ ?_;simp[Tryz.results145,hnt]) | ((first | refine Ah_ ?_ | refine Ag_ ?_);simp[hnt]) | (intro hc;(try simp[hnt]at hc);(try (exfalso;omega))) | (refine⟨?_,?_⟩; · omega) | omega | apply_assumption -exfalso -symm | (exfalso;omega)))
 obtain⟨s,hs,hs',hsm⟩:=Aq_ hlj
 have hsn:=hw8 s hsm
 have hb2:CJ_ c s=true→BI_ c=false:=by
  intro hb
  refine hbad ?_
  simp only[Cb_,hnt',cC0,Bool.not_eq_false',bY0]
  exact⟨s,hsm,hb⟩
 have hst2:CJ_ c s=false→(p.body.take (j+1)).any (CJ_ c)=false:=by
  intro hb
  rw[eL0 hlj,eJ0,hjj,hs'];simp[hb]
 by_cases hs1:s.n<0
 ·have:=hb2 (by cases hl:s.label<;>simp[CJ_,hl,hs1,ntOK,show ¬(0≤s.n) by omega])
  (repeat (first | refine Ak_ fun K hK=> ?_ | (refine DW_r AH_ Tryz.mixed (by kernel_rfl) ?_;simp[AH_,hnt,dSym,hlj,hs',hs1,this];try simp (disch:=omega) only[Aa_]) | refine Ac_ ?_ | (refine As_ ?_ ?_ ?_;(· (simp[hnt,dSym,hlj,hs',hs1,this];done));(try (rotate_left;(· (intro hc;(try simp[hnt,dSym,hlj,hs',hs1,this]at hc);done))))) | (refine Al_ ?_;simp[Tryz.results145,hnt,dSym,hlj,hs',hs1,this]) | ((first | refine Ah_ ?_ | refine Ag_ ?_);simp[hnt,dSym,hlj,hs',hs1,this]) | (intro hc;(try simp[hnt,dSym,hlj,hs',hs1,this]at hc);(try (exfalso;omega))) | (refine⟨?_,?_⟩; · omega) | omega | apply_assumption -exfalso -symm | (exfalso;omega)))
 cases hl:s.label
 ·by_cases hs2:c.nts≤s.n
  ·have:=hb2 (by simp[CJ_,hl,ntOK,show ¬(s.n<c.nts) by omega])
   (repeat (first | refine Ak_ fun K hK=> ?_ | (refine DW_r AH_ Tryz.mixed (by kernel_rfl) ?_;simp[AH_,hnt,dSym,hlj,hs',hs1,hs2,hl,this];try simp (disch:=omega) only[Aa_]) | refine Ac_ ?_ | (refine As_ ?_ ?_ ?_;(· (simp[hnt,dSym,hlj,hs',hs1,hs2,hl,this];done));(try (rotate_left;(· (intro hc;(try simp[hnt,dSym,hlj,hs',hs1,hs2,hl,this]at hc);done))))) | (refine Al_ ?_;simp[Tryz.results145,hnt,dSym,hlj,hs',hs1,hs2,hl,this]) | ((first | refine Ah_ ?_ | refine Ag_ ?_);simp[hnt,dSym,hlj,hs',hs1,hs2,hl,this]) | (intro hc;(try simp[hnt,dSym,hlj,hs',hs1,hs2,hl,this]at hc);(try (exfalso;omega))) | (refine⟨?_,?_⟩; · omega) | omega | apply_assumption -exfalso -symm | (exfalso;omega)))
  ·have hgd:=hst2 (by simp[CJ_,hl,ntOK,show 0≤s.n by omega,show s.n<c.nts by omega])
   (repeat (first | refine Ak_ fun K hK=> ?_ | (refine DW_r AH_ Tryz.mixed (by kernel_rfl) ?_;simp[AH_,hnt,dSym,hlj,hs',hs1,hs2,hl];try simp (disch:=omega) only[Aa_]) | refine Ac_ ?_ | (refine As_ ?_ ?_ ?_;(· (simp[hnt,dSym,hlj,hs',hs1,hs2,hl];done));(try (rotate_left;(· (intro hc;(try simp[hnt,dSym,hlj,hs',hs1,hs2,hl]at hc);done))))) | (refine Al_ ?_;simp[Tryz.results145,hnt,dSym,hlj,hs',hs1,hs2,hl]) | ((first | refine Ah_ ?_ | refine Ag_ ?_);simp[hnt,dSym,hlj,hs',hs1,hs2,hl]) | (intro hc;(try simp[hnt,dSym,hlj,hs',hs1,hs2,hl]at hc);(try (exfalso;omega))) | (refine⟨?_,?_⟩; · omega) | omega | apply_assumption -exfalso -symm | (exfalso;omega)))
   refine Ap_.mk ⟨j+1,by omega,hgd⟩ (Sub.lit (by simp)) (by simp;omega)
   (repeat (first | refine Ak_ fun K hK=> ?_ | (refine DW_r AH_ Tryz.mixed (by kernel_rfl) ?_;simp[AH_,hnt];try simp (disch:=omega) only[Aa_]) | refine Ac_ ?_ | (refine As_ ?_ ?_ ?_;(· (simp[hnt];done));(try (rotate_left;(· (intro hc;(try simp[hnt]at hc);done))))) | (refine Al_ ?_;simp[Tryz.results145,hnt]) | ((first | refine Ah_ ?_ | refine Ag_ ?_);simp[hnt]) | (intro hc;(try simp[hnt]at hc);(try (exfalso;omega))) | (refine⟨?_,?_⟩; · omega) | omega | apply_assumption -exfalso -symm | (exfalso;omega)))
 ·by_cases hs2:16≤s.n
  ·have:=hb2 (by simp[CJ_,hl,hs2])
   (repeat (first | refine Ak_ fun K hK=> ?_ | (refine DW_r AH_ Tryz.mixed (by kernel_rfl) ?_;simp[AH_,hnt,dSym,hlj,hs',hs1,hs2,hl,this];try simp (disch:=omega) only[Aa_]) | refine Ac_ ?_ | (refine As_ ?_ ?_ ?_;(· (simp[hnt,dSym,hlj,hs',hs1,hs2,hl,this];done));(try (rotate_left;(· (intro hc;(try simp[hnt,dSym,hlj,hs',hs1,hs2,hl,this]at hc);done))))) | (refine Al_ ?_;simp[Tryz.results145,hnt,dSym,hlj,hs',hs1,hs2,hl,this]) | ((first | refine Ah_ ?_ | refine Ag_ ?_);simp[hnt,dSym,hlj,hs',hs1,hs2,hl,this]) | (intro hc;(try simp[hnt,dSym,hlj,hs',hs1,hs2,hl,this]at hc);(try (exfalso;omega))) | (refine⟨?_,?_⟩; · omega) | omega | apply_assumption -exfalso -symm | (exfalso;omega)))
  ·have hgd:=hst2 (by simp[CJ_,hl,hs1,hs2])
   (repeat (first | refine Ak_ fun K hK=> ?_ | (refine DW_r AH_ Tryz.mixed (by kernel_rfl) ?_;simp[AH_,hnt,dSym,hlj,hs',hs1,hs2,hl];try simp (disch:=omega) only[Aa_]) | refine Ac_ ?_ | (refine As_ ?_ ?_ ?_;(· (simp[hnt,dSym,hlj,hs',hs1,hs2,hl];done));(try (rotate_left;(· (intro hc;(try simp[hnt,dSym,hlj,hs',hs1,hs2,hl]at hc);done))))) | (refine Al_ ?_;simp[Tryz.results145,hnt,dSym,hlj,hs',hs1,hs2,hl]) | ((first | refine Ah_ ?_ | refine Ag_ ?_);simp[hnt,dSym,hlj,hs',hs1,hs2,hl]) | (intro hc;(try simp[hnt,dSym,hlj,hs',hs1,hs2,hl]at hc);(try (exfalso;omega))) | (refine⟨?_,?_⟩; · omega) | omega | apply_assumption -exfalso -symm | (exfalso;omega)))
   refine Ap_.mk ⟨j+1,by omega,hgd⟩ (Sub.lit (by simp)) (by simp;omega)
   (repeat (first | refine Ak_ fun K hK=> ?_ | (refine DW_r AH_ Tryz.mixed (by kernel_rfl) ?_;simp[AH_,hnt];try simp (disch:=omega) only[Aa_]) | refine Ac_ ?_ | (refine As_ ?_ ?_ ?_;(· (simp[hnt];done));(try (rotate_left;(· (intro hc;(try simp[hnt]at hc);done))))) | (refine Al_ ?_;simp[Tryz.results145,hnt]) | ((first | refine Ah_ ?_ | refine Ag_ ?_);simp[hnt]) | (intro hc;(try simp[hnt]at hc);(try (exfalso;omega))) | (refine⟨?_,?_⟩; · omega) | omega | apply_assumption -exfalso -symm | (exfalso;omega)))
theorem Aj_.wkT {P:Program} {f:FuncId} {args ds es:List DVal} (h:Aj_ P f args (.tup ds)) (hw:wkA ds es) (hd:mx (.tup es)=0):Aj_ P f args (.tup es):=by
 refine⟨h.1,hd,fun cur M w vs hM hr=>(h.2.2 cur M w vs hM hr).mono fun e w' ⟨v,h1,h2,h3⟩=>⟨v,h1,h2,?_⟩⟩
 simp only[rd]at h3 ⊢
 obtain⟨us,rfl,h4⟩:=h3
 exact⟨us,rfl,QP_ hw h4⟩
def cnf0 : Cnf:=⟨0,[]⟩
theorem Tt_ (c:Cnf):Aj_ Tryz.prog 144 [.agg (dCnf c)] (.tup [.agg (dCnf (if BI_ c then Cd_ c else cnf0)),.int .i64 (if BI_ c then 0 else 220)]):=by
 have h:=Yq_ c
 cases hb:BI_ c<;>rw[hb]at h
 ·exact Aj_.wkT h (by simp[cnf0,dCnf,Bh_]) (by simp[mx])
 ·exact h
theorem norm_len (c:Cnf):(Cd_ c).prods.length≤c.prods.length:=by
 have h:=compL_len (e:=fun p q=>Ba_ p q==0) (HF_ Ba_ c.prods)
 rw[(CW_ _ _).length_eq]at h
 exact h
theorem look_some {l:List (Int×Int)} {a h:Int}:Er_ l a=some h→∃j,AV_ (l.map dKey) (.int .i64 a)=some j∧(l.map Gg_).getD j .any= .int .i64 h:=by
 induction l with
 | nil=>simp[Er_]
 | cons p l ih =>
  obtain⟨k,g⟩:=p
  simp only[Er_,List.map_cons,AV_]
  intro hh
  by_cases hk:a=k
  ·rw[if_pos hk]at hh
   simp only[aA0]at hh
   subst hh;subst hk
   exact⟨0,by simp[dKey,BE_,eqCs],by simp[Gg_]⟩
  ·rw[if_neg hk]at hh
   obtain⟨j,h1,h2⟩:=ih hh
   exact⟨j+1,by simp[dKey,BE_,eqCs,hk,h1],by simpa using h2⟩
theorem look_none {l:List (Int×Int)} {a:Int}:Er_ l a=none→AV_ (l.map dKey) (.int .i64 a)=none:=by
 induction l with
 | nil=>simp[AV_]
 | cons p l ih =>
  obtain⟨k,g⟩:=p
  simp only[Er_,List.map_cons,AV_]
  intro hh
  by_cases hk:a=k
  ·rw[if_pos hk]at hh;simp at hh
  ·rw[if_neg hk]at hh
   simp[dKey,BE_,eqCs,hk,ih hh]
def Az_ (n:Int):List DVal:=[.int .i64 n]
@[simp] theorem mx_int1 (n:Int):mxL (Az_ n)=0:=by simp[Az_,mxL,mx]
@[simp] theorem mx_ints (l:List Int):mxR (l.map Az_)=0:=mxR0 _ (fun x=>by simp[Az_,mxL,mx]) l
def By_ : Ann:=⟨[34,46],[⟨4,[7],[],[]⟩]⟩
set_option maxHeartbeats 4000000 in
theorem UL_ (m:Mk) (l:List Sym) (h1: -9223372036854775808≤m.nts) (h2:m.nts+l.length+1≤9223372036854775807) (h3:(m.prods.length+l.length+1)*32≤150000000000000) :
  AU_ Tryz.prog (.func 214) [.bx 0 0 0,AM_ l] (dMk 0 m) (.osl 3 1) (dMk 1 (m.syms l).1++[⟨3,1,.row 3 1 8 ((m.syms l).2.map Az_)⟩]):=by
 refine Av_ [] [(0,0,0),(1,1,1),(2,2,0),(50,3,1)] (fn:=Tryz.f214) Tryz.func214 rfl Tryz.call214 (by simp[Tryz.ntmps214]) (by simp) (by simp[dMk]) ?_
 intro hwf B hnt
 simp only[Tryz.ntmps214]at hnt
 have hgAnn:=Ao_ By_ Tryz.mixed (aj2 @By_.eq_1 Tryz.results214)
 simp only[argS]
 (repeat (first | refine Ak_ fun K hK=> ?_ | (refine DW_r By_ Tryz.mixed (by kernel_rfl) ?_;simp[By_,hnt,dMk];try simp (disch:=omega) only[Aa_]) | refine Ac_ ?_ | (refine As_ ?_ ?_ ?_;(· (simp[hnt,dMk];done));(try (rotate_left;(· (intro hc;(try simp[hnt,dMk]at hc);done))))) | (refine Al_ ?_;simp[Tryz.results214,hnt,dMk]) | ((first | refine Ah_ ?_ | refine Ag_ ?_);simp[hnt,dMk]) | (intro hc;(try simp[hnt,dMk]at hc);(try (exfalso;omega))) | (refine⟨?_,?_⟩; · omega) | omega | apply_assumption -exfalso -symm | (exfalso;omega)))
 refine Bn_ 5 50 3 1 8 (by simp[hnt,Tryz.ntmps214]) (fun n=> ?_)
 refine Am_ (X:={x:Nat×Mk×List Int//x.1≤l.length∧((x.2.1.syms (l.drop x.1)).1,x.2.2++(x.2.1.syms (l.drop x.1)).2)=m.syms l∧m.nts≤x.2.1.nts∧x.2.1.nts≤m.nts+x.1∧x.2.1.prods.length≤m.prods.length+x.1∧x.2.2.length=x.1})
  (fun x=>⟨[(0,.bx 0 0 0),(5,.osl 50 1),(11,AM_ l),(12,.int .i64 l.length),(13,.int .i64 x.1.1)],dMk 1 x.1.2.1++[⟨50,1,.row 3 1 8 (x.1.2.2.map Az_)⟩]⟩) (fun x=>l.length-x.1.1) ⟨(0,m,[]),by simp⟩ (Sub.lit (by simp[dMk])) ?_
 rintro⟨⟨k,m1,acc⟩,hk,hR,b1,b2,b3,b4⟩
 simp only at hk hR b1 b2 b3 b4 ⊢
 by_cases hlt:k<l.length
 ·obtain⟨s,hs,hs',hsm⟩:=Aq_ hlt
  rw[aR0 hlt,hs']at hR
  simp only[Mk.syms]at hR
  have hz:(acc.length+1)*8≤150000000000000:=by
   have h4:(m.prods.length+l.length+1)*8≤(m.prods.length+l.length+1)*32:=bT0 _ (by omega)
   have h5:(acc.length+1)*8≤(m.prods.length+l.length+1)*8:=aO0 _ (by omega)
   omega
  have hz2:acc.length≤9223372036854775806:=by omega
  cases hl:s.label
  ·have hsym:m1.sym s=(m1,s.n):=by unfold Mk.sym;simp[hl]
   rw[hsym]at hR
   (repeat (first | refine Ak_ fun K hK=> ?_ | (refine DW_r By_ Tryz.mixed (by kernel_rfl) ?_;simp[By_,hnt,dMk,dSym,hlt,hs',hl,hz,hz2];try simp (disch:=omega) only[Aa_]) | refine Ac_ ?_ | (refine As_ ?_ ?_ ?_;(· (simp[hnt,dMk,dSym,hlt,hs',hl,hz,hz2];done));(try (rotate_left;(· (intro hc;(try simp[hnt,dMk,dSym,hlt,hs',hl,hz,hz2]at hc);done))))) | (refine Al_ ?_;simp[Tryz.results214,hnt,dMk,dSym,hlt,hs',hl,hz,hz2]) | ((first | refine Ah_ ?_ | refine Ag_ ?_);simp[hnt,dMk,dSym,hlt,hs',hl,hz,hz2]) | (intro hc;(try simp[hnt,dMk,dSym,hlt,hs',hl,hz,hz2]at hc);(try (exfalso;omega))) | (refine⟨?_,?_⟩; · omega) | omega | apply_assumption -exfalso -symm | (exfalso;omega)))
   refine Ap_.mk ⟨(k+1,m1,acc++[s.n]),show k+1≤l.length∧_∧m.nts≤m1.nts∧m1.nts≤m.nts+((k+1:Nat):Int)∧m1.prods.length≤m.prods.length+(k+1)∧(acc++[s.n]).length=k+1 from ⟨by omega,by simpa using hR,b1,by omega,by omega,by simp;omega⟩⟩ (Sub.lit (by simp[dMk,Az_])) (by simp;omega)
   (repeat (first | refine Ak_ fun K hK=> ?_ | (refine DW_r By_ Tryz.mixed (by kernel_rfl) ?_;simp[By_,hnt];try simp (disch:=omega) only[Aa_]) | refine Ac_ ?_ | (refine As_ ?_ ?_ ?_;(· (simp[hnt];done));(try (rotate_left;(· (intro hc;(try simp[hnt]at hc);done))))) | (refine Al_ ?_;simp[Tryz.results214,hnt]) | ((first | refine Ah_ ?_ | refine Ag_ ?_);simp[hnt]) | (intro hc;(try simp[hnt]at hc);(try (exfalso;omega))) | (refine⟨?_,?_⟩; · omega) | omega | apply_assumption -exfalso -symm | (exfalso;omega)))
  ·cases hlk:Er_ m1.hs s.n with
   | some h =>
    have hsym:m1.sym s=(m1,h):=by unfold Mk.sym;simp[hl,hlk]
    rw[hsym]at hR
    obtain⟨j,hj1,hj2⟩:=look_some hlk
    simp only[bG0,bI0]at hj2
    (repeat (first | refine Ak_ fun K hK=> ?_ | (refine DW_r By_ Tryz.mixed (by kernel_rfl) ?_;simp[By_,hnt,dMk,dSym,hlt,hs',hl,hz,hz2,hj1,hj2,dKey,Bs_];try simp (disch:=omega) only[Aa_]) | refine Ac_ ?_ | (refine As_ ?_ ?_ ?_;(· (simp[hnt,dMk,dSym,hlt,hs',hl,hz,hz2,hj1,hj2,dKey,Bs_];done));(try (rotate_left;(· (intro hc;(try simp[hnt,dMk,dSym,hlt,hs',hl,hz,hz2,hj1,hj2,dKey,Bs_]at hc);done))))) | (refine Al_ ?_;simp[Tryz.results214,hnt,dMk,dSym,hlt,hs',hl,hz,hz2,hj1,hj2,dKey,Bs_]) | ((first | refine Ah_ ?_ | refine Ag_ ?_);simp[hnt,dMk,dSym,hlt,hs',hl,hz,hz2,hj1,hj2,dKey,Bs_]) | (intro hc;(try simp[hnt,dMk,dSym,hlt,hs',hl,hz,hz2,hj1,hj2,dKey,Bs_]at hc);(try (exfalso;omega))) | (refine⟨?_,?_⟩; · omega) | omega | apply_assumption -exfalso -symm | (exfalso;omega)))
    refine Ap_.mk ⟨(k+1,m1,acc++[h]),show k+1≤l.length∧_∧m.nts≤m1.nts∧m1.nts≤m.nts+((k+1:Nat):Int)∧m1.prods.length≤m.prods.length+(k+1)∧(acc++[h]).length=k+1 from ⟨by omega,by simpa using hR,b1,by omega,by omega,by simp;omega⟩⟩ (Sub.lit (by simp[dMk,Az_])) (by simp;omega)
    (repeat (first | refine Ak_ fun K hK=> ?_ | (refine DW_r By_ Tryz.mixed (by kernel_rfl) ?_;simp[By_,hnt];try simp (disch:=omega) only[Aa_]) | refine Ac_ ?_ | (refine As_ ?_ ?_ ?_;(· (simp[hnt];done));(try (rotate_left;(· (intro hc;(try simp[hnt]at hc);done))))) | (refine Al_ ?_;simp[Tryz.results214,hnt]) | ((first | refine Ah_ ?_ | refine Ag_ ?_);simp[hnt]) | (intro hc;(try simp[hnt]at hc);(try (exfalso;omega))) | (refine⟨?_,?_⟩; · omega) | omega | apply_assumption -exfalso -symm | (exfalso;omega)))
   | none =>
    have hsym:m1.sym s=({ m1 with nts:=m1.nts+1,hs:=m1.hs++[(s.n,m1.nts)],prods:=m1.prods++[⟨m1.nts,[s]⟩] },m1.nts):=by unfold Mk.sym;simp[hl,hlk]
    rw[hsym]at hR
    have hj:=look_none hlk
    have e1:=Fj_ m1 (by omega) (by omega)
    have e2:=Gy_ { m1 with nts:=m1.nts+1,hs:=m1.hs++[(s.n,m1.nts)] } m1.nts [⟨true,s.n⟩] (Nat.le_trans (aO0 32 (show m1.prods.length+1≤m.prods.length+l.length+1 by omega)) h3)
    (repeat (first | refine Ak_ fun K hK=> ?_ | (refine DW_r By_ Tryz.mixed (by kernel_rfl) ?_;simp[By_,hnt,dMk,dSym,hlt,hs',hl,hz,hz2,hj,dKey,Gg_,Bs_];try simp (disch:=omega) only[Aa_]) | refine Ac_ ?_ | (refine As_ ?_ ?_ ?_;(· (simp[hnt,dMk,dSym,hlt,hs',hl,hz,hz2,hj,dKey,Gg_,Bs_];done));(try (rotate_left;(· (intro hc;(try simp[hnt,dMk,dSym,hlt,hs',hl,hz,hz2,hj,dKey,Gg_,Bs_]at hc);done))))) | (refine Al_ ?_;simp[Tryz.results214,hnt,dMk,dSym,hlt,hs',hl,hz,hz2,hj,dKey,Gg_,Bs_]) | ((first | refine Ah_ ?_ | refine Ag_ ?_);simp[hnt,dMk,dSym,hlt,hs',hl,hz,hz2,hj,dKey,Gg_,Bs_]) | (intro hc;(try simp[hnt,dMk,dSym,hlt,hs',hl,hz,hz2,hj,dKey,Gg_,Bs_]at hc);(try (exfalso;omega))) | (refine Ar_ [(0,0),(1,1),(2,2)] [] (e1) ?_ ?_;(· (simp[hnt,dMk,dSym,hlt,hs',hl,hz,hz2,hj,dKey,Gg_,Bs_];done));(intro _;try simp[hnt,dMk,dSym,hlt,hs',hl,hz,hz2,hj,dKey,Gg_,Bs_])) | (refine Ar_ [(0,0),(1,1),(2,2)] [] (e2) ?_ ?_;(· (simp[hnt,dMk,dSym,hlt,hs',hl,hz,hz2,hj,dKey,Gg_,Bs_];done));(intro _;try simp[hnt,dMk,dSym,hlt,hs',hl,hz,hz2,hj,dKey,Gg_,Bs_])) | (refine⟨?_,?_⟩; · omega) | omega | apply_assumption -exfalso -symm | (exfalso;omega)))
    refine Ap_.mk ⟨(k+1,{ m1 with nts:=m1.nts+1,hs:=m1.hs++[(s.n,m1.nts)],prods:=m1.prods++[⟨m1.nts,[s]⟩] },acc++[m1.nts]),show k+1≤l.length∧_∧m.nts≤m1.nts+1∧m1.nts+1≤m.nts+((k+1:Nat):Int)∧(m1.prods++[(⟨m1.nts,[s]⟩:Prod)]).length≤m.prods.length+(k+1)∧(acc++[m1.nts]).length=k+1 from ⟨by omega,by simpa using hR,by omega,by omega,by simp;omega,by simp;omega⟩⟩ (Sub.lit (by simp[dMk,Az_,Af_,dSym,hl,dKey,Gg_])) (by simp;omega)
    (repeat (first | refine Ak_ fun K hK=> ?_ | (refine DW_r By_ Tryz.mixed (by kernel_rfl) ?_;simp[By_,hnt];try simp (disch:=omega) only[Aa_]) | refine Ac_ ?_ | (refine As_ ?_ ?_ ?_;(· (simp[hnt];done));(try (rotate_left;(· (intro hc;(try simp[hnt]at hc);done))))) | (refine Al_ ?_;simp[Tryz.results214,hnt]) | ((first | refine Ah_ ?_ | refine Ag_ ?_);simp[hnt]) | (intro hc;(try simp[hnt]at hc);(try (exfalso;omega))) | (refine Ar_ [(0,0),(1,1),(2,2)] [] (e1) ?_ ?_;(· (simp[hnt];done));(intro _;try simp[hnt])) | (refine Ar_ [(0,0),(1,1),(2,2)] [] (e2) ?_ ?_;(· (simp[hnt];done));(intro _;try simp[hnt])) | (refine⟨?_,?_⟩; · omega) | omega | apply_assumption -exfalso -symm | (exfalso;omega)))
 ·have hkk:k=l.length:=by omega
  subst hkk
  rw[bP0]at hR
  simp only[Mk.syms,bK0]at hR
  (repeat (first | refine Ak_ fun K hK=> ?_ | (refine DW_r By_ Tryz.mixed (by kernel_rfl) ?_;simp[By_,hnt,dMk];try simp (disch:=omega) only[Aa_]) | refine Ac_ ?_ | (refine As_ ?_ ?_ ?_;(· (simp[hnt,dMk];done));(try (rotate_left;(· (intro hc;(try simp[hnt,dMk]at hc);done))))) | (refine Al_ ?_;simp[Tryz.results214,hnt,dMk]) | ((first | refine Ah_ ?_ | refine Ag_ ?_);simp[hnt,dMk]) | (intro hc;(try simp[hnt,dMk]at hc);(try (exfalso;omega))) | (refine⟨?_,?_⟩; · omega) | omega | apply_assumption -exfalso -symm | (exfalso;omega)))
  rw[←hR]
  exact⟨⟨rfl,rfl⟩,rfl,⟨rfl,rfl⟩,rfl⟩
def tlC (m:Mk) (h:Int) (k:Nat):List Int:=h::(List.range k).map fun i:Nat=>m.nts+(i:Int)
theorem EN_ (m:Mk) (h:Int) (k:Nat):(tlC m h k).length=k+1:=by simp[tlC]
theorem tlC_succ (m:Mk) (h:Int) (k:Nat):tlC m h (k+1)=tlC m h k++[m.nts+k]:=by simp[tlC,dX0]
theorem tlC_at (m:Mk) (h:Int) (k i:Nat) (hi:i<k):(tlC m h k)[i+1]? =some (m.nts+i):=by simp[tlC,hi]
theorem drop3 {ns:List Int} {i:Nat} {a b:Int} (hi:i+2<ns.length) (ha:ns[i]? =some a):∀nts head,Dv_ nts head (ns.drop i)=⟨head,[nS a,nS nts]⟩::Dv_ (nts+1) nts (ns.drop (i+1)):=by
 intro nts head
 obtain⟨h1,rfl⟩:=aC0.1 ha
 rw[aR0 h1,aR0 (show i+1<ns.length by omega),aR0 (show i+1+1<ns.length by omega)]
 rfl
theorem drop2 {ns:List Int} {i:Nat} {a b:Int} (hi:i+2=ns.length) (ha:ns[i]? =some a) (hb:ns[i+1]? =some b):∀nts head,Dv_ nts head (ns.drop i)=[⟨head,[nS a,nS b]⟩]:=by
 intro nts head
 obtain⟨h1,rfl⟩:=aC0.1 ha
 obtain⟨h2,rfl⟩:=aC0.1 hb
 rw[aR0 h1,aR0 h2,cO0 (by omega)]
 rfl
def Be_ : Ann:=⟨[12,22,52,71],[]⟩
set_option maxHeartbeats 4000000 in
theorem NM_ (m:Mk) (h:Int) (ns:List Int) (h0:2≤ns.length) (h1: -9223372036854775808≤m.nts) (h2:m.nts+ns.length≤9223372036854775807) (h3:(m.prods.length+ns.length+1)*32≤150000000000000) :
  AU_ Tryz.prog (.func 216) [.bx 0 0 0,.int .i64 h,.sl 1 8 (ns.map Az_)] (dMk 0 m) (.tup []) (dMk 1 (m.chain h ns)):=by
 refine Av_ [] [(0,0,0),(1,1,1),(2,2,0)] (fn:=Tryz.f216) Tryz.func216 rfl Tryz.call216 (by simp[Tryz.ntmps216]) (by simp) (by simp[dMk]) ?_
 intro hwf B hnt
 simp only[Tryz.ntmps216]at hnt
 have hgAnn:=Ao_ Be_ Tryz.mixed (aj2 @Be_.eq_1 Tryz.results216)
 simp only[argS]
 obtain⟨q,hq⟩:∃q,ns.length=q+2:=⟨ns.length-2,by omega⟩
 rw[hq]at h2 h3
 have hw:IntKind.i64.wrap (q:Int)=q:=Aa_ (by omega) (by omega)
 have hq1:((q:Int)+2-2)=q:=by omega
 (repeat (first | refine Ak_ fun K hK=> ?_ | (refine DW_r Be_ Tryz.mixed (by kernel_rfl) ?_;simp[Be_,hnt,dMk,hw,hq,hq1];try simp (disch:=omega) only[Aa_]) | refine Ac_ ?_ | (refine As_ ?_ ?_ ?_;(· (simp[hnt,dMk,hw,hq,hq1];done));(try (rotate_left;(· (intro hc;(try simp[hnt,dMk,hw,hq,hq1]at hc);done))))) | (refine Al_ ?_;simp[Tryz.results216,hnt,dMk,hw,hq,hq1]) | ((first | refine Ah_ ?_ | refine Ag_ ?_);simp[hnt,dMk,hw,hq,hq1]) | (intro hc;(try simp[hnt,dMk,hw,hq,hq1]at hc);(try (exfalso;omega))) | (refine⟨?_,?_⟩; · omega) | omega | apply_assumption -exfalso -symm | (exfalso;omega)))
 refine Am_ (X:={k:Nat//k≤q}) (fun k=>⟨[(0,.bx 0 0 0),(1,.int .i64 h),(2,.sl 1 8 (ns.map Az_)),(6,.osl 12 1),(7,.fn (.func 299) [.bx 0 0 0] []),(17,.int .i64 q),(18,.int .i64 k.1)],dMk 1 { m with nts:=m.nts+k.1 }++[⟨12,1,.row 3 1 8 ((tlC m h k.1).map Az_)⟩]⟩)
  (fun k=>q-k.1) ⟨0,by omega⟩ (Sub.lit (by simp[dMk,tlC,Az_])) ?_
 rintro⟨k,hk⟩
 have hz:(k+1+1)*8≤150000000000000:=by
  have h4:(m.prods.length+(q+2)+1)*8≤(m.prods.length+(q+2)+1)*32:=bT0 _ (by omega)
  have h5:(k+1+1)*8≤(m.prods.length+(q+2)+1)*8:=aO0 _ (by omega)
  exact Nat.le_trans h5 (Nat.le_trans h4 h3)
 by_cases hlt:k<q
 ·have e1:=Fj_ { m with nts:=m.nts+k } (by simp only;omega) (by simp only;omega)
  have hz2:k+1≤9223372036854775806:=by omega
  have htl:=tlC_succ m h k
  (repeat (first | refine Ak_ fun K hK=> ?_ | (refine DW_r Be_ Tryz.mixed (by kernel_rfl) ?_;simp[Be_,hnt,dMk,hlt,hz,hz2,EN_];try simp (disch:=omega) only[Aa_]) | refine Ac_ ?_ | (refine As_ ?_ ?_ ?_;(· (simp[hnt,dMk,hlt,hz,hz2,EN_];done));(try (rotate_left;(· (intro hc;(try simp[hnt,dMk,hlt,hz,hz2,EN_]at hc);done))))) | (refine Al_ ?_;simp[Tryz.results216,hnt,dMk,hlt,hz,hz2,EN_]) | ((first | refine Ah_ ?_ | refine Ag_ ?_);simp[hnt,dMk,hlt,hz,hz2,EN_]) | (intro hc;(try simp[hnt,dMk,hlt,hz,hz2,EN_]at hc);(try (exfalso;omega))) | (refine Ar_ [(0,0),(1,1),(2,2)] [] (e1) ?_ ?_;(· (simp[hnt,dMk,hlt,hz,hz2,EN_];done));(intro _;try simp[hnt,dMk,hlt,hz,hz2,EN_])) | (refine⟨?_,?_⟩; · omega) | omega | apply_assumption -exfalso -symm | (exfalso;omega)))
  refine Ap_.mk ⟨k+1,by omega⟩ (Sub.lit (by simp[dMk,Az_,htl];omega)) (by simp;omega)
  (repeat (first | refine Ak_ fun K hK=> ?_ | (refine DW_r Be_ Tryz.mixed (by kernel_rfl) ?_;simp[Be_,hnt];try simp (disch:=omega) only[Aa_]) | refine Ac_ ?_ | (refine As_ ?_ ?_ ?_;(· (simp[hnt];done));(try (rotate_left;(· (intro hc;(try simp[hnt]at hc);done))))) | (refine Al_ ?_;simp[Tryz.results216,hnt]) | ((first | refine Ah_ ?_ | refine Ag_ ?_);simp[hnt]) | (intro hc;(try simp[hnt]at hc);(try (exfalso;omega))) | (refine Ar_ [(0,0),(1,1),(2,2)] [] (e1) ?_ ?_;(· (simp[hnt];done));(intro _;try simp[hnt])) | (refine⟨?_,?_⟩; · omega) | omega | apply_assumption -exfalso -symm | (exfalso;omega)))
 ·have hkk:k=q:=by omega
  subst hkk
  clear hlt
  obtain⟨T,hT⟩:∃T,T=tlC m h k:=⟨_,rfl⟩
  have hTl:T.length=k+1:=by rw[hT,EN_]
  have hT0:T[0]? =some h:=by rw[hT];rfl
  have hTs:∀i,i<k→T[i+1]? =some (m.nts+i):=fun i hi=>by rw[hT];exact tlC_at m h k i hi
  rw[←hT]
  clear hT
  have hk1:((k:Int)+1-1)=k:=by omega
  (repeat (first | refine Ak_ fun K hK=> ?_ | (refine DW_r Be_ Tryz.mixed (by kernel_rfl) ?_;simp[Be_,hnt,dMk,hTl,hk1,hw];try simp (disch:=omega) only[Aa_]) | refine Ac_ ?_ | (refine As_ ?_ ?_ ?_;(· (simp[hnt,dMk,hTl,hk1,hw];done));(try (rotate_left;(· (intro hc;(try simp[hnt,dMk,hTl,hk1,hw]at hc);done))))) | (refine Al_ ?_;simp[Tryz.results216,hnt,dMk,hTl,hk1,hw]) | ((first | refine Ah_ ?_ | refine Ag_ ?_);simp[hnt,dMk,hTl,hk1,hw]) | (intro hc;(try simp[hnt,dMk,hTl,hk1,hw]at hc);(try (exfalso;omega))) | (refine⟨?_,?_⟩; · omega) | omega | apply_assumption -exfalso -symm | (exfalso;omega)))
  refine Am_ (X:={x:Nat×List Prod//x.1≤k∧x.2.length=m.prods.length+x.1∧∀t,T[x.1]? =some t→x.2++Dv_ (m.nts+x.1) t (ns.drop x.1)=m.prods++Dv_ m.nts h ns})
   (fun x=>⟨[(0,.bx 0 0 0),(1,.int .i64 h),(2,.sl 1 8 (ns.map Az_)),(6,.osl 12 1),(8,.int .i64 k),(31,.vw 12 1 1 8 0 k),(32,.int .i64 k),(33,.int .i64 x.1.1)],dMk 1 { m with nts:=m.nts+k,prods:=x.1.2 }++[⟨12,1,.row 3 1 8 (T.map Az_)⟩]⟩)
   (fun x=>k-x.1.1) ⟨(0,m.prods),by simp[hT0]⟩ (Sub.lit (by simp[dMk])) ?_
  rintro⟨⟨i,P⟩,hi,hP,hR⟩
  simp only at hi hP hR ⊢
  obtain⟨t,ht,ht',_⟩:=Aq_ (show i<T.length by omega)
  obtain⟨a,ha,ha',_⟩:=Aq_ (show i<ns.length by omega)
  have hR:=hR t ht
  by_cases hlt:i<k
  ·have hT1:=hTs i hlt
   have hT1':T[i+1]'(by omega)=m.nts+i:=(aC0.1 hT1).2
   rw[drop3 (b:=0) (by omega) ha]at hR
   have e2:=Gy_ { m with nts:=m.nts+k,prods:=P } t [nS a,nS (m.nts+i)] (Nat.le_trans (aO0 32 (show P.length+1≤m.prods.length+(k+2)+1 by omega)) h3)
   simp only[nS]at e2
   have hv:k≤T.length:=by omega
   have htn:((i:Int)+1).toNat=i+1:=by omega
   have hb1:(0:Int)≤(i:Int)+1:=by omega
   have hb2:(i:Int)+1<(k:Int)+1:=by omega
   have hin:i<ns.length:=by omega
   have hmp:Option.map ((fun cs=>cs)∘Az_) T[((i:Int)+1).toNat]? =some [.int .i64 (m.nts+i)]:=by rw[htn,hT1];rfl
   have hr2:(([0,1]:List Nat)=List.range 2)=True:=eq_true rfl
   (repeat (first | refine Ak_ fun K hK=> ?_ | (refine DW_r Be_ Tryz.mixed (by kernel_rfl) ?_;simp[Be_,hnt,dMk,dSym,Az_,hlt,ht',ht,ha,ha',hT1,hT1',hTl,hq,hv,htn,hb1,hb2,hmp,hr2];try simp (disch:=omega) only[Aa_]) | refine Ac_ ?_ | (refine As_ ?_ ?_ ?_;(· (simp[hnt,dMk,dSym,Az_,hlt,ht',ht,ha,ha',hT1,hT1',hTl,hq,hv,htn,hb1,hb2,hmp,hr2];done));(try (rotate_left;(· (intro hc;(try simp[hnt,dMk,dSym,Az_,hlt,ht',ht,ha,ha',hT1,hT1',hTl,hq,hv,htn,hb1,hb2,hmp,hr2]at hc);done))))) | (refine Al_ ?_;simp[Tryz.results216,hnt,dMk,dSym,Az_,hlt,ht',ht,ha,ha',hT1,hT1',hTl,hq,hv,htn,hb1,hb2,hmp,hr2]) | ((first | refine Ah_ ?_ | refine Ag_ ?_);simp[hnt,dMk,dSym,Az_,hlt,ht',ht,ha,ha',hT1,hT1',hTl,hq,hv,htn,hb1,hb2,hmp,hr2]) | (intro hc;(try simp[hnt,dMk,dSym,Az_,hlt,ht',ht,ha,ha',hT1,hT1',hTl,hq,hv,htn,hb1,hb2,hmp,hr2]at hc);(try (exfalso;omega))) | (refine Ar_ [(0,0),(1,1),(2,2)] [] (e2) ?_ ?_;(· (simp[hnt,dMk,dSym,Az_,hlt,ht',ht,ha,ha',hT1,hT1',hTl,hq,hv,htn,hb1,hb2,hmp,hr2];done));(intro _;try simp[hnt,dMk,dSym,Az_,hlt,ht',ht,ha,ha',hT1,hT1',hTl,hq,hv,htn,hb1,hb2,hmp,hr2])) | (refine⟨?_,?_⟩; · omega) | omega | apply_assumption -exfalso -symm | (exfalso;omega)))
   simp only[htn,hT1]
   simp[hnt,Tryz.results216,Be_,dMk,dSym,Az_,hlt,ht',ht,ha,ha',hT1,hT1',hTl,hq,hv,htn,hb1,hb2,hmp,hr2]
   (repeat (first | refine Ak_ fun K hK=> ?_ | (refine DW_r Be_ Tryz.mixed (by kernel_rfl) ?_;simp[Be_,hnt,dMk,dSym,Az_,hlt,ht',ht,ha,ha',hT1,hT1',hTl,hq,hv,htn,hb1,hb2,hmp,hr2];try simp (disch:=omega) only[Aa_]) | refine Ac_ ?_ | (refine As_ ?_ ?_ ?_;(· (simp[hnt,dMk,dSym,Az_,hlt,ht',ht,ha,ha',hT1,hT1',hTl,hq,hv,htn,hb1,hb2,hmp,hr2];done));(try (rotate_left;(· (intro hc;(try simp[hnt,dMk,dSym,Az_,hlt,ht',ht,ha,ha',hT1,hT1',hTl,hq,hv,htn,hb1,hb2,hmp,hr2]at hc);done))))) | (refine Al_ ?_;simp[Tryz.results216,hnt,dMk,dSym,Az_,hlt,ht',ht,ha,ha',hT1,hT1',hTl,hq,hv,htn,hb1,hb2,hmp,hr2]) | ((first | refine Ah_ ?_ | refine Ag_ ?_);simp[hnt,dMk,dSym,Az_,hlt,ht',ht,ha,ha',hT1,hT1',hTl,hq,hv,htn,hb1,hb2,hmp,hr2]) | (intro hc;(try simp[hnt,dMk,dSym,Az_,hlt,ht',ht,ha,ha',hT1,hT1',hTl,hq,hv,htn,hb1,hb2,hmp,hr2]at hc);(try (exfalso;omega))) | (refine Ar_ [(0,0),(1,1),(2,2)] [] (e2) ?_ ?_;(· (simp[hnt,dMk,dSym,Az_,hlt,ht',ht,ha,ha',hT1,hT1',hTl,hq,hv,htn,hb1,hb2,hmp,hr2];done));(intro _;try simp[hnt,dMk,dSym,Az_,hlt,ht',ht,ha,ha',hT1,hT1',hTl,hq,hv,htn,hb1,hb2,hmp,hr2])) | (refine⟨?_,?_⟩; · omega) | omega | apply_assumption -exfalso -symm | (exfalso;omega)))
   refine Ap_.mk ⟨(i+1,P++[⟨t,[nS a,nS (m.nts+i)]⟩]),show i+1≤k∧(P++[(⟨t,[nS a,nS (m.nts+i)]⟩:Prod)]).length=m.prods.length+(i+1)∧_ from ⟨by omega,by simp;omega,fun t' h'=> ?_⟩⟩ (Sub.lit (by simp[dMk,nS])) (by simp;omega)
   ·simp only at h' ⊢
    rw[hT1]at h'
    simp only[aA0]at h'
    subst h'
    rw[←hR,aU0,show m.nts+((i+1:Nat):Int)=m.nts+i+1 by omega]
    rfl
   (repeat (first | refine Ak_ fun K hK=> ?_ | (refine DW_r Be_ Tryz.mixed (by kernel_rfl) ?_;simp[Be_,hnt];try simp (disch:=omega) only[Aa_]) | refine Ac_ ?_ | (refine As_ ?_ ?_ ?_;(· (simp[hnt];done));(try (rotate_left;(· (intro hc;(try simp[hnt]at hc);done))))) | (refine Al_ ?_;simp[Tryz.results216,hnt]) | ((first | refine Ah_ ?_ | refine Ag_ ?_);simp[hnt]) | (intro hc;(try simp[hnt]at hc);(try (exfalso;omega))) | (refine Ar_ [(0,0),(1,1),(2,2)] [] (e2) ?_ ?_;(· (simp[hnt];done));(intro _;try simp[hnt])) | (refine⟨?_,?_⟩; · omega) | omega | apply_assumption -exfalso -symm | (exfalso;omega)))
  ·have hik:i=k:=by omega
   subst hik
   obtain⟨b,hb,hb',_⟩:=Aq_ (show i+1<ns.length by omega)
   rw[drop2 (by omega) ha hb]at hR
   have e2:=Gy_ { m with nts:=m.nts+i,prods:=P } t [nS a,nS b] (Nat.le_trans (aO0 32 (show P.length+1≤m.prods.length+(i+2)+1 by omega)) h3)
   simp only[nS]at e2
   have htn:((i:Int)+1).toNat=i+1:=by omega
   have hmp:Option.map ((fun cs=>cs)∘Az_) ns[((i:Int)+1).toNat]? =some [.int .i64 b]:=by rw[htn,hb];rfl
   have hr2:(([0,1]:List Nat)=List.range 2)=True:=eq_true rfl
   (repeat (first | refine Ak_ fun K hK=> ?_ | (refine DW_r Be_ Tryz.mixed (by kernel_rfl) ?_;simp[Be_,hnt,dMk,dSym,Az_,ht',ht,ha,ha',hb,hb',hTl,hq,htn,hmp,hr2];try simp (disch:=omega) only[Aa_]) | refine Ac_ ?_ | (refine As_ ?_ ?_ ?_;(· (simp[hnt,dMk,dSym,Az_,ht',ht,ha,ha',hb,hb',hTl,hq,htn,hmp,hr2];done));(try (rotate_left;(· (intro hc;(try simp[hnt,dMk,dSym,Az_,ht',ht,ha,ha',hb,hb',hTl,hq,htn,hmp,hr2]at hc);done))))) | (refine Al_ ?_;simp[Tryz.results216,hnt,dMk,dSym,Az_,ht',ht,ha,ha',hb,hb',hTl,hq,htn,hmp,hr2]) | ((first | refine Ah_ ?_ | refine Ag_ ?_);simp[hnt,dMk,dSym,Az_,ht',ht,ha,ha',hb,hb',hTl,hq,htn,hmp,hr2]) | (intro hc;(try simp[hnt,dMk,dSym,Az_,ht',ht,ha,ha',hb,hb',hTl,hq,htn,hmp,hr2]at hc);(try (exfalso;omega))) | (refine Ar_ [(0,0),(1,1),(2,2)] [] (e2) ?_ ?_;(· (simp[hnt,dMk,dSym,Az_,ht',ht,ha,ha',hb,hb',hTl,hq,htn,hmp,hr2];done));(intro _;try simp[hnt,dMk,dSym,Az_,ht',ht,ha,ha',hb,hb',hTl,hq,htn,hmp,hr2])) | (refine⟨?_,?_⟩; · omega) | omega | apply_assumption -exfalso -symm | (exfalso;omega)))
   simp only[htn,hb]
   simp[hnt,Tryz.results216,Be_,dMk,dSym,Az_,ht',ht,ha,ha',hb,hb',hTl,hq,htn,hmp,hr2]
   (repeat (first | refine Ak_ fun K hK=> ?_ | (refine DW_r Be_ Tryz.mixed (by kernel_rfl) ?_;simp[Be_,hnt,dMk,dSym,Az_,ht',ht,ha,ha',hb,hb',hTl,hq,htn,hmp,hr2];try simp (disch:=omega) only[Aa_]) | refine Ac_ ?_ | (refine As_ ?_ ?_ ?_;(· (simp[hnt,dMk,dSym,Az_,ht',ht,ha,ha',hb,hb',hTl,hq,htn,hmp,hr2];done));(try (rotate_left;(· (intro hc;(try simp[hnt,dMk,dSym,Az_,ht',ht,ha,ha',hb,hb',hTl,hq,htn,hmp,hr2]at hc);done))))) | (refine Al_ ?_;simp[Tryz.results216,hnt,dMk,dSym,Az_,ht',ht,ha,ha',hb,hb',hTl,hq,htn,hmp,hr2]) | ((first | refine Ah_ ?_ | refine Ag_ ?_);simp[hnt,dMk,dSym,Az_,ht',ht,ha,ha',hb,hb',hTl,hq,htn,hmp,hr2]) | (intro hc;(try simp[hnt,dMk,dSym,Az_,ht',ht,ha,ha',hb,hb',hTl,hq,htn,hmp,hr2]at hc);(try (exfalso;omega))) | (refine Ar_ [(0,0),(1,1),(2,2)] [] (e2) ?_ ?_;(· (simp[hnt,dMk,dSym,Az_,ht',ht,ha,ha',hb,hb',hTl,hq,htn,hmp,hr2];done));(intro _;try simp[hnt,dMk,dSym,Az_,ht',ht,ha,ha',hb,hb',hTl,hq,htn,hmp,hr2])) | (refine⟨?_,?_⟩; · omega) | omega | apply_assumption -exfalso -symm | (exfalso;omega)))
   have e3:m.chain h ns={ m with nts:=m.nts+i,prods:=P++[⟨t,[nS a,nS b]⟩] }:=by
    unfold Mk.chain
    rw[hR,hq]
    rfl
   rw[e3]
   simp[nS]
theorem put_mk (m:Mk) (h:Int) (b:List Sym):m.put h b={ m with prods:=m.prods++[⟨h,b⟩] }:=rfl
theorem OO_ {a b:Nat} (h:a≤b) (hb:b*32≤150000000000000):a*32≤150000000000000:=Nat.le_trans (aO0 32 h) hb
def GW_ : Ann:=⟨[18,22,28,35],[]⟩
set_option maxHeartbeats 4000000 in
theorem add_easy (m:Mk) (p:Prod) (hf:AD_ p.body=1∨AD_ p.body=2) (h3:(m.prods.length+1)*32≤150000000000000) :
  AU_ Tryz.prog (.func 143) [.bx 0 0 0,.agg (Af_ p)] (dMk 0 m) (.tup []) (dMk 1 (m.add p)):=by
 refine Av_ [] [(0,0,0),(1,1,1),(2,2,0)] (fn:=Tryz.f143) Tryz.func143 rfl Tryz.call143 (by simp[Tryz.ntmps143]) (by simp) (by simp[dMk]) ?_
 intro hwf B hnt
 simp only[Tryz.ntmps143]at hnt
 have hgAnn:=Ao_ GW_ Tryz.mixed (aj2 @GW_.eq_1 Tryz.results143)
 simp only[argS]
 have e1:=Ly_ p.body
 have e2:=NL_ p.body
 have e3:=Gy_ m p.head p.body h3
 have e4:m.add p=m.put p.head p.body:=by unfold Mk.add;rw[if_pos hf]
 rw[e4,put_mk]
 rcases hf with hf | hf
 ·rw[hf]at e1
  (repeat (first | refine Ak_ fun K hK=> ?_ | (refine DW_r GW_ Tryz.mixed (by kernel_rfl) ?_;simp[GW_,hnt,dMk,Af_];try simp (disch:=omega) only[Aa_]) | refine Ac_ ?_ | (refine As_ ?_ ?_ ?_;(· (simp[hnt,dMk,Af_];done));(try (rotate_left;(· (intro hc;(try simp[hnt,dMk,Af_]at hc);done))))) | (refine Al_ ?_;simp[Tryz.results143,hnt,dMk,Af_]) | ((first | refine Ah_ ?_ | refine Ag_ ?_);simp[hnt,dMk,Af_]) | (intro hc;(try simp[hnt,dMk,Af_]at hc);(try (exfalso;omega))) | ((first | refine Ae_ (e1) ?_ | refine Ae_ (e2) ?_ | (refine Ad_ (e1) ?_ ?_;(· (simp;done))) | (refine Ad_ (e2) ?_ ?_;(· (simp;done))));try simp[hnt,dMk,Af_]) | (refine Ar_ [(0,0),(1,1),(2,2)] [] (e3) ?_ ?_;(· (simp[hnt,dMk,Af_];done));(intro _;try simp[hnt,dMk,Af_])) | (refine⟨?_,?_⟩; · omega) | omega | apply_assumption -exfalso -symm | (exfalso;omega)))
 ·rw[hf]at e1
  (repeat (first | refine Ak_ fun K hK=> ?_ | (refine DW_r GW_ Tryz.mixed (by kernel_rfl) ?_;simp[GW_,hnt,dMk,Af_];try simp (disch:=omega) only[Aa_]) | refine Ac_ ?_ | (refine As_ ?_ ?_ ?_;(· (simp[hnt,dMk,Af_];done));(try (rotate_left;(· (intro hc;(try simp[hnt,dMk,Af_]at hc);done))))) | (refine Al_ ?_;simp[Tryz.results143,hnt,dMk,Af_]) | ((first | refine Ah_ ?_ | refine Ag_ ?_);simp[hnt,dMk,Af_]) | (intro hc;(try simp[hnt,dMk,Af_]at hc);(try (exfalso;omega))) | ((first | refine Ae_ (e1) ?_ | refine Ae_ (e2) ?_ | (refine Ad_ (e1) ?_ ?_;(· (simp;done))) | (refine Ad_ (e2) ?_ ?_;(· (simp;done))));try simp[hnt,dMk,Af_]) | (refine Ar_ [(0,0),(1,1),(2,2)] [] (e3) ?_ ?_;(· (simp[hnt,dMk,Af_];done));(intro _;try simp[hnt,dMk,Af_])) | (refine⟨?_,?_⟩; · omega) | omega | apply_assumption -exfalso -symm | (exfalso;omega)))
def GV_ : Ann:=⟨[18,22,28,35],[⟨7,[50],[],[]⟩]⟩
set_option maxHeartbeats 4000000 in
theorem add_one (m:Mk) (p:Prod) (hf:¬(AD_ p.body=1∨AD_ p.body=2)) (hl:p.body.length=1) (h1: -9223372036854775808≤m.nts) (h2:m.nts+10≤9223372036854775807) (h3:(m.prods.length+10)*32≤150000000000000) :
  AU_ Tryz.prog (.func 143) [.bx 0 0 0,.agg (Af_ p)] (dMk 0 m) (.tup []) (dMk 1 (m.add p)):=by
 refine Av_ [] [(0,0,0),(1,1,1),(2,2,0)] (fn:=Tryz.f143) Tryz.func143 rfl Tryz.call143 (by simp[Tryz.ntmps143]) (by simp) (by simp[dMk]) ?_
 intro hwf B hnt
 simp only[Tryz.ntmps143]at hnt
 have hgAnn:=Ao_ GV_ Tryz.mixed (aj2 @GV_.eq_1 Tryz.results143)
 simp only[argS]
 have e1:=Ly_ p.body
 obtain⟨g1,g2,g3⟩:=Ij_ p.body m
 obtain⟨k1,k2,k3⟩:=HK_ (m.syms p.body).1
 have hsl:=Od_ m p.body
 rw[hl]at hsl
 simp only[Mk.gap]at g1 k1
 have e2:=UL_ m p.body h1 (by omega) (OO_ (by omega) h3)
 have e3:=Re_ (m.syms p.body).1 (by omega) (by omega) (OO_ (by omega) h3)
 have e5:=NM_ (m.syms p.body).1.nothing p.head ((m.syms p.body).2++[(m.syms p.body).1.nothing.no]) (by simp;omega) (by omega) (by simp;omega) (OO_ (by simp;omega) h3)
 have e4:m.add p=(m.syms p.body).1.nothing.chain p.head ((m.syms p.body).2++[(m.syms p.body).1.nothing.no]):=by unfold Mk.add;rw[if_neg hf,if_pos hl]
 rw[e4]
 clear g1 g2 g3 k1 k2 k3 e4
 generalize (m.syms p.body).1.nothing.chain p.head ((m.syms p.body).2++[(m.syms p.body).1.nothing.no])=m3 at e5 ⊢
 generalize hm2:(m.syms p.body).1.nothing=m2 at e3 e5
 generalize (m.syms p.body).1=m1 at e2 e3
 generalize (m.syms p.body).2=ns at e2 e5 hsl
 simp only[aY0,List.map_cons,List.map_nil,Az_]at e5
 generalize hF:AD_ p.body=F at hf e1
 have f1:¬F=1:=fun h=>hf (.inl h)
 have f2:¬F=2:=fun h=>hf (.inr h)
 (repeat (first | refine Ak_ fun K hK=> ?_ | (refine DW_r GV_ Tryz.mixed (by kernel_rfl) ?_;simp[GV_,hnt,dMk,Af_,hsl,f1,f2,Az_];try simp (disch:=omega) only[Aa_]) | refine Ac_ ?_ | (refine As_ ?_ ?_ ?_;(· (simp[hnt,dMk,Af_,hsl,f1,f2,Az_];done));(try (rotate_left;(· (intro hc;(try simp[hnt,dMk,Af_,hsl,f1,f2,Az_]at hc);done))))) | (refine Al_ ?_;simp[Tryz.results143,hnt,dMk,Af_,hsl,f1,f2,Az_]) | ((first | refine Ah_ ?_ | refine Ag_ ?_);simp[hnt,dMk,Af_,hsl,f1,f2,Az_]) | (intro hc;(try simp[hnt,dMk,Af_,hsl,f1,f2,Az_]at hc);(try (exfalso;omega))) | ((first | refine Ae_ (e1) ?_ | (refine Ad_ (e1) ?_ ?_;(· (simp;done))));try simp[hnt,dMk,Af_,hsl,f1,f2,Az_]) | (refine Ar_ [(0,0),(1,1),(2,2)] [(50,3)] (e2) ?_ ?_;(· (simp[hnt,dMk,Af_,hsl,f1,f2,Az_];done));(intro _;try simp[hnt,dMk,Af_,hsl,f1,f2,Az_])) | (refine Ar_ [(0,0),(1,1),(2,2)] [] (e3) ?_ ?_;(· (simp[hnt,dMk,Af_,hsl,f1,f2,Az_];done));(intro _;try simp[hnt,dMk,Af_,hsl,f1,f2,Az_])) | (refine Ar_ [(0,0),(1,1),(2,2)] [] (e5) ?_ ?_;(· (simp[hnt,dMk,Af_,hsl,f1,f2,Az_];done));(intro _;try simp[hnt,dMk,Af_,hsl,f1,f2,Az_])) | (refine⟨?_,?_⟩; · omega) | omega | apply_assumption -exfalso -symm | (exfalso;omega)))
def GU_ : Ann:=⟨[18,22,28,35],[⟨5,[50],[],[]⟩]⟩
set_option maxHeartbeats 4000000 in
theorem add_more (m:Mk) (p:Prod) (hf:¬(AD_ p.body=1∨AD_ p.body=2)) (hl:¬p.body.length=1) (h1: -9223372036854775808≤m.nts) (h2:m.nts+2*p.body.length+10≤9223372036854775807) (h3:(m.prods.length+2*p.body.length+10)*32≤150000000000000) :
  AU_ Tryz.prog (.func 143) [.bx 0 0 0,.agg (Af_ p)] (dMk 0 m) (.tup []) (dMk 1 (m.add p)):=by
 refine Av_ [] [(0,0,0),(1,1,1),(2,2,0)] (fn:=Tryz.f143) Tryz.func143 rfl Tryz.call143 (by simp[Tryz.ntmps143]) (by simp) (by simp[dMk]) ?_
 intro hwf B hnt
 simp only[Tryz.ntmps143]at hnt
 have hgAnn:=Ao_ GU_ Tryz.mixed (aj2 @GU_.eq_1 Tryz.results143)
 simp only[argS]
 have e1:=Ly_ p.body
 obtain⟨g1,g2,g3⟩:=Ij_ p.body m
 have hsl:=Od_ m p.body
 have hge:=Pr_ (fun h=>hf (.inl h)) (fun h=>hf (.inr h))
 simp only[Mk.gap]at g1
 have e2:=UL_ m p.body h1 (by omega) (OO_ (by omega) h3)
 have e5:=NM_ (m.syms p.body).1 p.head (m.syms p.body).2 (by omega) (by omega) (by omega) (OO_ (by omega) h3)
 have e4:m.add p=(m.syms p.body).1.chain p.head (m.syms p.body).2:=by unfold Mk.add;rw[if_neg hf,if_neg hl]
 rw[e4]
 have hsl2:¬(m.syms p.body).2.length=1:=by omega
 clear g1 g2 g3 e4 hsl
 generalize (m.syms p.body).1.chain p.head (m.syms p.body).2=m3 at e5 ⊢
 generalize (m.syms p.body).1=m1 at e2 e5
 generalize (m.syms p.body).2=ns at e2 e5 hsl2
 generalize hF:AD_ p.body=F at hf e1
 have f1:¬F=1:=fun h=>hf (.inl h)
 have f2:¬F=2:=fun h=>hf (.inr h)
 have f3:¬(ns.length:Int)=1:=by omega
 (repeat (first | refine Ak_ fun K hK=> ?_ | (refine DW_r GU_ Tryz.mixed (by kernel_rfl) ?_;simp[GU_,hnt,dMk,Af_,hsl2,f1,f2,f3];try simp (disch:=omega) only[Aa_]) | refine Ac_ ?_ | (refine As_ ?_ ?_ ?_;(· (simp[hnt,dMk,Af_,hsl2,f1,f2,f3];done));(try (rotate_left;(· (intro hc;(try simp[hnt,dMk,Af_,hsl2,f1,f2,f3]at hc);done))))) | (refine Al_ ?_;simp[Tryz.results143,hnt,dMk,Af_,hsl2,f1,f2,f3]) | ((first | refine Ah_ ?_ | refine Ag_ ?_);simp[hnt,dMk,Af_,hsl2,f1,f2,f3]) | (intro hc;(try simp[hnt,dMk,Af_,hsl2,f1,f2,f3]at hc);(try (exfalso;omega))) | ((first | refine Ae_ (e1) ?_ | (refine Ad_ (e1) ?_ ?_;(· (simp;done))));try simp[hnt,dMk,Af_,hsl2,f1,f2,f3]) | (refine Ar_ [(0,0),(1,1),(2,2)] [(50,3)] (e2) ?_ ?_;(· (simp[hnt,dMk,Af_,hsl2,f1,f2,f3];done));(intro _;try simp[hnt,dMk,Af_,hsl2,f1,f2,f3])) | (refine Ar_ [(0,0),(1,1),(2,2)] [] (e5) ?_ ?_;(· (simp[hnt,dMk,Af_,hsl2,f1,f2,f3];done));(intro _;try simp[hnt,dMk,Af_,hsl2,f1,f2,f3])) | (refine⟨?_,?_⟩; · omega) | omega | apply_assumption -exfalso -symm | (exfalso;omega)))
theorem add_spec (m:Mk) (p:Prod) (h1: -9223372036854775808≤m.nts) (h2:m.nts+2*p.body.length+10≤9223372036854775807) (h3:(m.prods.length+2*p.body.length+10)*32≤150000000000000) :
  AU_ Tryz.prog (.func 143) [.bx 0 0 0,.agg (Af_ p)] (dMk 0 m) (.tup []) (dMk 1 (m.add p)):=by
 by_cases hf:AD_ p.body=1∨AD_ p.body=2
 ·exact add_easy m p hf (OO_ (by omega) h3)
 ·by_cases hl:p.body.length=1
  ·exact add_one m p hf hl h1 (by omega) (OO_ (by omega) h3)
  ·exact add_more m p hf hl h1 h2 h3
def Mk.start (c:Cnf):Mk:=⟨c.nts,[],[],0⟩
def Mk.cnf (m:Mk):Cnf:=⟨m.nts,m.prods⟩
def finC (m:Option Mk):Cnf×Int:=match m with
 | none=>(cnf0,240)
 | some m=>(if BI_ m.cnf then Cd_ m.cnf else cnf0,if BI_ m.cnf then 0 else 220)
def ofC (c:Cnf):Cnf×Int:=if BI_ c then finC ((Mk.start c).adds c.prods)else (cnf0,220)
def Bw_ : Ann:=⟨[19,47],[⟨7,[7],[],[]⟩]⟩
set_option maxHeartbeats 8000000 in
theorem of21_pure (c:Cnf) (hsz:(c.prods.length+8000)*32≤150000000000000):Aj_ Tryz.prog 56 [.agg (dCnf c)] (.tup [.agg (dCnf (ofC c).1),.int .i64 (ofC c).2]):=by
 have key:∀d,d=(if BI_ c then (match (Mk.start c).adds c.prods with | none=> .tup [.agg [.int .i64 0,.nilsl],.int .i64 240] | some m=> .tup [.agg (dCnf (if BI_ m.cnf then Cd_ m.cnf else cnf0)),.int .i64 (if BI_ m.cnf then 0 else 220)])else .tup [.agg [.int .i64 0,.nilsl],.int .i64 220])→Aj_ Tryz.prog 56 [.agg (dCnf c)] d:=by
  intro d hd
  refine Ab_ [] (fn:=Tryz.f56) Tryz.func56 rfl Tryz.call56 (by simp[Tryz.ntmps56]) ?_ ?_
  ·subst hd
   split
   ·split<;>simp[mx,dCnf]
   ·simp[mx]
  intro hwf B hnt
  simp only[Tryz.ntmps56]at hnt
  have hgAnn:=Ao_ Bw_ Tryz.mixed (aj2 @Bw_.eq_1 Tryz.results56)
  have hw:wCnf c:=SD_ (by simpa[wfL,wfD]using hwf.1)
  obtain⟨hw1,hw2,hw3,hw4⟩:=hw
  clear hwf
  simp only[argS]
  have h1:=EF_ c
  cases hb:BI_ c
  ·rw[hb]at h1 hd
   simp only[aQ0,if_false]at hd
   subst hd
   (repeat (first | refine Ak_ fun K hK=> ?_ | (refine DW_r Bw_ Tryz.mixed (by kernel_rfl) ?_;simp[Bw_,hnt,dCnf];try simp (disch:=omega) only[Aa_]) | refine Ac_ ?_ | (refine As_ ?_ ?_ ?_;(· (simp[hnt,dCnf];done));(try (rotate_left;(· (intro hc;(try simp[hnt,dCnf]at hc);done))))) | (refine Al_ ?_;simp[Tryz.results56,hnt,dCnf]) | ((first | refine Ah_ ?_ | refine Ag_ ?_);simp[hnt,dCnf]) | (intro hc;(try simp[hnt,dCnf]at hc);(try (exfalso;omega))) | ((first | refine Ae_ (h1) ?_ | (refine Ad_ (h1) ?_ ?_;(· (simp;done))));try simp[hnt,dCnf]) | (refine⟨?_,?_⟩; · omega) | omega | apply_assumption -exfalso -symm | (exfalso;omega)))
  rw[hb]at h1 hd
  simp only[if_true]at hd
  (repeat (first | refine Ak_ fun K hK=> ?_ | (refine DW_r Bw_ Tryz.mixed (by kernel_rfl) ?_;simp[Bw_,hnt,dCnf];try simp (disch:=omega) only[Aa_]) | refine Ac_ ?_ | (refine As_ ?_ ?_ ?_;(· (simp[hnt,dCnf];done));(try (rotate_left;(· (intro hc;(try simp[hnt,dCnf]at hc);done))))) | (refine Al_ ?_;simp[Tryz.results56,hnt,dCnf]) | ((first | refine Ah_ ?_ | refine Ag_ ?_);simp[hnt,dCnf]) | (intro hc;(try simp[hnt,dCnf]at hc);(try (exfalso;omega))) | ((first | refine Ae_ (h1) ?_ | (refine Ad_ (h1) ?_ ?_;(· (simp;done))));try simp[hnt,dCnf]) | (refine⟨?_,?_⟩; · omega) | omega | apply_assumption -exfalso -symm | (exfalso;omega)))
  refine Bx_ 19 1 50 92 2 32 (by simp) (fun n=> ?_)
  have hn:1≤c.nts∧c.nts≤1024:=by
   simp only[BI_,aN0,decide_eq_true_eq]at hb
   exact hb.1
  obtain⟨hn1,hn2⟩:=hn
  obtain⟨R,hR⟩:∃R,R=(Mk.start c).adds c.prods:=⟨_,rfl⟩
  rw[←hR]at hd
  clear h1
  refine Am_ (X:={x:Nat×Mk//x.1≤c.prods.length∧x.2.adds (c.prods.drop x.1)=R∧c.nts≤x.2.nts∧x.2.nts≤1024∧(x.2.prods.length:Int)=x.1+x.2.nts-c.nts})
   (fun x=>⟨[(1,.ref (dCnf c)),(2,.bx 2 1 0),(3,.int .i64 0),(5,.bx 19 1 0),(21,Bh_ c.prods),(22,.int .i64 c.prods.length),(23,.int .i64 x.1.1)],[⟨2,1,.box [.int .i64 0,.nilsl]⟩,⟨19,1,.box [.int .i64 x.1.2.nts,.osl 50 1,.omp 17 1,.int .i64 x.1.2.no]⟩,⟨50,1,.row 92 2 32 (x.1.2.prods.map Af_)⟩,⟨17,1,.map (x.1.2.hs.map dKey) (x.1.2.hs.map Gg_)⟩]⟩)
   (fun x=>c.prods.length-x.1.1) ⟨(0,Mk.start c),by simp[hR,Mk.start];omega⟩ (Sub.lit (by simp[dCnf,Mk.start])) ?_
  rintro⟨⟨k,m1⟩,hk,hA,b1,b2,b3⟩
  simp only at hk hA b1 b2 b3 ⊢
  clear hR
  by_cases hlt:k<c.prods.length
  ·obtain⟨p,hp,hp',hpm⟩:=Aq_ hlt
   obtain⟨hw5,hw6,hw7,hw8⟩:=hw4 p hpm
   rw[aR0 hlt,hp']at hA
   simp only[Mk.adds]at hA
   obtain⟨g1,g2,g3,g4⟩:=TT_ m1 p
   simp only[Mk.gap]at g1
   have hq1:IntKind.i64.wrap (m1.nts+p.body.length)=m1.nts+p.body.length:=Aa_ (by omega) (by omega)
   have hq2:IntKind.i64.wrap (m1.nts+p.body.length-2)=m1.nts+p.body.length-2:=Aa_ (by omega) (by omega)
   by_cases hbig:2<p.body.length∧1024<m1.nts+p.body.length-2
   ·obtain⟨hg1,hg2⟩:=hbig
    rw[if_pos (by omega)]at hA
    subst hA
    simp only at hd
    subst hd
    have hg3:(2:Int)<p.body.length:=by omega
    (repeat (first | refine Ak_ fun K hK=> ?_ | (refine DW_r Bw_ Tryz.mixed (by kernel_rfl) ?_;simp[Bw_,hnt,dCnf,Af_,hlt,hp',hq1,hq2,hg1,hg2,hg3];try simp (disch:=omega) only[Aa_]) | refine Ac_ ?_ | (refine As_ ?_ ?_ ?_;(· (simp[hnt,dCnf,Af_,hlt,hp',hq1,hq2,hg1,hg2,hg3];done));(try (rotate_left;(· (intro hc;(try simp[hnt,dCnf,Af_,hlt,hp',hq1,hq2,hg1,hg2,hg3]at hc);done))))) | (refine Al_ ?_;simp[Tryz.results56,hnt,dCnf,Af_,hlt,hp',hq1,hq2,hg1,hg2,hg3]) | ((first | refine Ah_ ?_ | refine Ag_ ?_);simp[hnt,dCnf,Af_,hlt,hp',hq1,hq2,hg1,hg2,hg3]) | (intro hc;(try simp[hnt,dCnf,Af_,hlt,hp',hq1,hq2,hg1,hg2,hg3]at hc);(try (exfalso;omega))) | ((first | refine Ae_ (h1) ?_ | (refine Ad_ (h1) ?_ ?_;(· (simp;done))));try simp[hnt,dCnf,Af_,hlt,hp',hq1,hq2,hg1,hg2,hg3]) | (refine⟨?_,?_⟩; · omega) | omega | apply_assumption -exfalso -symm | (exfalso;omega)))
   ·have hN:p.body.length≤1026:=by omega
    have e1:=add_spec m1 p (by omega) (by omega) (Nat.le_trans (aO0 32 (show m1.prods.length+2*p.body.length+10≤c.prods.length+8000 by omega)) hsz)
    have hgo:¬((2:Int)<p.body.length∧1024<m1.nts+p.body.length-2):=by omega
    generalize hm2:m1.add p=m2 at e1 hA g1 g2 g3 g4
    by_cases hov:1024<m2.nts
    ·rw[if_pos hov]at hA
     subst hA
     simp only at hd
     subst hd
     by_cases hg1:2<p.body.length
     ·have hg3:(2:Int)<p.body.length:=by omega
      have hg2:¬1024<m1.nts+p.body.length-2:=by omega
      (repeat (first | refine Ak_ fun K hK=> ?_ | (refine DW_r Bw_ Tryz.mixed (by kernel_rfl) ?_;simp[Bw_,hnt,dMk,dCnf,Af_,hlt,hp',hq1,hq2,hg1,hg2,hg3,hov];try simp (disch:=omega) only[Aa_]) | refine Ac_ ?_ | (refine As_ ?_ ?_ ?_;(· (simp[hnt,dMk,dCnf,Af_,hlt,hp',hq1,hq2,hg1,hg2,hg3,hov];done));(try (rotate_left;(· (intro hc;(try simp[hnt,dMk,dCnf,Af_,hlt,hp',hq1,hq2,hg1,hg2,hg3,hov]at hc);done))))) | (refine Al_ ?_;simp[Tryz.results56,hnt,dMk,dCnf,Af_,hlt,hp',hq1,hq2,hg1,hg2,hg3,hov]) | ((first | refine Ah_ ?_ | refine Ag_ ?_);simp[hnt,dMk,dCnf,Af_,hlt,hp',hq1,hq2,hg1,hg2,hg3,hov]) | (intro hc;(try simp[hnt,dMk,dCnf,Af_,hlt,hp',hq1,hq2,hg1,hg2,hg3,hov]at hc);(try (exfalso;omega))) | ((first | refine Ae_ (h1) ?_ | (refine Ad_ (h1) ?_ ?_;(· (simp;done))));try simp[hnt,dMk,dCnf,Af_,hlt,hp',hq1,hq2,hg1,hg2,hg3,hov]) | (refine Ar_ [(19,0),(50,1),(17,2)] [] (e1) ?_ ?_;(· (simp[hnt,dMk,dCnf,Af_,hlt,hp',hq1,hq2,hg1,hg2,hg3,hov];done));(intro _;try simp[hnt,dMk,dCnf,Af_,hlt,hp',hq1,hq2,hg1,hg2,hg3,hov])) | (refine⟨?_,?_⟩; · omega) | omega | apply_assumption -exfalso -symm | (exfalso;omega)))
     ·have hg3:¬(2:Int)<p.body.length:=by omega
      (repeat (first | refine Ak_ fun K hK=> ?_ | (refine DW_r Bw_ Tryz.mixed (by kernel_rfl) ?_;simp[Bw_,hnt,dMk,dCnf,Af_,hlt,hp',hq1,hq2,hg1,hg3,hov];try simp (disch:=omega) only[Aa_]) | refine Ac_ ?_ | (refine As_ ?_ ?_ ?_;(· (simp[hnt,dMk,dCnf,Af_,hlt,hp',hq1,hq2,hg1,hg3,hov];done));(try (rotate_left;(· (intro hc;(try simp[hnt,dMk,dCnf,Af_,hlt,hp',hq1,hq2,hg1,hg3,hov]at hc);done))))) | (refine Al_ ?_;simp[Tryz.results56,hnt,dMk,dCnf,Af_,hlt,hp',hq1,hq2,hg1,hg3,hov]) | ((first | refine Ah_ ?_ | refine Ag_ ?_);simp[hnt,dMk,dCnf,Af_,hlt,hp',hq1,hq2,hg1,hg3,hov]) | (intro hc;(try simp[hnt,dMk,dCnf,Af_,hlt,hp',hq1,hq2,hg1,hg3,hov]at hc);(try (exfalso;omega))) | ((first | refine Ae_ (h1) ?_ | (refine Ad_ (h1) ?_ ?_;(· (simp;done))));try simp[hnt,dMk,dCnf,Af_,hlt,hp',hq1,hq2,hg1,hg3,hov]) | (refine Ar_ [(19,0),(50,1),(17,2)] [] (e1) ?_ ?_;(· (simp[hnt,dMk,dCnf,Af_,hlt,hp',hq1,hq2,hg1,hg3,hov];done));(intro _;try simp[hnt,dMk,dCnf,Af_,hlt,hp',hq1,hq2,hg1,hg3,hov])) | (refine⟨?_,?_⟩; · omega) | omega | apply_assumption -exfalso -symm | (exfalso;omega)))
    ·rw[if_neg hov]at hA
     by_cases hg1:2<p.body.length
     ·have hg3:(2:Int)<p.body.length:=by omega
      have hg2:¬1024<m1.nts+p.body.length-2:=by omega
      (repeat (first | refine Ak_ fun K hK=> ?_ | (refine DW_r Bw_ Tryz.mixed (by kernel_rfl) ?_;simp[Bw_,hnt,dMk,dCnf,Af_,hlt,hp',hq1,hq2,hg1,hg2,hg3,hov];try simp (disch:=omega) only[Aa_]) | refine Ac_ ?_ | (refine As_ ?_ ?_ ?_;(· (simp[hnt,dMk,dCnf,Af_,hlt,hp',hq1,hq2,hg1,hg2,hg3,hov];done));(try (rotate_left;(· (intro hc;(try simp[hnt,dMk,dCnf,Af_,hlt,hp',hq1,hq2,hg1,hg2,hg3,hov]at hc);done))))) | (refine Al_ ?_;simp[Tryz.results56,hnt,dMk,dCnf,Af_,hlt,hp',hq1,hq2,hg1,hg2,hg3,hov]) | ((first | refine Ah_ ?_ | refine Ag_ ?_);simp[hnt,dMk,dCnf,Af_,hlt,hp',hq1,hq2,hg1,hg2,hg3,hov]) | (intro hc;(try simp[hnt,dMk,dCnf,Af_,hlt,hp',hq1,hq2,hg1,hg2,hg3,hov]at hc);(try (exfalso;omega))) | ((first | refine Ae_ (h1) ?_ | (refine Ad_ (h1) ?_ ?_;(· (simp;done))));try simp[hnt,dMk,dCnf,Af_,hlt,hp',hq1,hq2,hg1,hg2,hg3,hov]) | (refine Ar_ [(19,0),(50,1),(17,2)] [] (e1) ?_ ?_;(· (simp[hnt,dMk,dCnf,Af_,hlt,hp',hq1,hq2,hg1,hg2,hg3,hov];done));(intro _;try simp[hnt,dMk,dCnf,Af_,hlt,hp',hq1,hq2,hg1,hg2,hg3,hov])) | (refine⟨?_,?_⟩; · omega) | omega | apply_assumption -exfalso -symm | (exfalso;omega)))
      refine Ap_.mk ⟨(k+1,m2),show k+1≤c.prods.length∧_∧c.nts≤m2.nts∧m2.nts≤1024∧(m2.prods.length:Int)=((k+1:Nat):Int)+m2.nts-c.nts from ⟨by omega,hA,by omega,by omega,by omega⟩⟩ (Sub.lit (by simp[dMk,dCnf])) (by simp;omega)
      (repeat (first | refine Ak_ fun K hK=> ?_ | (refine DW_r Bw_ Tryz.mixed (by kernel_rfl) ?_;simp[Bw_,hnt];try simp (disch:=omega) only[Aa_]) | refine Ac_ ?_ | (refine As_ ?_ ?_ ?_;(· (simp[hnt];done));(try (rotate_left;(· (intro hc;(try simp[hnt]at hc);done))))) | (refine Al_ ?_;simp[Tryz.results56,hnt]) | ((first | refine Ah_ ?_ | refine Ag_ ?_);simp[hnt]) | (intro hc;(try simp[hnt]at hc);(try (exfalso;omega))) | ((first | refine Ae_ (h1) ?_ | (refine Ad_ (h1) ?_ ?_;(· (simp;done))));try simp[hnt]) | (refine Ar_ [(19,0),(50,1),(17,2)] [] (e1) ?_ ?_;(· (simp[hnt];done));(intro _;try simp[hnt])) | (refine⟨?_,?_⟩; · omega) | omega | apply_assumption -exfalso -symm | (exfalso;omega)))
     ·have hg3:¬(2:Int)<p.body.length:=by omega
      (repeat (first | refine Ak_ fun K hK=> ?_ | (refine DW_r Bw_ Tryz.mixed (by kernel_rfl) ?_;simp[Bw_,hnt,dMk,dCnf,Af_,hlt,hp',hq1,hq2,hg1,hg3,hov];try simp (disch:=omega) only[Aa_]) | refine Ac_ ?_ | (refine As_ ?_ ?_ ?_;(· (simp[hnt,dMk,dCnf,Af_,hlt,hp',hq1,hq2,hg1,hg3,hov];done));(try (rotate_left;(· (intro hc;(try simp[hnt,dMk,dCnf,Af_,hlt,hp',hq1,hq2,hg1,hg3,hov]at hc);done))))) | (refine Al_ ?_;simp[Tryz.results56,hnt,dMk,dCnf,Af_,hlt,hp',hq1,hq2,hg1,hg3,hov]) | ((first | refine Ah_ ?_ | refine Ag_ ?_);simp[hnt,dMk,dCnf,Af_,hlt,hp',hq1,hq2,hg1,hg3,hov]) | (intro hc;(try simp[hnt,dMk,dCnf,Af_,hlt,hp',hq1,hq2,hg1,hg3,hov]at hc);(try (exfalso;omega))) | ((first | refine Ae_ (h1) ?_ | (refine Ad_ (h1) ?_ ?_;(· (simp;done))));try simp[hnt,dMk,dCnf,Af_,hlt,hp',hq1,hq2,hg1,hg3,hov]) | (refine Ar_ [(19,0),(50,1),(17,2)] [] (e1) ?_ ?_;(· (simp[hnt,dMk,dCnf,Af_,hlt,hp',hq1,hq2,hg1,hg3,hov];done));(intro _;try simp[hnt,dMk,dCnf,Af_,hlt,hp',hq1,hq2,hg1,hg3,hov])) | (refine⟨?_,?_⟩; · omega) | omega | apply_assumption -exfalso -symm | (exfalso;omega)))
      refine Ap_.mk ⟨(k+1,m2),show k+1≤c.prods.length∧_∧c.nts≤m2.nts∧m2.nts≤1024∧(m2.prods.length:Int)=((k+1:Nat):Int)+m2.nts-c.nts from ⟨by omega,hA,by omega,by omega,by omega⟩⟩ (Sub.lit (by simp[dMk,dCnf])) (by simp;omega)
      (repeat (first | refine Ak_ fun K hK=> ?_ | (refine DW_r Bw_ Tryz.mixed (by kernel_rfl) ?_;simp[Bw_,hnt];try simp (disch:=omega) only[Aa_]) | refine Ac_ ?_ | (refine As_ ?_ ?_ ?_;(· (simp[hnt];done));(try (rotate_left;(· (intro hc;(try simp[hnt]at hc);done))))) | (refine Al_ ?_;simp[Tryz.results56,hnt]) | ((first | refine Ah_ ?_ | refine Ag_ ?_);simp[hnt]) | (intro hc;(try simp[hnt]at hc);(try (exfalso;omega))) | ((first | refine Ae_ (h1) ?_ | (refine Ad_ (h1) ?_ ?_;(· (simp;done))));try simp[hnt]) | (refine Ar_ [(19,0),(50,1),(17,2)] [] (e1) ?_ ?_;(· (simp[hnt];done));(intro _;try simp[hnt])) | (refine⟨?_,?_⟩; · omega) | omega | apply_assumption -exfalso -symm | (exfalso;omega)))
  ·have hkk:k=c.prods.length:=by omega
   subst hkk
   rw[bP0]at hA
   simp only[Mk.adds]at hA
   subst hA
   simp only at hd
   subst hd
   refine EL_ (Sub.freezeL [50] _) ?_
   simp[hnt,Tryz.results56,Bw_,dCnf]
   have h2:=Tt_ m1.cnf
   (repeat (first | refine Ak_ fun K hK=> ?_ | (refine DW_r Bw_ Tryz.mixed (by kernel_rfl) ?_;simp[Bw_,hnt,dCnf];try simp (disch:=omega) only[Aa_]) | refine Ac_ ?_ | (refine As_ ?_ ?_ ?_;(· (simp[hnt,dCnf];done));(try (rotate_left;(· (intro hc;(try simp[hnt,dCnf]at hc);done))))) | (refine Al_ ?_;simp[Tryz.results56,hnt,dCnf]) | ((first | refine Ah_ ?_ | refine Ag_ ?_);simp[hnt,dCnf]) | (intro hc;(try simp[hnt,dCnf]at hc);(try (exfalso;omega))) | ((first | refine Ae_ (h2) ?_ | (refine Ad_ (h2) ?_ ?_;(· (simp;done))));try simp[hnt,dCnf]) | (refine⟨?_,?_⟩; · omega) | omega | apply_assumption -exfalso -symm | (exfalso;omega)))
 have hk:=key _ rfl
 unfold ofC
 cases hb:BI_ c<;>rw[hb]at hk
 ·exact Aj_.wkT hk (by simp[cnf0,dCnf,Bh_]) (by simp[mx])
 ·simp only[if_true]at hk ⊢
  cases hA:(Mk.start c).adds c.prods with
  | none =>
   rw[hA]at hk
   exact Aj_.wkT hk (by simp[cnf0,dCnf,Bh_,finC]) (by simp[mx])
  | some m =>
   rw[hA]at hk
   exact hk
def hs16 (m:Mk):List Int:=(List.range 16).map fun a:Nat=>(Er_ m.hs a).getD (-1)
def noR (m:Mk):Int:=if m.no=0 then -1 else m.no
def fmD (v w:Nat) (m:Mk):DVal:= .agg [.int .i64 m.nts,.osl 0 v,.osl 1 w,.int .i64 (noR m)]
def dFo (v w:Nat) (m:Mk):List Ent:=[⟨0,v,.row 92 2 32 (m.prods.map Af_)⟩,⟨1,w,.row 3 1 8 ((hs16 m).map Az_)⟩]
theorem BA_ (m:Mk):(hs16 m).length=16:=by simp[hs16]
theorem Tq_ (m:Mk) (a:Nat) (h:a<16):(hs16 m)[a]? =some ((Er_ m.hs a).getD (-1)):=by simp[hs16,h]
theorem IB_ (l:List (Int×Int)) (k h a:Int):Er_ (l++[(k,h)]) a=match Er_ l a with | some x=>some x | none=>if a=k then some h else none:=by
 induction l with
 | nil=>simp[Er_]
 | cons p l ih =>
  obtain⟨k',h'⟩:=p
  simp only[List.cons_append,Er_]
  split
  ·rfl
  ·exact ih
theorem hs16_set (m:Mk) (a:Nat) (ha:a<16) (h:Int) (hn:Er_ m.hs a=none) (P:List Prod) (N:Int):hs16 ⟨N,P,m.hs++[((a:Int),h)],m.no⟩=(hs16 m).set a h:=by
 apply eZ0
 intro q
 by_cases hq:q<16
 ·rw[Tq_ _ _ hq]
  by_cases hqa:q=a
  ·subst hqa
   rw[fG0 (by rw[BA_];exact hq),IB_,hn]
   simp
  ·rw[List.getElem?_set_ne (by omega),Tq_ _ _ hq,IB_]
   have:¬(q:Int)=a:=by omega
   cases hl:Er_ m.hs q<;>simp[this]
 ·rw[dN0 (by rw[BA_];omega),dN0 (by simp[BA_];omega)]
def KL_ : Ann:=⟨[],[]⟩
theorem Gt_ (h a b:Int):Aj_ Tryz.prog 217 [.int .i64 h,.int .i64 a,.int .i64 b] (.agg (Af_ ⟨h,[nS a,nS b]⟩)):=by
 refine Ab_ [] (fn:=Tryz.f217) Tryz.func217 rfl Tryz.call217 (by simp[Tryz.ntmps217]) (by simp[mx]) ?_
 intro hwf B hnt
 simp only[Tryz.ntmps217]at hnt
 have hgAnn:=Ao_ KL_ Tryz.mixed (aj2 @KL_.eq_1 Tryz.results217)
 simp only[argS]
 have hr2:(([0,1]:List Nat)=List.range 2)=True:=eq_true rfl
 (repeat (first | refine Ak_ fun K hK=> ?_ | (refine DW_r KL_ Tryz.mixed (by kernel_rfl) ?_;simp[KL_,hnt,Af_,nS,dSym,hr2];try simp (disch:=omega) only[Aa_]) | refine Ac_ ?_ | (refine As_ ?_ ?_ ?_;(· (simp[hnt,Af_,nS,dSym,hr2];done));(try (rotate_left;(· (intro hc;(try simp[hnt,Af_,nS,dSym,hr2]at hc);done))))) | (refine Al_ ?_;simp[Tryz.results217,hnt,Af_,nS,dSym,hr2]) | ((first | refine Ah_ ?_ | refine Ag_ ?_);simp[hnt,Af_,nS,dSym,hr2]) | (intro hc;(try simp[hnt,Af_,nS,dSym,hr2]at hc);(try (exfalso;omega))) | (refine⟨?_,?_⟩; · omega) | omega | apply_assumption -exfalso -symm | (exfalso;omega)))
def Dk_ : Ann:=⟨[],[]⟩
set_option maxHeartbeats 1000000 in
theorem YD_ (n:Int):AU_ Tryz.prog (.func 146) [.int .i64 n] [] (.agg [.int .i64 n,.nilsl,.osl 0 1,.int .i64 (-1)]) [⟨0,1,.row 3 1 8 ((List.replicate 16 (-1:Int)).map Az_)⟩]:=by
 refine Av_ [2,3] [(50,0,1)] (fn:=Tryz.f146) Tryz.func146 rfl Tryz.call146 (by simp[Tryz.ntmps146]) (by simp) (by simp) ?_
 intro hwf B hnt
 simp only[Tryz.ntmps146]at hnt
 have hgAnn:=Ao_ Dk_ Tryz.mixed (aj2 @Dk_.eq_1 Tryz.results146)
 simp only[argS]
 (repeat (first | refine Ak_ fun K hK=> ?_ | (refine DW_r Dk_ Tryz.mixed (by kernel_rfl) ?_;simp[Dk_,hnt];try simp (disch:=omega) only[Aa_]) | refine Ac_ ?_ | (refine As_ ?_ ?_ ?_;(· (simp[hnt];done));(try (rotate_left;(· (intro hc;(try simp[hnt]at hc);done))))) | (refine Al_ ?_;simp[Tryz.results146,hnt]) | ((first | refine Ah_ ?_ | refine Ag_ ?_);simp[hnt]) | (intro hc;(try simp[hnt]at hc);(try (exfalso;omega))) | (refine⟨?_,?_⟩; · omega) | omega | apply_assumption -exfalso -symm | (exfalso;omega)))
 refine Bx_ 3 2 50 3 1 8 (by simp) (fun q=> ?_)
 refine Am_ (X:={k:Nat//k≤16}) (fun k=>⟨[(2,.bx 2 1 0),(3,.bx 3 1 0),(4,.int .i64 k.1)],[⟨2,1,.box [.int .i64 0,.nilsl,.nilsl,.int .i64 0]⟩,⟨3,1,.box [.int .i64 n,.nilsl,.osl 50 1,.int .i64 (-1)]⟩,⟨50,1,.row 3 1 8 ((List.replicate k.1 (-1:Int)).map Az_)⟩]⟩) (fun k=>16-k.1) ⟨0,by omega⟩ (Sub.lit (by simp)) ?_
 rintro⟨k,hk⟩
 by_cases hlt:k<16
 ·have hz:(k+1)*8≤150000000000000:=by omega
  have hz2:k≤9223372036854775806:=by omega
  have hlt':(k:Int)<16:=by omega
  have hrp:List.replicate (k+1) [DVal.int .i64 (-1)]=List.replicate k [.int .i64 (-1)]++[[.int .i64 (-1)]]:=List.replicate_succ' ..
  have hrm:mxR (List.replicate k [DVal.int .i64 (-1)])=0:=by have:=mx_ints (List.replicate k (-1));simpa[Az_]using this
  (repeat (first | refine Ak_ fun K hK=> ?_ | (refine DW_r Dk_ Tryz.mixed (by kernel_rfl) ?_;simp[Dk_,hnt,hlt,hlt',hz,hz2];try simp (disch:=omega) only[Aa_]) | refine Ac_ ?_ | (refine As_ ?_ ?_ ?_;(· (simp[hnt,hlt,hlt',hz,hz2];done));(try (rotate_left;(· (intro hc;(try simp[hnt,hlt,hlt',hz,hz2]at hc);done))))) | (refine Al_ ?_;simp[Tryz.results146,hnt,hlt,hlt',hz,hz2]) | ((first | refine Ah_ ?_ | refine Ag_ ?_);simp[hnt,hlt,hlt',hz,hz2]) | (intro hc;(try simp[hnt,hlt,hlt',hz,hz2]at hc);(try (exfalso;omega))) | (refine⟨?_,?_⟩; · omega) | omega | apply_assumption -exfalso -symm | (exfalso;omega)))
  refine Ap_.mk ⟨k+1,by omega⟩ (Sub.lit (by simp[hrp,hrm,Az_])) (by simp;omega)
  (repeat (first | refine Ak_ fun K hK=> ?_ | (refine DW_r Dk_ Tryz.mixed (by kernel_rfl) ?_;simp[Dk_,hnt];try simp (disch:=omega) only[Aa_]) | refine Ac_ ?_ | (refine As_ ?_ ?_ ?_;(· (simp[hnt];done));(try (rotate_left;(· (intro hc;(try simp[hnt]at hc);done))))) | (refine Al_ ?_;simp[Tryz.results146,hnt]) | ((first | refine Ah_ ?_ | refine Ag_ ?_);simp[hnt]) | (intro hc;(try simp[hnt]at hc);(try (exfalso;omega))) | (refine⟨?_,?_⟩; · omega) | omega | apply_assumption -exfalso -symm | (exfalso;omega)))
 ·have hkk:k=16:=by omega
  subst hkk
  (repeat (first | refine Ak_ fun K hK=> ?_ | (refine DW_r Dk_ Tryz.mixed (by kernel_rfl) ?_;simp[Dk_,hnt];try simp (disch:=omega) only[Aa_]) | refine Ac_ ?_ | (refine As_ ?_ ?_ ?_;(· (simp[hnt];done));(try (rotate_left;(· (intro hc;(try simp[hnt]at hc);done))))) | (refine Al_ ?_;simp[Tryz.results146,hnt]) | ((first | refine Ah_ ?_ | refine Ag_ ?_);simp[hnt]) | (intro hc;(try simp[hnt]at hc);(try (exfalso;omega))) | (refine⟨?_,?_⟩; · omega) | omega | apply_assumption -exfalso -symm | (exfalso;omega)))
def En_ : Ann:=⟨[2],[⟨2,[],[],[5003001,5003002]⟩,⟨7,[],[],[5007001,5007002,5007003,5007004,5007006]⟩]⟩
set_option maxHeartbeats 4000000 in
theorem XM_ (m:Mk) (s:Sym) (h0:s.label=true→0≤s.n∧s.n<16) (h1: -9223372036854775808≤m.nts) (h2:m.nts+1≤9223372036854775807) (h3:(m.prods.length+1)*32≤150000000000000) (h4:∀a h,Er_ m.hs a=some h→0≤h) (h5:0≤m.nts) :
  AU_ Tryz.prog (.func 218) [fmD 0 0 m,.agg (dSym s)] (dFo 0 0 m) (.tup [fmD 1 1 (m.sym s).1,.int .i64 (m.sym s).2]) (dFo 1 1 (m.sym s).1):=by
 refine Av_ [2,4] [(0,0,1),(1,1,1)] (fn:=Tryz.f218) Tryz.func218 rfl Tryz.call218 (by simp[Tryz.ntmps218]) (by simp) (by simp[dFo]) ?_
 intro hwf B hnt
 simp only[Tryz.ntmps218]at hnt
 have hgAnn:=Ao_ En_ Tryz.mixed (aj2 @En_.eq_1 Tryz.results218)
 simp only[argS,fmD]
 cases hl:s.label
 ·have hsym:m.sym s=(m,s.n):=by unfold Mk.sym;simp[hl]
  rw[hsym]
  (repeat (first | refine Ak_ fun K hK=> ?_ | (refine DW_r En_ Tryz.mixed (by kernel_rfl) ?_;simp[En_,hnt,dFo,fmD,dSym,hl];try simp (disch:=omega) only[Aa_]) | refine Ac_ ?_ | (refine As_ ?_ ?_ ?_;(· (simp[hnt,dFo,fmD,dSym,hl];done));(try (rotate_left;(· (intro hc;(try simp[hnt,dFo,fmD,dSym,hl]at hc);done))))) | (refine Al_ ?_;simp[Tryz.results218,hnt,dFo,fmD,dSym,hl]) | ((first | refine Ah_ ?_ | refine Ag_ ?_);simp[hnt,dFo,fmD,dSym,hl]) | (intro hc;(try simp[hnt,dFo,fmD,dSym,hl]at hc);(try (exfalso;omega))) | (refine⟨?_,?_⟩; · omega) | omega | apply_assumption -exfalso -symm | (exfalso;omega)))
 ·obtain⟨hn1,hn2⟩:=h0 hl
  obtain⟨a,rfl⟩:∃a:Nat,s=⟨true,a⟩:=by
   obtain⟨lb,sn⟩:=s
   simp only at hl hn1 ⊢
   subst hl
   exact⟨sn.toNat,by rw[Int.toNat_of_nonneg hn1]⟩
  simp only at hn1 hn2
  clear h0 hl
  have ha16:a<16:=by omega
  have hat:=Tq_ m a ha16
  cases hlk:Er_ m.hs a with
  | some h =>
   have hh:=h4 _ _ hlk
   rw[hlk]at hat
   simp only[cA0]at hat
   have hat':(hs16 m)[a]'(by rw[BA_];exact ha16)=h:=(aC0.1 hat).2
   have hng:¬h<0:=by omega
   have hsym:m.sym ⟨true,a⟩=(m,h):=by unfold Mk.sym;simp[hlk]
   rw[hsym]
   (repeat (first | refine Ak_ fun K hK=> ?_ | (refine DW_r En_ Tryz.mixed (by kernel_rfl) ?_;simp[En_,hnt,dFo,fmD,dSym,Az_,hat,hat',BA_,ha16,hng,hh];try simp (disch:=omega) only[Aa_]) | refine Ac_ ?_ | (refine As_ ?_ ?_ ?_;(· (simp[hnt,dFo,fmD,dSym,Az_,hat,hat',BA_,ha16,hng,hh];done));(try (rotate_left;(· (intro hc;(try simp[hnt,dFo,fmD,dSym,Az_,hat,hat',BA_,ha16,hng,hh]at hc);done))))) | (refine Al_ ?_;simp[Tryz.results218,hnt,dFo,fmD,dSym,Az_,hat,hat',BA_,ha16,hng,hh]) | ((first | refine Ah_ ?_ | refine Ag_ ?_);simp[hnt,dFo,fmD,dSym,Az_,hat,hat',BA_,ha16,hng,hh]) | (intro hc;(try simp[hnt,dFo,fmD,dSym,Az_,hat,hat',BA_,ha16,hng,hh]at hc);(try (exfalso;omega))) | (refine⟨?_,?_⟩; · omega) | omega | apply_assumption -exfalso -symm | (exfalso;omega)))
  | none =>
   rw[hlk]at hat
   simp only[Option.getD_none]at hat
   have hat':(hs16 m)[a]'(by rw[BA_];exact ha16)= -1:=(aC0.1 hat).2
   have hsym:m.sym ⟨true,a⟩=({ m with nts:=m.nts+1,hs:=m.hs++[((a:Int),m.nts)],prods:=m.prods++[⟨m.nts,[⟨true,a⟩]⟩] },m.nts):=by unfold Mk.sym;simp[hlk]
   rw[hsym]
   have hset:=hs16_set m a ha16 m.nts hlk (m.prods++[⟨m.nts,[⟨true,a⟩]⟩]) (m.nts+1)
   have hms:mxR ((List.map Az_ (hs16 m)).set a [DVal.int .i64 m.nts])=0:=by
    have:=mx_ints ((hs16 m).set a m.nts)
    rw[eF0]at this
    exact this
   (repeat (first | refine Ak_ fun K hK=> ?_ | (refine DW_r En_ Tryz.mixed (by kernel_rfl) ?_;simp[En_,hnt,dFo,fmD,dSym,Az_,hat,hat',BA_,ha16,hms];try simp (disch:=omega) only[Aa_]) | refine Ac_ ?_ | (refine As_ ?_ ?_ ?_;(· (simp[hnt,dFo,fmD,dSym,Az_,hat,hat',BA_,ha16,hms];done));(try (rotate_left;(· (intro hc;(try simp[hnt,dFo,fmD,dSym,Az_,hat,hat',BA_,ha16,hms]at hc);done))))) | (refine Al_ ?_;simp[Tryz.results218,hnt,dFo,fmD,dSym,Az_,hat,hat',BA_,ha16,hms]) | ((first | refine Ah_ ?_ | refine Ag_ ?_);simp[hnt,dFo,fmD,dSym,Az_,hat,hat',BA_,ha16,hms]) | (intro hc;(try simp[hnt,dFo,fmD,dSym,Az_,hat,hat',BA_,ha16,hms]at hc);(try (exfalso;omega))) | (refine⟨?_,?_⟩; · omega) | omega | apply_assumption -exfalso -symm | (exfalso;omega)))
   exact⟨rfl,rfl,by rw[hset,eF0];rfl⟩
theorem AO_ (m:Mk) (N:Int) (P:List Prod) (k:Int):hs16 ⟨N,P,m.hs,k⟩=hs16 m:=rfl
theorem form_easy {l:List Sym} (h:AD_ l=1∨AD_ l=2):l=[]∨∃n,l=[⟨true,n⟩]:=by
 match l with
 | []=>exact .inl rfl
 | [⟨b,n⟩] =>
  cases b
  ·simp[AD_]at h
  ·exact .inr ⟨n,rfl⟩
 | [s,t]=>simp only[AD_]at h;split at h<;>simp at h
 | s::t::u::r=>simp[AD_]at h
theorem form_one {l:List Sym} (h:¬(AD_ l=1∨AD_ l=2)) (hl:l.length=1):∃n,l=[⟨false,n⟩]:=by
 match l with
 | [⟨b,n⟩] =>
  cases b
  ·exact⟨n,rfl⟩
  ·simp[AD_]at h
def BY_ : Ann:=⟨[2],[⟨20,[],[],[9]⟩]⟩
set_option maxHeartbeats 4000000 in
theorem addR_easy (m:Mk) (p:Prod) (hf:AD_ p.body=1∨AD_ p.body=2) (h3:(m.prods.length+1)*32≤150000000000000) :
  AU_ Tryz.prog (.func 147) [fmD 0 0 m,.agg (Af_ p)] (dFo 0 0 m) (fmD 1 1 (m.add p)) (dFo 1 1 (m.add p)):=by
 refine Av_ [2,4] [(0,0,1),(1,1,1)] (fn:=Tryz.f147) Tryz.func147 rfl Tryz.call147 (by simp[Tryz.ntmps147]) (by simp) (by simp[dFo]) ?_
 intro hwf B hnt
 simp only[Tryz.ntmps147]at hnt
 have hgAnn:=Ao_ BY_ Tryz.mixed (aj2 @BY_.eq_1 Tryz.results147)
 simp only[argS,fmD]
 have e4:m.add p={ m with prods:=m.prods++[p] }:=by unfold Mk.add;rw[if_pos hf];rfl
 rw[e4]
 obtain⟨hd,bd⟩:=p
 simp only at hf
 rcases form_easy hf with rfl | ⟨n,rfl⟩
 ·(repeat (first | refine Ak_ fun K hK=> ?_ | (refine DW_r BY_ Tryz.mixed (by kernel_rfl) ?_;simp[BY_,hnt,dFo,fmD,Af_,AM_,noR,AO_];try simp (disch:=omega) only[Aa_]) | refine Ac_ ?_ | (refine As_ ?_ ?_ ?_;(· (simp[hnt,dFo,fmD,Af_,AM_,noR,AO_];done));(try (rotate_left;(· (intro hc;(try simp[hnt,dFo,fmD,Af_,AM_,noR,AO_]at hc);done))))) | (refine Al_ ?_;simp[Tryz.results147,hnt,dFo,fmD,Af_,AM_,noR,AO_]) | ((first | refine Ah_ ?_ | refine Ag_ ?_);simp[hnt,dFo,fmD,Af_,AM_,noR,AO_]) | (intro hc;(try simp[hnt,dFo,fmD,Af_,AM_,noR,AO_]at hc);(try (exfalso;omega))) | (refine⟨?_,?_⟩; · omega) | omega | apply_assumption -exfalso -symm | (exfalso;omega)))
 ·(repeat (first | refine Ak_ fun K hK=> ?_ | (refine DW_r BY_ Tryz.mixed (by kernel_rfl) ?_;simp[BY_,hnt,dFo,fmD,Af_,AM_,dSym,noR,AO_];try simp (disch:=omega) only[Aa_]) | refine Ac_ ?_ | (refine As_ ?_ ?_ ?_;(· (simp[hnt,dFo,fmD,Af_,AM_,dSym,noR,AO_];done));(try (rotate_left;(· (intro hc;(try simp[hnt,dFo,fmD,Af_,AM_,dSym,noR,AO_]at hc);done))))) | (refine Al_ ?_;simp[Tryz.results147,hnt,dFo,fmD,Af_,AM_,dSym,noR,AO_]) | ((first | refine Ah_ ?_ | refine Ag_ ?_);simp[hnt,dFo,fmD,Af_,AM_,dSym,noR,AO_]) | (intro hc;(try simp[hnt,dFo,fmD,Af_,AM_,dSym,noR,AO_]at hc);(try (exfalso;omega))) | (refine⟨?_,?_⟩; · omega) | omega | apply_assumption -exfalso -symm | (exfalso;omega)))
set_option maxHeartbeats 4000000 in
theorem addR_one (m:Mk) (p:Prod) (hf:¬(AD_ p.body=1∨AD_ p.body=2)) (hl:p.body.length=1) (h0:0≤m.no) (h1:1≤m.nts) (h2:m.nts+10≤9223372036854775807) (h3:(m.prods.length+10)*32≤150000000000000) :
  AU_ Tryz.prog (.func 147) [fmD 0 0 m,.agg (Af_ p)] (dFo 0 0 m) (fmD 1 1 (m.add p)) (dFo 1 1 (m.add p)):=by
 obtain⟨hd,bd⟩:=p
 simp only at hf hl
 obtain⟨x,rfl⟩:=form_one hf hl
 have e4:m.add ⟨hd,[⟨false,x⟩]⟩={ m.nothing with prods:=m.nothing.prods++[⟨hd,[nS x,nS m.nothing.no]⟩] }:=by
  unfold Mk.add
  rw[if_neg hf,if_pos hl]
  simp[Mk.syms,Mk.sym,Mk.chain,Dv_]
 rw[e4]
 by_cases hno:m.no=0
 ·have e5:m.nothing=⟨m.nts+1,m.prods++[⟨m.nts,[]⟩],m.hs,m.nts⟩:=by unfold Mk.nothing;rw[if_pos hno]
  rw[e5]
  have key:AU_ Tryz.prog (.func 147) [fmD 0 0 m,.agg (Af_ ⟨hd,[⟨false,x⟩]⟩)] (dFo 0 0 m) (.agg [.int .i64 (m.nts+1),.osl 0 1,.osl 1 1,.int .i64 m.nts]) [⟨0,1,.row 92 2 32 (m.prods.map Af_++[[.int .i64 m.nts,.nilsl],Af_ ⟨hd,[nS x,nS m.nts]⟩])⟩,⟨1,1,.row 3 1 8 ((hs16 m).map Az_)⟩]:=by
   refine Av_ [2,4] [(0,0,1),(1,1,1)] (fn:=Tryz.f147) Tryz.func147 rfl Tryz.call147 (by simp[Tryz.ntmps147]) (by simp) (by simp) ?_
   intro hwf B hnt
   simp only[Tryz.ntmps147]at hnt
   have hgAnn:=Ao_ BY_ Tryz.mixed (aj2 @BY_.eq_1 Tryz.results147)
   simp only[argS,fmD]
   have htw:=Gt_ hd x m.nts
   have hn1:noR m= -1:=by unfold noR;rw[if_pos hno]
   (repeat (first | refine Ak_ fun K hK=> ?_ | (refine DW_r BY_ Tryz.mixed (by kernel_rfl) ?_;simp[BY_,hnt,dFo,Af_,AM_,dSym,hn1,nS];try simp (disch:=omega) only[Aa_]) | refine Ac_ ?_ | (refine As_ ?_ ?_ ?_;(· (simp[hnt,dFo,Af_,AM_,dSym,hn1,nS];done));(try (rotate_left;(· (intro hc;(try simp[hnt,dFo,Af_,AM_,dSym,hn1,nS]at hc);done))))) | (refine Al_ ?_;simp[Tryz.results147,hnt,dFo,Af_,AM_,dSym,hn1,nS]) | ((first | refine Ah_ ?_ | refine Ag_ ?_);simp[hnt,dFo,Af_,AM_,dSym,hn1,nS]) | (intro hc;(try simp[hnt,dFo,Af_,AM_,dSym,hn1,nS]at hc);(try (exfalso;omega))) | ((first | refine Ae_ (htw) ?_ | (refine Ad_ (htw) ?_ ?_;(· (simp;done))));try simp[hnt,dFo,Af_,AM_,dSym,hn1,nS]) | (refine⟨?_,?_⟩; · omega) | omega | apply_assumption -exfalso -symm | (exfalso;omega)))
  have k2:=key.rowWk 0 (es':=(m.prods++[(⟨m.nts,[]⟩:Prod)]++[(⟨hd,[nS x,nS m.nts]⟩:Prod)]).map Af_) rfl rfl (by
   rw[aY0,aY0,aU0]
   refine Ng_ (La_ _) ⟨?_,Kl_ _,trivial⟩
   simp[Af_,AM_])
  have hn2:noR ⟨m.nts+1,m.prods++[⟨m.nts,[]⟩]++[⟨hd,[nS x,nS m.nts]⟩],m.hs,m.nts⟩=m.nts:=by
   unfold noR;simp only;rw[if_neg (by omega)]
  simp only[fmD,dFo,hn2,AO_]
  exact k2
 ·have e5:m.nothing=m:=by unfold Mk.nothing;rw[if_neg hno]
  rw[e5]
  refine Av_ [2,4] [(0,0,1),(1,1,1)] (fn:=Tryz.f147) Tryz.func147 rfl Tryz.call147 (by simp[Tryz.ntmps147]) (by simp) (by simp[dFo]) ?_
  intro hwf B hnt
  simp only[Tryz.ntmps147]at hnt
  have hgAnn:=Ao_ BY_ Tryz.mixed (aj2 @BY_.eq_1 Tryz.results147)
  simp only[argS,fmD]
  have htw:=Gt_ hd x m.no
  have hn1:noR m=m.no:=by unfold noR;rw[if_neg hno]
  have hn2:¬m.no<0:=by omega
  have hn3:noR ⟨m.nts,m.prods++[⟨hd,[⟨false,x⟩,⟨false,m.no⟩]⟩],m.hs,m.no⟩=m.no:=hn1
  (repeat (first | refine Ak_ fun K hK=> ?_ | (refine DW_r BY_ Tryz.mixed (by kernel_rfl) ?_;simp[BY_,hnt,dFo,Af_,AM_,dSym,hn1,hn2,hn3,nS,AO_];try simp (disch:=omega) only[Aa_]) | refine Ac_ ?_ | (refine As_ ?_ ?_ ?_;(· (simp[hnt,dFo,Af_,AM_,dSym,hn1,hn2,hn3,nS,AO_];done));(try (rotate_left;(· (intro hc;(try simp[hnt,dFo,Af_,AM_,dSym,hn1,hn2,hn3,nS,AO_]at hc);done))))) | (refine Al_ ?_;simp[Tryz.results147,hnt,dFo,Af_,AM_,dSym,hn1,hn2,hn3,nS,AO_]) | ((first | refine Ah_ ?_ | refine Ag_ ?_);simp[hnt,dFo,Af_,AM_,dSym,hn1,hn2,hn3,nS,AO_]) | (intro hc;(try simp[hnt,dFo,Af_,AM_,dSym,hn1,hn2,hn3,nS,AO_]at hc);(try (exfalso;omega))) | ((first | refine Ae_ (htw) ?_ | (refine Ad_ (htw) ?_ ?_;(· (simp;done))));try simp[hnt,dFo,Af_,AM_,dSym,hn1,hn2,hn3,nS,AO_]) | (refine⟨?_,?_⟩; · omega) | omega | apply_assumption -exfalso -symm | (exfalso;omega)))
def Mk.Pos (m:Mk):Prop:=0≤m.nts∧∀a h,Er_ m.hs a=some h→0≤h
theorem pos_sym {m:Mk} (h:m.Pos) (s:Sym):(m.sym s).1.Pos:=by
 obtain⟨h1,h2⟩:=h
 unfold Mk.sym
 split
 ·split
  ·exact⟨h1,h2⟩
  ·refine⟨by simp only;omega,fun a x hx=> ?_⟩
   simp only[IB_]at hx
   split at hx
   ·rename_i y hy
    simp only[aA0]at hx
    subst hx
    exact h2 _ _ hy
   ·split at hx
    ·simp only[aA0]at hx
     omega
    ·simp at hx
 ·exact⟨h1,h2⟩
def Bc_ : Ann:=⟨[2,86],[⟨20,[],[],[9]⟩]⟩
set_option maxHeartbeats 8000000 in
theorem addR_more (m:Mk) (p:Prod) (hf:¬(AD_ p.body=1∨AD_ p.body=2)) (hl:¬p.body.length=1) (hl2:p.body.length≤1026) (hok:∀s∈p.body,s.label=true→0≤s.n∧s.n<16) (hpos:m.Pos)
  (h2:m.nts+4000≤9223372036854775807) (h3:(m.prods.length+4000)*32≤150000000000000) :
  AU_ Tryz.prog (.func 147) [fmD 0 0 m,.agg (Af_ p)] (dFo 0 0 m) (fmD 1 1 (m.add p)) (dFo 1 1 (m.add p)):=by
 have e4:m.add p=(m.syms p.body).1.chain p.head (m.syms p.body).2:=by unfold Mk.add;rw[if_neg hf,if_neg hl]
 rw[e4]
 have hge:=Pr_ (fun h=>hf (.inl h)) (fun h=>hf (.inr h))
 obtain⟨hd,l⟩:=p
 simp only at hl hl2 hok hge ⊢
 clear e4 hf
 refine Av_ [2,4] [(0,0,1),(1,1,1)] (fn:=Tryz.f147) Tryz.func147 rfl Tryz.call147 (by simp[Tryz.ntmps147]) (by simp) (by simp[dFo]) ?_
 intro hwf B hnt
 simp only[Tryz.ntmps147]at hnt
 have hgAnn:=Ao_ Bc_ Tryz.mixed (aj2 @Bc_.eq_1 Tryz.results147)
 simp only[argS,fmD]
 have q1:¬l=[]:=fun h=>by rw[h]at hge;simp at hge
 have q2:¬(l.length:Int)=1:=by omega
 have q3:¬(1026:Int)<l.length:=by omega
 have q4:¬(l.length:Int)=0:=by omega
 have q5:((l.length:Int)==0)=false:=by simpa using q4
 have q6:((l.length:Int)==1)=false:=by simpa using q2
 obtain⟨s0,hs0,hs0',_⟩:=Aq_ (show 0<l.length by omega)
 (repeat (first | refine Ak_ fun K hK=> ?_ | (refine DW_r Bc_ Tryz.mixed (by kernel_rfl) ?_;simp[Bc_,hnt,dFo,Af_,dSym,q1,q2,q3,q4,q5,q6,hl,hs0,hs0'];try simp (disch:=omega) only[Aa_]) | refine Ac_ ?_ | (refine As_ ?_ ?_ ?_;(· (simp[hnt,dFo,Af_,dSym,q1,q2,q3,q4,q5,q6,hl,hs0,hs0'];done));(try (rotate_left;(· (intro hc;(try simp[hnt,dFo,Af_,dSym,q1,q2,q3,q4,q5,q6,hl,hs0,hs0']at hc);done))))) | (refine Al_ ?_;simp[Tryz.results147,hnt,dFo,Af_,dSym,q1,q2,q3,q4,q5,q6,hl,hs0,hs0']) | ((first | refine Ah_ ?_ | refine Ag_ ?_);simp[hnt,dFo,Af_,dSym,q1,q2,q3,q4,q5,q6,hl,hs0,hs0']) | (intro hc;(try simp[hnt,dFo,Af_,dSym,q1,q2,q3,q4,q5,q6,hl,hs0,hs0']at hc);(try (exfalso;omega))) | (refine⟨?_,?_⟩; · omega) | omega | apply_assumption -exfalso -symm | (exfalso;omega)))
 refine Bn_ 6 52 3 1 8 (by simp[hnt,Tryz.ntmps147]) (fun n=> ?_)
 refine Am_ (X:={x:Nat×Mk×List Int//x.1≤l.length∧((x.2.1.syms (l.drop x.1)).1,x.2.2++(x.2.1.syms (l.drop x.1)).2)=m.syms l∧x.2.1.Pos∧x.2.1.nts≤m.nts+x.1∧x.2.1.prods.length≤m.prods.length+x.1∧x.2.2.length=x.1})
  (fun x=>⟨[(2,.bx 2 1 0),(3,.ref [.int .i64 hd,AM_ l]),(4,.bx 4 1 0),(5,.int .i64 l.length),(6,.osl 52 1),(7,.int .i64 x.1.1)],[⟨4,1,.box [.int .i64 0,.nilsl,.nilsl,.int .i64 0]⟩,⟨2,1,.box [.int .i64 x.1.2.1.nts,.osl 0 1,.osl 1 1,.int .i64 (noR x.1.2.1)]⟩,⟨0,1,.row 92 2 32 (x.1.2.1.prods.map Af_)⟩,⟨1,1,.row 3 1 8 ((hs16 x.1.2.1).map Az_)⟩,⟨52,1,.row 3 1 8 (x.1.2.2.map Az_)⟩]⟩)
  (fun x=>l.length-x.1.1) ⟨(0,m,[]),by simpa using hpos⟩ (Sub.lit (by simp)) ?_
 rintro⟨⟨k,m1,acc⟩,hk,hR,b1,b2,b3,b4⟩
 simp only at hk hR b1 b2 b3 b4 ⊢
 by_cases hlt:k<l.length
 ·obtain⟨s,hs,hs',hsm⟩:=Aq_ hlt
  rw[aR0 hlt,hs']at hR
  simp only[Mk.syms]at hR
  have hz:(acc.length+1)*8≤150000000000000:=by omega
  have hz2:acc.length≤9223372036854775806:=by omega
  have e1:=XM_ m1 s (hok s hsm) (by have:=b1.1;omega) (by omega) (Nat.le_trans (aO0 32 (by omega)) h3) b1.2 b1.1
  obtain⟨g1,g2,g3⟩:=SM_ m1 s
  have g4:=pos_sym b1 s
  simp only[Mk.gap]at g1
  generalize (m1.sym s).1=m2 at e1 hR g1 g2 g3 g4
  generalize (m1.sym s).2=x at e1 hR
  simp only[fmD]at e1
  (repeat (first | refine Ak_ fun K hK=> ?_ | (refine DW_r Bc_ Tryz.mixed (by kernel_rfl) ?_;simp[Bc_,hnt,dFo,Af_,dSym,hlt,hs',hz,hz2];try simp (disch:=omega) only[Aa_]) | refine Ac_ ?_ | (refine As_ ?_ ?_ ?_;(· (simp[hnt,dFo,Af_,dSym,hlt,hs',hz,hz2];done));(try (rotate_left;(· (intro hc;(try simp[hnt,dFo,Af_,dSym,hlt,hs',hz,hz2]at hc);done))))) | (refine Al_ ?_;simp[Tryz.results147,hnt,dFo,Af_,dSym,hlt,hs',hz,hz2]) | ((first | refine Ah_ ?_ | refine Ag_ ?_);simp[hnt,dFo,Af_,dSym,hlt,hs',hz,hz2]) | (intro hc;(try simp[hnt,dFo,Af_,dSym,hlt,hs',hz,hz2]at hc);(try (exfalso;omega))) | (refine Ar_ [(0,0),(1,1)] [] (e1) ?_ ?_;(· (simp[hnt,dFo,Af_,dSym,hlt,hs',hz,hz2];done));(intro _;try simp[hnt,dFo,Af_,dSym,hlt,hs',hz,hz2])) | (refine⟨?_,?_⟩; · omega) | omega | apply_assumption -exfalso -symm | (exfalso;omega)))
  refine Ap_.mk ⟨(k+1,m2,acc++[x]),show k+1≤l.length∧_∧m2.Pos∧m2.nts≤m.nts+((k+1:Nat):Int)∧m2.prods.length≤m.prods.length+(k+1)∧(acc++[x]).length=k+1 from ⟨by omega,by simpa using hR,g4,by omega,by omega,by simp;omega⟩⟩ (Sub.lit (by simp[Az_])) (by simp;omega)
  (repeat (first | refine Ak_ fun K hK=> ?_ | (refine DW_r Bc_ Tryz.mixed (by kernel_rfl) ?_;simp[Bc_,hnt];try simp (disch:=omega) only[Aa_]) | refine Ac_ ?_ | (refine As_ ?_ ?_ ?_;(· (simp[hnt];done));(try (rotate_left;(· (intro hc;(try simp[hnt]at hc);done))))) | (refine Al_ ?_;simp[Tryz.results147,hnt]) | ((first | refine Ah_ ?_ | refine Ag_ ?_);simp[hnt]) | (intro hc;(try simp[hnt]at hc);(try (exfalso;omega))) | (refine Ar_ [(0,0),(1,1)] [] (e1) ?_ ?_;(· (simp[hnt];done));(intro _;try simp[hnt])) | (refine⟨?_,?_⟩; · omega) | omega | apply_assumption -exfalso -symm | (exfalso;omega)))
 ·have hkk:k=l.length:=by omega
  subst hkk
  rw[bP0]at hR
  simp only[Mk.syms,bK0]at hR
  have hS:=hR
  clear hR hlt hk
  have hb0:=b1.1
  obtain⟨q,hq⟩:∃q,l.length=q+2:=⟨l.length-2,by omega⟩
  rw[hq]at b2 b3 b4 hl2
  have hw:IntKind.i64.wrap (q:Int)=q:=Aa_ (by omega) (by omega)
  (repeat (first | refine Ak_ fun K hK=> ?_ | (refine DW_r Bc_ Tryz.mixed (by kernel_rfl) ?_;simp[Bc_,hnt,dFo,Af_,hq,hw];try simp (disch:=omega) only[Aa_]) | refine Ac_ ?_ | (refine As_ ?_ ?_ ?_;(· (simp[hnt,dFo,Af_,hq,hw];done));(try (rotate_left;(· (intro hc;(try simp[hnt,dFo,Af_,hq,hw]at hc);done))))) | (refine Al_ ?_;simp[Tryz.results147,hnt,dFo,Af_,hq,hw]) | ((first | refine Ah_ ?_ | refine Ag_ ?_);simp[hnt,dFo,Af_,hq,hw]) | (intro hc;(try simp[hnt,dFo,Af_,hq,hw]at hc);(try (exfalso;omega))) | (refine⟨?_,?_⟩; · omega) | omega | apply_assumption -exfalso -symm | (exfalso;omega)))
  refine Am_ (X:={x:Nat×List Prod×Int//x.1≤q∧x.2.1.length=m1.prods.length+x.1∧x.2.1++Dv_ (m1.nts+x.1) x.2.2 (acc.drop x.1)=m1.prods++Dv_ m1.nts hd acc})
   (fun x=>⟨[(2,.bx 2 1 0),(4,.bx 4 1 0),(5,.int .i64 (q+2)),(6,.osl 52 1),(9,.int .i64 x.1.2.2),(10,.int .i64 x.1.1)],[⟨4,1,.box [.int .i64 0,.nilsl,.nilsl,.int .i64 0]⟩,⟨2,1,.box [.int .i64 (m1.nts+x.1.1),.osl 0 1,.osl 1 1,.int .i64 (noR m1)]⟩,⟨0,1,.row 92 2 32 (x.1.2.1.map Af_)⟩,⟨1,1,.row 3 1 8 ((hs16 m1).map Az_)⟩,⟨52,1,.row 3 1 8 (acc.map Az_)⟩]⟩)
   (fun x=>q-x.1.1) ⟨(0,m1.prods,hd),by simp⟩ (Sub.lit (by simp)) ?_
  rintro⟨⟨j,P,prev⟩,hj,hP,hR⟩
  simp only at hj hP hR ⊢
  obtain⟨a,ha,ha',_⟩:=Aq_ (show j<acc.length by omega)
  have hz1:(P.length+1)*32≤150000000000000:=Nat.le_trans (aO0 32 (by omega)) h3
  have hz2:P.length≤9223372036854775806:=by omega
  by_cases hlt:j<q
  ·have hlt':(j:Int)+2<(q:Int)+2:=by omega
   rw[drop3 (b:=0) (by omega) ha]at hR
   have e1:=Gt_ prev a (m1.nts+j)
   have hw4:IntKind.i64.wrap (m1.nts+j+1)=m1.nts+j+1:=Aa_ (by omega) (by omega)
   (repeat (first | refine Ak_ fun K hK=> ?_ | (refine DW_r Bc_ Tryz.mixed (by kernel_rfl) ?_;simp[Bc_,hnt,dFo,Af_,dSym,Az_,nS,hlt,hlt',ha,ha',b4,hz1,hz2,hw4];try simp (disch:=omega) only[Aa_]) | refine Ac_ ?_ | (refine As_ ?_ ?_ ?_;(· (simp[hnt,dFo,Af_,dSym,Az_,nS,hlt,hlt',ha,ha',b4,hz1,hz2,hw4];done));(try (rotate_left;(· (intro hc;(try simp[hnt,dFo,Af_,dSym,Az_,nS,hlt,hlt',ha,ha',b4,hz1,hz2,hw4]at hc);done))))) | (refine Al_ ?_;simp[Tryz.results147,hnt,dFo,Af_,dSym,Az_,nS,hlt,hlt',ha,ha',b4,hz1,hz2,hw4]) | ((first | refine Ah_ ?_ | refine Ag_ ?_);simp[hnt,dFo,Af_,dSym,Az_,nS,hlt,hlt',ha,ha',b4,hz1,hz2,hw4]) | (intro hc;(try simp[hnt,dFo,Af_,dSym,Az_,nS,hlt,hlt',ha,ha',b4,hz1,hz2,hw4]at hc);(try (exfalso;omega))) | ((first | refine Ae_ (e1) ?_ | (refine Ad_ (e1) ?_ ?_;(· (simp;done))));try simp[hnt,dFo,Af_,dSym,Az_,nS,hlt,hlt',ha,ha',b4,hz1,hz2,hw4]) | (refine⟨?_,?_⟩; · omega) | omega | apply_assumption -exfalso -symm | (exfalso;omega)))
   refine Ap_.mk ⟨(j+1,P++[⟨prev,[nS a,nS (m1.nts+j)]⟩],m1.nts+j),show j+1≤q∧(P++[(⟨prev,[nS a,nS (m1.nts+j)]⟩:Prod)]).length=m1.prods.length+(j+1)∧_ from ⟨by omega,by simp;omega,?_⟩⟩ (Sub.lit (by simp[nS,Af_,dSym];omega)) (by simp;omega)
   ·rw[←hR,aU0,show m1.nts+((j+1:Nat):Int)=m1.nts+j+1 by omega]
    rfl
   (repeat (first | refine Ak_ fun K hK=> ?_ | (refine DW_r Bc_ Tryz.mixed (by kernel_rfl) ?_;simp[Bc_,hnt];try simp (disch:=omega) only[Aa_]) | refine Ac_ ?_ | (refine As_ ?_ ?_ ?_;(· (simp[hnt];done));(try (rotate_left;(· (intro hc;(try simp[hnt]at hc);done))))) | (refine Al_ ?_;simp[Tryz.results147,hnt]) | ((first | refine Ah_ ?_ | refine Ag_ ?_);simp[hnt]) | (intro hc;(try simp[hnt]at hc);(try (exfalso;omega))) | ((first | refine Ae_ (e1) ?_ | (refine Ad_ (e1) ?_ ?_;(· (simp;done))));try simp[hnt]) | (refine⟨?_,?_⟩; · omega) | omega | apply_assumption -exfalso -symm | (exfalso;omega)))
  ·have hjq:j=q:=by omega
   subst hjq
   obtain⟨b,hb,hb',_⟩:=Aq_ (show j+1<acc.length by omega)
   rw[drop2 (by omega) ha hb]at hR
   have e1:=Gt_ prev a b
   have hx1:(j:Int)+2-2=j:=by omega
   have hx2:(j:Int)+2-1=j+1:=by omega
   have htn:((j:Int)+1).toNat=j+1:=by omega
   have hw1:IntKind.i64.wrap ((j:Int)+1)=j+1:=Aa_ (by omega) (by omega)
   (repeat (first | refine Ak_ fun K hK=> ?_ | (refine DW_r Bc_ Tryz.mixed (by kernel_rfl) ?_;simp[Bc_,hnt,dFo,Af_,dSym,Az_,nS,ha,ha',hb,hb',b4,hz1,hz2,hx1,hx2,htn,hw,hw1];try simp (disch:=omega) only[Aa_]) | refine Ac_ ?_ | (refine As_ ?_ ?_ ?_;(· (simp[hnt,dFo,Af_,dSym,Az_,nS,ha,ha',hb,hb',b4,hz1,hz2,hx1,hx2,htn,hw,hw1];done));(try (rotate_left;(· (intro hc;(try simp[hnt,dFo,Af_,dSym,Az_,nS,ha,ha',hb,hb',b4,hz1,hz2,hx1,hx2,htn,hw,hw1]at hc);done))))) | (refine Al_ ?_;simp[Tryz.results147,hnt,dFo,Af_,dSym,Az_,nS,ha,ha',hb,hb',b4,hz1,hz2,hx1,hx2,htn,hw,hw1]) | ((first | refine Ah_ ?_ | refine Ag_ ?_);simp[hnt,dFo,Af_,dSym,Az_,nS,ha,ha',hb,hb',b4,hz1,hz2,hx1,hx2,htn,hw,hw1]) | (intro hc;(try simp[hnt,dFo,Af_,dSym,Az_,nS,ha,ha',hb,hb',b4,hz1,hz2,hx1,hx2,htn,hw,hw1]at hc);(try (exfalso;omega))) | ((first | refine Ae_ (e1) ?_ | (refine Ad_ (e1) ?_ ?_;(· (simp;done))));try simp[hnt,dFo,Af_,dSym,Az_,nS,ha,ha',hb,hb',b4,hz1,hz2,hx1,hx2,htn,hw,hw1]) | (refine⟨?_,?_⟩; · omega) | omega | apply_assumption -exfalso -symm | (exfalso;omega)))
   rw[←hS]
   have e3:m1.chain hd acc={ m1 with nts:=m1.nts+j,prods:=P++[⟨prev,[nS a,nS b]⟩] }:=by
    unfold Mk.chain
    rw[hR,b4]
    rfl
   simp only
   rw[e3]
   refine⟨⟨rfl,rfl⟩,?_,rfl⟩
   simp[Af_,nS,dSym]
end Go.Proofs.YtchgnpnbcjflcaaGreat
end
section
namespace Go.Proofs.YtchgnpnbcjflcaaGreat
open Go Go.Dm
variable [DMode]
def symG (N:Int) (s:Sym):Prop:=if s.label then 0≤s.n∧s.n<16 else 0≤s.n∧s.n<N
def gP (N:Int) (p:Prod):Prop:=(0≤p.head∧p.head<N)∧AD_ p.body≠0∧∀s∈p.body,symG N s
structure GoodM (m:Mk):Prop where
 one:1≤m.nts
 ps:∀p∈m.prods,gP m.nts p
 hs:∀a h,Er_ m.hs a=some h→0≤h∧h<m.nts
 no:0≤m.no∧(m.no=0∨m.no<m.nts)
theorem Ik_ {N N':Int} (h:N≤N') {s:Sym} (hs:symG N s):symG N' s:=by
 unfold symG at *
 split
 ·rename_i hl;rw[if_pos hl]at hs;exact hs
 ·rename_i hl;rw[if_neg hl]at hs;exact⟨hs.1,by omega⟩
theorem Ts_ {N N':Int} (h:N≤N') {p:Prod} (hp:gP N p):gP N' p:=⟨⟨hp.1.1,by have:=hp.1.2;omega⟩,hp.2.1,fun s hs=>Ik_ h (hp.2.2 s hs)⟩
theorem GoodM.pos {m:Mk} (h:GoodM m):m.Pos:=⟨by have:=h.one;omega,fun a x hx=>(h.hs a x hx).1⟩
theorem good_sym {m:Mk} (h:GoodM m) {s:Sym} (hs:symG m.nts s):GoodM (m.sym s).1∧0≤(m.sym s).2∧(m.sym s).2<(m.sym s).1.nts:=by
 have h1:=h.one
 unfold Mk.sym
 unfold symG at hs
 split
 ·rename_i hl
  rw[if_pos hl]at hs
  split
  ·rename_i x hx
   exact⟨h,h.hs _ _ hx⟩
  ·rename_i hx
   refine⟨⟨by simp only;omega,?_,?_,?_⟩,by simp only;omega,by simp only;omega⟩
   ·intro p hp
    rcases aJ0.1 hp with hp | hp
    ·exact Ts_ (by simp only;omega) (h.ps p hp)
    ·simp only[aE0]at hp
     subst hp
     refine⟨by simp only;omega,by simp[AD_,hl],?_⟩
     intro t ht
     simp only[aE0]at ht
     subst ht
     unfold symG
     rw[if_pos hl]
     exact hs
   ·intro a x hx'
    simp only[IB_]at hx'
    split at hx'
    ·rename_i y hy
     simp only[aA0]at hx'
     subst hx'
     have:=h.hs _ _ hy
     exact⟨this.1,by simp only;omega⟩
    ·split at hx'
     ·simp only[aA0]at hx'
      subst hx'
      exact⟨by omega,by simp only;omega⟩
     ·simp at hx'
   ·have:=h.no
    exact⟨this.1,by simp only;omega⟩
 ·rename_i hl
  rw[if_neg hl]at hs
  exact⟨h,hs⟩
theorem RF_ : ∀{l:List Sym} {m:Mk},GoodM m→(∀s∈l,symG m.nts s)→GoodM (m.syms l).1∧∀n∈(m.syms l).2,0≤n∧n<(m.syms l).1.nts
 | [],m,h,_=>⟨h,by simp[Mk.syms]⟩
 | s::l,m,h,hs=>by
  obtain⟨h1,h2,h3⟩:=good_sym h (hs s aI0)
  have hle:=(SM_ m s).2.1
  obtain⟨h4,h5⟩:=RF_ h1 fun t ht=>Ik_ hle (hs t (aF0 _ ht))
  have hle2:=(Ij_ l (m.sym s).1).2.1
  refine⟨h4,fun n hn=> ?_⟩
  simp only[Mk.syms,aK0]at hn
  rcases hn with rfl | hn
  ·exact⟨h2,by simp only[Mk.syms];omega⟩
  ·exact h5 n hn
theorem RG_ {m:Mk} (h:GoodM m):GoodM m.nothing∧0≤m.nothing.no∧m.nothing.no<m.nothing.nts:=by
 have h1:=h.one
 unfold Mk.nothing
 split
 ·refine⟨⟨by simp only;omega,?_,?_,by simp only;omega⟩,by simp only;omega,by simp only;omega⟩
  ·intro p hp
   rcases aJ0.1 hp with hp | hp
   ·exact Ts_ (by simp only;omega) (h.ps p hp)
   ·simp only[aE0]at hp
    subst hp
    exact⟨by simp only;omega,by simp[AD_],by simp⟩
  ·intro a x hx
   have:=h.hs a x hx
   exact⟨this.1,by simp only;omega⟩
 ·rename_i hn
  have:=h.no
  exact⟨h,this.1,by omega⟩
theorem LV_ : ∀(ns:List Int) (N nts head:Int),(0≤head∧head<N)→(0≤nts∧nts+(ns.length-2:Nat)≤N)→(∀n∈ns,0≤n∧n<N)→∀p∈Dv_ nts head ns,gP N p
 | [],_,_,_,_,_,_,p,hp=>by simp[Dv_]at hp
 | [_],_,_,_,_,_,_,p,hp=>by simp[Dv_]at hp
 | [a,b],N,nts,head,h1,h2,h3,p,hp=>by
  simp only[Dv_,aE0]at hp
  subst hp
  refine⟨h1,by simp[AD_,nS],fun s hs=> ?_⟩
  simp only[aK0,eB0,or_false]at hs
  rcases hs with rfl | rfl
  ·exact h3 a (by simp)
  ·exact h3 b (by simp)
 | a::b::c::r,N,nts,head,h1,h2,h3,p,hp=>by
  simp only[Dv_,aK0]at hp
  have hl:(a::b::c::r).length-2=r.length+1:=by simp
  rw[hl]at h2
  rcases hp with rfl | hp
  ·refine⟨h1,by simp[AD_,nS],fun s hs=> ?_⟩
   simp only[aK0,eB0,or_false]at hs
   rcases hs with rfl | rfl
   ·exact h3 a (by simp)
   ·exact⟨h2.1,by simp only[nS];omega⟩
  ·refine LV_ (b::c::r) N (nts+1) nts ⟨h2.1,by omega⟩ ⟨by omega,?_⟩ (fun n hn=>h3 n (aF0 _ hn)) p (by simpa using hp)
   have hl2:(b::c::r).length-2=r.length:=by simp
   rw[hl2]
   omega
theorem NC_ {m:Mk} (h:GoodM m) {hd:Int} {ns:List Int} (h1:0≤hd∧hd<m.nts) (h2:∀n∈ns,0≤n∧n<m.nts):GoodM (m.chain hd ns):=by
 have h0:=h.one
 have hle:m.nts≤m.nts+((ns.length-2:Nat):Int):=by omega
 refine⟨by simp only[Mk.chain];omega,?_,fun a x hx=> ?_,?_⟩
 ·intro p hp
  rcases aJ0.1 hp with hp | hp
  ·exact Ts_ hle (h.ps p hp)
  ·exact LV_ ns (m.chain hd ns).nts m.nts hd ⟨h1.1,by simp only[Mk.chain];omega⟩ ⟨by omega,Int.le_refl _⟩ (fun n hn=>⟨(h2 n hn).1,by have:=(h2 n hn).2;simp only[Mk.chain];omega⟩) p hp
 ·have:=h.hs a x hx
  exact⟨this.1,by simp only[Mk.chain];omega⟩
 ·have:=h.no
  exact⟨this.1,by simp only[Mk.chain];omega⟩
theorem good_put {m:Mk} (h:GoodM m) {p:Prod} (hp:gP m.nts p):GoodM (m.put p.head p.body):=by
 refine⟨h.one,fun q hq=> ?_,h.hs,h.no⟩
 rcases aJ0.1 hq with hq | hq
 ·exact h.ps q hq
 ·simp only[aE0]at hq
  subst hq
  exact hp
theorem Vn_ {m:Mk} (h:GoodM m) {p:Prod} (h1:0≤p.head∧p.head<m.nts) (h2:∀s∈p.body,symG m.nts s):GoodM (m.add p):=by
 unfold Mk.add
 split
 ·rename_i hf
  exact good_put h ⟨h1,by rcases hf with hf | hf<;>rw[hf]<;>decide,h2⟩
 ·obtain⟨g1,g2⟩:=RF_ h h2
  have hle:=(Ij_ p.body m).2.1
  split
  ·obtain⟨k1,k2,k3⟩:=RG_ g1
   have hle2:=(HK_ (m.syms p.body).1).2.1
   refine NC_ k1 ⟨h1.1,by omega⟩ fun n hn=> ?_
   rcases aJ0.1 hn with hn | hn
   ·have:=g2 n hn
    exact⟨this.1,by omega⟩
   ·simp only[aE0]at hn
    subst hn
    exact⟨k2,k3⟩
  ·exact NC_ g1 ⟨h1.1,by omega⟩ g2
theorem symBad_G {c:Cnf} {s:Sym} (h:CJ_ c s=false):symG c.nts s:=by
 unfold CJ_ at h
 unfold symG
 cases hl:s.label<;>simp_all [ntOK]
theorem symG_bad {c:Cnf} {s:Sym} (h:symG c.nts s):CJ_ c s=false:=by
 unfold symG at h
 unfold CJ_
 cases hl:s.label<;>simp_all [ntOK]
theorem XZ_ {c:Cnf} {p:Prod}:Cb_ c p=true↔(0≤p.head∧p.head<c.nts)∧∀s∈p.body,symG c.nts s:=by
 unfold Cb_
 rw[aN0]
 constructor
 ·rintro⟨h1,h2⟩
  refine⟨by simpa[ntOK]using h1,fun s hs=>symBad_G ?_⟩
  simp only[eN0,dE0]at h2
  simpa using h2 s hs
 ·rintro⟨h1,h2⟩
  refine⟨by simpa[ntOK]using h1,?_⟩
  simp only[eN0,dE0]
  intro s hs
  rw[symG_bad (h2 s hs)]
  simp
theorem IQ_ {c:Cnf}:BI_ c=true↔(1≤c.nts∧c.nts≤1024)∧∀p∈c.prods,(0≤p.head∧p.head<c.nts)∧∀s∈p.body,symG c.nts s:=by
 unfold BI_
 simp only[aN0,decide_eq_true_eq,bC0,XZ_]
theorem RH_ : ∀{l:List Prod} {m r:Mk},GoodM m→m.nts≤1024→(∀p∈l,(0≤p.head∧p.head<m.nts)∧∀s∈p.body,symG m.nts s)→m.adds l=some r→GoodM r∧r.nts≤1024
 | [],m,r,h,hn,_,hr=>by simp only[Mk.adds,aA0]at hr;subst hr;exact⟨h,hn⟩
 | p::l,m,r,h,hn,hl,hr=>by
  simp only[Mk.adds]at hr
  split at hr
  ·simp at hr
  ·rename_i hov
   obtain⟨h1,h2⟩:=hl p aI0
   have hle:=(TT_ m p).2.1
   exact RH_ (Vn_ h h1 h2) (by omega) (fun q hq=>by
    obtain⟨g1,g2⟩:=hl q (aF0 _ hq)
    exact⟨⟨g1.1,by omega⟩,fun s hs=>Ik_ hle (g2 s hs)⟩) hr
theorem NB_ {c:Cnf} (h:BI_ c=true):GoodM (Mk.start c):=by
 obtain⟨h1,_⟩:=IQ_.1 h
 exact⟨h1.1,by simp[Mk.start],by simp[Mk.start,Er_],by simp[Mk.start]⟩
theorem adds_good {c:Cnf} {r:Mk} (h:BI_ c=true) (hr:(Mk.start c).adds c.prods=some r):GoodM r∧r.nts≤1024:=by
 obtain⟨h1,h2⟩:=IQ_.1 h
 exact RH_ (NB_ h) h1.2 h2 hr
theorem good_ok {m:Mk} (h:GoodM m) (hn:m.nts≤1024):BI_ m.cnf=true:=IQ_.2 ⟨⟨h.one,hn⟩,fun p hp=>⟨(h.ps p hp).1,(h.ps p hp).2.2⟩⟩
theorem ofC_eq (c:Cnf):ofC c=if BI_ c then ((match (Mk.start c).adds c.prods with | none=>(cnf0,240) | some m=>(Cd_ m.cnf,0)):Cnf×Int)else (cnf0,220):=by
 unfold ofC
 split
 ·rename_i h
  cases hA:(Mk.start c).adds c.prods with
  | none=>rfl
  | some m =>
   obtain⟨g1,g2⟩:=adds_good h hA
   simp[finC,good_ok g1 g2]
 ·rfl
end Go.Proofs.YtchgnpnbcjflcaaGreat
end
section
namespace Go.Proofs.YtchgnpnbcjflcaaGreat
open Go Go.Dm
variable [DMode]
attribute [local irreducible] DW Br_ Bu_
set_option maxRecDepth 100000

theorem QL_ (c:Cnf):Aj_ Tryz.prog 148 [.agg (dCnf c)] (.agg (dCnf (Cd_ c))):=by
 have h:=QK_ c
 rw[Ps_ Jl_]at h
 exact h
def KP_ : Ann:=⟨[2],[⟨20,[],[],[9]⟩]⟩
set_option maxHeartbeats 4000000 in
theorem addR_big (m:Mk) (p:Prod) (hb:1026<p.body.length) :
  AU_ Tryz.prog (.func 147) [fmD 0 0 m,.agg (Af_ p)] (dFo 0 0 m) (fmD 1 1 { m with nts:=1025 }) (dFo 1 1 { m with nts:=1025 }):=by
 obtain⟨hd,l⟩:=p
 simp only at hb
 refine Av_ [2,4] [(0,0,1),(1,1,1)] (fn:=Tryz.f147) Tryz.func147 rfl Tryz.call147 (by simp[Tryz.ntmps147]) (by simp) (by simp[dFo]) ?_
 intro hwf B hnt
 simp only[Tryz.ntmps147]at hnt
 have hgAnn:=Ao_ KP_ Tryz.mixed (aj2 @KP_.eq_1 Tryz.results147)
 simp only[argS,fmD]
 have q1:¬l=[]:=fun h=>by rw[h]at hb;simp at hb
 have q2:¬(l.length:Int)=1:=by omega
 have q3:(1026:Int)<l.length:=by omega
 have q4:¬(l.length:Int)=0:=by omega
 have q5:((l.length:Int)==0)=false:=by simpa using q4
 have q6:((l.length:Int)==1)=false:=by simpa using q2
 have q7:¬l.length=1:=by omega
 have hn1:noR { m with nts:=1025 }=noR m:=rfl
 have hn2:hs16 { m with nts:=1025 }=hs16 m:=rfl
 obtain⟨s0,hs0,hs0',_⟩:=Aq_ (show 0<l.length by omega)
 (repeat (first | refine Ak_ fun K hK=> ?_ | (refine DW_r KP_ Tryz.mixed (by kernel_rfl) ?_;simp[KP_,hnt,dFo,Af_,dSym,q1,q2,q3,q4,q5,q6,q7,hs0,hs0',hn1,hn2];try simp (disch:=omega) only[Aa_]) | refine Ac_ ?_ | (refine As_ ?_ ?_ ?_;(· (simp[hnt,dFo,Af_,dSym,q1,q2,q3,q4,q5,q6,q7,hs0,hs0',hn1,hn2];done));(try (rotate_left;(· (intro hc;(try simp[hnt,dFo,Af_,dSym,q1,q2,q3,q4,q5,q6,q7,hs0,hs0',hn1,hn2]at hc);done))))) | (refine Al_ ?_;simp[Tryz.results147,hnt,dFo,Af_,dSym,q1,q2,q3,q4,q5,q6,q7,hs0,hs0',hn1,hn2]) | ((first | refine Ah_ ?_ | refine Ag_ ?_);simp[hnt,dFo,Af_,dSym,q1,q2,q3,q4,q5,q6,q7,hs0,hs0',hn1,hn2]) | (intro hc;(try simp[hnt,dFo,Af_,dSym,q1,q2,q3,q4,q5,q6,q7,hs0,hs0',hn1,hn2]at hc);(try (exfalso;omega))) | (refine⟨?_,?_⟩; · omega) | omega | apply_assumption -exfalso -symm | (exfalso;omega)))
theorem addR_spec (m:Mk) (p:Prod) (hg:GoodM m) (hok:∀s∈p.body,symG m.nts s) (hl2:p.body.length≤1026) (h2:m.nts+4000≤9223372036854775807) (h3:(m.prods.length+4000)*32≤150000000000000) :
  AU_ Tryz.prog (.func 147) [fmD 0 0 m,.agg (Af_ p)] (dFo 0 0 m) (fmD 1 1 (m.add p)) (dFo 1 1 (m.add p)):=by
 by_cases hf:AD_ p.body=1∨AD_ p.body=2
 ·exact addR_easy m p hf (OO_ (by omega) h3)
 ·by_cases hl:p.body.length=1
  ·exact addR_one m p hf hl hg.no.1 hg.one (by omega) (OO_ (by omega) h3)
  ·refine addR_more m p hf hl hl2 (fun s hs hlb=> ?_) hg.pos h2 h3
   have:=hok s hs
   unfold symG at this
   rw[if_pos hlb]at this
   exact this
def Cj_ : Ann:=⟨[12,26],[]⟩
set_option maxHeartbeats 8000000 in
theorem rof_pure (c:Cnf) (hsz:(c.prods.length+8000)*32≤150000000000000):Aj_ Tryz.prog 57 [.agg (dCnf c)] (.tup [.agg (dCnf (ofC c).1),.int .i64 (ofC c).2]):=by
 have key:∀d,d=(if BI_ c then (match (Mk.start c).adds c.prods with | none=> .tup [.agg [.int .i64 0,.nilsl],.int .i64 240] | some m=> .tup [.agg (dCnf (Cd_ m.cnf)),.int .i64 0])else .tup [.agg [.int .i64 0,.nilsl],.int .i64 220])→Aj_ Tryz.prog 57 [.agg (dCnf c)] d:=by
  intro d hd
  refine Ab_ [] (fn:=Tryz.f57) Tryz.func57 rfl Tryz.call57 (by simp[Tryz.ntmps57]) ?_ ?_
  ·subst hd
   split
   ·split<;>simp[mx,dCnf]
   ·simp[mx]
  intro hwf B hnt
  simp only[Tryz.ntmps57]at hnt
  have hgAnn:=Ao_ Cj_ Tryz.mixed (aj2 @Cj_.eq_1 Tryz.results57)
  have hw:wCnf c:=SD_ (by simpa[wfL,wfD]using hwf.1)
  obtain⟨hw1,hw2,hw3,hw4⟩:=hw
  clear hwf
  simp only[argS]
  have h1:=SV_ c
  cases hb:BI_ c
  ·rw[hb]at h1 hd
   simp only[aQ0,if_false]at hd
   subst hd
   (repeat (first | refine Ak_ fun K hK=> ?_ | (refine DW_r Cj_ Tryz.mixed (by kernel_rfl) ?_;simp[Cj_,hnt,dCnf];try simp (disch:=omega) only[Aa_]) | refine Ac_ ?_ | (refine As_ ?_ ?_ ?_;(· (simp[hnt,dCnf];done));(try (rotate_left;(· (intro hc;(try simp[hnt,dCnf]at hc);done))))) | (refine Al_ ?_;simp[Tryz.results57,hnt,dCnf]) | ((first | refine Ah_ ?_ | refine Ag_ ?_);simp[hnt,dCnf]) | (intro hc;(try simp[hnt,dCnf]at hc);(try (exfalso;omega))) | ((first | refine Ae_ (h1) ?_ | (refine Ad_ (h1) ?_ ?_;(· (simp;done))));try simp[hnt,dCnf]) | (refine⟨?_,?_⟩; · omega) | omega | apply_assumption -exfalso -symm | (exfalso;omega)))
  rw[hb]at h1 hd
  simp only[if_true]at hd
  have hh0:hs16 (Mk.start c)=List.replicate 16 (-1):=rfl
  have h4:=YD_ c.nts
  rw[←hh0]at h4
  clear hh0
  (repeat (first | refine Ak_ fun K hK=> ?_ | (refine DW_r Cj_ Tryz.mixed (by kernel_rfl) ?_;simp[Cj_,hnt,dCnf];try simp (disch:=omega) only[Aa_]) | refine Ac_ ?_ | (refine As_ ?_ ?_ ?_;(· (simp[hnt,dCnf];done));(try (rotate_left;(· (intro hc;(try simp[hnt,dCnf]at hc);done))))) | (refine Al_ ?_;simp[Tryz.results57,hnt,dCnf]) | ((first | refine Ah_ ?_ | refine Ag_ ?_);simp[hnt,dCnf]) | (intro hc;(try simp[hnt,dCnf]at hc);(try (exfalso;omega))) | ((first | refine Ae_ (h1) ?_ | (refine Ad_ (h1) ?_ ?_;(· (simp;done))));try simp[hnt,dCnf]) | (refine Ar_ [] [(51,0)] (h4) ?_ ?_;(· (simp[hnt,dCnf];done));(intro _;try simp[hnt,dCnf])) | (refine⟨?_,?_⟩; · omega) | omega | apply_assumption -exfalso -symm | (exfalso;omega)))
  refine Bx_ 4 1 50 92 2 32 (by simp) (fun n=> ?_)
  have hgs:=NB_ hb
  obtain⟨hn12,hcp⟩:=IQ_.1 hb
  obtain⟨hn1,hn2⟩:=hn12
  obtain⟨R,hR⟩:∃R,R=(Mk.start c).adds c.prods:=⟨_,rfl⟩
  rw[←hR]at hd
  have hno:noR ⟨c.nts,[],[],0⟩= -1:=rfl
  refine Am_ (X:={x:Nat×Mk//x.1≤c.prods.length∧x.2.adds (c.prods.drop x.1)=R∧c.nts≤x.2.nts∧x.2.nts≤1024∧(x.2.prods.length:Int)=x.1+x.2.nts-c.nts∧GoodM x.2})
   (fun x=>⟨[(1,.ref (dCnf c)),(2,.bx 2 1 0),(3,.int .i64 0),(4,.bx 4 1 0),(5,.int .i64 x.1.1)],[⟨2,1,.box [.int .i64 0,.nilsl]⟩,⟨4,1,.box [.int .i64 x.1.2.nts,.osl 50 1,.osl 51 1,.int .i64 (noR x.1.2)]⟩,⟨50,1,.row 92 2 32 (x.1.2.prods.map Af_)⟩,⟨51,1,.row 3 1 8 ((hs16 x.1.2).map Az_)⟩]⟩)
   (fun x=>c.prods.length-x.1.1) ⟨(0,Mk.start c),by simp[hR,Mk.start];exact⟨by omega,hgs⟩⟩ (Sub.lit (by simp[dCnf,Mk.start,hno])) ?_
  rintro⟨⟨k,m1⟩,hk,hA,b1,b2,b3,b4⟩
  simp only at hk hA b1 b2 b3 b4 ⊢
  clear hR
  by_cases hlt:k<c.prods.length
  ·obtain⟨p,hp,hp',hpm⟩:=Aq_ hlt
   obtain⟨hw5,hw6,hw7,hw8⟩:=hw4 p hpm
   obtain⟨hh1,hh2⟩:=hcp p hpm
   rw[aR0 hlt,hp']at hA
   simp only[Mk.adds]at hA
   obtain⟨g1,g2,g3,g4⟩:=TT_ m1 p
   simp only[Mk.gap]at g1
   have hsy:∀s∈p.body,symG m1.nts s:=fun s hs=>Ik_ b1 (hh2 s hs)
   by_cases hbig:1026<p.body.length
   ·have e1:=addR_big m1 p hbig
    rw[if_pos (by have:=b4.one;omega)]at hA
    subst hA
    simp only at hd
    subst hd
    simp only[fmD]at e1
    (repeat (first | refine Ak_ fun K hK=> ?_ | (refine DW_r Cj_ Tryz.mixed (by kernel_rfl) ?_;simp[Cj_,hnt,dFo,dCnf,Af_,hlt,hp'];try simp (disch:=omega) only[Aa_]) | refine Ac_ ?_ | (refine As_ ?_ ?_ ?_;(· (simp[hnt,dFo,dCnf,Af_,hlt,hp'];done));(try (rotate_left;(· (intro hc;(try simp[hnt,dFo,dCnf,Af_,hlt,hp']at hc);done))))) | (refine Al_ ?_;simp[Tryz.results57,hnt,dFo,dCnf,Af_,hlt,hp']) | ((first | refine Ah_ ?_ | refine Ag_ ?_);simp[hnt,dFo,dCnf,Af_,hlt,hp']) | (intro hc;(try simp[hnt,dFo,dCnf,Af_,hlt,hp']at hc);(try (exfalso;omega))) | ((first | refine Ae_ (h1) ?_ | (refine Ad_ (h1) ?_ ?_;(· (simp;done))));try simp[hnt,dFo,dCnf,Af_,hlt,hp']) | (refine Ar_ [(50,0),(51,1)] [] (e1) ?_ ?_;(· (simp[hnt,dFo,dCnf,Af_,hlt,hp'];done));(intro _;try simp[hnt,dFo,dCnf,Af_,hlt,hp'])) | (refine⟨?_,?_⟩; · omega) | omega | apply_assumption -exfalso -symm | (exfalso;omega)))
   ·have e1:=addR_spec m1 p b4 hsy (by omega) (by omega) (Nat.le_trans (aO0 32 (show m1.prods.length+4000≤c.prods.length+8000 by omega)) hsz)
    have hg2:=Vn_ b4 ⟨hh1.1,by have:=hh1.2;omega⟩ hsy
    generalize hm2:m1.add p=m2 at e1 hA g1 g2 g3 g4 hg2
    simp only[fmD]at e1
    by_cases hov:1024<m2.nts
    ·rw[if_pos hov]at hA
     subst hA
     simp only at hd
     subst hd
     (repeat (first | refine Ak_ fun K hK=> ?_ | (refine DW_r Cj_ Tryz.mixed (by kernel_rfl) ?_;simp[Cj_,hnt,dFo,dCnf,Af_,hlt,hp',hov];try simp (disch:=omega) only[Aa_]) | refine Ac_ ?_ | (refine As_ ?_ ?_ ?_;(· (simp[hnt,dFo,dCnf,Af_,hlt,hp',hov];done));(try (rotate_left;(· (intro hc;(try simp[hnt,dFo,dCnf,Af_,hlt,hp',hov]at hc);done))))) | (refine Al_ ?_;simp[Tryz.results57,hnt,dFo,dCnf,Af_,hlt,hp',hov]) | ((first | refine Ah_ ?_ | refine Ag_ ?_);simp[hnt,dFo,dCnf,Af_,hlt,hp',hov]) | (intro hc;(try simp[hnt,dFo,dCnf,Af_,hlt,hp',hov]at hc);(try (exfalso;omega))) | ((first | refine Ae_ (h1) ?_ | (refine Ad_ (h1) ?_ ?_;(· (simp;done))));try simp[hnt,dFo,dCnf,Af_,hlt,hp',hov]) | (refine Ar_ [(50,0),(51,1)] [] (e1) ?_ ?_;(· (simp[hnt,dFo,dCnf,Af_,hlt,hp',hov];done));(intro _;try simp[hnt,dFo,dCnf,Af_,hlt,hp',hov])) | (refine⟨?_,?_⟩; · omega) | omega | apply_assumption -exfalso -symm | (exfalso;omega)))
    ·rw[if_neg hov]at hA
     (repeat (first | refine Ak_ fun K hK=> ?_ | (refine DW_r Cj_ Tryz.mixed (by kernel_rfl) ?_;simp[Cj_,hnt,dFo,dCnf,Af_,hlt,hp',hov];try simp (disch:=omega) only[Aa_]) | refine Ac_ ?_ | (refine As_ ?_ ?_ ?_;(· (simp[hnt,dFo,dCnf,Af_,hlt,hp',hov];done));(try (rotate_left;(· (intro hc;(try simp[hnt,dFo,dCnf,Af_,hlt,hp',hov]at hc);done))))) | (refine Al_ ?_;simp[Tryz.results57,hnt,dFo,dCnf,Af_,hlt,hp',hov]) | ((first | refine Ah_ ?_ | refine Ag_ ?_);simp[hnt,dFo,dCnf,Af_,hlt,hp',hov]) | (intro hc;(try simp[hnt,dFo,dCnf,Af_,hlt,hp',hov]at hc);(try (exfalso;omega))) | ((first | refine Ae_ (h1) ?_ | (refine Ad_ (h1) ?_ ?_;(· (simp;done))));try simp[hnt,dFo,dCnf,Af_,hlt,hp',hov]) | (refine Ar_ [(50,0),(51,1)] [] (e1) ?_ ?_;(· (simp[hnt,dFo,dCnf,Af_,hlt,hp',hov];done));(intro _;try simp[hnt,dFo,dCnf,Af_,hlt,hp',hov])) | (refine⟨?_,?_⟩; · omega) | omega | apply_assumption -exfalso -symm | (exfalso;omega)))
     refine Ap_.mk ⟨(k+1,m2),show k+1≤c.prods.length∧_∧c.nts≤m2.nts∧m2.nts≤1024∧(m2.prods.length:Int)=((k+1:Nat):Int)+m2.nts-c.nts∧GoodM m2 from ⟨by omega,hA,by omega,by omega,by omega,hg2⟩⟩ (Sub.lit (by simp[dFo,dCnf])) (by simp;omega)
     (repeat (first | refine Ak_ fun K hK=> ?_ | (refine DW_r Cj_ Tryz.mixed (by kernel_rfl) ?_;simp[Cj_,hnt];try simp (disch:=omega) only[Aa_]) | refine Ac_ ?_ | (refine As_ ?_ ?_ ?_;(· (simp[hnt];done));(try (rotate_left;(· (intro hc;(try simp[hnt]at hc);done))))) | (refine Al_ ?_;simp[Tryz.results57,hnt]) | ((first | refine Ah_ ?_ | refine Ag_ ?_);simp[hnt]) | (intro hc;(try simp[hnt]at hc);(try (exfalso;omega))) | ((first | refine Ae_ (h1) ?_ | (refine Ad_ (h1) ?_ ?_;(· (simp;done))));try simp[hnt]) | (refine Ar_ [(50,0),(51,1)] [] (e1) ?_ ?_;(· (simp[hnt];done));(intro _;try simp[hnt])) | (refine⟨?_,?_⟩; · omega) | omega | apply_assumption -exfalso -symm | (exfalso;omega)))
  ·have hkk:k=c.prods.length:=by omega
   subst hkk
   rw[bP0]at hA
   simp only[Mk.adds]at hA
   subst hA
   simp only at hd
   subst hd
   refine EL_ (Sub.freezeL [50] _) ?_
   simp[hnt,Tryz.results57,Cj_,dCnf]
   have h2:=QL_ m1.cnf
   simp only[Mk.cnf,dCnf]at h2
   (repeat (first | refine Ak_ fun K hK=> ?_ | (refine DW_r Cj_ Tryz.mixed (by kernel_rfl) ?_;simp[Cj_,hnt,dCnf,Mk.cnf];try simp (disch:=omega) only[Aa_]) | refine Ac_ ?_ | (refine As_ ?_ ?_ ?_;(· (simp[hnt,dCnf,Mk.cnf];done));(try (rotate_left;(· (intro hc;(try simp[hnt,dCnf,Mk.cnf]at hc);done))))) | (refine Al_ ?_;simp[Tryz.results57,hnt,dCnf,Mk.cnf]) | ((first | refine Ah_ ?_ | refine Ag_ ?_);simp[hnt,dCnf,Mk.cnf]) | (intro hc;(try simp[hnt,dCnf,Mk.cnf]at hc);(try (exfalso;omega))) | ((first | refine Ae_ (h2) ?_ | (refine Ad_ (h2) ?_ ?_;(· (simp;done))));try simp[hnt,dCnf,Mk.cnf]) | (refine⟨?_,?_⟩; · omega) | omega | apply_assumption -exfalso -symm | (exfalso;omega)))
 have hk:=key _ rfl
 rw[ofC_eq]
 cases hb:BI_ c<;>rw[hb]at hk
 ·exact Aj_.wkT hk (by simp[cnf0,dCnf,Bh_]) (by simp[mx])
 ·simp only[if_true]at hk ⊢
  cases hA:(Mk.start c).adds c.prods with
  | none =>
   rw[hA]at hk
   exact Aj_.wkT hk (by simp[cnf0,dCnf,Bh_]) (by simp[mx])
  | some m =>
   rw[hA]at hk
   exact hk
end Go.Proofs.YtchgnpnbcjflcaaGreat
end
section
namespace Go.Proofs.YtchgnpnbcjflcaaGreat
open Go Go.Dm
attribute [local irreducible] DW Br_ Bu_
set_option maxRecDepth 100000
theorem bnd_w {a b n:Nat} (h1:a≤1040) (h2:b≤17179870208) (h3:n≤a+b):(n+8000)*32≤150000000000000:=by omega
theorem cnfM_sz {xs:List Auto} (hsm:∀a∈xs,SmA a) (hl:xs.length≤16):((Cd_ (cnfM xs)).prods.length+8000)*32≤150000000000000:=by
 have hfl:(finA xs).length≤1040:=Nat.le_trans (IK_ hsm 0) (bT0 65 hl)
 have hal:(arcA xs).length≤17179870208:=Nat.le_trans (IW_ hsm 0) (bT0 1073741888 hl)
 refine bnd_w hfl hal (Nat.le_trans (norm_len _) ?_)
 simp[cnfM]
def MJ_ (gt:GT):Cnf×Int:=ofC (Cd_ (cnfM (autL gt)))
def PU_ : Ann:=⟨[],[⟨4,[6],[],[]⟩]⟩
set_option maxHeartbeats 4000000 in
theorem wnew_pure (gt:GT) (h:OkgT gt) (hs:SmlG (mkG gt)) (p1:Aj_ Tryz.prog 76 [AC_ (mkG gt)] (.int .i64 0)):Aj_ Tryz.prog 17 [AC_ (mkG gt)] (.tup [.agg (dCnf (MJ_ gt).1),.int .i64 (MJ_ gt).2]):=by
 have e1:=Nv_ gt h hs p1
 have hsm:=PP_ h
 have hal:=IU_ gt
 have hhd:=h.hd
 have hne:=Pp_ h
 unfold MJ_
 obtain⟨A,hA⟩:∃A,A=autL gt:=⟨_,rfl⟩
 rw[←hA]at e1 hsm hal ⊢
 have hA16:A.length≤16:=by omega
 have e3:=JV_ (AB_ (mkG gt)) (AA_ (mkG gt)) A hsm hA16 (by omega) (Ue_ hsm (by omega))
 have hsz:=cnfM_sz hsm hA16
 obtain⟨NC,hNC⟩:∃NC,NC=Cd_ (cnfM A):=⟨_,rfl⟩
 rw[←hNC]at e3 hsz ⊢
 have e7:=of21_pure NC hsz
 obtain⟨X,hX⟩:∃X,X=(ofC NC).1:=⟨_,rfl⟩
 obtain⟨E,hE⟩:∃E,E=(ofC NC).2:=⟨_,rfl⟩
 rw[←hX,←hE]at e7 ⊢
 unfold Dt_ at e1 e3
 simp only[dCnf]at e3 e7
 refine Ab_ [] (fn:=Tryz.f17) Tryz.func17 rfl Tryz.call17 (by simp[Tryz.ntmps17]) (by simp[mx,mxL,dCnf]) ?_
 intro hwf B hnt
 simp only[Tryz.ntmps17]at hnt
 have hgAnn:=Ao_ PU_ Tryz.mixed (aj2 @PU_.eq_1 Tryz.results17)
 clear hwf
 simp only[argS]
 (repeat (first | refine Ak_ fun K hK=> ?_ | (refine DW_r PU_ Tryz.mixed (by kernel_rfl) ?_;simp[PU_,hnt,dCnf];try simp (disch:=omega) only[Aa_]) | refine Ac_ ?_ | (refine As_ ?_ ?_ ?_;(· (simp[hnt,dCnf];done));(try (rotate_left;(· (intro hc;(try simp[hnt,dCnf]at hc);done))))) | (refine Al_ ?_;simp[Tryz.results17,hnt,dCnf]) | ((first | refine Ah_ ?_ | refine Ag_ ?_);simp[hnt,dCnf]) | (intro hc;(try simp[hnt,dCnf]at hc);(try (exfalso;omega))) | ((first | refine Ae_ (e1) ?_ | refine Ae_ (e3) ?_ | refine Ae_ (e7) ?_ | (refine Ad_ (e1) ?_ ?_;(· (simp;done))) | (refine Ad_ (e3) ?_ ?_;(· (simp;done))) | (refine Ad_ (e7) ?_ ?_;(· (simp;done))));try simp[hnt,dCnf]) | (refine⟨?_,?_⟩; · omega) | omega | apply_assumption -exfalso -symm | (exfalso;omega)))
def PT_ : Ann:=⟨[],[]⟩
set_option maxHeartbeats 4000000 in
theorem XQ_ (gt:GT) (h:OkgT gt) (hs:SmlG (mkG gt)) (p2:Aj_ Tryz.prog 13 [AC_ (mkG gt)] (.int .i64 0)):Aj_ Tryz.prog 18 [AC_ (mkG gt)] (.tup [.agg (dCnf (MJ_ gt).1),.int .i64 (MJ_ gt).2]):=by
 have e2:=Ln_ gt h hs
 have hsm:=PP_ h
 have hal:=IU_ gt
 have hhd:=h.hd
 unfold MJ_
 obtain⟨A,hA⟩:∃A,A=autL gt:=⟨_,rfl⟩
 rw[←hA]at e2 hsm hal ⊢
 have hA16:A.length≤16:=by omega
 have e4:=Up_ A hsm hA16
 have hsz:=cnfM_sz hsm hA16
 obtain⟨NC,hNC⟩:∃NC,NC=Cd_ (cnfM A):=⟨_,rfl⟩
 rw[←hNC]at e4 hsz ⊢
 have e8:=rof_pure NC hsz
 obtain⟨X,hX⟩:∃X,X=(ofC NC).1:=⟨_,rfl⟩
 obtain⟨E,hE⟩:∃E,E=(ofC NC).2:=⟨_,rfl⟩
 rw[←hX,←hE]at e8 ⊢
 unfold refM at e2 e4
 simp only[dCnf]at e4 e8
 refine Ab_ [] (fn:=Tryz.f18) Tryz.func18 rfl Tryz.call18 (by simp[Tryz.ntmps18]) (by simp[mx,mxL,dCnf]) ?_
 intro hwf B hnt
 simp only[Tryz.ntmps18]at hnt
 have hgAnn:=Ao_ PT_ Tryz.mixed (aj2 @PT_.eq_1 Tryz.results18)
 clear hwf
 simp only[argS]
 (repeat (first | refine Ak_ fun K hK=> ?_ | (refine DW_r PT_ Tryz.mixed (by kernel_rfl) ?_;simp[PT_,hnt,dCnf];try simp (disch:=omega) only[Aa_]) | refine Ac_ ?_ | (refine As_ ?_ ?_ ?_;(· (simp[hnt,dCnf];done));(try (rotate_left;(· (intro hc;(try simp[hnt,dCnf]at hc);done))))) | (refine Al_ ?_;simp[Tryz.results18,hnt,dCnf]) | ((first | refine Ah_ ?_ | refine Ag_ ?_);simp[hnt,dCnf]) | (intro hc;(try simp[hnt,dCnf]at hc);(try (exfalso;omega))) | ((first | refine Ae_ (e2) ?_ | refine Ae_ (e4) ?_ | refine Ae_ (e8) ?_ | refine Ae_ (p2) ?_ | (refine Ad_ (e2) ?_ ?_;(· (simp;done))) | (refine Ad_ (e4) ?_ ?_;(· (simp;done))) | (refine Ad_ (e8) ?_ ?_;(· (simp;done))) | (refine Ad_ (p2) ?_ ?_;(· (simp;done))));try simp[hnt,dCnf]) | (refine⟨?_,?_⟩; · omega) | omega | apply_assumption -exfalso -symm | (exfalso;omega)))
def JX_ : Ann:=⟨[],[⟨1,[3],[],[]⟩,⟨2,[5],[],[]⟩]⟩
def PS_ : Ann:=⟨[],[⟨4,[6],[],[]⟩]⟩
def PR_ : Ann:=⟨[],[]⟩
theorem MK_ (g:List Rul) (hs:SmlG g) (hl:g.length*40≤140737488355328):Aj_ Tryz.prog 4 [AC_ g] (.bool true):=by
 obtain⟨c,p1,p2,p3⟩:=g_may g hs
 have e5:=Tr_
 by_cases hcz:c=0
 ·obtain⟨gt,rfl,h⟩:=p3 hcz
  subst hcz
  have f1:=wnew_pure gt h hs p1
  have f2:=XQ_ gt h hs p2
  have e6:=HH_ (MJ_ gt).1 (MJ_ gt).1
  simp only[decide_true]at e6
  obtain⟨X,hX⟩:∃X,X=(MJ_ gt).1:=⟨_,rfl⟩
  obtain⟨E,hE⟩:∃E,E=(MJ_ gt).2:=⟨_,rfl⟩
  rw[←hX]at e6 f1 f2
  rw[←hE]at f1 f2
  simp only[dCnf]at e6 f1 f2
  refine Ab_ [] (fn:=Tryz.f4) Tryz.func4 rfl Tryz.call4 (by simp[Tryz.ntmps4]) (by simp[mx]) ?_
  intro hwf B hnt
  simp only[Tryz.ntmps4]at hnt
  have hgAnn:=Ao_ JX_ Tryz.mixed (aj2 @JX_.eq_1 Tryz.results4)
  clear hwf
  simp only[argS]
  (repeat (first | refine Ak_ fun K hK=> ?_ | (refine DW_r JX_ Tryz.mixed (by kernel_rfl) ?_;simp[JX_,hnt];try simp (disch:=omega) only[Aa_]) | refine Ac_ ?_ | (refine As_ ?_ ?_ ?_;(· (simp[hnt];done));(try (rotate_left;(· (intro hc;(try simp[hnt]at hc);done))))) | (refine Al_ ?_;simp[Tryz.results4,hnt]) | ((first | refine Ah_ ?_ | refine Ag_ ?_);simp[hnt]) | (intro hc;(try simp[hnt]at hc);(try (exfalso;omega))) | ((first | refine Ae_ (f1) ?_ | refine Ae_ (f2) ?_ | refine Ae_ (e5) ?_ | refine Ae_ (e6) ?_ | (refine Ad_ (f1) ?_ ?_;(· (simp;done))) | (refine Ad_ (f2) ?_ ?_;(· (simp;done))) | (refine Ad_ (e5) ?_ ?_;(· (simp;done))) | (refine Ad_ (e6) ?_ ?_;(· (simp;done))));try simp[hnt]) | (refine⟨?_,?_⟩; · omega) | omega | apply_assumption -exfalso -symm | (exfalso;omega)))
 ·have e1:=Rg_ g c hcz p1
  have hcb:(c==0)=false:=by simpa using hcz
  have e6:=HH_ ⟨0,[]⟩ ⟨0,[]⟩
  simp only[decide_true,dCnf,Bh_,List.map_nil]at e6
  have f1:Aj_ Tryz.prog 17 [AC_ g] (.tup [.agg [.int .i64 0,.nilsl],.int .i64 c]):=by
   refine Ab_ [] (fn:=Tryz.f17) Tryz.func17 rfl Tryz.call17 (by simp[Tryz.ntmps17]) (by simp[mx,mxL]) ?_
   intro hwf B hnt
   simp only[Tryz.ntmps17]at hnt
   have hgAnn:=Ao_ PS_ Tryz.mixed (aj2 @PS_.eq_1 Tryz.results17)
   clear hwf
   simp only[argS]
   (repeat (first | refine Ak_ fun K hK=> ?_ | (refine DW_r PS_ Tryz.mixed (by kernel_rfl) ?_;simp[PS_,hnt,hcz,hcb];try simp (disch:=omega) only[Aa_]) | refine Ac_ ?_ | (refine As_ ?_ ?_ ?_;(· (simp[hnt,hcz,hcb];done));(try (rotate_left;(· (intro hc;(try simp[hnt,hcz,hcb]at hc);done))))) | (refine Al_ ?_;simp[Tryz.results17,hnt,hcz,hcb]) | ((first | refine Ah_ ?_ | refine Ag_ ?_);simp[hnt,hcz,hcb]) | (intro hc;(try simp[hnt,hcz,hcb]at hc);(try (exfalso;omega))) | ((first | refine Ae_ (e1) ?_ | (refine Ad_ (e1) ?_ ?_;(· (simp;done))));try simp[hnt,hcz,hcb]) | (refine⟨?_,?_⟩; · omega) | omega | apply_assumption -exfalso -symm | (exfalso;omega)))
  have f2:Aj_ Tryz.prog 18 [AC_ g] (.tup [.agg [.int .i64 0,.nilsl],.int .i64 c]):=by
   refine Ab_ [] (fn:=Tryz.f18) Tryz.func18 rfl Tryz.call18 (by simp[Tryz.ntmps18]) (by simp[mx,mxL]) ?_
   intro hwf B hnt
   simp only[Tryz.ntmps18]at hnt
   have hgAnn:=Ao_ PR_ Tryz.mixed (aj2 @PR_.eq_1 Tryz.results18)
   clear hwf
   simp only[argS]
   (repeat (first | refine Ak_ fun K hK=> ?_ | (refine DW_r PR_ Tryz.mixed (by kernel_rfl) ?_;simp[PR_,hnt,hcz,hcb];try simp (disch:=omega) only[Aa_]) | refine Ac_ ?_ | (refine As_ ?_ ?_ ?_;(· (simp[hnt,hcz,hcb];done));(try (rotate_left;(· (intro hc;(try simp[hnt,hcz,hcb]at hc);done))))) | (refine Al_ ?_;simp[Tryz.results18,hnt,hcz,hcb]) | ((first | refine Ah_ ?_ | refine Ag_ ?_);simp[hnt,hcz,hcb]) | (intro hc;(try simp[hnt,hcz,hcb]at hc);(try (exfalso;omega))) | ((first | refine Ae_ (p2) ?_ | (refine Ad_ (p2) ?_ ?_;(· (simp;done))));try simp[hnt,hcz,hcb]) | (refine⟨?_,?_⟩; · omega) | omega | apply_assumption -exfalso -symm | (exfalso;omega)))
  refine Ab_ [] (fn:=Tryz.f4) Tryz.func4 rfl Tryz.call4 (by simp[Tryz.ntmps4]) (by simp[mx]) ?_
  intro hwf B hnt
  simp only[Tryz.ntmps4]at hnt
  have hgAnn:=Ao_ JX_ Tryz.mixed (aj2 @JX_.eq_1 Tryz.results4)
  clear hwf
  simp only[argS]
  (repeat (first | refine Ak_ fun K hK=> ?_ | (refine DW_r JX_ Tryz.mixed (by kernel_rfl) ?_;simp[JX_,hnt,hcz,hcb];try simp (disch:=omega) only[Aa_]) | refine Ac_ ?_ | (refine As_ ?_ ?_ ?_;(· (simp[hnt,hcz,hcb];done));(try (rotate_left;(· (intro hc;(try simp[hnt,hcz,hcb]at hc);done))))) | (refine Al_ ?_;simp[Tryz.results4,hnt,hcz,hcb]) | ((first | refine Ah_ ?_ | refine Ag_ ?_);simp[hnt,hcz,hcb]) | (intro hc;(try simp[hnt,hcz,hcb]at hc);(try (exfalso;omega))) | ((first | refine Ae_ (f1) ?_ | refine Ae_ (f2) ?_ | refine Ae_ (e5) ?_ | refine Ae_ (e6) ?_ | (refine Ad_ (f1) ?_ ?_;(· (simp;done))) | (refine Ad_ (f2) ?_ ?_;(· (simp;done))) | (refine Ad_ (e5) ?_ ?_;(· (simp;done))) | (refine Ad_ (e6) ?_ ?_;(· (simp;done))));try simp[hnt,hcz,hcb]) | (refine⟨?_,?_⟩; · omega) | omega | apply_assumption -exfalso -symm | (exfalso;omega)))
end Go.Proofs.YtchgnpnbcjflcaaGreat
end
