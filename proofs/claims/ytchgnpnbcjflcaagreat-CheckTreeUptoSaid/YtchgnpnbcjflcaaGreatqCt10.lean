/- Parts of a proof, laid together: BP1, RB7, RB8, BX4, BX6, RB9, BX2, RB10, RS0, RS1, RS2, RS3, RS4, RS5, RS6, RS7, RS8, W97, WO, W98, W44, W47, W96, CF0, EnZ. -/
import Derived.Test.YtchgnpnbcjflcaaGreatqCt4
import Derived.Test.YtchgnpnbcjflcaaGreatqCt5
import Derived.Test.YtchgnpnbcjflcaaGreatqCt6
import Derived.Test.YtchgnpnbcjflcaaGreatqCt8
import Derived.Test.YtchgnpnbcjflcaaGreatqCt9
set_option linter.unusedSimpArgs false
set_option linter.unusedVariables false
set_option linter.unusedSectionVars false
section
namespace Go.Proofs.YtchgnpnbcjflcaaGreat
open Go Go.Dm Go.Shelf
variable [DMode]
attribute [local irreducible] DW Bj_ Bp_
set_option maxRecDepth 100000
abbrev autoZ : DVal:= .agg [.int .i64 0,.nilsl,.nilsl]
abbrev BI_ (ls:List (List Nd)):DVal:= .sl 1 24 (ls.map rowB)
theorem Ug_ (l:List Arc):AM_ Tryz.prog (.func 111) [.osl 0 0] [⟨0,0,.row 97 4 32 (l.map dArc)⟩] (Cb_ (Bu_ (fun x y=>arcC x y==0) l)) []:=PU_ l
theorem Nv_ (l:List Nat):AM_ Tryz.prog (.func 110) [.osl 0 0] [⟨0,0,.row 3 1 8 (l.map natD)⟩] (.tup []) [⟨0,0,.row 3 1 8 ((Kh_ (l.map toI)).map dNum)⟩]:=by
 have h:=OA_ (l.map toI);rw[cB0]at h;exact h
structure BoxR (H L:List ByteArray) (ls:List (List Nd)) (R:DVal):Prop where
 a:errF ls≠0→R= .tup [autoZ,.int .i64 (errF ls)]
 b:errF ls=0→ls.any (bad4 H L)=true→R= .tup [autoZ,.int .i64 4]
 c:errF ls=0→ls.any (bad4 H L)=false→64<occS ls→R= .tup [autoZ,.int .i64 183]
 d:errF ls=0→∀ts,ls=ts.map flat→(∀t∈ts,okT t=true∧(flat t).length≤2048)→ls.any (bad4 H L)=false→occS ls≤64→R= .tup [boxF H L ts,.int .i64 0]
def Gx_ : Ann:=⟨[77,89,94,100,105,114,126],[⟨16,[13],[],[]⟩,⟨17,[14],[],[]⟩,⟨30,[20],[],[]⟩,⟨38,[201,77],[],[]⟩,⟨39,[],[],[0,1,2,3,4,5,6]⟩]⟩
set_option maxHeartbeats 8000000 in
theorem of15_pure (H L:List ByteArray) (ls:List (List Nd)) (R:DVal) (hH:H.length≠0) (hR:BoxR H L ls R) (hm:mx R=0):Ac_ Tryz.prog 34 [dTab H L,BI_ ls] R:=by
 refine Aa_ [94,4] Gx_ Tryz.func34 Tryz.call34 Tryz.ntmps34 mxd (aj2 @Gx_.eq_1 Tryz.results34) rfl (by simp) (by simpa using hm) fun hwf B hnt hgAnn=> ?_
 have hwl:ls.length*24≤150000000000000:=by
  have h1:=hwf.2.1;simp only[wfD,aJ0]at h1;exact h1.1
 clear hwf;simp only[argS];have e1:=FY_ H L
 (refine go1 (aj1 e1) aj0 (aj1 hH) ?_;intros;refine mk_i ?_)
 clear hH;refine Ae_ (X:={k:Nat//k≤ls.length∧errF ls=errF (ls.drop k)}) (fun k=>⟨[(1,BI_ ls),(2,.ref [dTab H L]),(4,.bx 4 1 0),(5,.int .i64 0),(32,BI_ ls),(33,.int .i64 ls.length),(34,.int .i64 k.1)],[⟨4,1,.box [.int .i64 0,.nilsl,.nilsl]⟩]⟩) (fun k=>ls.length-k.1) ⟨0,by simp⟩ (Sub.lit (by simp)) ?_;rintro⟨k,hk,hek⟩;simp only
 by_cases hlt:k<ls.length
 ·obtain⟨l,hl,hl',hlm⟩:=Ak_ hlt;rw[aR0 hlt,hl',errF]at hek;have e2:=bodyC_p l
  by_cases hc:Ko_ l=0
  ·rw[if_pos hc]at hek;rw[hc]at e2
   (refine go1 (aj1 e2) aj0 (aj4 hlt hl hl' @rowB.eq_1) ?_;intros;refine mk_i ?_)
   exact Aj_.mk ⟨k+1,by omega,hek⟩ (Sub.lit (by simp)) (by simp;omega)
   skip
  ·rw[if_neg hc]at hek;have hRR:=hR.a (by rw[hek];exact hc);rw[hek]at hRR;rw[hRR];have hcb:(Ko_ l==0)=false:=by simpa using hc
   exact go0 (aj1 e2) aj0 (aj6 hlt hl hl' @rowB.eq_1 hc hcb)
 have hkk:k=ls.length:=by omega
 subst hkk;rw[bQ0]at hek;have he0:errF ls=0:=hek;obtain⟨ts,hts,htp⟩:=GO_ he0;clear hek hk;have htl:ls.length=ts.length:=by rw[hts,aJ0]
 have hocl:=TC_ ts fun t ht=>(htp t ht).2
 rw[←hts]at hocl
 (refine go1 aj0 aj0 aj0 ?_;intros;refine mk_i ?_)
 refine Ae_ (X:={k:Nat//k≤ls.length∧(ls.take k).any (bad4 H L)=false}) (fun k=>⟨[(1,BI_ ls),(2,.ref [dTab H L]),(4,.bx 4 1 0),(5,.int .i64 0),(9,.int .i64 (occS (ls.take k.1))),(45,BI_ ls),(46,.int .i64 ls.length),(47,.int .i64 k.1)],[⟨4,1,.box [.int .i64 0,.nilsl,.nilsl]⟩]⟩) (fun k=>ls.length-k.1) ⟨0,by simp⟩ (Sub.lit (by simp[Vo_])) ?_;rintro⟨k,hk,hno⟩;simp only
 by_cases hlt:k<ls.length
 ·obtain⟨l,hl,hl',hlm⟩:=Ak_ hlt
  have hll:l.length≤2048:=by
   rw[hts]at hlm;obtain⟨t,ht,rfl⟩:=aV0.1 hlm;exact(htp t ht).2
  have hos:=Rv_ (ls.take k) l;rw[←AK_ hl]at hos;have hot:=Ru_ (ls:=ls) (k:=k+1);obtain⟨m,hm2⟩:∃m,m=occS (ls.take k):=⟨_,rfl⟩;rw[←hm2]at hos ⊢;have e5:=NG_ l;have hw5:IntKind.i64.wrap ((m:Int)+(occN l:Int))=(occS (ls.take (k+1)):Int):=by rw[wq,hos];omega
  (refine go1 aj0 aj0 (aj4 hlt hl hl' @rowB.eq_1) ?_;intros;refine mk_i ?_)
  refine Ae_ (X:={j:Nat//j≤l.length∧bad4 H L (l.take j)=false}) (fun j=>⟨[(1,BI_ ls),(2,.ref [dTab H L]),(4,.bx 4 1 0),(5,.int .i64 0),(9,.int .i64 m),(11,dNds l),(45,BI_ ls),(46,.int .i64 ls.length),(47,.int .i64 k),(51,dNds l),(52,.int .i64 l.length),(53,.int .i64 j.1)],[⟨4,1,.box [.int .i64 0,.nilsl,.nilsl]⟩]⟩) (fun j=>l.length-j.1) ⟨0,by simp[bad4]⟩ (Sub.lit (by simp)) ?_;rintro⟨j,hj,hnj⟩;simp only
  by_cases hlt2:j<l.length
  ·obtain⟨x,hx,hx',hxm⟩:=Ak_ hlt2;have e3:=Nt_ H L x
   have hbs:bad4 H L (l.take (j+1))=decide (symE H L x=4):=by
    unfold bad4 at hnj ⊢;rw[AK_ hx,eB0,hnj];simp
   obtain⟨E,hE⟩:∃E,E=symE H L x:=⟨_,rfl⟩;rw[←hE]at e3 hbs;simp only[dNd,dSym]at e3
   by_cases h4:E=4
   ·have hany:ls.any (bad4 H L)=true:=by
     rw[bZ0];refine⟨l,hlm,?_⟩;unfold bad4;rw[bZ0];exact⟨x,hxm,by rw[←hE];simp[h4]⟩
    rw[hR.b he0 hany];exact go0 (aj1 e3) aj0 (aj5 @dNd.eq_1 hlt2 hx hx' h4)
   ·have h4b:(E==4)=false:=by simpa using h4
    rw[decide_eq_false h4]at hbs
    (refine go1 (aj1 e3) aj0 (aj6 @dNd.eq_1 hlt2 hx hx' h4 h4b) ?_;intros;refine mk_i ?_)
    refine Aj_.mk ⟨j+1,by omega,hbs⟩ (Sub.lit (by simp)) (by simp;omega)
    skip
  ·have hkk:j=l.length:=by omega
   subst hkk;rw[aQ0]at hnj;have hno2:(ls.take (k+1)).any (bad4 H L)=false:=by rw[AK_ hl,eB0,hno];simp[hnj]
   (refine go1 (aj1 e5) aj0 (aj1 hw5) ?_;intros;refine mk_i ?_)
   refine Aj_.mk ⟨k+1,by omega,hno2⟩ (Sub.lit (by simp)) (by simp;omega)
   skip
 have hkk:k=ls.length:=by omega
 subst hkk;rw[aQ0]at hno;clear hk hlt
 by_cases h64:64<occS ls
 ·have hRc:=hR.c he0 hno h64;have d1:(64:Int)<(occS ls:Int):=by omega
  exact go0 aj0 aj0 (aj3 d1 h64 hRc)
 have hRd:=hR.d he0 ts hts htp hno (by omega);have hoc:=EF_ ts;rw[←hts]at hoc;have d1:¬(64:Int)<(occS ls:Int):=by omega
 (refine go1 aj0 aj0 (aj2 d1 h64) ?_;intros;refine mk_i ?_)
 have hlv64:(lvL ts).length≤64:=by omega
 obtain⟨SF,hSF⟩:∃SF,SF=syL (symS H L) ts:=⟨_,rfl⟩
 have hpre:∀k,(lvL (ts.take k)).length≤64∧syL (symS H L) (ts.take k) <+: SF:=fun k=>by
  have h1:=lvL_pre (us:=ts.take k) (vs:=ts.drop k);have h2:=syL_pre (symS H L) (ts.take k) (ts.drop k);rw[List.take_append_drop]at h1 h2;rw[hSF];exact⟨by omega,h2⟩
 have hpl:∀k,(MG_ SF (ts.take k)).length≤1073741824:=fun k=>by
  have h1:=Ty_ (ts.take k) 0 (fun t ht=>(htp t (dE0 ht)).2) (hpre k).1;unfold MG_;rw[Jb_];have:=(hpre k).1;omega
 have hfl:∀k,(firN (ts.take k)).length≤64∧(lasN (ts.take k)).length≤64:=fun k=>by
  have h1:=Uc_ (ts.take k) 0;have h2:=laN_len (ts.take k) 0;have:=(hpre k).1;exact⟨by unfold firN;omega,by unfold lasN;omega⟩
 have z0:MG_ SF []=[]:=rfl;have z1:syL (symS H L) []=[]:=rfl;have z2:firN []=[]:=rfl;have z3:lasN []=[]:=rfl;have z4:anyE []=false:=by rw[anyE]
 refine Bq_ 77 0 201 95 2 16 (by simp) (fun n1=> ?_);refine Bq_ 77 1 202 97 4 32 (by simp) (fun n2=> ?_);refine Bq_ 17 2 94 3 1 8 (by simp) (fun n3=> ?_);refine Qt_ 17 1 1 8 rfl rfl ?_
 refine Ae_ (X:={k:Nat//k≤ts.length}) (fun k=>⟨[(2,.ref [dTab H L]),(4,.bx 4 1 0),(16,.bx 77 1 0),(17,.bx 17 1 0),(79,BI_ ls),(80,.int .i64 ls.length),(81,.int .i64 k.1)],
  [⟨4,1,.box [.int .i64 0,.nilsl,.nilsl]⟩,⟨77,1,.box [.osl 201 1,.osl 202 1]⟩,⟨201,1,.row 95 2 16 ((syL (symS H L) (ts.take k.1)).map dSym)⟩,⟨202,1,.row 97 4 32 ((MG_ SF (ts.take k.1)).map dArc)⟩,⟨17,1,.box [.bool (anyE (ts.take k.1)),BM_ (firN (ts.take k.1)),.osl 94 1]⟩,⟨94,1,.row 3 1 8 ((lasN (ts.take k.1)).map natD)⟩]⟩) (fun k=>ts.length-k.1) ⟨0,by simp⟩ (Sub.lit (by simp[z0,z1,z2,z3,z4])) ?_
 rintro⟨k,hk⟩;simp only
 by_cases hlt:k<ts.length
 ·obtain⟨t,ht,ht',htm⟩:=Ak_ hlt;obtain⟨hok,h2048⟩:=htp t htm;have hlk:ls[k]? =some (flat t):=by rw[hts,bI0,ht];rfl
  have hltl:k<ls.length:=by omega
  have hlk':ls[k]'hltl=flat t:=(aB0.1 hlk).2;have hp1:=hpre (k+1);have y1:=syN_step H L (ts.take k) t;have y2:=firN_step (ts.take k) t;have y3:=lasN_step (ts.take k) t;have y4:=ZT_ SF (ts.take k) t;have y5:=Og_ (ts.take k) t;have y6:=Pk_ (ts.take k) t;rw[←AK_ ht]at y1 y2 y3 y4 y5 y6;have y7:=congrArg List.length y6;rw[aC0]at y7;have hA:=hpl k;have hF:=hfl k;have hF1:=hfl (k+1);have e6:=Nq_ H L (flat t) (lvL (ts.take k)).length SF (by rw[←y7];exact hp1.1) _ t (Nat.le_refl _) hok 0 [] (syL (symS H L) (ts.take k)) (MG_ SF (ts.take k)) (by simp) (by rw[Ot_,OE_];rfl) (by rw[y1];exact hp1.2) (by omega)
  rw[y1,y4,bM0]at e6;have g1:=congrArg List.length y2;have g2:=congrArg List.length y3;rw[aC0]at g1 g2;have e7:=ZZ_ (anyE (ts.take k)) (empT t) (firN (ts.take k)) (firT (flat t) (lvL (ts.take k)).length t 0) (lasN (ts.take k)) (lasT (flat t) (lvL (ts.take k)).length t 0) (by omega) (by omega);rw[y5,y2,y3]at e7;refine EP_ (Sub.freezeL [94] _) ?_;simp
  (repeat (first | refine Aw_ fun K hK=> ?_ | (refine DW_r Gx_ mxd (by kernel_rfl) ?_;simp[Gx_,hnt,dBx,hltl,hlk,hlk',rowB];try simp (disch:=omega) only[Ah_]) | refine Al_ ?_ | (refine AJ_ ?_ ?_ ?_;(· (simp[hnt,dBx,hltl,hlk,hlk',rowB];done));(try (rotate_left;(· (intro hc;(try simp[hnt,dBx,hltl,hlk,hlk',rowB]at hc);done))))) | (refine Ay_ ?_;simp[Tryz.results34,hnt,dBx,hltl,hlk,hlk',rowB]) | ((first | refine Aq_ ?_ | refine Ap_ ?_);simp[hnt,dBx,hltl,hlk,hlk',rowB]) | (intro hc;(try simp[hnt,dBx,hltl,hlk,hlk',rowB]at hc);(try (exfalso;omega))) | (refine Az_ [(77,0),(201,1),(202,2)] [] (e6) ?_ ?_;(· (simp[hnt,dBx,hltl,hlk,hlk',rowB];done));(intro _;try simp[hnt,dBx,hltl,hlk,hlk',rowB])) | (refine Az_ [] [(94,0)] (e7) ?_ ?_;(· (simp[hnt,dBx,hltl,hlk,hlk',rowB];done));(intro _;try simp[hnt,dBx,hltl,hlk,hlk',rowB])) | (refine⟨?_,?_⟩; · omega) | omega | apply_assumption -exfalso -symm | (exfalso;omega)))
  refine Aj_.mk ⟨k+1,by omega⟩ (Sub.lit (by simp)) (by simp;omega)
  skip
 ·have hkk:k=ts.length:=by omega
  subst hkk;rw[aQ0];have hA:=hpl ts.length;have hF:=hfl ts.length;have hP:=hpre ts.length;rw[aQ0]at hA hF hP;have e8:=HP_ SF SF (MG_ SF ts) [0] (firN ts) (List.prefix_refl _) (fun q hq=>by have:=Ub_ ts 0 q hq;rw[hSF,Ot_];omega) (by rw[hSF,Ot_];omega) (by simp;omega);have y8:=arcsN_all (symS H L) ts;rw[←hSF]at y8;rw[y8]at e8;have e9:=Tm_ (Ho_ (symS H L) ts);have e11:=Ug_ (ER_ arcC (Ho_ (symS H L) ts))
  rw[←hSF];have hnlt:¬(ts.length:Int)<(ls.length:Int):=by omega
  have hSl:SF.length=(lvL ts).length:=by rw[hSF,Ot_]
  have hw1:IntKind.i64.wrap ((SF.length:Int)+1)=((lvL ts).length:Int)+1:=by rw[hSl];exact wq
  have hfin:=fins_law ts fun t ht=>(htp t ht).1
  unfold boxF ZR_ at hRd;obtain⟨CZ,hCZ⟩:∃CZ,CZ=Bu_ (fun x y=>arcC x y==0) (ER_ arcC (Ho_ (symS H L) ts)):=⟨_,rfl⟩;rw[←hCZ]at hRd e11;obtain⟨FR,hFR⟩:∃FR,FR=IP_ ts:=⟨_,rfl⟩;rw[←hFR]at hRd hfin;cases hE:anyE ts
  ·have e10:=Nv_ (lasN ts)
   have h12:Kh_ ((lasN ts).map toI)=FR:=by
    rw[hE]at hfin;simp only[aL0,if_false,bM0]at hfin;exact hfin
   rw[h12]at e10
   (repeat (first | refine Aw_ fun K hK=> ?_ | (refine DW_r Gx_ mxd (by kernel_rfl) ?_;simp[Gx_,hnt,dBx,hnlt,natD,hw1,hRd];try simp (disch:=omega) only[Ah_]) | refine Al_ ?_ | (refine AJ_ ?_ ?_ ?_;(· (simp[hnt,dBx,hnlt,natD,hw1,hRd];done));(try (rotate_left;(· (intro hc;(try simp[hnt,dBx,hnlt,natD,hw1,hRd]at hc);done))))) | (refine Ay_ ?_;simp[Tryz.results34,hnt,dBx,hnlt,natD,hw1,hRd]) | ((first | refine Aq_ ?_ | refine Ap_ ?_);simp[hnt,dBx,hnlt,natD,hw1,hRd]) | (intro hc;(try simp[hnt,dBx,hnlt,natD,hw1,hRd]at hc);(try (exfalso;omega))) | (refine Az_ [(77,0),(201,1),(202,2)] [] (e8) ?_ ?_;(· (simp[hnt,dBx,hnlt,natD,hw1,hRd];done));(intro _;try simp[hnt,dBx,hnlt,natD,hw1,hRd])) | (refine Az_ [(202,0)] [] (e9) ?_ ?_;(· (simp[hnt,dBx,hnlt,natD,hw1,hRd];done));(intro _;try simp[hnt,dBx,hnlt,natD,hw1,hRd])) | (refine Az_ [(94,0)] [] (e10) ?_ ?_;(· (simp[hnt,dBx,hnlt,natD,hw1,hRd];done));(intro _;try simp[hnt,dBx,hnlt,natD,hw1,hRd])) | (refine Az_ [(202,0)] [] (e11) ?_ ?_;(· (simp[hnt,dBx,hnlt,natD,hw1,hRd];done));(intro _;try simp[hnt,dBx,hnlt,natD,hw1,hRd])) | (refine⟨?_,?_⟩; · omega) | omega | apply_assumption -exfalso -symm | (exfalso;omega)))
  ·have e10:=Nv_ (lasN ts++[0])
   have h12:Kh_ ((lasN ts++[0]).map toI)=FR:=by
    rw[hE]at hfin;simp only[if_true]at hfin;rw[aX0];exact hfin
   rw[h12]at e10;have hb:((lasN ts).length+1)*8≤150000000000000:=by omega
   (repeat (first | refine Aw_ fun K hK=> ?_ | (refine DW_r Gx_ mxd (by kernel_rfl) ?_;simp[Gx_,hnt,dBx,hnlt,natD,hw1,hRd,hb];try simp (disch:=omega) only[Ah_]) | refine Al_ ?_ | (refine AJ_ ?_ ?_ ?_;(· (simp[hnt,dBx,hnlt,natD,hw1,hRd,hb];done));(try (rotate_left;(· (intro hc;(try simp[hnt,dBx,hnlt,natD,hw1,hRd,hb]at hc);done))))) | (refine Ay_ ?_;simp[Tryz.results34,hnt,dBx,hnlt,natD,hw1,hRd,hb]) | ((first | refine Aq_ ?_ | refine Ap_ ?_);simp[hnt,dBx,hnlt,natD,hw1,hRd,hb]) | (intro hc;(try simp[hnt,dBx,hnlt,natD,hw1,hRd,hb]at hc);(try (exfalso;omega))) | (refine Az_ [(77,0),(201,1),(202,2)] [] (e8) ?_ ?_;(· (simp[hnt,dBx,hnlt,natD,hw1,hRd,hb];done));(intro _;try simp[hnt,dBx,hnlt,natD,hw1,hRd,hb])) | (refine Az_ [(202,0)] [] (e9) ?_ ?_;(· (simp[hnt,dBx,hnlt,natD,hw1,hRd,hb];done));(intro _;try simp[hnt,dBx,hnlt,natD,hw1,hRd,hb])) | (refine Az_ [(94,0)] [] (e10) ?_ ?_;(· (simp[hnt,dBx,hnlt,natD,hw1,hRd,hb];done));(intro _;try simp[hnt,dBx,hnlt,natD,hw1,hRd,hb])) | (refine Az_ [(202,0)] [] (e11) ?_ ?_;(· (simp[hnt,dBx,hnlt,natD,hw1,hRd,hb];done));(intro _;try simp[hnt,dBx,hnlt,natD,hw1,hRd,hb])) | (refine⟨?_,?_⟩; · omega) | omega | apply_assumption -exfalso -symm | (exfalso;omega)))
end Go.Proofs.YtchgnpnbcjflcaaGreat
end
section
namespace Go.Proofs.YtchgnpnbcjflcaaGreat
open Go Go.Dm
variable [DMode]
attribute [local irreducible] DW Bj_ Bp_
set_option maxRecDepth 100000
noncomputable def Hq_ (H L:List ByteArray) (ls:List (List Nd)):Int:=if errF ls=0 then (if ls.any (bad4 H L)=true then 4 else if 64<occS ls then 183 else 0)else errF ls
def XK_ : Ann:=⟨[],[⟨15,[10],[],[]⟩]⟩
set_option maxHeartbeats 8000000 in
theorem Qx_ (g:List Rul) (ls:List (List Nd)) (hn:((AE_ 3 g).length+1)*16≤150000000000000):Ac_ Tryz.prog 138 [Av_ g,BI_ ls] (.int .i64 (Hq_ (Ar_ g) (Ao_ g) ls)):=by
 refine Aa_ [] XK_ Tryz.func138 Tryz.call138 Tryz.ntmps138 mxd (aj2 @XK_.eq_1 Tryz.results138) rfl (by simp) (by simp[mx]) fun hwf B hnt hgAnn=> ?_
 have hwl:ls.length*24≤150000000000000:=by
  have h1:=hwf.2.1;simp only[wfD,aJ0]at h1;exact h1.1
 clear hwf;simp only[argS];have eS:=fun x=>JM_ g x hn
 obtain⟨H,hH⟩:∃H,H=Ar_ g:=⟨_,rfl⟩;obtain⟨L,hL⟩:∃L,L=Ao_ g:=⟨_,rfl⟩;simp only[←hH,←hL]at eS ⊢;clear hH hL;obtain⟨W,hW⟩:∃W,W=Hq_ H L ls:=⟨_,rfl⟩;rw[←hW];unfold Hq_ at hW
 (refine go1 aj0 aj0 aj0 ?_;intros;refine mk_i ?_)
 refine Ae_ (X:={k:Nat//k≤ls.length∧errF ls=errF (ls.drop k)}) (fun k=>⟨[(0,Av_ g),(1,BI_ ls),(5,.int .i64 k.1)],[]⟩) (fun k=>ls.length-k.1) ⟨0,by simp⟩ (Sub.lit (by simp)) ?_;rintro⟨k,hk,hek⟩;simp only
 by_cases hlt:k<ls.length
 ·obtain⟨l,hl,hl',hlm⟩:=Ak_ hlt;rw[aR0 hlt,hl',errF]at hek;have e2:=bodyC_r l;have hwk:IntKind.i64.wrap ((k:Int)+1)=(k:Int)+1:=wq
  by_cases hc:Ko_ l=0
  ·rw[if_pos hc]at hek;rw[hc]at e2
   (refine go1 (aj1 e2) aj0 (aj5 hlt hl hl' @rowB.eq_1 hwk) ?_;intros;refine mk_i ?_)
   exact Aj_.mk ⟨k+1,by omega,hek⟩ (Sub.lit (by simp)) (by simp;omega)
   skip
  ·rw[if_neg hc]at hek;rw[if_neg (by rw[hek];exact hc),hek]at hW;have hcb:(Ko_ l==0)=false:=by simpa using hc
   exact go0 (aj1 e2) aj0 (aj7 hlt hl hl' @rowB.eq_1 hc hcb hW)
 have hkk:k=ls.length:=by omega
 subst hkk;rw[bQ0]at hek;have he0:errF ls=0:=hek;rw[if_pos he0]at hW;obtain⟨ts,hts,htp⟩:=GO_ he0;clear hek hk;have htl:ls.length=ts.length:=by rw[hts,aJ0]
 have hocl:=TC_ ts fun t ht=>(htp t ht).2
 rw[←hts]at hocl
 (refine go1 aj0 aj0 aj0 ?_;intros;refine mk_i ?_)
 refine Ae_ (X:={k:Nat//k≤ls.length∧(ls.take k).any (bad4 H L)=false}) (fun k=>⟨[(0,Av_ g),(1,BI_ ls),(7,.int .i64 (occS (ls.take k.1))),(8,.int .i64 k.1)],[]⟩) (fun k=>ls.length-k.1) ⟨0,by simp⟩ (Sub.lit (by simp[Vo_])) ?_;rintro⟨k,hk,hno⟩;simp only
 by_cases hlt:k<ls.length
 ·obtain⟨l,hl,hl',hlm⟩:=Ak_ hlt
  have hll:l.length≤2048:=by
   rw[hts]at hlm;obtain⟨t,ht,rfl⟩:=aV0.1 hlm;exact(htp t ht).2
  have hos:=Rv_ (ls.take k) l;rw[←AK_ hl]at hos;have hot:=Ru_ (ls:=ls) (k:=k+1);obtain⟨m,hm2⟩:∃m,m=occS (ls.take k):=⟨_,rfl⟩;rw[←hm2]at hos ⊢;have e5:=JN_ l;have hw5:IntKind.i64.wrap ((m:Int)+(occN l:Int))=(occS (ls.take (k+1)):Int):=by rw[wq,hos];omega
  have hwk:IntKind.i64.wrap ((k:Int)+1)=(k:Int)+1:=wq
  (refine go1 (aj1 e5) aj0 (aj5 hlt hl hl' @rowB.eq_1 hw5) ?_;intros;refine mk_i ?_)
  refine Ae_ (X:={j:Nat//j≤l.length∧bad4 H L (l.take j)=false}) (fun j=>⟨[(0,Av_ g),(1,BI_ ls),(7,.int .i64 (occS (ls.take (k+1)))),(8,.int .i64 k),(9,.int .i64 j.1)],[]⟩) (fun j=>l.length-j.1) ⟨0,by simp[bad4]⟩ (Sub.lit (by simp)) ?_;rintro⟨j,hj,hnj⟩;simp only
  by_cases hlt2:j<l.length
  ·obtain⟨x,hx,hx',hxm⟩:=Ak_ hlt2;have e3:=eS x;have hwj:IntKind.i64.wrap ((j:Int)+1)=(j:Int)+1:=wq
   have hbs:bad4 H L (l.take (j+1))=decide (symE H L x=4):=by
    unfold bad4 at hnj ⊢;rw[AK_ hx,eB0,hnj];simp
   obtain⟨E,hE⟩:∃E,E=symE H L x:=⟨_,rfl⟩;rw[←hE]at e3 hbs;simp only[dNd,dSym]at e3
   by_cases h4:E=4
   ·have hany:ls.any (bad4 H L)=true:=by
     rw[bZ0];refine⟨l,hlm,?_⟩;unfold bad4;rw[bZ0];exact⟨x,hxm,by rw[←hE];simp[h4]⟩
    rw[if_pos hany]at hW;exact go0 (aj1 e3) aj0 (aj10 @dNd.eq_1 @rowB.eq_1 hlt hl hl' hlt2 hx hx' h4 hW)
   ·have h4b:(E==4)=false:=by simpa using h4
    rw[decide_eq_false h4]at hbs
    (refine go1 (aj1 e3) aj0 (aj11 @dNd.eq_1 @rowB.eq_1 hlt hl hl' hlt2 hx hx' h4 h4b hwj) ?_;intros;refine mk_i ?_)
    refine Aj_.mk ⟨j+1,by omega,hbs⟩ (Sub.lit (by simp)) (by simp;omega)
    skip
  ·have hkk:j=l.length:=by omega
   subst hkk;rw[aQ0]at hnj;have hno2:(ls.take (k+1)).any (bad4 H L)=false:=by rw[AK_ hl,eB0,hno];simp[hnj]
   (refine go1 aj0 aj0 (aj5 @rowB.eq_1 hlt hl hl' hwk) ?_;intros;refine mk_i ?_)
   refine Aj_.mk ⟨k+1,by omega,hno2⟩ (Sub.lit (by simp)) (by simp;omega)
   skip
 have hkk:k=ls.length:=by omega
 subst hkk;rw[aQ0]at hno;clear hk hlt;rw[if_neg (by rw[hno];simp)]at hW
 by_cases h64:64<occS ls
 ·rw[if_pos h64]at hW;have d1:(64:Int)<(occS ls:Int):=by omega
  exact go0 aj0 aj0 (aj3 d1 h64 hW)
 ·rw[if_neg h64]at hW;have d1:¬(64:Int)<(occS ls:Int):=by omega
  exact go0 aj0 aj0 (aj3 d1 h64 hW)
theorem pl_lvs (l:List Nd):(plN l l.length).length=(lvs l).length:=by rw[Jr_ (Nat.le_refl _),FU_]
theorem SH_ (sy:Nd→Sym):∀(ts:List RT) (ah:Nat),(lvL ts).length≤64→(Gw_ sy ah ts).length≤65*(lvL ts).length
 | [],ah,_=>by simp[Gw_]
 | t::ts,ah,h=>by
  have h1:lvL (t::ts)=lvs (flat t)++lvL ts:=by simp[lvL]
  rw[h1,aC0]at h ⊢;have ih:=SH_ sy ts (ah+(lvs (flat t)).length) (by omega);have h2:=pl_lvs (flat t);have h3:=MD_ sy ah t (by omega) (plN (flat t) (flat t).length);have h4:Gw_ sy ah (t::ts)=FJ_ sy ah t (plN (flat t) (flat t).length)++Gw_ sy (ah+(lvs (flat t)).length) ts:=rfl;rw[h4,aC0];omega
def MH_ (sy:Nd→Sym) (us:List RT):List Arc:=insA [] (Gw_ sy 0 us)
theorem ZU_ (sy:Nd→Sym) (us:List RT) (t:RT):insA (MH_ sy us) (FJ_ sy (lvL us).length t (plN (flat t) (flat t).length))=MH_ sy (us++[t]):=by
 unfold MH_;rw[Od_,GL_,bT0];rfl
theorem arcsI_len (sy:Nd→Sym) (us:List RT) (h:(lvL us).length≤64):(MH_ sy us).length≤4160:=by
 have h1:=KI_ [] (Gw_ sy 0 us);have h2:=SH_ sy us 0 h;unfold MH_;simp only[List.length_nil]at h1;omega
def finI (us:List RT):List Nat:=finR 0 us
def finP (t:RT) (ah:Nat) (ps:List Nat):List Nat:=(ps.filter (enT t 0)).map (num (flat t) ah)
theorem finP_snoc (t:RT) (ah:Nat) (ps:List Nat) (p:Nat):finP t ah (ps++[p])=finP t ah ps++(if enT t 0 p=true then [num (flat t) ah p]else []):=by
 unfold finP;rw[dB0,aX0];cases h:enT t 0 p<;>simp[h]
theorem finP_nil (t:RT) (ah:Nat):finP t ah []=[]:=rfl
theorem finP_len (t:RT) (ah:Nat) (ps:List Nat):(finP t ah ps).length≤ps.length:=by unfold finP;rw[aJ0];exact cI0 _ _
theorem finI_snoc (us:List RT) (t:RT):finI us++finP t (lvL us).length (plN (flat t) (flat t).length)=finI (us++[t]):=by unfold finI finP;rw[Sg_,bT0]
theorem PL_ : ∀(ts:List RT) (ah:Nat),(finR ah ts).length≤(lvL ts).length
 | [],ah=>by simp[finR]
 | t::ts,ah=>by
  have h1:lvL (t::ts)=lvs (flat t)++lvL ts:=by simp[lvL]
  have ih:=PL_ ts (ah+(lvs (flat t)).length);have h2:=pl_lvs (flat t);have h3:((plN (flat t) (flat t).length).filter (enT t 0)).length≤(plN (flat t) (flat t).length).length:=cI0 _ _;rw[finR,h1,aC0,aC0,aJ0];omega
def refF (g:List Rul) (ts:List RT):DVal:=ZR_ ((lvL ts).length+1) (IP_ ts) (MH_ (syG g) ts)
theorem finsR_eq (ts:List RT):Bn_ (IP_ ts)= .sl 1 8 ((if anyE ts=true then [natD 0]else [])++(finI ts).map natD):=by
 unfold IP_ finI;rw[show Bn_ ((if anyE ts then [0]else [])++(finR 0 ts).map toI)= .sl 1 8 (((if anyE ts then [0]else [])++(finR 0 ts).map toI).map dNum) from rfl,aX0,cB0];cases anyE ts<;>rfl
def Uw_ : Ann:=⟨[63,79,84],[]⟩
set_option maxHeartbeats 8000000 in
theorem YX_ (g:List Rul) (ls:List (List Nd)) (R:DVal) (hn:((AE_ 3 g).length+1)*16≤150000000000000) (hm:mx R=0)
  (hRa:Hq_ (Ar_ g) (Ao_ g) ls≠0→R= .tup [autoZ,.int .i64 (Hq_ (Ar_ g) (Ao_ g) ls)])
  (hRd:∀ts,ls=ts.map flat→(∀t∈ts,okT t=true∧(flat t).length≤2048)→occS ls≤64→Hq_ (Ar_ g) (Ao_ g) ls=0→R= .tup [refF g ts,.int .i64 0]):Ac_ Tryz.prog 54 [Av_ g,BI_ ls] R:=by
 refine Aa_ [51,4] Uw_ Tryz.func54 Tryz.call54 Tryz.ntmps54 mxd (aj2 @Uw_.eq_1 Tryz.results54) rfl (by simp) (by simpa using hm) fun hwf B hnt hgAnn=> ?_
 have hwl:ls.length*24≤150000000000000:=by
  have h1:=hwf.2.1;simp only[wfD,aJ0]at h1;exact h1.1
 clear hwf;simp only[argS];have e1:=Qx_ g ls hn;obtain⟨W,hW⟩:∃W,W=Hq_ (Ar_ g) (Ao_ g) ls:=⟨_,rfl⟩;simp only[←hW]at e1 hRa hRd
 by_cases h0:W=0
 ·have hts:∃ts:List RT,ls=ts.map flat∧(∀t∈ts,okT t=true∧(flat t).length≤2048)∧occS ls≤64:=by
   rw[h0]at hW;unfold Hq_ at hW
   split at hW
   ·rename_i he;obtain⟨ts,h1,h2⟩:=GO_ he;refine⟨ts,h1,h2,?_⟩
    split at hW
    ·omega
    ·split at hW
     ·omega
     ·omega
   ·rename_i he;exact absurd hW.symm he
  obtain⟨ts,hts,htp,hoc⟩:=hts;have hRR:=hRd ts hts htp hoc h0;have hoc2:=EF_ ts;rw[←hts]at hoc2;have hlv:(lvL ts).length≤64:=by omega
  have htl:ls.length=ts.length:=by rw[hts,aJ0]
  rw[h0]at e1;clear hW hRa hRd
  (refine go1 (aj1 e1) aj0 aj0 ?_;intros;refine mk_i ?_)
  have hpre:∀k,(lvL (ts.take k)).length≤64:=fun k=>by
   have h1:=lvL_pre (us:=ts.take k) (vs:=ts.drop k);rw[List.take_append_drop]at h1;omega
  have z1:lvL []=[]:=rfl;have z2:MH_ (syG g) []=[]:=rfl;have z3:finI []=[]:=rfl;have z4:anyE []=false:=by rw[anyE]
  refine AV_ 8 50 3 1 8 (by simp[hnt,Tryz.results54,Uw_]) (fun n1=> ?_);refine Qt_ 7 2 4 32 rfl rfl ?_
  refine Ae_ (X:={k:Nat//k≤ts.length}) (fun k=>⟨[(0,Av_ g),(1,BI_ ls),(4,.bx 4 1 0),(7,.bx 7 1 0),(8,.osl 50 1),(9,.bool (anyE (ts.take k.1))),(10,.int .i64 k.1)],
   [⟨4,1,.box [.int .i64 0,.nilsl,.nilsl]⟩,⟨7,1,.box [.int .i64 ((lvL (ts.take k.1)).length+1),.nilsl,Cb_ (MH_ (syG g) (ts.take k.1))]⟩,⟨50,1,.row 3 1 8 ((finI (ts.take k.1)).map natD)⟩]⟩) (fun k=>ts.length-k.1) ⟨0,by simp⟩ (Sub.lit (by simp[z1,z2,z3,z4])) ?_
  rintro⟨k,hk⟩;simp only
  by_cases hlt:k<ts.length
  ·obtain⟨t,ht,ht',htm⟩:=Ak_ hlt;obtain⟨hok,h2048⟩:=htp t htm;have hlk:ls[k]? =some (flat t):=by rw[hts,bI0,ht];rfl
   have hltl:k<ls.length:=by omega
   have hlk':ls[k]'hltl=flat t:=(aB0.1 hlk).2;have y1:=ZU_ (syG g) (ts.take k) t;have y2:=finI_snoc (ts.take k) t;have y3:=Og_ (ts.take k) t;have y4:=congrArg List.length (Pk_ (ts.take k) t);rw[←AK_ ht]at y1 y2 y3 y4;rw[aC0]at y4;have hp1:=hpre (k+1);have hal:=arcsI_len (syG g) (ts.take k) (hpre k);have hfl:(finI (ts.take k)).length≤64:=by have:=PL_ (ts.take k) 0;have:=hpre k;unfold finI;omega
   obtain⟨ah,hah⟩:∃ah,ah=(lvL (ts.take k)).length:=⟨_,rfl⟩;rw[←hah]at y1 y2 y4 ⊢;have e2:=ab_ g t ah (MH_ (syG g) (ts.take k)) hok h2048 (by omega) hn (by omega);rw[y1]at e2;have e3:=EX_ (flat t);have hpl:=pl_lvs (flat t);have hprk:∀j p,(plN (flat t) (flat t).length)[j]? =some p→rkN (flat t) p=j:=fun j p h=>OP_ (Nat.le_refl _) h
   have hat:At (flat t) 0 t:=At.top hok;have eE:∀q:Nat,Ac_ Tryz.prog 141 [dNds (flat t),.int .i64 0,.int .i64 q] (.bool (enT t 0 q)):=fun q=>HV_ q _ t (flat t) 0 rfl hat (by omega)
   have eM:Ac_ Tryz.prog 142 [dNds (flat t),.int .i64 0] (.bool (empT t)):=Em_ _ t (flat t) 0 rfl hat (by omega);have hfs:=finP_snoc t ah;have hfpl:=finP_len t ah;obtain⟨ps,hps⟩:∃ps,ps=plN (flat t) (flat t).length:=⟨_,rfl⟩;rw[←hps]at e3 hpl hprk y2;clear hat hps;obtain⟨F0,hF0⟩:∃F0,F0=finI (ts.take k):=⟨_,rfl⟩;rw[←hF0]at y2 hfl ⊢;have hw1:IntKind.i64.wrap ((ah:Int)+1-1)=(ah:Int):=by rw[wq];omega
   have hwk:IntKind.i64.wrap ((k:Int)+1)=(k:Int)+1:=wq;have hw2:IntKind.i64.wrap ((ah:Int)+1+(ps.length:Int))=((lvL (ts.take (k+1))).length:Int)+1:=by rw[wq];omega
   (refine go1 (aj2 e2 e3) aj0 (aj5 hltl hlk hlk' @rowB.eq_1 hw1) ?_;intros;refine mk_i ?_)
   refine Ae_ (X:={j:Nat//j≤ps.length}) (fun j=>⟨[(0,Av_ g),(1,BI_ ls),(4,.bx 4 1 0),(7,.bx 7 1 0),(8,.osl 50 1),(9,.bool (anyE (ts.take k))),(10,.int .i64 k),(11,dNds (flat t)),(12,.int .i64 ah),(13,BM_ ps),(14,.int .i64 j.1)],
    [⟨4,1,.box [.int .i64 0,.nilsl,.nilsl]⟩,⟨7,1,.box [.int .i64 ((ah:Int)+1),.nilsl,Cb_ (MH_ (syG g) (ts.take (k+1)))]⟩,⟨50,1,.row 3 1 8 ((F0++finP t ah (ps.take j.1)).map natD)⟩]⟩) (fun j=>ps.length-j.1) ⟨0,by omega⟩ (Sub.lit (by simp[finP_nil])) ?_
   rintro⟨j,hj⟩;simp only
   by_cases hlt2:j<ps.length
   ·obtain⟨q,hq,hq',_⟩:=Ak_ hlt2;have e4:=eE q;have hrk:=hprk j q hq;have hf1:=hfs (ps.take j) q;rw[←AK_ hq]at hf1;have hf2:=hfpl (ps.take j);rw[aY0]at hf2;have hnum:num (flat t) ah q=ah+j+1:=by unfold num;omega
    rw[hnum]at hf1;obtain⟨F1,hF1⟩:∃F1,F1=finP t ah (ps.take j):=⟨_,rfl⟩;rw[←hF1]at hf1 hf2 ⊢;have hb:(F0.length+F1.length+1)*8≤150000000000000:=by omega
    have hwj:IntKind.i64.wrap ((ah:Int)+(j:Int))=(ah:Int)+(j:Int):=wq;have hwj2:IntKind.i64.wrap ((ah:Int)+(j:Int)+1)=(ah:Int)+(j:Int)+1:=wq;have hwj3:IntKind.i64.wrap ((j:Int)+1)=(j:Int)+1:=wq;cases hd:enT t 0 q
    ·rw[hd]at e4 hf1;simp only[aL0,if_false,bM0]at hf1
     (refine go1 (aj1 e4) aj0 (aj5 hlt2 hq hq' @natD.eq_1 hwj3) ?_;intros;refine mk_i ?_)
     refine Aj_.mk ⟨j+1,by omega⟩ (Sub.lit (by simp[hf1])) (by simp;omega)
     skip
    ·rw[hd]at e4 hf1;simp only[if_true]at hf1
     (refine go1 (aj1 e4) aj0 (aj8 hlt2 hq hq' @natD.eq_1 hwj hwj2 hwj3 hb) ?_;intros;refine mk_i ?_)
     refine Aj_.mk ⟨j+1,by omega⟩ (Sub.lit (by simp[hf1,natD])) (by simp;omega)
     skip
   ·have hkk:j=ps.length:=by omega
    subst hkk;rw[aQ0,y2];cases hE:anyE (ts.take k)
    ·rw[hE,eM0]at y3;rw[y3]at eM
     (refine go1 (aj1 eM) aj0 (aj2 hw2 hwk) ?_;intros;refine mk_i ?_)
     refine Aj_.mk ⟨k+1,by omega⟩ (Sub.lit (by simp)) (by simp;omega)
     skip
    ·rw[hE,Bool.true_or]at y3
     (refine go1 (aj1 eM) aj0 (aj2 hw2 hwk) ?_;intros;refine mk_i ?_)
     refine Aj_.mk ⟨k+1,by omega⟩ (Sub.lit (by simp[←y3])) (by simp;omega)
     skip
  ·have hkk:k=ts.length:=by omega
   subst hkk;rw[aQ0];have hfl:(finI ts).length≤64:=by have:=PL_ ts 0;unfold finI;omega
   have hb1:((finI ts).length)*8≤150000000000000:=by omega
   have hb2:(1+(finI ts).length)*8≤150000000000000:=by omega
   have hnlt:¬ts.length<ls.length:=by omega
   have hfe:=finsR_eq ts;unfold refF ZR_ at hRR;rw[hfe]at hRR;refine EP_ (Sub.freezeL [50] _) ?_;simp;refine Bq_ 7 1 51 3 1 8 (by simp) (fun n2=> ?_);cases hE:anyE ts
   ·rw[hE]at hRR;simp only[aL0,if_false,List.nil_append]at hRR;exact go0 aj0 aj0 (aj4 hnlt htl hRR hb1)
   ·rw[hE]at hRR;simp only[if_true]at hRR;exact go0 aj0 aj0 (aj5 hnlt htl hRR hb2 @natD.eq_1)
 ·have hRR:=hRa h0;have h0b:(W==0)=false:=by simpa using h0
  exact go0 (aj1 e1) aj0 (aj3 h0 h0b hRR)
@[simp] theorem bD_tail (l:List Bool) (v:Nat) (h:v<(bD l).length):((bD l)[v]'h).tail=[]:=by simp[bD,dBl]
def numD (l:List Int):List (List DVal):=l.map dNum
@[simp] theorem mx_numD (l:List Int):mxR (numD l)=0:=mx_dNums l


end Go.Proofs.YtchgnpnbcjflcaaGreat
end
section
namespace Go.Proofs.YtchgnpnbcjflcaaGreat
open Go Go.Dm
attribute [local irreducible] DW Bj_ Bp_
set_option maxRecDepth 100000
mutual
theorem PJ_ : ∀(t t':RT) (r r':List Nd),okT t=true→okT t'=true→flat t++r=flat t'++r'→t=t'∧r=r'
 | .mk x ks,.mk x' ks',r,r',h,h',he=>by
  rw[AB_,AB_,List.cons_append,List.cons_append]at he;injection he with h1 h2
  subst h1;have h3:=(Bx_ h).2.1;have h4:=(Bx_ h').2.1;obtain⟨h5,h6⟩:=Se_ ks ks' r r' (Bx_ h).2.2 (Bx_ h').2.2 (by omega) h2;exact⟨by rw[h5],h6⟩
theorem Se_ : ∀(ks ks':List RT) (r r':List Nd),okL ks=true→okL ks'=true→ks.length=ks'.length→Am_ ks++r=Am_ ks'++r'→ks=ks'∧r=r'
 | [],[],r,r',_,_,_,he=>by rw[Bg_]at he;exact⟨rfl,by simpa using he⟩
 | [],_::_,_,_,_,_,hl,_=>by simp at hl
 | _::_,[],_,_,_,_,hl,_=>by simp at hl
 | u::us,u'::us',r,r',h,h',hl,he=>by
  rw[An_,An_,aU0,aU0]at he;obtain⟨h1,h2⟩:=PJ_ u u' _ _ (AZ_ h).1 (AZ_ h').1 he;obtain⟨h3,h4⟩:=Se_ us us' r r' (AZ_ h).2 (AZ_ h').2 (by simpa using hl) h2;exact⟨by rw[h1,h3],h4⟩
end
theorem QE_ : ∀(ts ts':List RT),(∀t∈ts,okT t=true)→(∀t∈ts',okT t=true)→ts.map flat=ts'.map flat→ts=ts'
 | [],[],_,_,_=>rfl
 | [],_::_,_,_,h=>by simp at h
 | _::_,[],_,_,h=>by simp at h
 | t::ts,t'::ts',h,h',he=>by
  rw[List.map_cons,List.map_cons]at he;injection he with h1 h2
  have h3:=(PJ_ t t' [] [] (h t aF0) (h' t' aF0) (by rw[h1])).1;have h4:=QE_ ts ts' (fun u hu=>h u (aD0 _ hu)) (fun u hu=>h' u (aD0 _ hu)) h2;rw[h3,h4]
theorem box_eq (g:List Rul) (ts:List RT) (hok:∀t∈ts,okT t=true):boxF (Ar_ g) (Ao_ g) ts=refF g ts:=by
 unfold boxF refF MH_ insA syG;rw[arcs_law _ ts hok]
end Go.Proofs.YtchgnpnbcjflcaaGreat
end
section
namespace Go.Proofs.YtchgnpnbcjflcaaGreat
open Go Go.Dm
variable [DMode]
def bsL (g:List Rul) (h:ByteArray):List (List Nd):=(g.filter fun r=>decide (r.h=h)).map (·.b)
def tsL (gt:GT) (h:ByteArray):List RT:=(gt.filter fun p=>decide (p.1=h)).map (·.2)
theorem Wm_ (g:List Rul) (r:Rul) (h:ByteArray):bsL (g++[r]) h=bsL g h++(if r.h=h then [r.b]else []):=by
 unfold bsL;rw[dB0,aX0]
 congr 1
 by_cases hr:r.h=h<;>simp[hr]
theorem Uq_ (g:List Rul) (h:ByteArray):(bsL g h).length≤g.length:=by unfold bsL;rw[aJ0];exact cI0 _ _
theorem SD_ (gt:GT) (h:ByteArray):bsL (mkG gt) h=(tsL gt h).map flat:=by
 unfold bsL tsL mkG;rw[List.filter_map,cB0,cB0];rfl
theorem Ta_ {gt:GT} {h:ByteArray} {t:RT} (ht:t∈tsL gt h):∃p∈gt,p.2=t:=by
 unfold tsL at ht;obtain⟨p,hp,rfl⟩:=aV0.1 ht;exact⟨p,(cN0.1 hp).1,rfl⟩
theorem LI_ : ∀(g:List Rul) (h:ByteArray),occS (bsL g h)≤occG g
 | [],h=>by simp[bsL,occS,occG]
 | r::g,h=>by
  have ih:=LI_ g h;have h2:occG (r::g)=occN r.b+occG g:=by simp[occG]
  by_cases hr:r.h=h
  ·have h1:bsL (r::g) h=r.b::bsL g h:=by simp[bsL,hr]
   have h3:occS (r.b::bsL g h)=occN r.b+occS (bsL g h):=by simp[occS]
   rw[h1,h3,h2];omega
  ·have h1:bsL (r::g) h=bsL g h:=by simp[bsL,hr]
   rw[h1,h2];omega
structure OkgT (gt:GT):Prop where
 ok:OkG gt
 one:1≤gt.length
 le:gt.length≤64
 hd:(Ar_ (mkG gt)).length≤16
 lb:(Ao_ (mkG gt)).length≤16
 oc:occG (mkG gt)≤64
 dp:Hl_ gt=false
 ms:(Do_ (mkG gt)).length=0
 tx:(Cj_ gt).size≤2048
theorem okgT_of {gt:GT} (hk:OkG gt) (h1:1≤gt.length) (h2:gt.length≤64) (h:PV_ gt=0):OkgT gt:=by
 unfold PV_ at h
 repeat' split at h
 all_goals first
  | omega
  | skip
 rename_i a1 a2 a3 a4 a5 a6;exact⟨hk,h1,h2,by omega,by omega,by omega,by simpa using a4,by omega,by omega⟩
theorem tree_ok {gt:GT} (h:OkgT gt) {p:ByteArray×RT} (hp:p∈gt):okT p.2=true∧(flat p.2).length≤2048∧CR_ p.2=0:=by
 have h1:=(h.ok p hp).2;have h2:=US_ hp;have h3:=h.tx;have h4:=SZ_ p.2 h1;refine⟨h1,by omega,?_⟩
 have h5:¬16<htT p.2:=fun hh=>by
  have:Hl_ gt=true:=by unfold Hl_;rw[bZ0];exact⟨p,hp,by simpa using hh⟩
  rw[h.dp]at this;simp at this
 unfold CR_;rw[if_neg h5,if_neg (by omega)]
theorem sym_known {gt:GT} (h:OkgT gt) {p:ByteArray×RT} (hp:p∈gt) {x:Nd} (hx:x∈flat p.2):symE (Ar_ (mkG gt)) (Ao_ (mkG gt)) x≠4:=by
 have hr:(⟨p.1,flat p.2⟩:Rul)∈mkG gt:=aV0.2 ⟨p,hp,rfl⟩;unfold symE
 split
 ·rename_i h3
  have hm:x.s∈Ao_ (mkG gt):=by
   unfold Ao_;rw[(GA_ _).2];unfold AE_ Ch_;exact bR0.2 ⟨_,hr,aV0.2 ⟨x,cN0.2 ⟨hx,by simpa using h3⟩,rfl⟩⟩
  unfold numE;rw[if_pos hm];omega
 ·split
  ·rename_i h2
   have hm:x.s∈Ar_ (mkG gt):=by
    rcases Classical.em (x.s∈Ar_ (mkG gt))with hh | hh
    ·exact hh
    ·exfalso
     have:x.s∈Do_ (mkG gt):=by
      unfold Do_;rw[cN0,(GA_ _).2];refine⟨?_,by simpa using hh⟩;unfold AE_ Ch_;exact bR0.2 ⟨_,hr,aV0.2 ⟨x,cN0.2 ⟨hx,by simpa using h2⟩,rfl⟩⟩
     have h3:=List.length_pos_of_mem this;have:=h.ms;omega
   unfold numE;rw[if_pos hm];omega
  ·omega
theorem Wp_ {gt:GT} (h:OkgT gt) (s:ByteArray):(bsL (mkG gt) s).any (bad4 (Ar_ (mkG gt)) (Ao_ (mkG gt)))=false:=by
 rw[eE0];intro hh;rw[bZ0]at hh;obtain⟨l,hl,hb⟩:=hh;rw[SD_]at hl;obtain⟨t,ht,rfl⟩:=aV0.1 hl;obtain⟨p,hp,rfl⟩:=Ta_ ht;unfold bad4 at hb;rw[bZ0]at hb;obtain⟨x,hx,hxe⟩:=hb;exact sym_known h hp hx (by simpa using hxe)
theorem tsL_ok {gt:GT} (h:OkgT gt) (s:ByteArray):∀t∈tsL gt s,okT t=true∧(flat t).length≤2048:=fun t ht=>by
 obtain⟨p,hp,rfl⟩:=Ta_ ht;have:=tree_ok h hp;exact⟨this.1,this.2.1⟩
theorem lvL_le {gt:GT} (h:OkgT gt) (s:ByteArray):(lvL (tsL gt s)).length≤64:=by
 rw[←EF_,←SD_];have:=LI_ (mkG gt) s;have:=h.oc;omega
def autL (gt:GT):List Auto:=(Ar_ (mkG gt)).map fun s=>boxA (syG (mkG gt)) (tsL gt s)
theorem Ja_ (gt:GT):(autL gt).length=(Ar_ (mkG gt)).length:=by simp[autL]
theorem autL_at {gt:GT} {i:Nat} {s:ByteArray} (h:(Ar_ (mkG gt))[i]? =some s):(autL gt)[i]? =some (boxA (syG (mkG gt)) (tsL gt s)):=by unfold autL;rw[bI0,h];rfl
def sumS (l:List Auto):Nat:=(l.map fun a=>a.st.toNat).sum
theorem QM_ (l:List Auto) (a:Auto):sumS (l++[a])=sumS l+a.st.toNat:=by simp[sumS]
theorem autL_ok {gt:GT} (h:OkgT gt):∀a∈autL gt,Gu_ a=true:=fun a ha=>by
 obtain⟨s,_,rfl⟩:=aV0.1 ha;exact boxA_ok _ _ _ (lvL_le h s)
theorem FQ_ : ∀{l:List Auto},(∀a∈l,Gu_ a=true)→sumS l≤65*l.length
 | [],_=>by simp[sumS]
 | a::l,h=>by
  have h1:=LH_ (h a aF0);have h2:=FQ_ (l:=l) fun x hx=>h x (aD0 _ hx)
  have h3:sumS (a::l)=a.st.toNat+sumS l:=by simp[sumS]
  rw[h3,List.length_cons];omega
def parA : Nat→List Auto→List (Auto×Nat)
 | _,[]=>[]
 | f,a::l=>(a,f)::parA (f+a.st.toNat) l
theorem FX_ (a:Auto):∀(l:List Auto) (f:Nat),parA f (l++[a])=parA f l++[(a,f+sumS l)]
 | [],f=>by simp[parA,sumS]
 | b::l,f=>by
  have h3:sumS (b::l)=b.st.toNat+sumS l:=by simp[sumS]
  rw[List.cons_append,parA,parA,FX_ a l,h3,cS0];rfl
theorem EZ_ : ∀(l:List Auto) (f:Nat),(parA f l).length=l.length
 | [],_=>rfl
 | a::l,f=>by rw[parA,List.length_cons,List.length_cons,EZ_ l]
def dPt (p:Auto×Nat):List DVal:=[.int .i64 p.1.st,Bn_ p.1.fin,Cb_ p.1.arcs,.int .i64 (p.2:Int)]
abbrev dPts (l:List (Auto×Nat)):DVal:= .sl 4 64 (l.map dPt)
@[simp] theorem mx_dPt (p:Auto×Nat):mxL (dPt p)=0:=by simp[dPt,mxL,mx]
@[simp] theorem mx_dPts (l:List (Auto×Nat)):mxR (l.map dPt)=0:=mxR0 _ mx_dPt l
def Dy_ (H L:List ByteArray) (xs:List Auto):DVal:= .ref [dTab H L,dPts (parA 0 xs),.int .i64 (sumS xs)]
end Go.Proofs.YtchgnpnbcjflcaaGreat
end
section
namespace Go.Proofs.YtchgnpnbcjflcaaGreat
open Go Go.Dm
variable [DMode]
attribute [local irreducible] DW Bj_ Bp_
set_option maxRecDepth 100000
def MK_ : Ann:=⟨[],[⟨4,[7],[],[]⟩]⟩
set_option maxHeartbeats 2000000 in
theorem Qc_ (g:List Rul) (h:ByteArray) (hl:g.length≤64):Ac_ Tryz.prog 35 [Av_ g,.str h] (BI_ (bsL g h)):=by
 refine Aa_ [50] MK_ Tryz.func35 Tryz.call35 Tryz.ntmps35 mxd (aj2 @MK_.eq_1 Tryz.results35) rfl (by simp) (by simp[mx]) fun hwf B hnt hgAnn=> ?_
 clear hwf;simp only[argS]
 iterate 6 ((first | refine Aw_ fun K hK=> ?_ | (refine DW_r MK_ mxd (by kernel_rfl) ?_;simp[MK_,hnt];try simp (disch:=omega) only[Ah_]) | refine Al_ ?_ | (refine AJ_ ?_ ?_ ?_;(· (simp[hnt];done));(try (rotate_left;(· (intro hc;(try simp[hnt]at hc);done))))) | (refine Ay_ ?_;simp[Tryz.results35,hnt]) | ((first | refine Aq_ ?_ | refine Ap_ ?_);simp[hnt]) | (intro hc;(try simp[hnt]at hc);(try (exfalso;omega))) | (refine⟨?_,?_⟩; · omega) | omega | apply_assumption -exfalso -symm | (exfalso;omega)))
 refine AV_ 5 50 153 1 24 (by simp[hnt,Tryz.results35,MK_]) (fun n=> ?_)
 (refine go1 aj0 aj0 aj0 ?_;intros;refine mk_i ?_)
 refine Ae_ (X:={k:Nat//k≤g.length}) (fun k=>⟨[(1,.str h),(5,.osl 50 1),(8,Av_ g),(9,.int .i64 g.length),(10,.int .i64 k.1)],[⟨50,1,.row 153 1 24 ((bsL (g.take k.1) h).map rowB)⟩]⟩) (fun k=>g.length-k.1) ⟨0,by omega⟩ (Sub.lit (by simp[bsL])) ?_;rintro⟨k,hk⟩;simp only
 by_cases hlt:k<g.length
 ·obtain⟨r,hr,hr',hrm⟩:=Ak_ hlt;have e1:=My_ r.b;have hsn:=Wm_ (g.take k) r h;rw[←AK_ hr]at hsn;have htl:=Uq_ (g.take k) h;rw[aY0]at htl;obtain⟨T,hT⟩:∃T,T=bsL (g.take k) h:=⟨_,rfl⟩;rw[←hT]at hsn htl ⊢;have hb:(T.length+1)*24≤150000000000000:=by omega
  have hwk:IntKind.i64.wrap ((k:Int)+1)=(k:Int)+1:=wq
  by_cases hh:r.h=h
  ·rw[if_pos hh]at hsn;have hs2:(bsL (g.take (k+1)) h).map rowB=T.map rowB++[[dNds r.b]]:=by rw[hsn,aX0];rfl
   (refine go1 (aj1 e1) aj0 (aj7 @dRul.eq_1 hlt hr hr' hh hb hwk) ?_;intros;refine mk_i ?_)
   refine Aj_.mk ⟨k+1,by omega⟩ (Sub.lit (by simp[hs2])) (by simp;omega)
   skip
  ·rw[if_neg hh,bM0]at hsn;have hh2:(r.h==h)=false:=by simpa using hh
   (refine go1 aj0 aj0 (aj7 @dRul.eq_1 hlt hr hr' hh hh2 hwk) ?_;intros;refine mk_i ?_)
   refine Aj_.mk ⟨k+1,by omega⟩ (Sub.lit (by simp[hsn])) (by simp;omega)
   skip
 ·have hkk:k=g.length:=by omega
  subst hkk;rw[aQ0];exact go0 aj0 aj0 aj0
def MJ_ : Ann:=⟨[],[]⟩
set_option maxHeartbeats 2000000 in
theorem MZ_ (g:List Rul) (h:ByteArray) (hl:g.length≤64):Ac_ Tryz.prog 55 [Av_ g,.str h] (BI_ (bsL g h)):=by
 refine Aa_ [50] MJ_ Tryz.func55 Tryz.call55 Tryz.ntmps55 mxd (aj2 @MJ_.eq_1 Tryz.results55) rfl (by simp) (by simp[mx]) fun hwf B hnt hgAnn=> ?_
 clear hwf;simp only[argS]
 iterate 6 ((first | refine Aw_ fun K hK=> ?_ | (refine DW_r MJ_ mxd (by kernel_rfl) ?_;simp[MJ_,hnt];try simp (disch:=omega) only[Ah_]) | refine Al_ ?_ | (refine AJ_ ?_ ?_ ?_;(· (simp[hnt];done));(try (rotate_left;(· (intro hc;(try simp[hnt]at hc);done))))) | (refine Ay_ ?_;simp[Tryz.results55,hnt]) | ((first | refine Aq_ ?_ | refine Ap_ ?_);simp[hnt]) | (intro hc;(try simp[hnt]at hc);(try (exfalso;omega))) | (refine⟨?_,?_⟩; · omega) | omega | apply_assumption -exfalso -symm | (exfalso;omega)))
 refine AV_ 5 50 153 1 24 (by simp[hnt,Tryz.results55,MJ_]) (fun n=> ?_)
 (refine go1 aj0 aj0 aj0 ?_;intros;refine mk_i ?_)
 refine Ae_ (X:={k:Nat//k≤g.length}) (fun k=>⟨[(0,Av_ g),(1,.str h),(5,.osl 50 1),(6,.int .i64 k.1)],[⟨50,1,.row 153 1 24 ((bsL (g.take k.1) h).map rowB)⟩]⟩) (fun k=>g.length-k.1) ⟨0,by omega⟩ (Sub.lit (by simp[bsL])) ?_;rintro⟨k,hk⟩;simp only
 by_cases hlt:k<g.length
 ·obtain⟨r,hr,hr',hrm⟩:=Ak_ hlt;have hsn:=Wm_ (g.take k) r h;rw[←AK_ hr]at hsn;have htl:=Uq_ (g.take k) h;rw[aY0]at htl;obtain⟨T,hT⟩:∃T,T=bsL (g.take k) h:=⟨_,rfl⟩;rw[←hT]at hsn htl ⊢;have hb:(T.length+1)*24≤150000000000000:=by omega
  have hwk:IntKind.i64.wrap ((k:Int)+1)=(k:Int)+1:=wq
  by_cases hh:r.h=h
  ·rw[if_pos hh]at hsn;have hs2:(bsL (g.take (k+1)) h).map rowB=T.map rowB++[[dNds r.b]]:=by rw[hsn,aX0];rfl
   (refine go1 aj0 aj0 (aj7 @dRul.eq_1 hlt hr hr' hh hb hwk) ?_;intros;refine mk_i ?_)
   refine Aj_.mk ⟨k+1,by omega⟩ (Sub.lit (by simp[hs2])) (by simp;omega)
   skip
  ·rw[if_neg hh,bM0]at hsn;have hh2:(r.h==h)=false:=by simpa using hh
   (refine go1 aj0 aj0 (aj7 @dRul.eq_1 hlt hr hr' hh hh2 hwk) ?_;intros;refine mk_i ?_)
   refine Aj_.mk ⟨k+1,by omega⟩ (Sub.lit (by simp[hsn])) (by simp;omega)
   skip
 ·have hkk:k=g.length:=by omega
  subst hkk;rw[aQ0];exact go0 aj0 aj0 aj0
end Go.Proofs.YtchgnpnbcjflcaaGreat
end
section
namespace Go.Proofs.YtchgnpnbcjflcaaGreat
open Go Go.Dm
attribute [local irreducible] DW Bj_ Bp_
set_option maxRecDepth 100000
theorem Sj_ : ∀{ls:List (List Nd)},(∀l∈ls,Ko_ l=0)→errF ls=0
 | [],_=>rfl
 | l::ls,h=>by
  unfold errF;rw[if_pos (h l aF0)];exact Sj_ fun x hx=>h x (aD0 _ hx)
theorem bodyC_ok {gt:GT} (h:OkgT gt) {p:ByteArray×RT} (hp:p∈gt):Ko_ (flat p.2)=0:=by
 obtain⟨h1,h2,h3⟩:=tree_ok h hp;obtain⟨t,ht,he,hc⟩:=bodyC_t h2 (DL_ h1);have:=(PJ_ p.2 t [] [] h1 ht (by rw[he])).1;rw[hc,←this];exact h3
theorem errF_ok {gt:GT} (h:OkgT gt) (s:ByteArray):errF (bsL (mkG gt) s)=0:=Sj_ fun l hl=>by
 rw[SD_]at hl;obtain⟨t,ht,rfl⟩:=aV0.1 hl;obtain⟨p,hp,rfl⟩:=Ta_ ht;exact bodyC_ok h hp
theorem occS_ok {gt:GT} (h:OkgT gt) (s:ByteArray):occS (bsL (mkG gt) s)≤64:=by
 have:=LI_ (mkG gt) s;have:=h.oc;omega
theorem wrong_ok {gt:GT} (h:OkgT gt) (s:ByteArray):Hq_ (Ar_ (mkG gt)) (Ao_ (mkG gt)) (bsL (mkG gt) s)=0:=by
 unfold Hq_;have:=occS_ok h s;rw[if_pos (errF_ok h s),if_neg (by rw[Wp_ h s];simp),if_neg (by omega)]
theorem PE_ {gt:GT} (h:OkgT gt):(Ar_ (mkG gt)).length≠0:=by
 intro h0
 cases gt with
 | nil=>have:=h.one;simp at this
 | cons p gt =>
  have h1:p.1∈Ar_ (mkG (p::gt)):=NM_.2 ⟨⟨p.1,flat p.2⟩,aF0,rfl⟩;rw[fB0.1 h0]at h1;simp at h1
theorem tsL_uq {gt:GT} (h:OkgT gt) (s:ByteArray):∀ts',bsL (mkG gt) s=ts'.map flat→(∀t∈ts',okT t=true∧(flat t).length≤2048)→ts'=tsL gt s:=fun ts' h1 h2=>QE_ ts' (tsL gt s) (fun t ht=>(h2 t ht).1) (fun t ht=>(tsL_ok h s t ht).1) (by rw[←h1,SD_])
theorem box15_ok {gt:GT} (h:OkgT gt) (s:ByteArray):Ac_ Tryz.prog 34 [dTab (Ar_ (mkG gt)) (Ao_ (mkG gt)),BI_ (bsL (mkG gt) s)] (.tup [.agg (Gq_ (boxA (syG (mkG gt)) (tsL gt s))),.int .i64 0]):=by
 have h1:=errF_ok h s;have h2:=Wp_ h s;have h3:=occS_ok h s;have e5:=of15_pure (Ar_ (mkG gt)) (Ao_ (mkG gt)) (bsL (mkG gt) s) (.tup [boxF (Ar_ (mkG gt)) (Ao_ (mkG gt)) (tsL gt s),.int .i64 0]) (PE_ h) ⟨fun hh=>absurd h1 hh,fun _ hh=>by rw[h2]at hh;simp at hh,fun _ _ hh=>by omega,fun _ ts' h4 h5 _ _=>by rw[tsL_uq h s ts' h4 h5]⟩ (by simp[boxF,ZR_,mx,mxL]);rw[boxA_eq]at e5;exact e5
theorem rof19_ok {gt:GT} (h:OkgT gt) (hs:SmlG (mkG gt)) (s:ByteArray):Ac_ Tryz.prog 54 [Av_ (mkG gt),BI_ (bsL (mkG gt) s)] (.tup [.agg (Gq_ (boxA (syG (mkG gt)) (tsL gt s))),.int .i64 0]):=by
 have hbl:=Uq_ (mkG gt) s;have hgl:=DW_ gt;have hle:=h.le;have hnl:=Df_ (k:=3) hs;have e6:=YX_ (mkG gt) (bsL (mkG gt) s) (.tup [refF (mkG gt) (tsL gt s),.int .i64 0]) (by omega) (by simp[refF,ZR_,mx,mxL]) (fun hh=>absurd (wrong_ok h s) hh) (fun ts' h4 h5 _ _=>by rw[tsL_uq h s ts' h4 h5]);rw[←box_eq (mkG gt) (tsL gt s) fun t ht=>(tsL_ok h s t ht).1,boxA_eq]at e6;exact e6
def anRS210 : Ann:=⟨[21],[⟨8,[9],[],[]⟩,⟨11,[],[0],[]⟩]⟩
set_option maxHeartbeats 4000000 in
theorem Zo_ (gt:GT) (h:OkgT gt) (hs:SmlG (mkG gt)) (hck:Ac_ Tryz.prog 76 [Av_ (mkG gt)] (.int .i64 0)):Ac_ Tryz.prog 10 [Av_ (mkG gt)] (.tup [Dy_ (Ar_ (mkG gt)) (Ao_ (mkG gt)) (autL gt),.int .i64 0]):=by
 refine Aa_ [52,21] anRS210 Tryz.func10 Tryz.call10 Tryz.ntmps10 mxd (aj2 @anRS210.eq_1 Tryz.results10) rfl (by simp) (by simp[mx,Dy_,mxL,dTab]) fun hwf B hnt hgAnn=> ?_
 clear hwf;simp only[argS];have hgl:=DW_ gt;have hle:=h.le;have hnl:=Df_ (k:=3) hs;have hhd:=h.hd;have hlb:=h.lb;have e1:=of14_ok (mkG gt) (by omega) (by omega) (by omega) hck;have e2:=FY_ (Ar_ (mkG gt)) (Ao_ (mkG gt));have hal:=Ja_ gt;have haok:=autL_ok h;obtain⟨R,hR⟩:∃R,R=Dy_ (Ar_ (mkG gt)) (Ao_ (mkG gt)) (autL gt):=⟨_,rfl⟩;rw[←hR];have hbx:∀i s,(Ar_ (mkG gt))[i]? =some s→_:=fun i s hi=>autL_at (gt:=gt) hi
 have hb1:∀s,_:=fun s=>Qc_ (mkG gt) s (by omega)
 have hb2:∀s,_:=fun s=>box15_ok h s
 obtain⟨A,hA⟩:∃A,A=autL gt:=⟨_,rfl⟩;rw[←hA]at hR hal haok hbx;obtain⟨H,hH⟩:∃H,H=Ar_ (mkG gt):=⟨_,rfl⟩;rw[←hH]at e1 e2 hR hal hhd hbx hb2;obtain⟨L,hL⟩:∃L,L=Ao_ (mkG gt):=⟨_,rfl⟩;rw[←hL]at e1 e2 hR hb2;obtain⟨g,hg⟩:∃g,g=mkG gt:=⟨_,rfl⟩;rw[←hg]at e1 hb1 hb2 hbx ⊢;clear hH hL hck hnl hlb hs hA
 (refine go1 (aj2 e1 e2) aj0 aj0 ?_;intros;refine mk_i ?_)
 refine Bq_ 21 1 52 86 4 64 (by simp) (fun n1=> ?_);refine Ae_ (X:={i:Nat//i≤H.length}) (fun i=>⟨[(0,Av_ g),(4,dTab H L),(6,.bx 21 1 0),(23,AS_ H),(24,.int .i64 H.length),(25,.int .i64 i.1)],[⟨21,1,.box [dTab H L,.osl 52 1,.int .i64 (sumS (A.take i.1))]⟩,⟨52,1,.row 86 4 64 ((parA 0 (A.take i.1)).map dPt)⟩]⟩) (fun i=>H.length-i.1) ⟨0,by simp⟩ (Sub.lit (by simp[sumS,parA,dTab])) ?_;rintro⟨i,hi⟩;simp only
 by_cases hlt:i<H.length
 ·obtain⟨s,hx,hx',hxm⟩:=Ak_ hlt;have hai:=hbx i s hx;obtain⟨a,ha⟩:∃a,a=boxA (syG g) (tsL gt s):=⟨_,rfl⟩;have e3:=hb1 s;have e4:=hb2 s;rw[←ha]at hai e4;have hst:=LH_ (haok a (bL0 hai));have hsn:=FX_ a (A.take i) 0;have hss:=QM_ (A.take i) a;rw[←AK_ hai]at hsn hss;have hpl:=EZ_ (A.take i) 0;have hsl:=FQ_ (l:=A.take i) fun x hx=>haok x (dE0 hx)
  rw[aY0]at hpl hsl;rw[bT0]at hsn;obtain⟨T,hT⟩:∃T,T=parA 0 (A.take i):=⟨_,rfl⟩;obtain⟨S,hS⟩:∃S,S=sumS (A.take i):=⟨_,rfl⟩;rw[←hT]at hsn hpl ⊢;rw[←hS]at hsn hss hsl ⊢;have hts:(parA 0 (A.take (i+1))).map dPt=T.map dPt++[[.int .i64 a.st,Bn_ a.fin,Cb_ a.arcs,.int .i64 (S:Int)]]:=by rw[hsn,aX0];rfl
  have hb:(T.length+1)*64≤150000000000000:=by omega
  have hwk:IntKind.i64.wrap ((i:Int)+1)=(i:Int)+1:=wq;have hws:IntKind.i64.wrap ((S:Int)+a.st)=(sumS (A.take (i+1)):Int):=by rw[wq,hss];omega
  simp only[Gq_]at e4
  (refine go1 (aj2 e3 e4) aj0 (aj8 @dStr.eq_1 @Gq_.eq_1 hlt hx hx' hb hwk hws) ?_;intros;refine mk_i ?_)
  refine Aj_.mk ⟨i+1,by omega⟩ (Sub.lit (by simp[hts,dTab])) (by simp;omega)
  skip
 ·have hkk:i=H.length:=by omega
  subst hkk;have hAt:A.take H.length=A:=bW0 (by omega);rw[hAt];unfold Dy_ at hR
  (refine go1 aj0 aj0 aj0 ?_;intros;refine mk_i ?_)
  exact hR.symm
def stL (l:List Auto):List Nat:=(parA 0 l).map (·.2)
def ntL (l:List Auto):List Nat:=l.zipIdx.flatMap fun p=>List.replicate p.1.st.toNat p.2
def mvA (f:Nat) (x:Arc):Arc:=⟨(f:Int)+x.fr,x.sy,(f:Int)+x.to⟩
def mvF (f:Nat) (q:Int):Int:=(f:Int)+q
def finA (l:List Auto):List Int:=(parA 0 l).flatMap fun p=>p.1.fin.map (mvF p.2)
def arcA (l:List Auto):List Arc:=(parA 0 l).flatMap fun p=>p.1.arcs.map (mvA p.2)
theorem stL_snoc (l:List Auto) (a:Auto):stL (l++[a])=stL l++[sumS l]:=by unfold stL;rw[FX_,aX0];simp
theorem ntL_snoc (l:List Auto) (a:Auto):ntL (l++[a])=ntL l++List.replicate a.st.toNat l.length:=by unfold ntL;rw[List.zipIdx_append,dV0];simp
theorem finA_snoc (l:List Auto) (a:Auto):finA (l++[a])=finA l++a.fin.map (mvF (sumS l)):=by unfold finA;rw[FX_,dV0];simp
theorem arcA_snoc (l:List Auto) (a:Auto):arcA (l++[a])=arcA l++a.arcs.map (mvA (sumS l)):=by unfold arcA;rw[FX_,dV0];simp
theorem Oy_ (l:List Auto):(stL l).length=l.length:=by unfold stL;rw[aJ0,EZ_]
theorem LJ_ (l:List Auto):(ntL l).length=sumS l:=by
 unfold ntL sumS;rw[List.length_flatMap];simp only[cZ0]
 congr 1
 refine List.ext_getElem (by simp) fun i h1 h2=> ?_
 simp
theorem Wa_ : ∀(ts:List RT) (ah:Nat),(finR ah ts).length≤(lvL ts).length
 | [],_=>by simp[finR]
 | t::ts,ah=>by
  have h1:(lvL (t::ts)).length=(lvs (flat t)).length+(lvL ts).length:=by simp[lvL]
  have h2:=Wa_ ts (ah+(lvs (flat t)).length);have h3:((plN (flat t) (flat t).length).filter (enT t 0)).length≤(plN (flat t) (flat t).length).length:=cI0 _ _;rw[Jr_ (Nat.le_refl _),FU_]at h3;rw[finR,aC0,aJ0];omega
theorem finsR_len (ts:List RT):(IP_ ts).length≤(lvL ts).length+1:=by
 have:=Wa_ ts 0;unfold IP_;rw[aC0,aJ0]
 split
 ·simp;omega
 ·simp;omega
structure SmA (a:Auto):Prop where
 ok:Gu_ a=true
 fi:a.fin.length≤65
 ar:a.arcs.length≤1073741888
theorem Qg_ {gt:GT} (h:OkgT gt):∀a∈autL gt,SmA a:=fun a ha=>by
 have hok:=autL_ok h a ha;obtain⟨s,_,rfl⟩:=aV0.1 ha;refine⟨hok,?_,arcsB_len _ _ (fun t ht=>(tsL_ok h s t ht).2) (lvL_le h s)⟩;have h1:=finsR_len (tsL gt s);have h2:=lvL_le h s
 show (IP_ (tsL gt s)).length≤65
 omega
theorem IQ_ : ∀{l:List Auto},(∀a∈l,SmA a)→∀f,((parA f l).flatMap fun p=>p.1.fin.map (mvF p.2)).length≤65*l.length
 | [],_,_=>by simp[parA]
 | a::l,h,f=>by
  have h1:=(h a aF0).fi;have h2:=IQ_ (l:=l) (fun x hx=>h x (aD0 _ hx)) (f+a.st.toNat);rw[parA,cM0,aC0,aJ0,List.length_cons];simp only;omega
theorem Jc_ : ∀{l:List Auto},(∀a∈l,SmA a)→∀f,((parA f l).flatMap fun p=>p.1.arcs.map (mvA p.2)).length≤1073741888*l.length
 | [],_,_=>by simp[parA]
 | a::l,h,f=>by
  have h1:=(h a aF0).ar;have h2:=Jc_ (l:=l) (fun x hx=>h x (aD0 _ hx)) (f+a.st.toNat);rw[parA,cM0,aC0,aJ0,List.length_cons];simp only;omega
abbrev St_ (l:List Auto):DVal:= .sl 3 56 (l.map Gq_)
def refM (l:List Auto):DVal:= .agg [.int .i64 (sumS l),BM_ (stL l),BM_ (ntL l),Bn_ (finA l),Cb_ (arcA l),St_ l]
@[simp] theorem mx_dAutos (l:List Auto):mxR (l.map Gq_)=0:=mxR0 _ mx_dAuto l
theorem mx_repN (j i:Nat):mxR (List.replicate j (natD i))=0:=by
 have:=mxR0 natD (by intro x;simp[natD,mxL,mx]) (List.replicate j i)
 rwa[List.map_replicate]at this
theorem bnd_a {a b n:Nat} (h1:a≤17179870208) (h2:b<n) (h3:n≤1073741888):(a+b+1)*32≤150000000000000:=by omega
theorem wrap_j {j n:Nat} (h1:j<n) (h2:n≤1073741888):IntKind.i64.wrap ((j:Int)+1)=(j:Int)+1:=wq
theorem wrap_s {S:Nat} {y st:Int} (h1:S≤1040) (h2:0≤y) (h3:y<st) (h4:st≤65):IntKind.i64.wrap ((S:Int)+y)=(S:Int)+y:=wq
theorem Fg_ {α β:Type} {l:List α} {i:Nat} {x:α} (f:α→β) (h:l[i]? =some x):(l.take (i+1)).map f=(l.take i).map f++[f x]:=by rw[bF0,h,aX0];rfl
def anRS416 : Ann:=⟨[],[⟨6,[6],[],[]⟩,⟨21,[12],[],[]⟩]⟩
set_option maxHeartbeats 8000000 in
theorem Tr_ (gt:GT) (h:OkgT gt) (hs:SmlG (mkG gt)):Ac_ Tryz.prog 16 [Av_ (mkG gt)] (refM (autL gt)):=by
 refine Aa_ [201,202,203,204,205,3,2] anRS416 Tryz.func16 Tryz.call16 Tryz.ntmps16 mxd (aj2 @anRS416.eq_1 Tryz.results16) rfl (by simp) (by simp[mx,refM,mxL]) fun hwf B hnt hgAnn=> ?_
 clear hwf;simp only[argS];have hgl:=DW_ gt;have hle:=h.le;have hhd:=h.hd;have e1:=Ce_ (mkG gt);have hal:=Ja_ gt;have hsm:=Qg_ h;obtain⟨R,hR⟩:∃R,R=refM (autL gt):=⟨_,rfl⟩;rw[←hR];have hbx:∀i s,(Ar_ (mkG gt))[i]? =some s→_:=fun i s hi=>autL_at (gt:=gt) hi
 have hb1:∀s,_:=fun s=>MZ_ (mkG gt) s (by omega)
 have hb2:∀s,_:=fun s=>rof19_ok h hs s
 obtain⟨A,hA⟩:∃A,A=autL gt:=⟨_,rfl⟩;rw[←hA]at hR hal hsm hbx;obtain⟨H,hH⟩:∃H,H=Ar_ (mkG gt):=⟨_,rfl⟩;rw[←hH]at e1 hal hhd hbx;obtain⟨g,hg⟩:∃g,g=mkG gt:=⟨_,rfl⟩;rw[←hg]at e1 hb1 hb2 hbx ⊢;clear hH hs hA
 (refine go1 (aj1 e1) aj0 aj0 ?_;intros;refine mk_i ?_)
 refine Bq_ 3 1 201 3 1 8 (by simp) (fun n1=> ?_);refine Bq_ 3 2 202 3 1 8 (by simp) (fun n2=> ?_);refine Bq_ 3 3 203 3 1 8 (by simp) (fun n3=> ?_);refine Bq_ 3 4 204 97 4 32 (by simp) (fun n4=> ?_);refine Bq_ 3 5 205 80 3 56 (by simp) (fun n5=> ?_)
 refine Ae_ (X:={i:Nat//i≤H.length}) (fun i=>⟨[(0,Av_ g),(2,.bx 2 1 0),(3,.bx 3 1 0),(4,AS_ H),(5,.int .i64 i.1)],
  [⟨2,1,.box [.int .i64 0,.nilsl,.nilsl,.nilsl,.nilsl,.nilsl]⟩,⟨3,1,.box [.int .i64 (sumS (A.take i.1)),.osl 201 1,.osl 202 1,.osl 203 1,.osl 204 1,.osl 205 1]⟩,
   ⟨201,1,.row 3 1 8 ((stL (A.take i.1)).map natD)⟩,⟨202,1,.row 3 1 8 ((ntL (A.take i.1)).map natD)⟩,⟨203,1,.row 3 1 8 ((finA (A.take i.1)).map dNum)⟩,⟨204,1,.row 97 4 32 ((arcA (A.take i.1)).map dArc)⟩,⟨205,1,.row 80 3 56 ((A.take i.1).map Gq_)⟩]⟩) (fun i=>H.length-i.1) ⟨0,by simp⟩ (Sub.lit (by simp[sumS,stL,ntL,finA,arcA,parA])) ?_
 rintro⟨i,hi⟩;simp only
 by_cases hlt:i<H.length
 ·obtain⟨s,hx,hx',hxm⟩:=Ak_ hlt;have hai:=hbx i s hx;obtain⟨a,ha⟩:∃a,a=boxA (syG g) (tsL gt s):=⟨_,rfl⟩;have e3:=hb1 s;have e4:=hb2 s;rw[←ha]at hai e4;have hsa:=hsm a (bL0 hai);have hst:=LH_ hsa.ok;have hss:=QM_ (A.take i) a;have hs1:=stL_snoc (A.take i) a;have hs2:=ntL_snoc (A.take i) a;have hs3:=finA_snoc (A.take i) a;have hs4:=arcA_snoc (A.take i) a;rw[←AK_ hai]at hss hs1 hs2 hs3 hs4;have hs5:List.take (i+1) (List.map Gq_ A)=(A.take i).map Gq_++[[.int .i64 a.st,Bn_ a.fin,Cb_ a.arcs]]:=by rw[←eR0,Fg_ Gq_ hai];rfl
  have hmt:∀x∈A.take i,SmA x:=fun x hx=>hsm x (dE0 hx)
  have hsl:=FQ_ (l:=A.take i) fun x hx=>(hmt x hx).ok
  have hl1:=Oy_ (A.take i);have hl2:=LJ_ (A.take i);have hl3:=IQ_ hmt 0;have hl4:=Jc_ hmt 0;have hl5:(A.take i).length=i:=by rw[aY0];omega
  rw[hl5]at hsl hl1 hl3 hl4 hs2;have hi16:i≤16:=by omega
  have hl3':(finA (A.take i)).length≤1040:=Nat.le_trans (show _≤65*i from hl3) (bU0 65 hi16);have hl4':(arcA (A.take i)).length≤17179870208:=Nat.le_trans (show _≤1073741888*i from hl4) (bU0 1073741888 hi16);have hsl':sumS (A.take i)≤1040:=Nat.le_trans hsl (bU0 65 hi16);clear hl3 hl4 hsl;obtain⟨S,hS⟩:∃S,S=sumS (A.take i):=⟨_,rfl⟩;rw[←hS]at hss hsl' hs1 hs3 hs4 hl2 ⊢;obtain⟨T1,hT1⟩:∃T,T=stL (A.take i):=⟨_,rfl⟩
  obtain⟨T2,hT2⟩:∃T,T=ntL (A.take i):=⟨_,rfl⟩;obtain⟨T3,hT3⟩:∃T,T=finA (A.take i):=⟨_,rfl⟩;obtain⟨T4,hT4⟩:∃T,T=arcA (A.take i):=⟨_,rfl⟩;obtain⟨T5,hT5⟩:∃T,T=A.take i:=⟨_,rfl⟩;rw[←hT1]at hs1 hl1 ⊢;rw[←hT2]at hs2 hl2 ⊢;rw[←hT3]at hs3 hl3' ⊢;rw[←hT4]at hs4 hl4' ⊢;rw[←hT5]at hs5 hl5 ⊢;clear hT1 hT2 hT3 hT4 hT5 hmt hS;have hq1:=congrArg (List.map natD) hs1;have hq2:=congrArg (List.map natD) hs2;have hq3:=congrArg (List.map dNum) hs3
  have hq4:=congrArg (List.map dArc) hs4;rw[aX0]at hq1 hq2 hq3 hq4;have hb1':(T1.length+1)*8≤150000000000000:=by omega
  have hb5':(T5.length+1)*56≤150000000000000:=by omega
  have hwk:IntKind.i64.wrap ((i:Int)+1)=(i:Int)+1:=wq;simp only[Gq_]at e4
  (refine go1 (aj2 e3 e4) aj0 (aj7 @dStr.eq_1 @Gq_.eq_1 hlt hx hx' hb1' hb5') ?_;intros;refine mk_i ?_)
  refine Ae_ (X:={j:Nat//j≤a.st.toNat}) (fun j=>⟨[(0,Av_ g),(2,.bx 2 1 0),(3,.bx 3 1 0),(4,AS_ H),(5,.int .i64 i),(6,.ref [.int .i64 a.st,Bn_ a.fin,Cb_ a.arcs]),(8,.int .i64 (S:Int)),(9,.int .i64 j.1)],
    [⟨2,1,.box [.int .i64 0,.nilsl,.nilsl,.nilsl,.nilsl,.nilsl]⟩,⟨3,1,.box [.int .i64 (S:Int),.osl 201 1,.osl 202 1,.osl 203 1,.osl 204 1,.osl 205 1]⟩,
     ⟨201,1,.row 3 1 8 (T1.map natD++[[.int .i64 (S:Int)]])⟩,⟨202,1,.row 3 1 8 (T2.map natD++List.replicate j.1 (natD i))⟩,⟨203,1,.row 3 1 8 (T3.map dNum)⟩,⟨204,1,.row 97 4 32 (T4.map dArc)⟩,⟨205,1,.row 80 3 56 (T5.map Gq_++[[.int .i64 a.st,Bn_ a.fin,Cb_ a.arcs]])⟩]⟩) (fun j=>a.st.toNat-j.1) ⟨0,by simp⟩ (Sub.lit (by simp)) ?_
  rintro⟨j,hj⟩;simp only
  by_cases hlt2:j<a.st.toNat
  · have hrp:List.replicate (j+1) (natD i)=List.replicate j (natD i)++[[.int .i64 (i:Int)]]:=by rw[List.replicate_succ'];rfl
    have hZm:=mx_repN j i;have hji:(j:Int)<a.st:=by omega
    have hrl:(List.replicate j (natD i)).length=j:=by simp
    obtain⟨Z,hZ⟩:∃Z,Z=List.replicate j (natD i):=⟨_,rfl⟩;rw[←hZ]at hrp hrl hZm ⊢;have hb2':(T2.length+Z.length+1)*8≤150000000000000:=by omega
    have hwj:IntKind.i64.wrap ((j:Int)+1)=(j:Int)+1:=wq
    (refine go1 aj0 aj0 (aj3 hji hb2' hwj) ?_;intros;refine mk_i ?_)
    refine Aj_.mk ⟨j+1,by omega⟩ (Sub.lit (by simp[hrp,hZm])) (by simp;omega)
    skip
  · have hkk:j=a.st.toNat:=by omega
    subst hkk;have hji:¬((a.st.toNat:Nat):Int)<a.st:=by omega
    (refine go1 aj0 aj0 (aj1 hji) ?_;intros;refine mk_i ?_)
    rw[List.map_replicate]at hq2;obtain⟨FA,hFA⟩:∃FA,FA=a.fin.map (mvF S):=⟨_,rfl⟩;obtain⟨AR,hAR⟩:∃AR,AR=a.arcs.map (mvA S):=⟨_,rfl⟩;have hFl:FA.length=a.fin.length:=by rw[hFA,aJ0]
    have hAl:AR.length=a.arcs.length:=by rw[hAR,aJ0]
    rw[←hFA]at hq3;rw[←hAR]at hq4;obtain⟨U1,hU1⟩:∃U,U=T1.map natD++[[.int .i64 (S:Int)]]:=⟨_,rfl⟩;have hm1:mxR U1=0:=by rw[hU1];simp[mxR,mxL,mx]
    obtain⟨U2,hU2⟩:∃U,U=T2.map natD++List.replicate a.st.toNat (natD i):=⟨_,rfl⟩;have hm2:mxR U2=0:=by rw[hU2,←List.map_replicate,←aX0];exact mxR0 natD (by intro x;simp[natD,mxL,mx]) _
    obtain⟨U5,hU5⟩:∃U,U=T5.map Gq_++[[.int .i64 a.st,Bn_ a.fin,Cb_ a.arcs]]:=⟨_,rfl⟩;have hm5:mxR U5=0:=by rw[hU5,←hs5];rw[←eR0];simp
    have hq1':List.map natD (stL (List.take (i+1) A))=U1:=by rw[hU1,hq1];rfl
    rw[←hU2]at hq2;rw[←hU5]at hs5;rw[←hU1,←hU2,←hU5]
    refine Ae_ (X:={j:Nat//j≤a.fin.length}) (fun j=>⟨[(0,Av_ g),(2,.bx 2 1 0),(3,.bx 3 1 0),(4,AS_ H),(5,.int .i64 i),(6,.ref [.int .i64 a.st,Bn_ a.fin,Cb_ a.arcs]),(8,.int .i64 (S:Int)),(10,.int .i64 j.1)],
      [⟨2,1,.box [.int .i64 0,.nilsl,.nilsl,.nilsl,.nilsl,.nilsl]⟩,⟨3,1,.box [.int .i64 (S:Int),.osl 201 1,.osl 202 1,.osl 203 1,.osl 204 1,.osl 205 1]⟩,
       ⟨201,1,.row 3 1 8 U1⟩,⟨202,1,.row 3 1 8 U2⟩,⟨203,1,.row 3 1 8 (T3.map dNum++(FA.take j.1).map dNum)⟩,⟨204,1,.row 97 4 32 (T4.map dArc)⟩,⟨205,1,.row 80 3 56 U5⟩]⟩) (fun j=>a.fin.length-j.1) ⟨0,by simp⟩ (Sub.lit (by simp[hm1,hm2,hm5])) ?_
    rintro⟨j,hj⟩;simp only
    by_cases hlt3:j<a.fin.length
    · obtain⟨q,hq,hq',hqm⟩:=Ak_ hlt3
      have hqk:=ok_fin hsa.ok hqm;have hFj:FA[j]? =some ((S:Int)+q):=by rw[hFA,bI0,hq];rfl
      have hrp:List.take (j+1) (List.map dNum FA)=(FA.take j).map dNum++[[.int .i64 ((S:Int)+q)]]:=by rw[←eR0,Fg_ dNum hFj];rfl
      have hrl:(FA.take j).length=j:=by rw[aY0];omega
      obtain⟨Z,hZ⟩:∃Z,Z=FA.take j:=⟨_,rfl⟩;rw[←hZ]at hrp hrl ⊢;have hfi:=hsa.fi;have hb2':(T3.length+Z.length+1)*8≤150000000000000:=by omega
      have hwj:IntKind.i64.wrap ((j:Int)+1)=(j:Int)+1:=wq;have hwq:IntKind.i64.wrap ((S:Int)+q)=(S:Int)+q:=wq
      (refine go1 aj0 aj0 (aj7 @dNum.eq_1 hlt3 hq hq' hb2' hwj hwq) ?_;intros;refine mk_i ?_)
      refine Aj_.mk ⟨j+1,by omega⟩ (Sub.lit (by simp[hrp,hm1,hm2,hm5])) (by simp;omega)
      skip
    · have hkk:j=a.fin.length:=by omega
      subst hkk;rw[show List.take a.fin.length FA=FA from bW0 (by omega),←hq3]
      (refine go1 aj0 aj0 aj0 ?_;intros;refine mk_i ?_)
      refine Ae_ (X:={j:Nat//j≤a.arcs.length}) (fun j=>⟨[(0,Av_ g),(2,.bx 2 1 0),(3,.bx 3 1 0),(4,AS_ H),(5,.int .i64 i),(6,.ref [.int .i64 a.st,Bn_ a.fin,Cb_ a.arcs]),(8,.int .i64 (S:Int)),(11,.int .i64 j.1)],
        [⟨2,1,.box [.int .i64 0,.nilsl,.nilsl,.nilsl,.nilsl,.nilsl]⟩,⟨3,1,.box [.int .i64 (S:Int),.osl 201 1,.osl 202 1,.osl 203 1,.osl 204 1,.osl 205 1]⟩,
         ⟨201,1,.row 3 1 8 U1⟩,⟨202,1,.row 3 1 8 U2⟩,⟨203,1,.row 3 1 8 ((finA (A.take (i+1))).map dNum)⟩,⟨204,1,.row 97 4 32 (T4.map dArc++(AR.take j.1).map dArc)⟩,⟨205,1,.row 80 3 56 U5⟩]⟩) (fun j=>a.arcs.length-j.1) ⟨0,by simp⟩ (Sub.lit (by simp[hm1,hm2,hm5])) ?_
      rintro⟨j,hj⟩;simp only
      by_cases hlt4:j<a.arcs.length
      · obtain⟨x,hx,hx',hxm⟩:=Ak_ hlt4
        have hxk:=ok_arc hsa.ok hxm;have hAj:AR[j]? =some (mvA S x):=by rw[hAR,bI0,hx];rfl
        have hrp:List.take (j+1) (List.map dArc AR)=(AR.take j).map dArc++[[.int .i64 ((S:Int)+x.fr),.bool x.sy.label,.int .i64 x.sy.n,.int .i64 ((S:Int)+x.to)]]:=by rw[←eR0,Fg_ dArc hAj];rfl
        have hrl:(AR.take j).length=j:=by rw[aY0];omega
        obtain⟨Z,hZ⟩:∃Z,Z=AR.take j:=⟨_,rfl⟩;rw[←hZ]at hrp hrl ⊢;have har:=hsa.ar;have hb2':(T4.length+Z.length+1)*32≤150000000000000:=bnd_a hl4' (by rw[hrl];exact hlt4) har;have hwj:IntKind.i64.wrap ((j:Int)+1)=(j:Int)+1:=wrap_j hlt4 har;have hwq:IntKind.i64.wrap ((S:Int)+x.fr)=(S:Int)+x.fr:=wrap_s hsl' hxk.1 hxk.2.1 hst.2;have hwr:IntKind.i64.wrap ((S:Int)+x.to)=(S:Int)+x.to:=wrap_s hsl' hxk.2.2.1 hxk.2.2.2 hst.2
        (refine go1 aj0 aj0 (aj8 @dArc.eq_1 hlt4 hx hx' hb2' hwj hwq hwr) ?_;intros;refine mk_i ?_)
        refine Aj_.mk ⟨j+1,by omega⟩ (Sub.lit (by simp[hrp,hm1,hm2,hm5])) (by simp;omega)
        skip
      · have hkk:j=a.arcs.length:=by omega
        subst hkk;rw[show List.take a.arcs.length AR=AR from bW0 (by omega),←hq4];have hws:IntKind.i64.wrap ((S:Int)+a.st)=(sumS (A.take (i+1)):Int):=by rw[wq,hss];omega
        (refine go1 aj0 aj0 (aj2 hws hwk) ?_;intros;refine mk_i ?_)
        refine Aj_.mk ⟨i+1,by omega⟩ (Sub.lit (by simp[hq1',hq2,hs5,hm1,hm2,hm5])) (by simp;omega)
        skip
 ·have hkk:i=H.length:=by omega
  subst hkk;have hAt:A.take H.length=A:=bW0 (by omega);rw[hAt];unfold refM at hR
  (refine go1 aj0 aj0 aj0 ?_;intros;refine mk_i ?_)
  rw[hR];exact SV_ (.agg [.int .i64 (sumS A),BM_ (stL A),BM_ (ntL A),Bn_ (finA A),Cb_ (arcA A),St_ A])
def Hg_ : Ann:=⟨[5],[]⟩
set_option maxHeartbeats 1000000 in
theorem Uj_ (l:List Int) (hl:l.length*8≤140737488355328):AM_ Tryz.prog (.func 192) [Bn_ l] [] (.osl 0 1) [⟨0,1,.row 3 1 8 (l.map dNum)⟩]:=by
 match l,hl with
 | [],_ =>
  refine Qu_ ?_ ?_
  ·refine Gy_ ?_;refine Aa_ [] Hg_ Tryz.func192 Tryz.call192 Tryz.ntmps192 mxd (aj2 @Hg_.eq_1 Tryz.results192) rfl (by simp) (by simp[mx]) fun hwf B hnt hgAnn=> ?_
   simp only[argS];exact go0 aj0 aj0 aj0
  ·refine AP_ [] [(5,0,1)] Hg_ Tryz.func192 Tryz.call192 Tryz.ntmps192 mxd (aj2 @Hg_.eq_1 Tryz.results192) rfl (by simp) (by simp) (by simp) fun hwf B hnt hgAnn=> ?_
   simp only[argS,List.nil_append];exact go0 aj0 aj0 aj0
 | x::l,hl =>
  refine AP_ [] [(5,0,1)] Hg_ Tryz.func192 Tryz.call192 Tryz.ntmps192 mxd (aj2 @Hg_.eq_1 Tryz.results192) rfl (by simp) (by simp) (by simp) fun hwf B hnt hgAnn=> ?_
  simp only[List.length_cons]at hl;have hl2:(l.length+1)*8≤150000000000000:=by omega
  have hl3:l.length<9223372036854775807:=by omega
  simp only[argS,List.nil_append,List.map_cons,Bn_,dNum];exact go0 aj0 aj0 aj0
def Hf_ : Ann:=⟨[5],[]⟩
set_option maxHeartbeats 1000000 in
theorem Uk_ (l:List Arc) (hl:l.length*32≤140737488355328):AM_ Tryz.prog (.func 193) [Cb_ l] [] (.osl 0 1) [⟨0,1,.row 97 4 32 (l.map dArc)⟩]:=by
 match l,hl with
 | [],_ =>
  refine Qu_ ?_ ?_
  ·refine Gy_ ?_;refine Aa_ [] Hf_ Tryz.func193 Tryz.call193 Tryz.ntmps193 mxd (aj2 @Hf_.eq_1 Tryz.results193) rfl (by simp) (by simp[mx]) fun hwf B hnt hgAnn=> ?_
   simp only[argS];exact go0 aj0 aj0 aj0
  ·refine AP_ [] [(5,0,1)] Hf_ Tryz.func193 Tryz.call193 Tryz.ntmps193 mxd (aj2 @Hf_.eq_1 Tryz.results193) rfl (by simp) (by simp) (by simp) fun hwf B hnt hgAnn=> ?_
   simp only[argS,List.nil_append];exact go0 aj0 aj0 aj0
 | x::l,hl =>
  refine AP_ [] [(5,0,1)] Hf_ Tryz.func193 Tryz.call193 Tryz.ntmps193 mxd (aj2 @Hf_.eq_1 Tryz.results193) rfl (by simp) (by simp) (by simp) fun hwf B hnt hgAnn=> ?_
  simp only[List.length_cons]at hl;have hl2:(l.length+1)*32≤150000000000000:=by omega
  have hl3:l.length<9223372036854775807:=by omega
  simp only[argS,List.nil_append,List.map_cons,Cb_,dArc];exact go0 aj0 aj0 aj0
theorem UP_ {α β:Type} {l:List α} {i:Nat} {x:α} (f:α→β) (g:α→α) (h:l[i]? =some x):(((l.take i).map g++l.drop i).map f).set i (f (g x))=((l.take (i+1)).map g++l.drop (i+1)).map f:=by
 obtain⟨hi,rfl⟩:=aB0.1 h;have h2:((l.take i).map g).length=i:=by rw[aJ0,aY0];omega
 have h3:((l.take i).map g++l.drop i).set i (g l[i])=(l.take (i+1)).map g++l.drop (i+1):=by
  rw[List.set_append,if_neg (by omega),h2,dT0,aR0 hi,eK0,bF0,aH0 hi,aX0,aU0];rfl
 rw[←eI0,h3]
theorem mid_at {α:Type} {l:List α} {i:Nat} {x:α} (g:α→α) (h:l[i]? =some x):((l.take i).map g++l.drop i)[i]? =some x:=by
 obtain⟨hi,rfl⟩:=aB0.1 h;have h2:((l.take i).map g).length=i:=by rw[aJ0,aY0];omega
 rw[bC0 (by omega),h2,dT0,cT0];simp[hi]
theorem mid_len {α:Type} (l:List α) (i:Nat) (g:α→α) (h:i≤l.length):((l.take i).map g++l.drop i).length=l.length:=by
 rw[aC0,aJ0,aY0,bS0];omega
def midF (f:Nat) (l:List Int) (i:Nat):List Int:=(l.take i).map (mvF f)++l.drop i
def midA (g:Arc→Arc) (l:List Arc) (i:Nat):List Arc:=(l.take i).map g++l.drop i
def movF (f:Nat) (l:List Int):List Int:=l.map (mvF f)
def movA (f:Nat) (l:List Arc):List Arc:=l.map (mvA f)
theorem midF_zero (f:Nat) (l:List Int):midF f l 0=l:=by simp[midF]
theorem midF_all (f:Nat) (l:List Int):midF f l l.length=movF f l:=by simp[midF,movF]
theorem midA_zero (g:Arc→Arc) (l:List Arc):midA g l 0=l:=by simp[midA]
theorem midA_all (f:Nat) (l:List Arc):midA (mvA f) l l.length=movA f l:=by simp[midA,movA]
def XJ_ : Ann:=⟨[8],[]⟩
set_option maxHeartbeats 2000000 in
theorem Sl_ (a:Auto) (f:Nat) (h:SmA a) (hf:f≤1040):Ac_ Tryz.prog 117 [.agg (dPt (a,f))] (Bn_ (movF f a.fin)):=by
 refine Aa_ [8] XJ_ Tryz.func117 Tryz.call117 Tryz.ntmps117 mxd (aj2 @XJ_.eq_1 Tryz.results117) rfl (by simp) (by simp[mx]) fun hwf B hnt hgAnn=> ?_
 clear hwf;simp only[argS];have hfi:=h.fi;have hst:=LH_ h.ok;have e1:=Uj_ a.fin (by omega);have z0:=midF_zero f a.fin
 (refine go1 aj0 (aj1 (spc [] [(8,0)] e1)) (aj1 @dPt.eq_1) ?_;intros;refine mk_i ?_)
 refine Ae_ (X:={i:Nat//i≤a.fin.length}) (fun i=>⟨[(1,.ref [.int .i64 a.st,Bn_ a.fin,Cb_ a.arcs,.int .i64 (f:Int)]),(3,.osl 8 1),(10,.int .i64 a.fin.length),(11,.int .i64 i.1)],[⟨8,1,.row 3 1 8 ((midF f a.fin i.1).map dNum)⟩]⟩) (fun i=>a.fin.length-i.1) ⟨0,by simp⟩ (Sub.lit (by simp[z0])) ?_;rintro⟨i,hi⟩;simp only
 by_cases hlt:i<a.fin.length
 ·obtain⟨q,hq,hq',hqm⟩:=Ak_ hlt;have hqk:=ok_fin h.ok hqm;have s1:((midF f a.fin i).map dNum).set i [.int .i64 ((f:Int)+q)]=(midF f a.fin (i+1)).map dNum:=UP_ dNum (mvF f) hq;have m1:(midF f a.fin i)[i]? =some q:=mid_at (mvF f) hq;have m2:(midF f a.fin i).length=a.fin.length:=mid_len a.fin i (mvF f) hi;obtain⟨Z,hZ⟩:∃Z,Z=midF f a.fin i:=⟨_,rfl⟩;rw[←hZ]at s1 m1 m2 ⊢;have hzl:i<Z.length:=by omega
  have m1':Z[i]'hzl=q:=(aB0.1 m1).2;have hwi:IntKind.i64.wrap ((i:Int)+1)=(i:Int)+1:=wq;have hwq:IntKind.i64.wrap (q+(f:Int))=(f:Int)+q:=by rw[wq];omega
  (refine go1 aj0 aj0 (aj8 @dNum.eq_1 hlt m1 m1' hzl hwi hwq s1) ?_;intros;refine mk_i ?_)
  refine Aj_.mk ⟨i+1,by omega⟩ (Sub.lit (by simp)) (by simp;omega)
  skip
 ·have hkk:i=a.fin.length:=by omega
  subst hkk;rw[midF_all];exact go0 aj0 aj0 aj0
def XI_ : Ann:=⟨[8],[]⟩
set_option maxHeartbeats 2000000 in
theorem Pf_ (a:Auto) (f:Nat) (h:SmA a) (hf:f≤1040):Ac_ Tryz.prog 119 [.agg (dPt (a,f))] (Cb_ (movA f a.arcs)):=by
 refine Aa_ [8] XI_ Tryz.func119 Tryz.call119 Tryz.ntmps119 mxd (aj2 @XI_.eq_1 Tryz.results119) rfl (by simp) (by simp[mx]) fun hwf B hnt hgAnn=> ?_
 clear hwf;simp only[argS];have har:=h.ar;have hst:=LH_ h.ok;have e1:=Uk_ a.arcs (by omega);have z0:=midA_zero (mvA f) a.arcs
 (refine go1 aj0 (aj1 (spc [] [(8,0)] e1)) (aj1 @dPt.eq_1) ?_;intros;refine mk_i ?_)
 refine Ae_ (X:={i:Nat//i≤a.arcs.length}) (fun i=>⟨[(1,.ref [.int .i64 a.st,Bn_ a.fin,Cb_ a.arcs,.int .i64 (f:Int)]),(3,.osl 8 1),(10,.int .i64 a.arcs.length),(11,.int .i64 i.1)],[⟨8,1,.row 97 4 32 ((midA (mvA f) a.arcs i.1).map dArc)⟩]⟩) (fun i=>a.arcs.length-i.1) ⟨0,by simp⟩ (Sub.lit (by simp[z0])) ?_;rintro⟨i,hi⟩;simp only
 by_cases hlt:i<a.arcs.length
 ·obtain⟨x,hx,hx',hxm⟩:=Ak_ hlt;have hxk:=ok_arc h.ok hxm;have s1:((midA (mvA f) a.arcs i).map dArc).set i [.int .i64 ((f:Int)+x.fr),.bool x.sy.label,.int .i64 x.sy.n,.int .i64 ((f:Int)+x.to)]=(midA (mvA f) a.arcs (i+1)).map dArc:=UP_ dArc (mvA f) hx;have m1:(midA (mvA f) a.arcs i)[i]? =some x:=mid_at (mvA f) hx;have m2:(midA (mvA f) a.arcs i).length=a.arcs.length:=mid_len a.arcs i (mvA f) hi;obtain⟨Z,hZ⟩:∃Z,Z=midA (mvA f) a.arcs i:=⟨_,rfl⟩
  rw[←hZ]at s1 m1 m2 ⊢;have hzl:i<Z.length:=by omega
  have m1':Z[i]'hzl=x:=(aB0.1 m1).2;have hwi:IntKind.i64.wrap ((i:Int)+1)=(i:Int)+1:=wrap_j hlt har;have hwq:IntKind.i64.wrap (x.fr+(f:Int))=(f:Int)+x.fr:=by rw[wq];omega
  have hwr:IntKind.i64.wrap (x.to+(f:Int))=(f:Int)+x.to:=by rw[wq];omega
  clear hst har hxk hf
  (refine go1 aj0 aj0 (aj9 @dArc.eq_1 hlt m1 m1' hzl hwi hwq hwr s1) ?_;intros;refine mk_i ?_)
  refine Aj_.mk ⟨i+1,by omega⟩ (Sub.lit (by simp)) (by simp;omega)
  skip
 ·have hkk:i=a.arcs.length:=by omega
  subst hkk;rw[midA_all];exact go0 aj0 aj0 aj0
def XH_ : Ann:=⟨[],[]⟩
theorem Cg_ (H L:List ByteArray) (xs:List Auto):Ac_ Tryz.prog 113 [Dy_ H L xs] (.bool true):=by
 refine Aa_ [] XH_ Tryz.func113 Tryz.call113 Tryz.ntmps113 mxd (aj2 @XH_.eq_1 Tryz.results113) rfl (by simp) (by simp[mx]) fun hwf B hnt hgAnn=> ?_
 clear hwf;simp only[argS,Dy_];exact go0 aj0 aj0 aj0
def anRS636 : Ann:=⟨[],[]⟩
theorem Ox_ (H L:List ByteArray) (xs:List Auto):Ac_ Tryz.prog 36 [Dy_ H L xs] (.int .i64 (sumS xs)):=by
 refine Aa_ [] anRS636 Tryz.func36 Tryz.call36 Tryz.ntmps36 mxd (aj2 @anRS636.eq_1 Tryz.results36) rfl (by simp) (by simp[mx]) fun hwf B hnt hgAnn=> ?_
 clear hwf;have e1:=Cg_ H L xs;simp only[argS,Dy_]at e1 ⊢;exact go0 (aj1 e1) aj0 aj0
def anRS637 : Ann:=⟨[],[]⟩
theorem Pg_ (H L:List ByteArray) (xs:List Auto):Ac_ Tryz.prog 37 [Dy_ H L xs] (AS_ H):=by
 refine Aa_ [] anRS637 Tryz.func37 Tryz.call37 Tryz.ntmps37 mxd (aj2 @anRS637.eq_1 Tryz.results37) rfl (by simp) (by simp[mx]) fun hwf B hnt hgAnn=> ?_
 clear hwf;have e1:=Cg_ H L xs;have e2:=FY_ H L;simp only[argS,Dy_]at e1 ⊢;exact go0 (aj2 e1 e2) aj0 aj0
def finM (P:List (Auto×Nat)):List Int:=P.flatMap fun p=>movF p.2 p.1.fin
def arcM (P:List (Auto×Nat)):List Arc:=P.flatMap fun p=>movA p.2 p.1.arcs
theorem finM_next {P:List (Auto×Nat)} {i:Nat} {p:Auto×Nat} (h:P[i]? =some p):finM (P.take (i+1))=finM (P.take i)++movF p.2 p.1.fin:=by
 unfold finM;rw[bF0,h,dV0];simp
theorem arcM_next {P:List (Auto×Nat)} {i:Nat} {p:Auto×Nat} (h:P[i]? =some p):arcM (P.take (i+1))=arcM (P.take i)++movA p.2 p.1.arcs:=by
 unfold arcM;rw[bF0,h,dV0];simp
theorem Wb_ : ∀{P:List (Auto×Nat)},(∀p∈P,SmA p.1)→(finM P).length≤65*P.length
 | [],_=>by simp[finM]
 | p::P,h=>by
  have h1:=(h p aF0).fi;have h2:=Wb_ (P:=P) fun x hx=>h x (aD0 _ hx)
  have h3:finM (p::P)=movF p.2 p.1.fin++finM P:=by simp[finM]
  rw[h3,aC0,List.length_cons];unfold movF;rw[aJ0];omega
theorem Ws_ : ∀{P:List (Auto×Nat)},(∀p∈P,SmA p.1)→(arcM P).length≤1073741888*P.length
 | [],_=>by simp[arcM]
 | p::P,h=>by
  have h1:=(h p aF0).ar;have h2:=Ws_ (P:=P) fun x hx=>h x (aD0 _ hx)
  have h3:arcM (p::P)=movA p.2 p.1.arcs++arcM P:=by simp[arcM]
  rw[h3,aC0,List.length_cons];unfold movA;rw[aJ0];omega
theorem finM_all (xs:List Auto):finM (parA 0 xs)=finA xs:=rfl
theorem arcM_all (xs:List Auto):arcM (parA 0 xs)=arcA xs:=rfl
theorem EY_ : ∀{xs:List Auto} {f:Nat} {p:Auto×Nat},p∈parA f xs→p.1∈xs∧p.2≤f+sumS xs
 | [],_,_,h=>by simp[parA]at h
 | a::xs,f,p,h=>by
  have h3:sumS (a::xs)=a.st.toNat+sumS xs:=by simp[sumS]
  rw[parA]at h
  rcases aK0.1 h with rfl | h
  ·exact⟨aF0,by simp only;omega⟩
  ·have:=EY_ h;exact⟨aD0 _ this.1,by omega⟩
theorem bnd_c {a b:Nat} (h1:a≤17179870208) (h2:b≤1073741888):(a+b)*32≤150000000000000:=by omega
def Jf_ : Ann:=⟨[],[⟨5,[7],[],[]⟩]⟩
set_option maxHeartbeats 2000000 in
theorem ZG_ (H L:List ByteArray) (xs:List Auto) (h:∀a∈xs,SmA a) (hl:xs.length≤16):Ac_ Tryz.prog 118 [Dy_ H L xs,.fn (.func 119) [] []] (Cb_ (arcA xs)):=by
 refine Aa_ [50] Jf_ Tryz.func118 Tryz.call118 Tryz.ntmps118 mxd (aj2 @Jf_.eq_1 Tryz.results118) rfl (by simp) (by simp[mx]) fun hwf B hnt hgAnn=> ?_
 clear hwf;have e1:=Cg_ H L xs;have hsl:=FQ_ (l:=xs) fun a ha=>(h a ha).ok
 have hs10:sumS xs≤1040:=Nat.le_trans hsl (bU0 65 hl);have hpl:=EZ_ xs 0
 have hP:∀p∈parA 0 xs,SmA p.1∧p.2≤1040:=fun p hp=>by
  have:=EY_ hp;exact⟨h _ this.1,by omega⟩
 rw[←arcM_all];simp only[argS,Dy_]at e1 ⊢;obtain⟨P,hPP⟩:∃P,P=parA 0 xs:=⟨_,rfl⟩;rw[←hPP]at e1 hP hpl ⊢;clear hPP hsl h
 iterate 6 ((first | refine Aw_ fun K hK=> ?_ | (refine DW_r Jf_ mxd (by kernel_rfl) ?_;simp[Jf_,hnt];try simp (disch:=omega) only[Ah_]) | refine Al_ ?_ | (refine AJ_ ?_ ?_ ?_;(· (simp[hnt];done));(try (rotate_left;(· (intro hc;(try simp[hnt]at hc);done))))) | (refine Ay_ ?_;simp[Tryz.results118,hnt]) | ((first | refine Aq_ ?_ | refine Ap_ ?_);simp[hnt]) | (intro hc;(try simp[hnt]at hc);(try (exfalso;omega))) | (refine⟨?_,?_⟩; · omega) | omega | apply_assumption -exfalso -symm | (exfalso;omega)))
 refine AV_ 5 50 97 4 32 (by simp[hnt,Tryz.results118,Jf_]) (fun n=> ?_)
 (refine go1 (aj1 e1) aj0 aj0 ?_;intros;refine mk_i ?_)
 refine Ae_ (X:={i:Nat//i≤P.length}) (fun i=>⟨[(1,.fn (.func 119) [] []),(5,.osl 50 1),(13,dPts P),(14,.int .i64 P.length),(15,.int .i64 i.1)],[⟨50,1,.row 97 4 32 ((arcM (P.take i.1)).map dArc)⟩]⟩) (fun i=>P.length-i.1) ⟨0,by simp⟩ (Sub.lit (by simp[arcM])) ?_;rintro⟨i,hi⟩;simp only
 by_cases hlt:i<P.length
 ·obtain⟨p,hp,hp',hpm⟩:=Ak_ hlt;obtain⟨k1,k2⟩:=hP p hpm;obtain⟨a,f⟩:=p;have e2:=Pf_ a f k1 k2;have hnx:=congrArg (List.map dArc) (arcM_next hp);rw[aX0]at hnx;have har:a.arcs.length≤1073741888:=k1.ar;have hml:(movA f a.arcs).length=a.arcs.length:=by unfold movA;rw[aJ0]
  have htl:=Ws_ (P:=P.take i) fun x hx=>(hP x (dE0 hx)).1
  have h16:(P.take i).length≤16:=by rw[aY0];omega
  have htl':(arcM (P.take i)).length≤17179870208:=Nat.le_trans htl (bU0 1073741888 h16);clear htl;obtain⟨T,hT⟩:∃T,T=arcM (P.take i):=⟨_,rfl⟩;rw[←hT]at hnx htl' ⊢;obtain⟨V,hV⟩:∃V,V=movA f a.arcs:=⟨_,rfl⟩;simp only at hnx;rw[←hV]at e2 hnx hml;have hb:(T.length+V.length)*32≤150000000000000:=bnd_c htl' (by omega);have hwi:IntKind.i64.wrap ((i:Int)+1)=(i:Int)+1:=wq;simp only[dPt]at e2;clear hP k1 k2 hpl hT hV
  (refine go1 (aj1 e2) aj0 (aj6 @dPt.eq_1 hlt hp hp' hb hwi) ?_;intros;refine mk_i ?_)
  refine Aj_.mk ⟨i+1,by omega⟩ (Sub.lit (by simp[hnx])) (by simp;omega)
  skip
 ·have hkk:i=P.length:=by omega
  subst hkk;rw[aQ0];exact go0 aj0 aj0 aj0
def Jg_ : Ann:=⟨[],[⟨5,[7],[],[]⟩]⟩
set_option maxHeartbeats 2000000 in
theorem ZF_ (H L:List ByteArray) (xs:List Auto) (h:∀a∈xs,SmA a) (hl:xs.length≤16):Ac_ Tryz.prog 116 [Dy_ H L xs,.fn (.func 117) [] []] (Bn_ (finA xs)):=by
 refine Aa_ [50] Jg_ Tryz.func116 Tryz.call116 Tryz.ntmps116 mxd (aj2 @Jg_.eq_1 Tryz.results116) rfl (by simp) (by simp[mx]) fun hwf B hnt hgAnn=> ?_
 clear hwf;have e1:=Cg_ H L xs;have hsl:=FQ_ (l:=xs) fun a ha=>(h a ha).ok
 have hs10:sumS xs≤1040:=Nat.le_trans hsl (bU0 65 hl);have hpl:=EZ_ xs 0
 have hP:∀p∈parA 0 xs,SmA p.1∧p.2≤1040:=fun p hp=>by
  have:=EY_ hp;exact⟨h _ this.1,by omega⟩
 rw[←finM_all];simp only[argS,Dy_]at e1 ⊢;obtain⟨P,hPP⟩:∃P,P=parA 0 xs:=⟨_,rfl⟩;rw[←hPP]at e1 hP hpl ⊢;clear hPP hsl h
 iterate 6 ((first | refine Aw_ fun K hK=> ?_ | (refine DW_r Jg_ mxd (by kernel_rfl) ?_;simp[Jg_,hnt];try simp (disch:=omega) only[Ah_]) | refine Al_ ?_ | (refine AJ_ ?_ ?_ ?_;(· (simp[hnt];done));(try (rotate_left;(· (intro hc;(try simp[hnt]at hc);done))))) | (refine Ay_ ?_;simp[Tryz.results116,hnt]) | ((first | refine Aq_ ?_ | refine Ap_ ?_);simp[hnt]) | (intro hc;(try simp[hnt]at hc);(try (exfalso;omega))) | (refine⟨?_,?_⟩; · omega) | omega | apply_assumption -exfalso -symm | (exfalso;omega)))
 refine AV_ 5 50 3 1 8 (by simp[hnt,Tryz.results116,Jg_]) (fun n=> ?_)
 (refine go1 (aj1 e1) aj0 aj0 ?_;intros;refine mk_i ?_)
 refine Ae_ (X:={i:Nat//i≤P.length}) (fun i=>⟨[(1,.fn (.func 117) [] []),(5,.osl 50 1),(13,dPts P),(14,.int .i64 P.length),(15,.int .i64 i.1)],[⟨50,1,.row 3 1 8 ((finM (P.take i.1)).map dNum)⟩]⟩) (fun i=>P.length-i.1) ⟨0,by simp⟩ (Sub.lit (by simp[finM])) ?_;rintro⟨i,hi⟩;simp only
 by_cases hlt:i<P.length
 ·obtain⟨p,hp,hp',hpm⟩:=Ak_ hlt;obtain⟨k1,k2⟩:=hP p hpm;obtain⟨a,f⟩:=p;have e2:=Sl_ a f k1 k2;have hnx:=congrArg (List.map dNum) (finM_next hp);rw[aX0]at hnx;have har:a.fin.length≤65:=k1.fi;have hml:(movF f a.fin).length=a.fin.length:=by unfold movF;rw[aJ0]
  have htl:=Wb_ (P:=P.take i) fun x hx=>(hP x (dE0 hx)).1
  have h16:(P.take i).length≤16:=by rw[aY0];omega
  have htl':(finM (P.take i)).length≤1040:=Nat.le_trans htl (bU0 65 h16);clear htl;obtain⟨T,hT⟩:∃T,T=finM (P.take i):=⟨_,rfl⟩;rw[←hT]at hnx htl' ⊢;obtain⟨V,hV⟩:∃V,V=movF f a.fin:=⟨_,rfl⟩;simp only at hnx;rw[←hV]at e2 hnx hml;have hb:(T.length+V.length)*8≤150000000000000:=by omega
  have hwi:IntKind.i64.wrap ((i:Int)+1)=(i:Int)+1:=wq;simp only[dPt]at e2;clear hP k1 k2 hpl hT hV
  (refine go1 (aj1 e2) aj0 (aj6 @dPt.eq_1 hlt hp hp' hb hwi) ?_;intros;refine mk_i ?_)
  refine Aj_.mk ⟨i+1,by omega⟩ (Sub.lit (by simp[hnx])) (by simp;omega)
  skip
 ·have hkk:i=P.length:=by omega
  subst hkk;rw[aQ0];exact go0 aj0 aj0 aj0
def anRS640 : Ann:=⟨[],[]⟩
theorem Na_ (H L:List ByteArray) (xs:List Auto) (h:∀a∈xs,SmA a) (hl:xs.length≤16):Ac_ Tryz.prog 40 [Dy_ H L xs] (Bn_ (finA xs)):=by
 refine Aa_ [] anRS640 Tryz.func40 Tryz.call40 Tryz.ntmps40 mxd (aj2 @anRS640.eq_1 Tryz.results40) rfl (by simp) (by simp[mx]) fun hwf B hnt hgAnn=> ?_
 clear hwf;have e1:=ZF_ H L xs h hl;simp only[argS,Dy_]at e1 ⊢;exact go0 (aj1 e1) aj0 aj0
def anRS641 : Ann:=⟨[],[]⟩
theorem RG_ (H L:List ByteArray) (xs:List Auto) (h:∀a∈xs,SmA a) (hl:xs.length≤16):Ac_ Tryz.prog 41 [Dy_ H L xs] (Cb_ (arcA xs)):=by
 refine Aa_ [] anRS641 Tryz.func41 Tryz.call41 Tryz.ntmps41 mxd (aj2 @anRS641.eq_1 Tryz.results41) rfl (by simp) (by simp[mx]) fun hwf B hnt hgAnn=> ?_
 clear hwf;have e1:=ZG_ H L xs h hl;simp only[argS,Dy_]at e1 ⊢;exact go0 (aj1 e1) aj0 aj0
theorem g_may (g:List Rul) (hs:SmlG g):∃c:Int,Ac_ Tryz.prog 76 [Av_ g] (.int .i64 c)∧Ac_ Tryz.prog 13 [Av_ g] (.int .i64 c)∧(c=0→∃gt,g=mkG gt∧OkgT gt):=by
 by_cases h:g.length<1∨64<g.length
 ·exact⟨180,PY_ g h,MW_ g h,by omega⟩
 ·cases ht:EB_ g with
  | false=>exact⟨170,Ul_ g (by omega) (by omega) hs ht,Ri_ g (by omega) (by omega) hs ht,by omega⟩
  | true =>
   obtain⟨gt,rfl,hk⟩:=UK_ ht;have hl:=DW_ gt;exact⟨PV_ gt,ZJ_ gt (by omega) (by omega) hk hs,Tw_ gt (by omega) (by omega) hk hs,fun h0=>⟨gt,rfl,okgT_of hk (by omega) (by omega) h0⟩⟩
theorem hno_nextI {l:List Int} {s x:Int} {k:Nat} (hx:l[k]? =some x) (hb:(s==x)=false) (hno:∀i x,i<k→l[i]? =some x→(s==x)=false):∀i x,i<k+1→l[i]? =some x→(s==x)=false:=by
 intro i y hi hy
 by_cases hik:i=k
 ·subst hik;rw[hx]at hy;simp only[aA0]at hy;subst hy;exact hb
 ·exact hno i y (by omega) hy
def XF_ : Ann:=⟨[],[]⟩
theorem Za_ (l:List Int) (s:Int):Ac_ Tryz.prog 137 [Bn_ l,.int .i64 s] (.bool (decide (s∈l))):=by
 refine Aa_ [] XF_ Tryz.func137 Tryz.call137 Tryz.ntmps137 mxd (aj2 @XF_.eq_1 Tryz.results137) rfl (by simp) (by simp[mx]) fun hwf B hnt hgAnn=> ?_
 have hlen:=len_nums hwf.1;clear hwf;simp only[argS]
 (refine go1 aj0 aj0 aj0 ?_;intros;refine mk_i ?_)
 refine Ae_ (X:={k:Nat//k≤l.length∧∀i x,i<k→l[i]? =some x→(s==x)=false}) (fun x=>⟨[(0,Bn_ l),(1,.int .i64 s),(5,.int .i64 x.1)],[]⟩) (fun x=>l.length-x.1) ⟨0,by simp⟩ (Sub.lit (by simp)) ?_;rintro⟨k,hk,hno⟩
 by_cases hlt:k<l.length
 ·obtain⟨x,hx,hx',hxm⟩:=Ak_ hlt;cases hb:s==x
  ·have hb2:(x==s)=false:=by
    have hh:¬s=x:=by simpa using hb
    simpa using fun e:x=s=>hh e.symm
   have hb3:¬x=s:=by simpa using hb2
   have hwk:IntKind.i64.wrap ((k:Int)+1)=(k:Int)+1:=wq
   (refine go1 aj0 aj0 (aj7 @dNum.eq_1 hlt hx' hx hb2 hb3 hwk) ?_;intros;refine mk_i ?_)
   refine Aj_.mk ⟨k+1,by omega,hno_nextI hx hb hno⟩ (Sub.lit (by simp[])) (by simp;omega)
   skip
  ·have he:s=x:=by simpa using hb
   subst he;have hm:decide (s∈l)=true:=by simpa using hxm
   exact go0 aj0 aj0 (aj5 @dNum.eq_1 hlt hx' hx hm)
 ·have hkk:k=l.length:=by omega
  subst hkk
  have hm:decide (s∈l)=false:=by
   simp only[decide_eq_false_iff_not];intro hh;obtain⟨i,hi,rfl⟩:=bN0 hh;have:=hno i _ hi (aH0 hi);simp at this
  exact go0 aj0 aj0 (aj1 hm)
def atI (l:List Nat) (n:Int):Int:=if 0≤n∧n<l.length then (l.getD n.toNat 0:Int)else -1
theorem SG_ {l:List Nat} {k x:Nat} (h:l[k]? =some x):atI l k=x:=by
 have hk:=(aB0.1 h).1;unfold atI;rw[if_pos ⟨by omega,by omega⟩,cX0,bG0,h];rfl
theorem MF_ {l:List Nat} {n:Int} (h:¬(0≤n∧n<l.length)):atI l n= -1:=by unfold atI;rw[if_neg h]
def anRS839 : Ann:=⟨[],[]⟩
theorem QQ_ (H L:List ByteArray) (xs:List Auto) (n:Int):Ac_ Tryz.prog 39 [Dy_ H L xs,.int .i64 n] (.int .i64 (atI (stL xs) n)):=by
 refine Aa_ [] anRS839 Tryz.func39 Tryz.call39 Tryz.ntmps39 mxd (aj2 @anRS839.eq_1 Tryz.results39) rfl (by simp) (by simp[mx]) fun hwf B hnt hgAnn=> ?_
 clear hwf;have e1:=Cg_ H L xs;simp only[argS,Dy_]at e1 ⊢;have hl:(stL xs).length=(parA 0 xs).length:=by rw[Oy_,EZ_]
 have hst:∀(k:Nat) (p:Auto×Nat),(parA 0 xs)[k]? =some p→(stL xs)[k]? =some p.2:=fun k p h=>by unfold stL;rw[bI0,h];rfl
 obtain⟨S,hS⟩:∃S,S=stL xs:=⟨_,rfl⟩;rw[←hS]at hl hst ⊢;obtain⟨P,hP⟩:∃P,P=parA 0 xs:=⟨_,rfl⟩;rw[←hP]at e1 hl hst ⊢;clear hS hP
 by_cases h0:n<0
 ·rw[MF_ (by omega)];exact go0 (aj1 e1) aj0 (aj1 h0)
 ·by_cases h1:n<P.length
  ·obtain⟨k,rfl⟩:∃k:Nat,n=(k:Int):=⟨n.toNat,by omega⟩;have hlt:k<P.length:=by omega
   obtain⟨p,hx,hx',hxm⟩:=Ak_ hlt;rw[SG_ (hst k p hx)];have h2:¬(P.length:Int)≤(k:Int):=by omega
   exact go0 (aj1 e1) aj0 (aj7 @dPt.eq_1 h0 h1 h2 hlt hx hx')
  ·rw[MF_ (by omega)];have h2:(P.length:Int)≤n:=by omega
   exact go0 (aj1 e1) aj0 (aj3 h0 h1 h2)
def XG_ : Ann:=⟨[],[]⟩
theorem Zn_ (n:Int) (p:Auto×Nat) (h:SmA p.1) (hf:p.2≤1040):Ac_ Tryz.prog 115 [.agg (dPt p),.ref [.int .i64 n]] (.bool (decide (n<(p.2:Int)+p.1.st))):=by
 refine Aa_ [] XG_ Tryz.func115 Tryz.call115 Tryz.ntmps115 mxd (aj2 @XG_.eq_1 Tryz.results115) rfl (by simp) (by simp[mx]) fun hwf B hnt hgAnn=> ?_
 clear hwf;have hst:=LH_ h.ok;have hw:IntKind.i64.wrap ((p.2:Int)+p.1.st)=(p.2:Int)+p.1.st:=wq;simp only[argS];exact go0 aj0 aj0 (aj2 @dPt.eq_1 hw)
def ntQ (n:Int) (p:Auto×Nat):Bool:=decide (n<(p.2:Int)+p.1.st)
def KZ_ : Ann:=⟨[],[]⟩
theorem Zm_ (n:Int) (P:List (Auto×Nat)) (hP:∀p∈P,SmA p.1∧p.2≤1040) (hl:P.length≤16):Ac_ Tryz.prog 114 [dPts P,.fn (.func 115) [] [.ref [.int .i64 n]]] (.int .i64 (if P.any (ntQ n)then ((P.findIdx (ntQ n):Nat):Int)else -1)):=by
 refine Aa_ [] KZ_ Tryz.func114 Tryz.call114 Tryz.ntmps114 mxd (aj2 @KZ_.eq_1 Tryz.results114) rfl (by simp) (by simp[mx]) fun hwf B hnt hgAnn=> ?_
 clear hwf;simp only[argS]
 (refine go1 aj0 aj0 aj0 ?_;intros;refine mk_i ?_)
 refine Ae_ (X:={k:Nat//k≤P.length∧∀i x,i<k→P[i]? =some x→ntQ n x=false}) (fun x=>⟨[(0,dPts P),(1,.fn (.func 115) [] [.ref [.int .i64 n]]),(7,.int .i64 P.length),(8,.int .i64 x.1)],[]⟩) (fun x=>P.length-x.1) ⟨0,by simp⟩ (Sub.lit (by simp)) ?_;rintro⟨k,hk,hno⟩
 by_cases hlt:k<P.length
 ·obtain⟨x,hx,hx',hxm⟩:=Ak_ hlt;have hqx:Ac_ Tryz.prog 115 [.agg (dPt x),.ref [.int .i64 n]] (.bool (ntQ n x)):=Zn_ n x (hP x hxm).1 (hP x hxm).2;simp only[dPt]at hqx;clear hP;cases hb:ntQ n x
  ·rw[hb]at hqx
   have hno':∀i y,i<k+1→P[i]? =some y→ntQ n y=false:=by
    intro i y hi hy
    by_cases hik:i=k
    ·subst hik;rw[hx]at hy;simp only[aA0]at hy;subst hy;exact hb
    ·exact hno i y (by omega) hy
   (refine go1 (aj1 hqx) aj0 (aj3 @dPt.eq_1 hlt hx') ?_;intros;refine mk_i ?_)
   exact Aj_.mk ⟨k+1,by omega,hno'⟩ (Sub.lit (by simp[])) (by simp;omega)
   skip
  ·rw[hb]at hqx;have hany:P.any (ntQ n)=true:=bZ0.2 ⟨x,hxm,hb⟩
   have hidx:P.findIdx (ntQ n)=k:=by
    rw[List.findIdx_eq hlt];refine⟨by rw[hx'];exact hb,fun i hi=> ?_⟩;exact hno i _ hi (aH0 (by omega))
   exact go0 (aj1 hqx) aj0 (aj5 @dPt.eq_1 hlt hx' hany hidx)
 ·have hkk:k=P.length:=by omega
  have hany:P.any (ntQ n)=false:=by
   rw[dA0];intro x hx;obtain⟨i,hi,rfl⟩:=bN0 hx;rw[hno i _ (by omega) (aH0 hi)];simp
  (repeat (first | refine Aw_ fun K hK=> ?_ | (refine DW_r KZ_ mxd (by kernel_rfl) ?_;simp[KZ_,hnt,hkk,hany];try simp (disch:=omega) only[Ah_]) | refine Al_ ?_ | (refine AJ_ ?_ ?_ ?_;(· (simp[hnt,hkk,hany];done));(try (rotate_left;(· (intro hc;(try simp[hnt,hkk,hany]at hc);done))))) | (refine Ay_ ?_;simp[Tryz.results114,hnt,hkk,hany]) | ((first | refine Aq_ ?_ | refine Ap_ ?_);simp[hnt,hkk,hany]) | (intro hc;(try simp[hnt,hkk,hany]at hc);(try (exfalso;omega))) | ((first | refine Ag_ (hqx) ?_ | (refine Af_ (hqx) ?_ ?_;(· (simp;done))));try simp[hnt,hkk,hany]) | (refine⟨?_,?_⟩; · omega) | omega | apply_assumption -exfalso -symm | (exfalso;omega)))
theorem nt_law : ∀(xs:List Auto) (f b n:Nat),(∀a∈xs,1≤a.st)→f≤n→n<f+sumS xs→∃k,((xs.zipIdx b).flatMap fun p=>List.replicate p.1.st.toNat p.2)[n-f]? =some (b+k)∧(parA f xs).findIdx (ntQ n)=k∧(parA f xs).any (ntQ n)=true
 | [],f,b,n,_,h1,h2=>by simp[sumS]at h2;omega
 | a::xs,f,b,n,hst,h1,h2=>by
  have h3:sumS (a::xs)=a.st.toNat+sumS xs:=by simp[sumS]
  have h4:=hst a aF0;rw[parA,fF0,cM0];simp only
  by_cases hn:n<f+a.st.toNat
  ·have hq:ntQ n (a,f)=true:=by unfold ntQ;simp only[decide_eq_true_eq];omega
   refine⟨0,?_,by rw[List.findIdx_cons,hq];rfl,by rw[List.any_cons,hq];rfl⟩;rw[bB0 (by rw[cZ0];omega),eL0,if_pos (by omega)];rfl
  ·have hq:ntQ n (a,f)=false:=by unfold ntQ;simp only[decide_eq_false_iff_not];omega
   obtain⟨k,k1,k2,k3⟩:=nt_law xs (f+a.st.toNat) (b+1) n (fun x hx=>hst x (aD0 _ hx)) (by omega) (by omega);refine⟨k+1,?_,by rw[List.findIdx_cons,hq,k2];rfl,by rw[List.any_cons,hq,k3];rfl⟩;rw[bC0 (by rw[cZ0];omega),cZ0,fA0,k1]
   congr 1
   omega
def anRS838 : Ann:=⟨[],[]⟩
theorem nt33_pure (H L:List ByteArray) (xs:List Auto) (h:∀a∈xs,SmA a) (hl:xs.length≤16) (n:Int):Ac_ Tryz.prog 38 [Dy_ H L xs,.int .i64 n] (.int .i64 (atI (ntL xs) n)):=by
 refine Aa_ [] anRS838 Tryz.func38 Tryz.call38 Tryz.ntmps38 mxd (aj2 @anRS838.eq_1 Tryz.results38) rfl (by simp) (by simp[mx]) fun hwf B hnt hgAnn=> ?_
 clear hwf;have e1:=Cg_ H L xs;have hsl:=FQ_ (l:=xs) fun a ha=>(h a ha).ok
 have hs10:sumS xs≤1040:=Nat.le_trans hsl (bU0 65 hl);have hpl:=EZ_ xs 0;have e2:=Zm_ n (parA 0 xs) (fun p hp=>by have:=EY_ hp;exact⟨h _ this.1,by omega⟩) (by omega);have hnl:=LJ_ xs
 have hlaw:∀k:Nat,k<sumS xs→(parA 0 xs).any (ntQ k)=true∧(ntL xs)[k]? =some ((parA 0 xs).findIdx (ntQ k)):=fun k hk=>by
  obtain⟨j,j1,j2,j3⟩:=nt_law xs 0 0 k (fun a ha=>(LH_ (h a ha).ok).1) (by omega) (by omega);refine⟨j3,?_⟩;unfold ntL;rw[j2];simpa using j1
 simp only[argS,Dy_]at e1 ⊢;obtain⟨N,hN⟩:∃N,N=ntL xs:=⟨_,rfl⟩;rw[←hN]at hnl hlaw ⊢;obtain⟨S,hS⟩:∃S,S=sumS xs:=⟨_,rfl⟩;rw[←hS]at e1 hnl hlaw hs10 ⊢;obtain⟨P,hP⟩:∃P,P=parA 0 xs:=⟨_,rfl⟩;rw[←hP]at e1 e2 hlaw ⊢;clear hN hS hP hsl h
 by_cases h0:n<0
 ·rw[MF_ (by omega)];exact go0 (aj1 e1) aj0 (aj1 h0)
 ·by_cases h1:n<S
  ·obtain⟨k,rfl⟩:∃k:Nat,n=(k:Int):=⟨n.toNat,by omega⟩;obtain⟨l1,l2⟩:=hlaw k (by omega);rw[SG_ l2];rw[if_pos l1]at e2;have h2:¬(S:Int)≤(k:Int):=by omega
   exact go0 (aj2 e1 e2) aj0 (aj3 h0 h1 h2)
  ·rw[MF_ (by omega)];have h2:(S:Int)≤n:=by omega
   exact go0 (aj1 e1) aj0 (aj3 h0 h1 h2)
end Go.Proofs.YtchgnpnbcjflcaaGreat
end
section
namespace Go.Proofs.YtchgnpnbcjflcaaGreat
open Go Go.Dm
variable [DMode]
attribute [local irreducible] DW Bj_ Bp_
set_option maxRecDepth 100000
def WQ_ : Ann:=⟨[],[]⟩
theorem ZO_ (x y:Sym):Ac_ Tryz.prog 197 [.agg (dSym x),.agg (dSym y)] (.int .i64 (symC x y)):=by
 refine Aa_ [] WQ_ Tryz.func197 Tryz.call197 Tryz.ntmps197 mxd (aj2 @WQ_.eq_1 Tryz.results197) rfl (by simp) (by simp[mx]) fun hwf B hnt hgAnn=> ?_
 simp only[argS];cases h1:x.label<;>cases h2:y.label<;>exact go0 (aj1 (Cc_ x.n y.n)) aj0 (aj4 @dSym.eq_1 h1 h2 @symC.eq_1)
def WR_ : Ann:=⟨[],[⟨3,[8],[],[]⟩,⟨6,[9],[],[]⟩]⟩
set_option maxHeartbeats 1000000 in
theorem HZ_ (g:FuncId) (c:Sym→Sym→Int) (a b:List Sym) (hg:∀x∈a,∀y∈b,Ac_ Tryz.prog g [.agg (dSym x),.agg (dSym y)] (.int .i64 (c x y))) :
  Ac_ Tryz.prog 196 [AR_ a,AR_ b,.fn (.func g) [] []] (.int .i64 (cmpL c a b)):=by
 refine Aa_ [] WR_ Tryz.func196 Tryz.call196 Tryz.ntmps196 mxd (aj2 @WR_.eq_1 Tryz.results196) rfl (by simp) (by simp[mx]) fun hwf B hnt hgAnn=> ?_
 have hw:YG_ a:=QA_ hwf.1;have hw':YG_ b:=QA_ hwf.2.1;obtain⟨hw1,hw2,hw3⟩:=hw;obtain⟨hv1,hv2,hv3⟩:=hw';clear hwf;simp only[argS];obtain⟨r,hr⟩:∃r,r=cmpL c a b:=⟨_,rfl⟩;rw[←hr]
 (refine go1 aj0 aj0 aj0 ?_;intros;refine mk_i ?_)
 refine Ae_ (X:={k:Nat//k≤a.length∧k≤b.length∧r=cmpL c (a.drop k) (b.drop k)}) (fun k=>⟨[(0,AR_ a),(1,AR_ b),(2,.fn (.func g) [] []),(11,AR_ a),(12,.int .i64 a.length),(13,.int .i64 k.1)],[]⟩) (fun k=>a.length-k.1) ⟨0,by simp[hr]⟩ (Sub.lit (by simp)) ?_;rintro⟨k,hk,hk',hcc⟩;clear hr
 by_cases hlt:k<a.length
 ·obtain⟨x,hx,hx',hxm⟩:=Ak_ hlt
  by_cases hlt':k<b.length
  ·obtain⟨y,hy,hy',hym⟩:=Ak_ hlt';have hxy:=hg x hxm y hym;simp only[dSym]at hxy;have hat:=cmpL_at (c:=c) hx hy;have hle:¬b.length≤k:=by omega
   by_cases h0:c x y=0
   ·rw[if_pos h0]at hat;have hd:=hcc.trans hat
    (refine go1 (aj1 hxy) aj0 (aj7 @dSym.eq_1 hlt hlt' hle hx' hy' h0) ?_;intros;refine mk_i ?_)
    refine Aj_.mk ⟨k+1,by omega,by omega,hd⟩ (Sub.lit (by simp)) (by simp;omega)
    skip
   ·rw[if_neg h0]at hat;have hd:=hcc.trans hat;have h0':(c x y != 0)=true:=by simpa using h0
    exact go0 (aj1 hxy) aj0 (aj9 @dSym.eq_1 hlt hlt' hle hx' hy' h0 h0' hd)
  ·have hge:b.length≤k:=by omega
   have hd:=hcc.trans (cmpL_gt (c:=c) hlt hge);exact go0 aj0 aj0 (aj5 @dSym.eq_1 hlt hge hx' hd)
 ·have hge:a.length≤k:=by omega
  have hka:k=a.length:=by omega
  subst hka;have hat:=cmpL_le (c:=c) (b:=b) hge
  by_cases h:a.length<b.length
  ·rw[if_pos h]at hat;have hd:=hcc.trans hat;exact go0 aj0 aj0 (aj2 h hd)
  ·rw[if_neg h]at hat;have hd:=hcc.trans hat;exact go0 aj0 aj0 (aj2 h hd)
def MT_ (a b:List Sym):Int:=cmpL symC a b
def AX_ (p q:Prod):Int:=if cmpI p.head q.head=0 then (if cmpI p.body.length q.body.length=0 then MT_ p.body q.body else cmpI p.body.length q.body.length)else cmpI p.head q.head
def KR_ : Ann:=⟨[],[]⟩
theorem ND_ (p q:Prod):Ac_ Tryz.prog 123 [.agg (Ad_ p),.agg (Ad_ q)] (.int .i64 (AX_ p q)):=by
 refine Aa_ [] KR_ Tryz.func123 Tryz.call123 Tryz.ntmps123 mxd (aj2 @KR_.eq_1 Tryz.results123) rfl (by simp) (by simp[mx]) fun hwf B hnt hgAnn=> ?_
 simp only[argS];have h1:=HZ_ 197 symC p.body q.body (fun x _ y _=>ZO_ x y);have h2:=Vk_ (cmpI p.head q.head) (cmpI p.body.length q.body.length) (MT_ p.body q.body);simp only[MT_]at h2
 (repeat (first | refine Aw_ fun K hK=> ?_ | (refine DW_r KR_ mxd (by kernel_rfl) ?_;simp[KR_,hnt,Ad_,AX_,MT_];try simp (disch:=omega) only[Ah_]) | refine Al_ ?_ | (refine AJ_ ?_ ?_ ?_;(· (simp[hnt,Ad_,AX_,MT_];done));(try (rotate_left;(· (intro hc;(try simp[hnt,Ad_,AX_,MT_]at hc);done))))) | (refine Ay_ ?_;simp[Tryz.results123,hnt,Ad_,AX_,MT_]) | ((first | refine Aq_ ?_ | refine Ap_ ?_);simp[hnt,Ad_,AX_,MT_]) | (intro hc;(try simp[hnt,Ad_,AX_,MT_]at hc);(try (exfalso;omega))) | ((first | refine Ag_ (Cc_ p.head q.head) ?_ | refine Ag_ (Cc_ p.body.length q.body.length) ?_ | refine Ag_ (h1) ?_ | refine Ag_ (h2) ?_ | (refine Af_ (Cc_ p.head q.head) ?_ ?_;(· (simp;done))) | (refine Af_ (Cc_ p.body.length q.body.length) ?_ ?_;(· (simp;done))) | (refine Af_ (h1) ?_ ?_;(· (simp;done))) | (refine Af_ (h2) ?_ ?_;(· (simp;done))));try simp[hnt,Ad_,AX_,MT_]) | (refine⟨?_,?_⟩; · omega) | omega | apply_assumption -exfalso -symm | (exfalso;omega)))
def WS_ : Ann:=⟨[],[]⟩
theorem same_pure (p q:Prod):Ac_ Tryz.prog 125 [.agg (Ad_ p),.agg (Ad_ q)] (.bool (AX_ p q==0)):=by
 refine Aa_ [] WS_ Tryz.func125 Tryz.call125 Tryz.ntmps125 mxd (aj2 @WS_.eq_1 Tryz.results125) rfl (by simp) (by simp[mx]) fun hwf B hnt hgAnn=> ?_
 simp only[argS];have h1:=ND_ p q;exact go0 (aj1 h1) aj0 (aj1 @Ad_.eq_1)
end Go.Proofs.YtchgnpnbcjflcaaGreat
end
section
namespace Go.Proofs.YtchgnpnbcjflcaaGreat
open Go Go.Dm
variable [DMode]
theorem Fb_ : OrdC AX_:=by
 have h:=ordKey (Rn_ ordI (Rn_ ordI (ordL ordSym))) (fun p:Prod=>(p.head,((p.body.length:Int),p.body))) (by
  rintro⟨l,n⟩ ⟨l',n'⟩ hh;simp only[_root_.Prod.mk.injEq]at hh;obtain⟨rfl,_,rfl⟩:=hh
  rfl)
 exact h
def unSym : List DVal→Sym
 | [.bool b,.int _ n]=>⟨b,n⟩
 | _=>⟨false,0⟩
def UJ_ : List DVal→Prod
 | [.int _ h,.sl _ _ es]=>⟨h,es.map unSym⟩
 | _=>⟨0,[]⟩
theorem unSym_d (s:Sym):unSym (dSym s)=s:=rfl
theorem UI_ (p:Prod):UJ_ (Ad_ p)=p:=by
 obtain⟨h,b⟩:=p;simp only[UJ_,Ad_,cB0,aW0,true_and];rw[show unSym∘dSym=id from funext unSym_d,List.map_id]
end Go.Proofs.YtchgnpnbcjflcaaGreat
end
section
namespace Go.Proofs.YtchgnpnbcjflcaaGreat
open Go Go.Dm
variable [DMode]
attribute [local irreducible] DW Bj_ Bp_
set_option maxRecDepth 100000
def GX_ : Ann:=⟨[],[]⟩
set_option maxHeartbeats 4000000 in
theorem Ng_ (g:FuncId) (e:Prod→Prod→Bool) (l:List Prod) (he:∀x∈l,∀y∈l,Ac_ Tryz.prog g [.agg (Ad_ x),.agg (Ad_ y)] (.bool (e x y))) :
  AM_ Tryz.prog (.func 124) [.osl 0 0,.fn (.func g) [] []] [⟨0,0,.row 92 2 32 (l.map Ad_)⟩] (Bh_ (Bu_ e l)) []:=by
 refine Eq_ [0] [] Tryz.func124 rfl Tryz.call124 (by simp[Tryz.ntmps124]) (by simp) (by simp) ?_;intro hwf hwo B hnt;have hgAnn:=an_is GX_ mxd (aj2 @GX_.eq_1 Tryz.results124);simp only[argS]
 have hl:l.length≤9223372036854775807:=by
  simp only[YE_,maxLen,aJ0]at hwo;omega
 clear hwo
 by_cases hl2:l.length<2
 ·have hcl:Bu_ e l=l:=by
   match l,hl2 with
   | [],_=>rfl
   | [x],_=>rfl
  exact go0 aj0 aj0 (aj2 hl2 hcl)
 have hl2':¬(l.length:Int)<2:=by omega
 obtain⟨R0,hR0⟩:∃R0,R0=Bu_ e l:=⟨_,rfl⟩;rw[←hR0]
 (refine go1 aj0 aj0 (aj2 hl2 hl2') ?_;intros;refine mk_i ?_)
 refine Ae_ (X:={k:Nat//1≤k∧k≤l.length∧Bu_ e (l.take k)=l.take k}) (fun k=>⟨[(0,.osl 0 0),(1,.fn (.func g) [] []),(5,.int .i64 k.1)],[⟨0,0,.row 92 2 32 (l.map Ad_)⟩]⟩) (fun k=>l.length-k.1) ⟨1,by
  obtain⟨x,t,rfl⟩:∃x t,l=x::t:=by
   cases l with
   | nil=>simp at hl2
   | cons x t=>exact⟨x,t,rfl⟩
  simp[Bu_,BN_]⟩ (Sub.lit (by simp)) ?_
 rintro⟨k,hk1,hk,hck⟩
 by_cases hlt:k<l.length
 ·obtain⟨q,hq,hq',hqm⟩:=Ak_ hlt;obtain⟨p,hp,hp',hpm⟩:=Ak_ (show k-1<l.length by omega);have hpq:=he q hqm p hpm;simp only[Ad_]at hpq;have hwr:IntKind.i64.wrap ((k:Int)-1)=(k:Int)-1:=wq;have hk0:((k:Int)-1).toNat=k-1:=by omega
  have hs:=GQ_ (e:=e) (by omega) hp hq;have hb1:(0:Int)≤(k:Int)-1:=by omega
  have hb2:(k:Int)-1<l.length:=by omega
  cases hepq:e q p
  ·rw[hepq]at hpq hs;simp only[aL0,if_false]at hs
   (refine go1 (aj1 hpq) aj0 (aj10 @Ad_.eq_1 hlt hq' hp' hp hq hk0 hwr hb1 hb2) ?_;intros;refine mk_i ?_)
   refine Aj_.mk ⟨k+1,by omega,by omega,by rw[hs,hck,bF0,hq];rfl⟩ (Sub.lit (by simp)) (by simp;omega)
   skip
  ·rw[hepq]at hpq hs;simp only[if_true,bM0]at hs
   (refine go1 (aj1 hpq) aj0 (aj10 @Ad_.eq_1 hlt hq' hp' hp hq hk0 hwr hb1 hb2) ?_;intros;refine mk_i ?_)
   clear hwr hk0 hb1 hb2
   refine Ae_ (X:={x:Nat×Nat×List Prod//1≤x.1∧k+x.1≤l.length∧x.2.1<k+x.1∧k≤x.2.1∧x.2.2.length=l.length∧x.2.2.take x.2.1=Bu_ e (l.take (k+x.1))∧∀j,k+x.1≤j+1→x.2.2[j]? =l[j]?}) (fun x=>⟨[(0,.osl 0 0),(1,.fn (.func g) [] []),(5,.int .i64 x.1.2.1),(6,.vw 0 0 2 32 k (l.length-k)),(7,.int .i64 x.1.1)],[⟨0,0,.row 92 2 32 (x.1.2.2.map Ad_)⟩]⟩) (fun x=>l.length-x.1.1)
    ⟨(1,k,l),show 1≤1∧k+1≤l.length∧k<k+1∧k≤k∧l.length=l.length∧l.take k=Bu_ e (l.take (k+1))∧(∀j,k+1≤j+1→l[j]? =l[j]?) from ⟨by omega,by omega,by omega,by omega,rfl,by rw[hs,hck],fun _ _=>rfl⟩⟩ (Sub.lit (by simp)) ?_
   rintro⟨⟨m,kk,R⟩,x1,x2,x3,x4,x5,x6,x7⟩;simp only at x1 x2 x3 x4 x5 x6 x7 ⊢;have hv:k+(l.length-k)≤l.length:=by omega
   by_cases hm:m<l.length-k
   ·obtain⟨y,hy,hy',hym⟩:=Ak_ (show k+m<l.length by omega);obtain⟨z,hz,hz',hzm⟩:=Ak_ (show k+m-1<l.length by omega);obtain⟨c0,hc0,_,_⟩:=Ak_ (show kk<R.length by omega);have hRy:R[k+m]? =some y:=by rw[x7 _ (by omega)];exact hy
    have hRz:R[k+(m-1)]? =some z:=by rw[x7 _ (by omega),show k+(m-1)=k+m-1 by omega];exact hz
    have hRy':R[k+m]'(by omega)=y:=(aB0.1 hRy).2;have hRz':R[k+(m-1)]'(by omega)=z:=(aB0.1 hRz).2;have hyz:=he y hym z hzm;simp only[Ad_]at hyz;have hwr:IntKind.i64.wrap ((m:Int)-1)=(m:Int)-1:=wq;have hk0:((m:Int)-1).toNat=m-1:=by omega
    have hb1:(0:Int)≤(m:Int)-1:=by omega
    have hb2:(m:Int)-1<((l.length-k:Nat):Int):=by omega
    have hs2:=GQ_ (e:=e) (by omega) hz hy;rw[←x6]at hs2;have hkk:kk<l.length:=by omega
    cases heyz:e y z
    ·rw[heyz]at hyz hs2;simp only[aL0,if_false]at hs2
     (refine go1 (aj1 hyz) aj0 (aj14 @Ad_.eq_1 hm hRy hRz hRy' hRz' hk0 hwr hb1 hb2 x5 hv hc0 hkk) ?_;intros;refine mk_i ?_)
     refine Aj_.mk ⟨(m+1,kk+1,R.set kk y),show 1≤m+1∧k+(m+1)≤l.length∧kk+1<k+(m+1)∧k≤kk+1∧(R.set kk y).length=l.length∧(R.set kk y).take (kk+1)=Bu_ e (l.take (k+(m+1)))∧(∀j,k+(m+1)≤j+1→(R.set kk y)[j]? =l[j]?) from ⟨by omega,by omega,by omega,by omega,by simp[x5],?_,fun j hj=> ?_⟩⟩ (Sub.lit ?_) (by simp;omega)
     ·rw[show k+(m+1)=k+m+1 by omega,hs2,bF0,fH0 (by omega),List.take_set_of_le (by omega)];rfl
     ·rw[List.getElem?_set_ne (by omega)];exact x7 j (by omega)
     ·have hm0:mxR ((R.map Ad_).set kk [.int .i64 y.head,AR_ y.body])=0:=by
       rw[show (R.map Ad_).set kk [.int .i64 y.head,AR_ y.body]=(R.set kk y).map Ad_ by simp[eI0,Ad_]];exact mx_dProds _
      simp[eI0,Ad_,hm0]
     skip
    ·rw[heyz]at hyz hs2;simp only[if_true,bM0]at hs2
     (refine go1 (aj1 hyz) aj0 (aj14 @Ad_.eq_1 hm hRy hRz hRy' hRz' hk0 hwr hb1 hb2 x5 hv hc0 hkk) ?_;intros;refine mk_i ?_)
     refine Aj_.mk ⟨(m+1,kk,R),show 1≤m+1∧k+(m+1)≤l.length∧kk<k+(m+1)∧k≤kk∧R.length=l.length∧R.take kk=Bu_ e (l.take (k+(m+1)))∧(∀j,k+(m+1)≤j+1→R[j]? =l[j]?) from ⟨by omega,by omega,by omega,by omega,x5,by rw[show k+(m+1)=k+m+1 by omega,hs2],fun j hj=>x7 j (by omega)⟩⟩ (Sub.lit (by simp)) (by simp;omega)
     skip
   ·have hkm:k+m=l.length:=by omega
    have hcl1:(CM_ (R.map Ad_) kk (l.length-kk) [.int .i64 0,.nilsl]).length=l.length:=by simp[CM_];omega
    have hcl2:(CM_ (R.map Ad_) kk (l.length-kk) [.int .i64 0,.nilsl]).take kk=R0.map Ad_:=by
     have e1:l.take (k+m)=l:=by rw[hkm,aQ0]
     rw[e1]at x6;rw[hR0,←x6];simp only[CM_];rw[aU0,eQ0 (by simp;omega),List.take_take,Nat.min_self,eR0]
    have hkl:kk≤l.length:=by omega
    (repeat (first | refine Aw_ fun K hK=> ?_ | (refine DW_r GX_ mxd (by kernel_rfl) ?_;simp[GX_,hnt,hm,x5,hv,hcl1,hcl2,hkl];try simp (disch:=omega) only[Ah_]) | refine Al_ ?_ | (refine AJ_ ?_ ?_ ?_;(· (simp[hnt,hm,x5,hv,hcl1,hcl2,hkl];done));(try (rotate_left;(· (intro hc;(try simp[hnt,hm,x5,hv,hcl1,hcl2,hkl]at hc);done))))) | (refine Ay_ ?_;simp[Tryz.results124,hnt,hm,x5,hv,hcl1,hcl2,hkl]) | ((first | refine Aq_ ?_ | refine Ap_ ?_);simp[hnt,hm,x5,hv,hcl1,hcl2,hkl]) | (intro hc;(try simp[hnt,hm,x5,hv,hcl1,hcl2,hkl]at hc);(try (exfalso;omega))) | ((first | refine Ag_ (hyz) ?_ | (refine Af_ (hyz) ?_ ?_;(· (simp;done))));try simp[hnt,hm,x5,hv,hcl1,hcl2,hkl]) | (refine⟨?_,?_⟩; · omega) | omega | apply_assumption -exfalso -symm | (exfalso;omega)))
 ·have hkk:k=l.length:=by omega
  subst hkk;rw[aQ0]at hck;rw[hck]at hR0
  (repeat (first | refine Aw_ fun K hK=> ?_ | (refine DW_r GX_ mxd (by kernel_rfl) ?_;simp[GX_,hnt,hR0];try simp (disch:=omega) only[Ah_]) | refine Al_ ?_ | (refine AJ_ ?_ ?_ ?_;(· (simp[hnt,hR0];done));(try (rotate_left;(· (intro hc;(try simp[hnt,hR0]at hc);done))))) | (refine Ay_ ?_;simp[Tryz.results124,hnt,hR0]) | ((first | refine Aq_ ?_ | refine Ap_ ?_);simp[hnt,hR0]) | (intro hc;(try simp[hnt,hR0]at hc);(try (exfalso;omega))) | ((first | refine Ag_ (hyz) ?_ | (refine Af_ (hyz) ?_ ?_;(· (simp;done))));try simp[hnt,hR0]) | (refine⟨?_,?_⟩; · omega) | omega | apply_assumption -exfalso -symm | (exfalso;omega)))
end Go.Proofs.YtchgnpnbcjflcaaGreat
end
section
namespace Go.Proofs.YtchgnpnbcjflcaaGreat
open Go Go.Dm
variable [DMode]
attribute [local irreducible] DW Bj_ Bp_
def Xe_ : Ann:=⟨[],[]⟩
def Ha_ : Ann:=⟨[5],[]⟩
set_option maxRecDepth 100000 in
theorem NY_ (l:List Sym):Ac_ Tryz.prog 194 [AR_ l] (AR_ l):=by
 match l with
 | [] =>
  refine Qv_ [] ?_ ?_
  ·refine Aa_ [7] Xe_ Tryz.func194 Tryz.call194 Tryz.ntmps194 mxd (aj2 @Xe_.eq_1 Tryz.results194) rfl (by simp) (by simp[mx,mxR]) fun hwf B hnt hgAnn=> ?_
   simp only[argS,List.nil_append,AR_,List.map_cons];exact go0 aj0 aj0 aj0
  ·refine Aa_ [7,5] Ha_ Tryz.func194 Tryz.call194 Tryz.ntmps194 mxd (aj2 @Ha_.eq_1 Tryz.results194) rfl (by simp) (by simp[mx,mxR]) fun hwf B hnt hgAnn=> ?_
   simp only[argS,List.nil_append,AR_,List.map_cons];exact go0 aj0 aj0 aj0
 | s::l =>
  refine Aa_ [7,5] Ha_ Tryz.func194 Tryz.call194 Tryz.ntmps194 mxd (aj2 @Ha_.eq_1 Tryz.results194) rfl (by simp) (by simp[mx,mxR]) fun hwf B hnt hgAnn=> ?_
  have hw:YG_ (s::l):=QA_ hwf.1;obtain⟨hw1,hw2,hw3⟩:=hw;clear hwf;simp at hw1 hw2;clear hw3;simp only[argS,List.nil_append,AR_,List.map_cons];exact go0 aj0 aj0 aj0

end Go.Proofs.YtchgnpnbcjflcaaGreat
end
section
namespace Go.Proofs.YtchgnpnbcjflcaaGreat
open Go Go.Dm
variable [DMode]
attribute [local irreducible] DW Bj_ Bp_
set_option maxRecDepth 100000
theorem Oz_ (l:List Prod):AM_ Tryz.prog (.func 122) [.osl 0 0,.fn (.func 123) [] []] [⟨0,0,.row 92 2 32 (l.map Ad_)⟩] (.tup []) [⟨0,0,.row 92 2 32 ((ER_ AX_ l).map Ad_)⟩]:=by
 have hmem:∀x∈l.map Ad_,∃p∈l,x=Ad_ p:=fun x hx=>by
  obtain⟨p,hp,rfl⟩:=aV0.1 hx;exact⟨p,hp,rfl⟩
 refine QU_ (cf:=fun x y=>AX_ (UJ_ x) (UJ_ y)) Tryz.sortProd (by rfl) Tryz.call122 (by kernel_rfl) (by kernel_rfl) (by decide) rfl ?_ Tryz.call123 ?_ ?_ ?_ ?_ ?_
 ·intro x hx;obtain⟨p,_,rfl⟩:=hmem x hx;simp
 ·intro x hx y hy;obtain⟨p,_,rfl⟩:=hmem x hx;obtain⟨q,_,rfl⟩:=hmem y hy;simp only[UI_];exact @ND_ Ik_ p q
 ·intro x _;rw[Fb_.refl];omega
 ·intro x _ y _ z _;exact Fb_.trans _ _ _
 ·intro x _ y _ z _;exact Fb_.ntrans _ _ _
 ·intro L hp hs;exact QC_ Fb_ UI_ hp hs
def WU_ : Ann:=⟨[],[⟨4,[7],[],[]⟩]⟩
set_option maxHeartbeats 1000000 in
theorem with_own (g:FuncId) (hdo:∀l:List Sym,Ac_ Tryz.prog g [AR_ l] (.tup [])) (c:Cnf):AM_ Tryz.prog (.func 120) [.agg (dCnf c),.fn (.func g) [] []] [] (.agg [.int .i64 c.nts,.osl 0 1]) [⟨0,1,.row 92 2 32 (c.prods.map Ad_)⟩]:=by
 refine AP_ [4,5] [(32,0,1)] WU_ Tryz.func120 Tryz.call120 Tryz.ntmps120 mxd (aj2 @WU_.eq_1 Tryz.results120) rfl (by simp) (by simp) (by simp) fun hwf B hnt hgAnn=> ?_
 have hw:wCnf c:=SY_ (by simpa[wfL,wfD]using hwf.1);obtain⟨hw1,hw2,hw3,hw4⟩:=hw;clear hwf;simp only[argS]
 (refine go1 aj0 aj0 (aj1 @dCnf.eq_1) ?_;intros;refine mk_i ?_)
 refine Bq_ 5 1 32 92 2 32 (by simp) (fun n=> ?_);refine Ae_ (X:={k:Nat//k≤c.prods.length}) (fun k=>⟨[(1,.fn (.func g) [] []),(4,.bx 4 1 0),(5,.bx 5 1 0),(13,Bh_ c.prods),(14,.int .i64 c.prods.length),(15,.int .i64 k.1)],[⟨4,1,.box [.int .i64 0,.nilsl]⟩,⟨5,1,.box [.int .i64 c.nts,.osl 32 1]⟩,⟨32,1,.row 92 2 32 ((c.prods.take k.1).map Ad_)⟩]⟩) (fun k=>c.prods.length-k.1) ⟨0,by simp⟩ (Sub.lit (by simp)) ?_
 rintro⟨k,hk⟩
 by_cases hlt:k<c.prods.length
 ·obtain⟨p,hp,hp',hpm⟩:=Ak_ hlt;obtain⟨hw5,hw6,hw7,hw8⟩:=hw4 p hpm;have htk:(c.prods.map Ad_).take (k+1)=(c.prods.map Ad_).take k++[Ad_ p]:=by rw[bF0,bI0,hp];rfl
  have h1:=NY_ p.body;have h2:=hdo p.body
  (refine go1 (aj2 h1 h2) aj0 (aj4 @dCnf.eq_1 @Ad_.eq_1 hlt hp') ?_;intros;refine mk_i ?_)
  refine Aj_.mk ⟨k+1,by omega⟩ (Sub.lit ?_) (by simp;omega)
  ·simp[htk,Ad_]
  skip
 ·have hkk:k=c.prods.length:=by omega
  subst hkk;exact go0 aj0 aj0 (aj1 @dCnf.eq_1)
def WT_ : Ann:=⟨[],[]⟩
theorem QT_ (l:List Sym):Ac_ Tryz.prog 121 [AR_ l] (.tup []):=by
 refine Aa_ [] WT_ Tryz.func121 Tryz.call121 Tryz.ntmps121 mxd (aj2 @WT_.eq_1 Tryz.results121) rfl (by simp) (by simp[mx]) fun hwf B hnt hgAnn=> ?_
 simp only[argS];exact go0 aj0 aj0 aj0
def Br_ (c:Cnf):Cnf:=⟨c.nts,Bu_ (fun p q=>AX_ p q==0) (ER_ AX_ c.prods)⟩
def Qk_ : Ann:=⟨[5,8,11],[]⟩
set_option maxHeartbeats 1000000 in
theorem Ln_ (c:Cnf):Ac_ Tryz.prog 42 [.agg (dCnf c)] (.agg (dCnf (Br_ c))):=by
 refine Aa_ [] Qk_ Tryz.func42 Tryz.call42 Tryz.ntmps42 mxd (aj2 @Qk_.eq_1 Tryz.results42) rfl (by simp) (by simp[mx]) fun hwf B hnt hgAnn=> ?_
 simp only[argS];have h1:=with_own _ QT_ c;have h2:=Oz_ c.prods;have h3:=Ng_ 125 (fun p q=>AX_ p q==0) (ER_ AX_ c.prods) (fun x _ y _=>same_pure x y)
 (repeat (first | refine Aw_ fun K hK=> ?_ | (refine DW_r Qk_ mxd (by kernel_rfl) ?_;simp[Qk_,hnt,dCnf,Br_];try simp (disch:=omega) only[Ah_]) | refine Al_ ?_ | (refine AJ_ ?_ ?_ ?_;(· (simp[hnt,dCnf,Br_];done));(try (rotate_left;(· (intro hc;(try simp[hnt,dCnf,Br_]at hc);done))))) | (refine Ay_ ?_;simp[Tryz.results42,hnt,dCnf,Br_]) | ((first | refine Aq_ ?_ | refine Ap_ ?_);simp[hnt,dCnf,Br_]) | (intro hc;(try simp[hnt,dCnf,Br_]at hc);(try (exfalso;omega))) | (refine Az_ [] [(50,0)] (h1) ?_ ?_;(· (simp[hnt,dCnf,Br_];done));(intro _;try simp[hnt,dCnf,Br_])) | (refine Az_ [(50,0)] [] (h2) ?_ ?_;(· (simp[hnt,dCnf,Br_];done));(intro _;try simp[hnt,dCnf,Br_])) | (refine Az_ [(50,0)] [] (h3) ?_ ?_;(· (simp[hnt,dCnf,Br_];done));(intro _;try simp[hnt,dCnf,Br_])) | (refine⟨?_,?_⟩; · omega) | omega | apply_assumption -exfalso -symm | (exfalso;omega)))
end Go.Proofs.YtchgnpnbcjflcaaGreat
end
section
namespace Go.Proofs.YtchgnpnbcjflcaaGreat
open Go Go.Dm
variable [DMode]
def cntN (xs:List Auto) (q:Nat):Nat:=((List.range q).filter fun p=>decide (¬p∈stL xs)).length
theorem Sv_ (xs:List Auto):cntN xs 0=0:=rfl
theorem IW_ (xs:List Auto) (q:Nat):cntN xs (q+1)=cntN xs q+(if q∈stL xs then 0 else 1):=by
 unfold cntN;rw[eA0,dB0,aC0]
 by_cases h:q∈stL xs<;>simp[h]
theorem Ui_ (xs:List Auto) (q:Nat):cntN xs q≤q:=by
 unfold cntN;have:=cI0 (fun p=>decide (¬p∈stL xs)) (List.range q);rw[eN0]at this;exact this
def ownQ (xs:List Auto) (q:Nat):Nat:=if q∈stL xs then (ntL xs).getD q 0 else xs.length+cntN xs q
def ownR (xs:List Auto) (k:Nat):List Nat:=(List.range k).map (ownQ xs)++List.replicate (sumS xs-k) 0
theorem Vj_ (xs:List Auto) {k:Nat} (h:k≤sumS xs):(ownR xs k).length=sumS xs:=by
 unfold ownR;rw[aC0,aJ0,eN0,cZ0];omega
theorem ownR_set (xs:List Auto) {k:Nat} (h:k<sumS xs):(ownR xs k).set k (ownQ xs k)=ownR xs (k+1):=by
 unfold ownR;rw[List.set_append,if_neg (by simp),aJ0,eN0,dT0,show sumS xs-k=(sumS xs-(k+1))+1 by omega,List.replicate_succ,eK0,eA0,aX0,aU0];rfl
theorem ownR_at (xs:List Auto) {q:Nat} (h:q<sumS xs):(ownR xs (sumS xs))[q]? =some (ownQ xs q):=by
 unfold ownR;rw[dT0,List.replicate_zero,bM0,bI0,eT0 h];rfl
theorem st_nt : ∀(xs:List Auto) (f b j q:Nat),(∀a∈xs,1≤a.st)→((parA f xs).map (·.2))[j]? =some q→f≤q∧((xs.zipIdx b).flatMap fun p=>List.replicate p.1.st.toNat p.2)[q-f]? =some (b+j)
 | [],f,b,j,q,_,h=>by simp[parA]at h
 | a::xs,f,b,0,q,hst,h=>by
  have h4:=hst a aF0;rw[parA]at h;simp at h;subst h;rw[fF0,cM0,dT0];refine⟨Nat.le_refl _,?_⟩;rw[bB0 (by rw[cZ0];simp only;omega),eL0,if_pos (by simp only;omega)];rfl
 | a::xs,f,b,j+1,q,hst,h=>by
  have h4:=hst a aF0;rw[parA,List.map_cons,bJ0]at h;obtain⟨h1,h2⟩:=st_nt xs (f+a.st.toNat) (b+1) j q (fun x hx=>hst x (aD0 _ hx)) h;rw[fF0,cM0];refine⟨by omega,?_⟩;rw[bC0 (by rw[cZ0];simp only;omega),cZ0];simp only;rw[fA0,h2]
  congr 1
  omega
theorem start_iff {xs:List Auto} (hst:∀a∈xs,1≤a.st) {q k:Nat} (hk:(ntL xs)[q]? =some k):atI (stL xs) k=q↔q∈stL xs:=by
 constructor
 ·intro h
  cases hx:(stL xs)[k]? with
  | none =>
   rw[MF_ (by have:=List.getElem?_eq_none_iff.1 hx;omega)]at h;omega
  | some x =>
   rw[SG_ hx]at h;have:x=q:=by omega
   rw[←this];exact bL0 hx
 ·intro h;obtain⟨j,hj,he⟩:=bN0 h;have hj2:(stL xs)[j]? =some q:=by rw[aH0 hj,he]
  have h1:=(st_nt xs 0 0 j q hst hj2).2;rw[eH0,bT0]at h1;have h2:(ntL xs)[q]? =some j:=h1;rw[hk]at h2;simp only[aA0]at h2;subst h2;exact SG_ hj2
theorem nt_le : ∀(xs:List Auto) (b:Nat),∀k∈(xs.zipIdx b).flatMap (fun p=>List.replicate p.1.st.toNat p.2),k<b+xs.length
 | [],b,k,h=>by simp at h
 | a::xs,b,k,h=>by
  rw[fF0,cM0,aI0]at h;rw[List.length_cons]
  rcases h with h | h
  ·have:=List.eq_of_mem_replicate h;simp only at this;omega
  ·have:=nt_le xs (b+1) k h;omega
theorem nt_lt {xs:List Auto} {q k:Nat} (h:(ntL xs)[q]? =some k):k<xs.length:=by
 have:=nt_le xs 0 k (bL0 h);omega
theorem TA_ {xs:List Auto} {q k:Nat} (h:q∈stL xs) (hk:(ntL xs)[q]? =some k):ownQ xs q=k:=by
 unfold ownQ;rw[if_pos h,bG0,hk];rfl
theorem OR_ {xs:List Auto} {q:Nat} (h:¬q∈stL xs):ownQ xs q=xs.length+cntN xs q:=by unfold ownQ;rw[if_neg h]
theorem OQ_ : ∀{xs:List Auto} {f:Nat} {p:Auto×Nat},p∈parA f xs→p.2+p.1.st.toNat≤f+sumS xs
 | [],_,_,h=>by simp[parA]at h
 | a::xs,f,p,h=>by
  have h3:sumS (a::xs)=a.st.toNat+sumS xs:=by simp[sumS]
  rw[parA]at h
  rcases aK0.1 h with rfl | h
  ·simp only;omega
  ·have:=OQ_ h;omega
def pF (xs:List Auto) (q:Int):Prod:=⟨(ownQ xs q.toNat:Int),[]⟩
def pA (xs:List Auto) (x:Arc):Prod:=⟨(ownQ xs x.fr.toNat:Int),[x.sy,⟨false,(ownQ xs x.to.toNat:Int)⟩]⟩
def cnfM (xs:List Auto):Cnf:=⟨((xs.length+cntN xs (sumS xs):Nat):Int),(finA xs).map (pF xs)++(arcA xs).map (pA xs)⟩
end Go.Proofs.YtchgnpnbcjflcaaGreat
end
section
namespace Go.Dm
variable [DMode]
theorem wkA_len : ∀{a b:List DVal},wkA a b→a.length=b.length
 | [],[],_=>rfl
 | [],_::_,h=>h.elim
 | _::_,[],h=>h.elim
 | _::a,_::b,h=>by simp[wkA_len h.2]
def Ez_ : List (List DVal)→List (List DVal)→Prop
 | [],[]=>True
 | a::r,b::t=>wkA a b∧Ez_ r t
 | _,_=>False
theorem Lh_ : ∀(a:List (List DVal)),Ez_ a a
 | []=>trivial
 | d::a=>⟨Kp_ d,Lh_ a⟩
theorem Np_ : ∀{a a' b b':List (List DVal)},Ez_ a a'→Ez_ b b'→Ez_ (a++b) (a'++b')
 | [],[],_,_,_,h=>h
 | [],_::_,_,_,h,_=>h.elim
 | _::_,[],_,_,h,_=>h.elim
 | _::_,_::_,_,_,h,k=>⟨h.1,Np_ h.2 k⟩
theorem No_ : ∀{a b:List (List DVal)},Ez_ a b→a.length=b.length
 | [],[],_=>rfl
 | [],_::_,h=>h.elim
 | _::_,[],h=>h.elim
 | _::a,_::b,h=>by simp[No_ h.2]
theorem rdC_wkA {cur:Cur} {M:List Nat} {h:Array Obj}:∀{a b:List DVal} {arr:Array Value} {o:Nat},wkA a b→rdC cur M h a arr o→rdC cur M h b arr o
 | [],[],_,_,_,hr=>hr
 | [],_::_,_,_,hw,_=>hw.elim
 | _::_,[],_,_,hw,_=>hw.elim
 | d::a,e::b,arr,o,hw,hr=>by
  simp only[rdC]at hr ⊢;obtain⟨⟨v,h1,h2,h3⟩,h4⟩:=hr;exact⟨⟨v,h1,h2,rd_wk hw.1 h3⟩,rdC_wkA hw.2 h4⟩
theorem NB_ {cur:Cur} {M:List Nat} {h:Array Obj} {k:Nat}:∀{a b:List (List DVal)} {arr:Array Value} {o:Nat},Ez_ a b→rdR cur M h k a arr o→rdR cur M h k b arr o
 | [],[],_,_,_,hr=>hr
 | [],_::_,_,_,hw,_=>hw.elim
 | _::_,[],_,_,hw,_=>hw.elim
 | d::a,e::b,arr,o,hw,hr=>by
  simp only[rdR]at hr ⊢;obtain⟨h1,h2,h3⟩:=hr;exact⟨by rw[←h1,wkA_len hw.1],rdC_wkA hw.1 h2,NB_ hw.2 h3⟩
def putR (es':List (List DVal)):DObj→DObj
 | .row et k bs _=> .row et k bs es'
 | o=>o
def rowE (id:Nat) (es':List (List DVal)):List Ent→List Ent
 | []=>[]
 | e::t=>(if e.id=id then ⟨e.id,e.r,putR es' e.obj⟩else e)::rowE id es' t
attribute [simp] putR rowE
theorem UU_ (id:Nat) (es':List (List DVal)):∀own:List Ent,(rowE id es' own).map (·.id)=own.map (·.id)
 | []=>rfl
 | e::t=>by simp only[rowE,List.map_cons,UU_ id es' t];split<;>rfl
theorem De_ (id:Nat) (es':List (List DVal)) (loc:Nat→Loc):∀own:List Ent,Ab_ (rowE id es' own) loc=Ab_ own loc
 | []=>rfl
 | e::t=>by
  have:=De_ id es' loc t;simp only[Ab_,rowE,cM0]at this ⊢;rw[this];split<;>rfl
theorem Iv_ {id:Nat} {es':List (List DVal)}:∀{own:List Ent} {x:Ent},x∈rowE id es' own→∃e∈own,e.id=x.id∧e.r=x.r∧((e.id≠id∧x=e)∨(e.id=id∧x.obj=putR es' e.obj))
 | [],_,h=>by simp[rowE]at h
 | e::t,x,h=>by
  simp only[rowE,aK0]at h
  rcases h with h | h
  ·refine⟨e,aF0,?_⟩
   split at h
   ·rename_i he;subst h;exact⟨rfl,rfl,.inr ⟨he,rfl⟩⟩
   ·rename_i he;subst h;exact⟨rfl,rfl,.inl ⟨he,rfl⟩⟩
  ·obtain⟨e',h1,h2⟩:=Iv_ h;exact⟨e',aD0 _ h1,h2⟩
theorem OC_ (id:Nat) (es':List (List DVal)) (loc:Nat→Loc) (own:List Ent):Ai_ (rowE id es' own) loc=Ai_ own loc:=by
 funext i r
 have h:∀own:List Ent,(At_ (rowE id es' own) i).map (·.r)=(At_ own i).map (·.r):=by
  intro own
  induction own with
  | nil=>rfl
  | cons e t ih =>
   simp only[rowE,At_]
   by_cases h1:e.id=id
   ·simp only[h1,if_true]
    by_cases h2:id=i
    ·simp[h2]
    ·simp only[h2,if_false];exact ih
   ·simp only[h1,if_false]
    by_cases h2:e.id=i
    ·simp[h2]
    ·simp only[h2,if_false];exact ih
 have h0:=h own;unfold Ai_;cases ha:At_ (rowE id es' own) i<;>cases hb:At_ own i<;>rw[ha,hb]at h0<;>simp only[eS0,dI0,aA0,reduceCtorEq]at h0 ⊢;rw[h0]
theorem St.rowWk {own:List Ent} {loc:Nat→Loc} {M:List Nat} {h:Array Obj} (S:St own loc M h) (id:Nat) {et k bs:Nat} {es es':List (List DVal)} {e:Ent} (he:At_ own id=some e) (hob:e.obj= .row et k bs es) (hw:Ez_ es es'):St (rowE id es' own) loc M h:=by
 refine⟨by rw[UU_];exact S.nd,by rw[De_];exact S.bl,by rw[De_];exact S.ap,by rw[De_];exact S.lt,?_⟩;intro x hx;simp only[OC_,De_];obtain⟨e',h1,h2,h3,h4⟩:=Iv_ hx;have hk:=S.ok e' h1
 rcases h4 with ⟨_,rfl⟩ | ⟨h4,h5⟩
 ·exact hk
 ·have hee:e'=e:=by
   have:=Bw_ S.nd h1;rw[h4,he]at this;simpa using this.symm
  subst hee;rw[←h2,h5,hob];rw[hob]at hk;simp only[putR];obtain⟨k1,k2⟩:=hk;have hl:=No_ hw;refine⟨by rw[←hl];exact k1,?_⟩
  rcases k2 with ⟨rfl,q2,q3⟩ | ⟨b,arr,cap,q1,q2,q3,q4,q5,q6,q7⟩
  ·refine .inl ⟨?_,q2,q3⟩
   cases es' with
   | nil=>rfl
   | cons x t=>simp at hl
  ·exact .inr ⟨b,arr,cap,q1,by rw[←hl];exact q2,q3,by rw[←hl];exact q4,q5,q6,NB_ hw q7⟩
theorem Sub.rowWk {B:Base} {s:DS} (id:Nat) {et k bs:Nat} {es es':List (List DVal)} {e:Ent} (he:At_ s.own id=some e) (hob:e.obj= .row et k bs es) (hw:Ez_ es es'):Sub B s ⟨s.slots,rowE id es' s.own⟩:=by
 intro a w loc R;refine⟨loc,⟨R.st.rowWk id he hob hw,R.upd,by rw[De_];exact R.new,?_,?_,R.nt,by rw[De_];exact R.df⟩⟩
 ·intro x hx;obtain⟨e',h1,h2,h3,_⟩:=Iv_ hx;rw[←h2,←h3];exact R.ver e' h1
 ·intro i;have:=R.sl i;simp only[OC_,De_];exact this
theorem AM_.rowWk {P:Program} {f:Fn} {args:List DVal} {own own':List Ent} {d:DVal} (h:AM_ P f args own d own') (id:Nat) {et k bs:Nat} {es es':List (List DVal)} {e:Ent} (he:At_ own' id=some e) (hob:e.obj= .row et k bs es) (hw:Ez_ es es'):AM_ P f args own d (rowE id es' own'):=by
 obtain⟨h1,h2,h3⟩:=h;refine⟨fun x hx=> ?_,h2,fun M w loc vs S hr=> ?_⟩
 ·obtain⟨e',g1,g2,g3,_⟩:=Iv_ hx;rw[←g3];exact h1 e' g1
 ·have key:∀(R R':Value→World→Prop),(∀v w',R v w'→R' v w')→HD_ P f vs w R→HD_ P f vs w R':=fun R R' hRR hF=>hF.mono hRR
  refine key _ _ ?_ (h3 M w loc vs S hr);rintro v w' ⟨loc',k1,k2,k3,k4,k5⟩;refine⟨loc',k1.rowWk id he hob hw,k2,by rw[De_];exact k3,?_,by rw[OC_,De_];exact k5⟩;intro x hx hr1;obtain⟨e',g1,g2,g3,_⟩:=Iv_ hx;rw[←g2,←g3];exact k4 e' g1 (by omega)
theorem DW_rowWk {P:Program} {B:Base} {Q:Exit→DS→Prop} {s:DS} {x:Code} (id:Nat) {et k bs:Nat} {es es':List (List DVal)} {e:Ent} (he:At_ s.own id=some e) (hob:e.obj= .row et k bs es) (hw:Ez_ es es') (h:DW P B x Q ⟨s.slots,rowE id es' s.own⟩):DW P B x Q s :=
 EP_ (Sub.rowWk id he hob hw) h
end Go.Dm
end
