/- Parts of a proof, laid together: BO1, BO2, BO5, BO3, EnFl, BO4, BO6, BO8, BX1, EnSu, BO9, BY0, BP0, BY1, RB1, RB2, RB3, RB4, RB5, RB6, BP1, RB7, RB8, BX4, BX6, RB9, BX2, RB10, RS0, RS1. -/
import Derived.Test.YtchgnpnbcjflcaaGreatqCs4
import Derived.Test.YtchgnpnbcjflcaaGreatqCs5
import Derived.Test.YtchgnpnbcjflcaaGreatqCs6
import Derived.Test.YtchgnpnbcjflcaaGreatqCs7
import Derived.Test.YtchgnpnbcjflcaaGreatqCs8
set_option linter.unusedSimpArgs false
set_option linter.unusedVariables false
set_option linter.unusedSectionVars false
section
namespace Go.Proofs.YtchgnpnbcjflcaaGreat
open Go Go.Dm Go.Shelf
variable [DMode]
attribute [local irreducible] DW AV_ AZ_
set_option maxRecDepth 100000
def catL (ls:List (List Nat)):List Nat:=ls.flatten
def totL (ls:List (List Nat)):Nat:=(catL ls).length
theorem Sd_ (ls:List (List Nat)) (l:List Nat):catL (ls++[l])=catL ls++l:=by simp[catL]
theorem Wd_ : catL []=[]:=rfl
theorem Qi_ (ls:List (List Nat)) (l:List Nat):totL (ls++[l])=totL ls+l.length:=by unfold totL;rw[Sd_,aD0]
def rowN (l:List Nat):List DVal:=[Ei_ l]
@[simp] theorem mx_rowN (l:List Nat):mxL (rowN l)=0:=by simp[rowN,mxL,mx]
@[simp] theorem mx_rowNs (l:List (List Nat)):mxR (l.map rowN)=0:=mxR0 _ mx_rowN l
def GB_ : Ann:=⟨[5],[]⟩
set_option maxHeartbeats 1000000 in
theorem Jy_ (l:List Nat) (hl:l.length*8≤140737488355328):AL_ Tryz.prog (.func 192) [Ei_ l] [] (.osl 0 1) [⟨0,1,.row 3 1 8 (l.map natD)⟩]:=by
 match l,hl with
 | [],_ =>
  refine PV_ ?_ ?_
  ·refine FV_ ?_;refine Aa_ [] GB_ Tryz.func192 Tryz.call192 Tryz.ntmps192 mxd (aj2 @GB_.eq_1 Tryz.results192) rfl (by simp) (by simp[mx]) fun hwf B hnt hgAnn=> ?_
   simp only[argS];exact go0 aj0 aj0 aj0
  ·refine AR_ [] [(5,0,1)] GB_ Tryz.func192 Tryz.call192 Tryz.ntmps192 mxd (aj2 @GB_.eq_1 Tryz.results192) rfl (by simp) (by simp) (by simp) fun hwf B hnt hgAnn=> ?_
   simp only[argS,List.nil_append];exact go0 aj0 aj0 aj0
 | x::l,hl =>
  refine AR_ [] [(5,0,1)] GB_ Tryz.func192 Tryz.call192 Tryz.ntmps192 mxd (aj2 @GB_.eq_1 Tryz.results192) rfl (by simp) (by simp) (by simp) fun hwf B hnt hgAnn=> ?_
  simp only[List.length_cons]at hl;have hl2:(l.length+1)*8≤150000000000000:=by omega
  have hl3:l.length<9223372036854775807:=by omega
  simp only[argS,List.nil_append,List.map_cons,Ei_,natD];exact go0 aj0 aj0 aj0
theorem Zf_ (n:Nat) (hn:n*8≤140737488355328):AL_ Tryz.prog (.func 265) [.nilsl,.int .i64 n] [] (.osl 0 1) [⟨0,1,.row 3 1 8 []⟩] :=
 Zg_ Tryz.growI rfl Tryz.call265 rfl (hi0:=(rfl:Tryz.prog.info? 3=some _)) (z:= .int .i64 0) rfl rfl rfl rfl (by decide) n hn
theorem Oa_ (l:List Int):AL_ Tryz.prog (.func 110) [.osl 0 0] [⟨0,0,.row 3 1 8 (l.map dNum)⟩] (.tup []) [⟨0,0,.row 3 1 8 ((JI_ l).map dNum)⟩] :=
 Qz_ Tryz.sortInt rfl Tryz.call110 (by decide) l
def XN_ : Ann:=⟨[24],[]⟩
set_option maxHeartbeats 1000000 in
theorem MG_ (ls:List (List Nat)) (hb:totL ls*8≤140737488355328):AL_ Tryz.prog (.func 185) [.sl 1 24 (ls.map rowN)] [] (.osl 0 1) [⟨0,1,.row 3 1 8 ((catL ls).map natD)⟩]:=by
 refine AR_ [] [(24,0,1)] XN_ Tryz.func185 Tryz.call185 Tryz.ntmps185 mxd (aj2 @XN_.eq_1 Tryz.results185) rfl (by simp) (by simp) (by simp) fun hwf B hnt hgAnn=> ?_
 simp only[argS,List.nil_append]
 have hsum:∀k,k≤ls.length→totL (ls.take k)*8≤140737488355328:=fun k hk=>by
  unfold totL catL at hb ⊢;have h1:ls.flatten.length=(ls.take k).flatten.length+(ls.drop k).flatten.length:=by rw[←aD0,←List.flatten_append,List.take_append_drop]
  omega
 have hwl:ls.length<9223372036854775807:=by
  have h1:=hwf.1;simp only[wfD,aK0]at h1;have h2:=h1.1;unfold maxLen at h2;omega
 clear hwf
 (refine go1 aj0 aj0 aj0 ?_;intros;refine mk_i ?_)
 refine Ad_ (X:={k:Nat//k≤ls.length}) (fun k=>⟨[(0,.sl 1 24 (ls.map rowN)),(3,.int .i64 (totL (ls.take k.1))),(9,.sl 1 24 (ls.map rowN)),(10,.int .i64 ls.length),(11,.int .i64 k.1)],[]⟩) (fun k=>ls.length-k.1) ⟨0,by omega⟩ (Sub.lit (by simp[totL,Wd_])) ?_;rintro⟨k,hk⟩;simp only
 by_cases hlt:k<ls.length
 ·obtain⟨x,hx,hx',hxm⟩:=Aj_ hlt;have hs1:totL (ls.take (k+1))=totL (ls.take k)+x.length:=by rw[Bv_ hx,Qi_]
  have hs2:=hsum (k+1) hlt;obtain⟨m,hm⟩:∃m,m=totL (ls.take k):=⟨_,rfl⟩;rw[hs1,←hm]at hs2;rw[←hm]at hs1 ⊢
  (refine go1 aj0 aj0 (aj4 hlt hx hx' @rowN.eq_1) ?_;intros;refine mk_i ?_)
  refine Ai_.mk ⟨k+1,by omega⟩ (Sub.lit (by simp[hs1])) (by simp;omega)
  skip
 ·have hkk:k=ls.length:=by omega
  subst hkk;rw[aS0];have e1:=Zf_ _ hb
  (refine go1 aj0 (aj1 (spc [] [(24,0)] e1)) aj0 ?_;intros;refine mk_i ?_)
  refine Ad_ (X:={k:Nat//k≤ls.length}) (fun k=>⟨[(6,.osl 24 1),(25,.sl 1 24 (ls.map rowN)),(26,.int .i64 ls.length),(27,.int .i64 k.1)],[⟨24,1,.row 3 1 8 ((catL (ls.take k.1)).map natD)⟩]⟩) (fun k=>ls.length-k.1) ⟨0,by omega⟩ (Sub.lit (by simp[Wd_])) ?_;rintro⟨k,hk⟩;simp only
  by_cases hlt:k<ls.length
  ·obtain⟨x,hx,hx',hxm⟩:=Aj_ hlt;have hs1:(catL (ls.take (k+1))).map natD=(catL (ls.take k)).map natD++x.map natD:=by rw[Bv_ hx,Sd_,aZ0]
   have hs2:=hsum (k+1) hlt;have hs3:totL (ls.take (k+1))=totL (ls.take k)+x.length:=by rw[Bv_ hx,Qi_]
   obtain⟨F,hF⟩:∃F,F=catL (ls.take k):=⟨_,rfl⟩;have hFl:F.length=totL (ls.take k):=by rw[hF];rfl
   rw[hs3,←hFl]at hs2;rw[←hF]at hs1 ⊢;have hs4:(F.length+x.length)*8≤150000000000000:=by omega
   (refine go1 aj0 aj0 (aj5 hlt hx hx' @rowN.eq_1 hs4) ?_;intros;refine mk_i ?_)
   refine Ai_.mk ⟨k+1,by omega⟩ (Sub.lit (by simp[hs1])) (by simp;omega)
   skip
  ·have hkk:k=ls.length:=by omega
   subst hkk;rw[aS0];exact go0 aj0 aj0 aj0
def Dp_ (SF:List Sym) (P:List (Nat×Nat)):List Arc:=P.map (arcJ SF)
theorem arcsJ_nil (SF:List Sym):Dp_ SF []=[]:=rfl
theorem EA_ (SF:List Sym) (P Q:List (Nat×Nat)):Dp_ SF (P++Q)=Dp_ SF P++Dp_ SF Q:=by simp[Dp_]
theorem Iz_ (SF:List Sym) (P:List (Nat×Nat)):(Dp_ SF P).length=P.length:=by simp[Dp_]
def IR_ (x:Nat) (f:List Nat):List (Nat×Nat):=f.map fun q=>(x,q)
theorem YM_ (x:Nat) (f:List Nat) (q:Nat):IR_ x (f++[q])=IR_ x f++[(x,q)]:=by simp[IR_]
theorem pairs_nil (x:Nat):IR_ x []=[]:=rfl
theorem QP_ (x:Nat) (f:List Nat):(IR_ x f).length=f.length:=by simp[IR_]
def dBx (u v:Nat) (S:List Sym) (A:List Arc):List Ent:=[⟨0,0,.box [.osl 1 u,.osl 2 v]⟩,⟨1,u,.row 95 2 16 (S.map dSym)⟩,⟨2,v,.row 97 4 32 (A.map dArc)⟩]
theorem Zb_ (l f:List Nat) (x:Nat):Cv_ (l++[x]) f=Cv_ l f++IR_ x f:=by simp[Cv_,IR_]
theorem Lw_ (l f:List Nat):(Cv_ l f).length=l.length*f.length:=by
 induction l with
 | nil=>simp[Cv_]
 | cons x l ih =>
  have:Cv_ (x::l) f=(f.map fun q=>(x,q))++Cv_ l f:=rfl;rw[this,aD0,ih,aK0,List.length_cons,bT0];omega
theorem sy_at {S SF:List Sym} (hp:S <+: SF) {q:Nat} (h1:1≤q) (h2:q≤S.length):S[q-1]? =some (SF.getD (q-1) ⟨false,0⟩):=by
 obtain⟨R,rfl⟩:=hp;have h:q-1<S.length:=by omega
 rw[bH0,bA0 h,aH0 h];rfl
def Kx_ : Ann:=⟨[],[⟨6,[],[0],[]⟩]⟩
set_option maxHeartbeats 2000000 in
theorem Hl_ (S SF:List Sym) (A:List Arc) (l f:List Nat) (hp:S <+: SF) (hf:∀q∈f,1≤q∧q≤S.length) (hS:S.length<9223372036854775807) (hb:(A.length+l.length*f.length)*32≤150000000000000) :
  AL_ Tryz.prog (.func 107) [.bx 0 0 0,Ei_ l,Ei_ f] (dBx 0 0 S A) (.tup []) (dBx 0 1 S (A++Dp_ SF (Cv_ l f))):=by
 refine AR_ [] [(0,0,0),(1,1,0),(2,2,1)] Kx_ Tryz.func107 Tryz.call107 Tryz.ntmps107 mxd (aj2 @Kx_.eq_1 Tryz.results107) rfl (by simp) (by simp) (by simp[dBx]) fun hwf B hnt hgAnn=> ?_
 have hwl:l.length<9223372036854775807∧f.length<9223372036854775807:=by
  have h1:=hwf;simp only[wfL,wfD,aK0,maxLen]at h1;omega
 clear hwf;simp only[argS]
 (refine go1 aj0 aj0 (aj1 @dBx.eq_1) ?_;intros;refine mk_i ?_)
 refine Ad_ (X:={i:Nat//i≤l.length}) (fun i=>⟨[(0,.bx 0 0 0),(2,Ei_ f),(10,Ei_ l),(11,.int .i64 l.length),(12,.int .i64 i.1)],dBx 0 1 S (A++Dp_ SF (Cv_ (l.take i.1) f))⟩) (fun i=>l.length-i.1) ⟨0,by omega⟩ (Sub.lit (by simp[dBx,joinP_nil,arcsJ_nil])) ?_;rintro⟨i,hi⟩;simp only
 by_cases hlt:i<l.length
 ·obtain⟨x,hx,hx',hxm⟩:=Aj_ hlt;have hjs:=Zb_ (l.take i) f x;rw[←Bv_ hx]at hjs
  have hjl:(Cv_ (l.take (i+1)) f).length≤l.length*f.length:=by
   rw[Lw_];exact aV0 _ (by rw[bB0];omega)
  rw[hjs,aD0,QP_]at hjl;obtain⟨P,hP⟩:∃P,P=Cv_ (l.take i) f:=⟨_,rfl⟩;rw[←hP]at hjl hjs ⊢
  (refine go1 aj0 aj0 (aj5 @dBx.eq_1 hlt hx hx' @natD.eq_1) ?_;intros;refine mk_i ?_)
  refine Ad_ (X:={j:Nat//j≤f.length}) (fun j=>⟨[(0,.bx 0 0 0),(2,Ei_ f),(7,.int .i64 x),(10,Ei_ l),(11,.int .i64 l.length),(12,.int .i64 i),(16,Ei_ f),(17,.int .i64 f.length),(18,.int .i64 j.1)],dBx 0 1 S (A++Dp_ SF (P++IR_ x (f.take j.1)))⟩) (fun j=>f.length-j.1) ⟨0,by omega⟩ (Sub.lit (by simp[dBx,pairs_nil])) ?_;rintro⟨j,hj⟩;simp only
  by_cases hlt2:j<f.length
  ·obtain⟨q,hq,hq',hqm⟩:=Aj_ hlt2;obtain⟨hq1,hq2⟩:=hf q hqm;have hlt3:q-1<S.length:=by omega
   obtain⟨y,hy,hy',hym⟩:=Aj_ hlt3
   have hA:arcJ SF (x,q)=⟨x,y,q⟩:=by
    have hsy:=sy_at hp hq1 hq2;rw[hy]at hsy;simp only[aA0]at hsy;unfold arcJ;rw[←hsy]
   have hts:Dp_ SF (P++IR_ x (f.take (j+1)))=Dp_ SF (P++IR_ x (f.take j))++[⟨x,y,q⟩]:=by rw[Bv_ hq,YM_,←aT0,EA_,←hA];rfl
   have hln:(Dp_ SF (P++IR_ x (f.take j))).length+1≤l.length*f.length:=by rw[Iz_,aD0,QP_,bB0];omega
   obtain⟨Z,hZ⟩:∃Z,Z=Dp_ SF (P++IR_ x (f.take j)):=⟨_,rfl⟩;rw[←hZ]at hts hln ⊢;have hb2:(A.length+Z.length+1)*32≤150000000000000:=by omega
   have hw1:IntKind.i64.wrap ((q:Int)-1)=((q-1:Nat):Int):=by rw[wq];omega
   (repeat (first | refine Ax_ fun K hK=> ?_ | (refine DW_r Kx_ mxd (by kernel_rfl) ?_;simp[Kx_,hnt,dBx,hlt2,hq,hq',natD,hw1,hlt3,hy,hy',dSym];try simp (disch:=omega) only[Ah_]) | refine An_ ?_ | (refine AW_ ?_ ?_ ?_;(· (simp[hnt,dBx,hlt2,hq,hq',natD,hw1,hlt3,hy,hy',dSym];done));(try (rotate_left;(· (intro hc;(try simp[hnt,dBx,hlt2,hq,hq',natD,hw1,hlt3,hy,hy',dSym]at hc);done))))) | (refine AC_ ?_;simp[Tryz.results107,hnt,dBx,hlt2,hq,hq',natD,hw1,hlt3,hy,hy',dSym]) | ((first | refine Ar_ ?_ | refine Aq_ ?_);simp[hnt,dBx,hlt2,hq,hq',natD,hw1,hlt3,hy,hy',dSym]) | (intro hc;(try simp[hnt,dBx,hlt2,hq,hq',natD,hw1,hlt3,hy,hy',dSym]at hc);(try (exfalso;omega))) | (refine⟨?_,?_⟩; · omega) | omega | apply_assumption -exfalso -symm | (exfalso;omega)))
   refine Ai_.mk ⟨j+1,by omega⟩ (Sub.lit (by simp[dBx,hts,dArc])) (by simp;omega)
   skip
  ·have hkk:j=f.length:=by omega
   subst hkk;rw[aS0,←hjs]
   (refine go1 aj0 aj0 (aj1 @dBx.eq_1) ?_;intros;refine mk_i ?_)
   refine Ai_.mk ⟨i+1,by omega⟩ (Sub.lit (by simp[dBx])) (by simp;omega)
   skip
 ·have hkk:i=l.length:=by omega
  subst hkk;rw[aS0];exact go0 aj0 aj0 (aj1 @dBx.eq_1)
end Go.Proofs.YtchgnpnbcjflcaaGreat
end
section
namespace Go.Proofs.YtchgnpnbcjflcaaGreat
open Go Go.Dm
variable [DMode]
theorem EO_ (l m:List Nd):lvs (l++m)=lvs l++lvs m:=by simp[lvs]
theorem Vs_ (x:Nd) (l:List Nd):lvs (x::l)=(if CC_ x=true then [x]else [])++lvs l:=by unfold lvs;rw[List.filter_cons];cases CC_ x<;>rfl
theorem flatL_one (u:RT):Ak_ [u]=flat u:=by rw[Al_,Bp_,bP0]
theorem OK_ {x:Nd} (h:x.k=2∨x.k=3) (l:List Nd):lvs (x::l)=x::lvs l:=by rw[Vs_,if_pos (CB_.2 h)];rfl
theorem Ia_ {x:Nd} (h:¬(x.k=2∨x.k=3)) (l:List Nd):lvs (x::l)=lvs l:=by rw[Vs_,if_neg (fun hh=>h (CB_.1 hh))];rfl
mutual
theorem Ph_ : ∀(t:RT) (a:Nat),(fiT t a).length≤(lvs (flat t)).length
 | .mk x ks,a=>by
  rw[Jv_,AF_]
  split
  ·rename_i h;rw[OK_ h];simp
  ·rename_i h;rw[Ia_ h];exact Pl_ x.k ks (a+1)
theorem Pl_ (k:Int):∀(us:List RT) (a:Nat),(fiL k us a).length≤(lvs (Ak_ us)).length
 | [],a=>by rw[Hp_];simp
 | u::us,a=>by
  have h1:=Ph_ u a;have h2:=Pl_ k us (a+(flat u).length);rw[Ch_,Al_,EO_,aD0,aD0]
  split
  ·simp;omega
  ·omega
end
mutual
theorem OO_ : ∀(t:RT) (a:Nat),(laT t a).length≤(lvs (flat t)).length
 | .mk x ks,a=>by
  rw[If_,AF_]
  split
  ·rename_i h;rw[OK_ h];simp
  ·rename_i h;rw[Ia_ h];exact OR_ x.k ks (a+1)
theorem OR_ (k:Int):∀(us:List RT) (a:Nat),(laL k us a).length≤(lvs (Ak_ us)).length
 | [],a=>by rw[FF_];simp
 | u::us,a=>by
  have h1:=OO_ u a;have h2:=OR_ k us (a+(flat u).length);rw[BJ_,Al_,EO_,aD0]
  split
  ·rw[aD0]
   split
   ·omega
   ·simp;omega
  ·rw[aD0];omega
end
theorem OV_ {l f:List Nat} (h1:l.length≤64) (h2:f.length≤64):l.length*f.length≤4096:=Nat.mul_le_mul h1 h2
mutual
theorem Uh_ : ∀(t:RT) (a:Nat),(lvs (flat t)).length≤64→(arT t a).length+4096≤8192*(flat t).length
 | .mk x ks,a,hM=>by
  rw[IA_,AF_,List.length_cons]
  split
  ·simp;omega
  ·rename_i h;rw[AF_,Ia_ h]at hM;have h1:=Ui_ x.k ks (a+1) [] (by simpa using hM);have h2:=OR_ x.k ks (a+1);have h3:=Pl_ x.k ks (a+1);rw[aD0]
   split
   ·rw[Lw_];have:=OV_ (l:=laL x.k ks (a+1)) (f:=fiL x.k ks (a+1)) (by omega) (by omega);omega
   ·simp;omega
theorem Ui_ (k:Int):∀(us:List RT) (a:Nat) (acc:List Nat),acc.length+(lvs (Ak_ us)).length≤64→(arL k us a acc).length≤8192*(Ak_ us).length
 | [],a,acc,_=>by rw[Hx_];simp
 | u::us,a,acc,hM=>by
  rw[Al_,EO_,aD0]at hM;have h1:=Uh_ u a (by omega);have h2:=Ph_ u a;have h3:=OO_ u a
  have h4:=Ui_ k us (a+(flat u).length) (if k=4 then laT u a++(if empT u=true then acc else [])else []) (by
   split
   ·rw[aD0]
    split
    ·omega
    ·simp;omega
   ·simp;omega)
  rw[Ck_,Al_,aD0,aD0,aD0]
  split
  ·rename_i h5;rw[if_pos h5]at h4;rw[Lw_];have:=OV_ (l:=acc) (f:=fiT u a) (by omega) (by omega);omega
  ·rename_i h5;rw[if_neg h5]at h4;simp only[List.length_nil];omega
end
theorem Rq_ (l f:List Nat) (L:List Nd) (ah:Nat):Cv_ (l.map (num L ah)) (f.map (num L ah))=(Cv_ l f).map (num2 L ah):=by
 induction l with
 | nil=>rfl
 | cons p l ih =>
  have h1:∀(p:Nat) (l f:List Nat),Cv_ (p::l) f=f.map (fun q=>(p,q))++Cv_ l f:=fun _ _ _=>rfl
  rw[List.map_cons,h1,h1,ih,aZ0,bZ0,bZ0];rfl
theorem EF_ {l:List Nd} {a:Nat} {m r:List Nd} (h:l.drop a=m++r):rkN l (a+m.length)=rkN l a+(lvs m).length:=by
 unfold rkN lvs
 have h1:l.take (a+m.length)=l.take a++m:=by
  rw[List.take_add,h,List.take_left'];rfl
 rw[h1,dN0,aD0]
theorem RU_ {l:List Nd} {a:Nat} {m r:List Nd} (h:l.drop a=m++r):l.drop (a+m.length)=r:=by
 rw[←List.drop_drop,h,List.drop_left'];rfl
theorem drop_in {l:List Nd} {a p:Nat} {m r:List Nd} {x:Nd} (h:l.drop a=m++r) (hp:a≤p) (hx:m[p-a]? =some x):l[p]? =some x:=by
 have h1:(l.drop a)[p-a]? =some x:=by
  rw[h,bA0 (aB0.1 hx).1];exact hx
 rw[cX0]at h1
 rwa[show a+(p-a)=p by omega]at h1
theorem lvs_sub {l:List Nd} {a:Nat} {m r:List Nd} (h:l.drop a=m++r):(lvs m).length≤(lvs l).length:=by
 have h1:lvs l=lvs (l.take a)++(lvs m++lvs r):=by rw[←EO_,←h,←EO_,List.take_append_drop]
 rw[h1,aD0,aD0];omega
theorem Vc_ {l m r:List Nd} {a ah q:Nat} (h:l.drop a=m++r) (hq:a≤q) (hx:∃x,m[q-a]? =some x∧(x.k=2∨x.k=3)):1≤num l ah q∧num l ah q≤ah+rkN l (a+m.length):=by
 obtain⟨x,hx,hk⟩:=hx;have h1:=drop_in h hq hx;have h2:=rkN_lt h1 (CB_.2 hk) (show q<a+m.length by have:=(aB0.1 hx).1;omega);unfold num;omega
theorem fi_num {l r:List Nd} {t:RT} {a ah:Nat} (h:l.drop a=flat t++r):∀q∈(fiT t a).map (num l ah),1≤q∧q≤ah+rkN l (a+(flat t).length):=by
 intro q hq;obtain⟨p,hp,rfl⟩:=aU0.1 hq;exact Vc_ h (Jw_ t a p hp).1 (Pi_ t a p hp)
theorem fiL_num {l r:List Nd} {k:Int} {us:List RT} {a ah:Nat} (h:l.drop a=Ak_ us++r):∀q∈(fiL k us a).map (num l ah),1≤q∧q≤ah+rkN l (a+(Ak_ us).length):=by
 intro q hq;obtain⟨p,hp,rfl⟩:=aU0.1 hq;exact Vc_ h (Jx_ k us a p hp).1 (Io_ k us a p hp)
def pE (k:Int) (us:List RT):Bool:=if k=4 then allE us else if k=1 then true else anyE us
theorem Sn_ (ts:List RT) (t:RT):anyE (ts++[t])=(anyE ts||empT t):=by rw[PH_,PH_,List.any_append];simp
theorem pE_nil (k:Int):pE k []=(decide (k=1)||decide (k=4)):=by
 unfold pE;rw[Ec_,show anyE []=false by rw[anyE]]
 by_cases h4:k=4
 ·simp[h4]
 ·by_cases h1:k=1<;>simp[h1,h4]
theorem pE_snoc (k:Int) (us:List RT) (u:RT):pE k (us++[u])=if k=4 then (pE k us&&empT u)else (pE k us||empT u):=by
 unfold pE
 by_cases h4:k=4
 ·rw[if_pos h4,if_pos h4,if_pos h4,Sv_]
 ·rw[if_neg h4,if_neg h4,if_neg h4]
  by_cases h1:k=1
  ·rw[if_pos h1,if_pos h1];rfl
  ·rw[if_neg h1,if_neg h1,Sn_]
theorem pE_all {x:Nd} {ks:List RT} (h:okT (.mk x ks)=true) (hn:¬(x.k=2∨x.k=3)):empT (.mk x ks)=(pE x.k ks||decide (x.k=6)||decide (x.k=8)):=by
 have hm:=(Bx_ h).1;rw[Pp_,if_neg hn];unfold pE
 by_cases h5:x.k=5
 ·simp[h5]
 by_cases h4:x.k=4
 ·simp[h4]
 by_cases h7:x.k=7
 ·obtain⟨u,rfl⟩:=Tl_ h (by omega);rw[h7];simp[Di_,Ec_,anyE]
 by_cases h1:x.k=1
 ·simp[h1]
 by_cases h6:x.k=6
 ·simp[h6]
 by_cases h8:x.k=8
 ·simp[h8]
 exfalso;unfold mayN at hm;rw[if_neg h1,if_neg (fun e=>hn (.inl e)),if_neg (fun e=>hn (.inr e)),if_neg h4,if_neg h5,if_neg h6,if_neg h7,if_neg h8]at hm;simp at hm
end Go.Proofs.YtchgnpnbcjflcaaGreat
end
section
namespace Go.Proofs.YtchgnpnbcjflcaaGreat
open Go Go.Dm Go.Shelf
variable [DMode]
attribute [local irreducible] DW AV_ AZ_
set_option maxRecDepth 100000
abbrev Pq_ (e:Bool) (f l:List Nat):DVal:= .agg [.bool e,Ei_ f,Ei_ l]
theorem catL2 (a b:List Nat):catL [a,b]=a++b:=by simp[catL]
theorem totL2 (a b:List Nat):totL [a,b]=a.length+b.length:=by simp[totL,catL]
theorem DZ_ (a b:List Nat) (hb:(a.length+b.length)*8≤140737488355328):AL_ Tryz.prog (.func 185) [.sl 1 24 [[Ei_ a],[Ei_ b]]] [] (.osl 0 1) [⟨0,1,.row 3 1 8 ((a++b).map natD)⟩]:=by
 have h:=MG_ [a,b] (by rw[totL2];exact hb);rw[catL2]at h;exact h
def XL_ : Ann:=⟨[16,22],[⟨1,[],[],[3,4,5,12,13,14,15,16]⟩]⟩
set_option maxHeartbeats 1000000 in
theorem ZI_ (e e':Bool) (f f' l l':List Nat) (hf:(f.length+f'.length)*8≤140737488355328) (hl:(l.length+l'.length)*8≤140737488355328) :
  Ac_ Tryz.prog 106 [Pq_ e f l,Pq_ e' f' l'] (Pq_ (e||e') (f++f') (l++l')):=by
 refine Aa_ [16,22,4] XL_ Tryz.func106 Tryz.call106 Tryz.ntmps106 mxd (aj2 @XL_.eq_1 Tryz.results106) rfl (by simp) (by simp[mx]) fun hwf B hnt hgAnn=> ?_
 clear hwf;simp only[argS];have e1:=DZ_ f f' hf;have e2:=DZ_ l l' hl;obtain⟨F,hF⟩:∃F,F=f++f':=⟨_,rfl⟩;obtain⟨L,hL⟩:∃L,L=l++l':=⟨_,rfl⟩;rw[←hF]at e1 ⊢;rw[←hL]at e2 ⊢;have hr2:List.range 2=[0,1]:=rfl;cases e
 ·exact go0 aj0 (aj2 (spc [] [(16,0)] e1) (spc [] [(22,0)] e2)) (aj1 hr2)
 ·exact go0 aj0 (aj2 (spc [] [(16,0)] e1) (spc [] [(22,0)] e2)) (aj1 hr2)
def NJ_ : Ann:=⟨[16,22],[⟨1,[],[],[3,4,5,12,13,14,15,16]⟩]⟩
set_option maxHeartbeats 1000000 in
theorem ZH_ (e e':Bool) (f f' l l':List Nat) (hf:(f.length+f'.length)*8≤140737488355328) (hl:(l.length+l'.length)*8≤140737488355328) :
  AL_ Tryz.prog (.func 106) [Pq_ e f l,Pq_ e' f' l'] [] (.agg [.bool (e||e'),Ei_ (f++f'),.osl 0 1]) [⟨0,1,.row 3 1 8 ((l++l').map natD)⟩]:=by
 refine AR_ [16,4] [(22,0,1)] NJ_ Tryz.func106 Tryz.call106 Tryz.ntmps106 mxd (aj2 @NJ_.eq_1 Tryz.results106) rfl (by simp) (by simp) (by simp) fun hwf B hnt hgAnn=> ?_
 clear hwf;simp only[argS,List.nil_append];have e1:=DZ_ f f' hf;have e2:=DZ_ l l' hl;obtain⟨F,hF⟩:∃F,F=f++f':=⟨_,rfl⟩;obtain⟨L,hL⟩:∃L,L=l++l':=⟨_,rfl⟩;rw[←hF]at e1 ⊢;rw[←hL]at e2 ⊢;have hr2:List.range 2=[0,1]:=rfl;cases e
 ·exact go0 aj0 (aj2 (spc [] [(16,0)] e1) (spc [] [(22,0)] e2)) (aj1 hr2)
 ·exact go0 aj0 (aj2 (spc [] [(16,0)] e1) (spc [] [(22,0)] e2)) (aj1 hr2)
def XM_ : Ann:=⟨[],[⟨1,[4],[],[]⟩]⟩
theorem of70_pure (H L:List ByteArray) (x:Nd):Ac_ Tryz.prog 105 [.agg (dNd x),.ref [dTab H L]] (.agg (dSym (symS H L x))):=by
 refine Aa_ [] XM_ Tryz.func105 Tryz.call105 Tryz.ntmps105 mxd (aj2 @XM_.eq_1 Tryz.results105) rfl (by simp) (by simp[mx,dSym]) fun hwf B hnt hgAnn=> ?_
 clear hwf;simp only[argS];have e1:=MT_ H L x;exact go0 (aj1 e1) aj0 (aj2 @dNd.eq_1 @dSym.eq_1)
end Go.Proofs.YtchgnpnbcjflcaaGreat
end
section
namespace Go.Dm
variable [DMode]
theorem wpIn_keep {F:Fence} {n:Nat} {P:Program} {Q:Exit→Act→World→Prop} {o:Oper} {a:Act} {w:World} {K:Act→World→Prop} {t:Nat} {v0:Value} (ht:o.dst≠some t) (h0:a.tmps.getD t Go.undef=v0)
  (hh:o.wpIn F n P a w K Q):o.wpIn F n P a w (fun a' w'=>K a' w'∧a'.tmps.getD t Go.undef=v0) Q:=by
 have key:∀(a:Act) v,a.tmps.getD t Go.undef=v0→(a.put o.dst v).tmps.getD t Go.undef=v0:=by
  intro a v h0;unfold Act.put
  cases hd:o.dst with
  | none=>exact h0
  | some i =>
   have hi:i≠t:=fun e=>ht (by rw[hd,e])
   show (a.tmps.setIfInBounds i v).getD t Go.undef=v0
   rw[aQ0]at h0 ⊢;rw[dR0 hi];exact h0
 unfold Oper.wpIn at *;refine⟨hh.1,?_⟩;have hh:=hh.2
 generalize (o.semAt F.round a.eval).run P w=r at *
 cases r with
 | ok x w' =>
  cases x<;>simp only[Oper.uponIn]at hh ⊢ <;>
   first
    | exact⟨hh,key _ _ h0⟩
    | exact⟨hh,key { a with defers:=_ } _ h0⟩
    | exact⟨hh.1,CallsIn.mono hh.2 (fun e w'' he=>by cases e<;>first | exact⟨he,key _ _ h0⟩ | exact he)⟩
    | exact⟨hh.1,RowsIn.mono hh.2 (fun _ _ he=>⟨he,key _ _ h0⟩)⟩
    | exact⟨hh.1,RoundIn.mono hh.2 (fun e w'' he=>by cases e<;>first | exact⟨he,key _ _ h0⟩ | exact he)⟩
 | halt x w'=>cases x<;>simp only[Oper.uponIn]at hh ⊢ <;>exact hh
section
variable {P : Program} {B : Base} {s : DS}
def Back (B B':Base) (t b:Nat) (cs:List DVal):Prop :=
 B'.nt=B.nt∧B'.N=B.N∧B'.ro=B.ro∧∀s' a' w' loc',Rel B' s' a' w' loc'→a'.tmps.getD t Go.undef= .pointer (some ⟨b,0,none⟩) →
  ∃loc'',Rel B ⟨(t,.bx t (lim B s') 0)::s'.slots,upE s'.own t (lim B s') (.box cs)⟩ a' w' loc''
theorem Rel.hide {X:DS} {a:Act} {w:World} {loc:Nat→Loc} {t ty:Nat} {cs:List DVal} {us:List Value} (R:Rel B X a w loc) (ht:t<B.nt) (hX:getS X.slots t= .any)
  (hus:∀cur M h,rdV cur M h cs us) (hmx:mxL cs=0) (hone:∀u∈us,u.oneCell'=true) :
  ∃B',Back B B' t w.heap.size cs∧Rel B' X (a.put (some t) (.pointer (some ⟨w.heap.size,0,none⟩))) (w.alloc (.cells us.toArray ty)) loc:=by
 have hnb:∀b∈Ab_ X.own loc++B.M0,b<w.heap.size:=R.st.lt;have hsz1:(w.alloc (.cells us.toArray ty)).heap.size=w.heap.size+1:=by show (w.heap.push _).size=_;simp
 have hget:∀b,b<w.heap.size→(w.alloc (.cells us.toArray ty)).heap[b]? =w.heap[b]? :=fun b hb=>by
  show (w.heap.push _)[b]? =_
  rw[bR0,if_neg (by omega)]
 have hU:Upd (Ab_ X.own loc) w (w.alloc (.cells us.toArray ty)):=Upd.alloc _ _ _
 let B':Base:=⟨X.own,loc,w.heap.size::B.M0,B.N,w.alloc (.cells us.toArray ty),B.nt,B.ro,B.hN,B.nd,by have h1:=B.hnd;have h2:=R.upd.size;omega⟩
 have W:Weak (Ae_ X.own loc) (Ae_ X.own loc) (Ab_ X.own loc++B.M0) (Ab_ X.own loc++w.heap.size::B.M0) w.heap (w.alloc (.cells us.toArray ty)).heap (lim B X):=by
  refine⟨fun _ _ _ _ h=>h,fun b o _ _ ho=> ?_,fun b o hb _ ho hm=> ?_⟩
  ·have hlt:=(aG0.1 ho).1;rw[hget b hlt];exact ho
  ·have hlt:=(aG0.1 ho).1
   rcases aI0.1 hm with h | h
   ·exact hb (aM0 _ h)
   ·rcases aJ0.1 h with h | h
    ·omega
    ·exact hb (aO0 _ h)
 have hlm:∀i,mx (getS X.slots i)≤lim B X:=fun i=>Nat.le_trans (OD_ _ i) (by unfold lim;omega)
 refine⟨B',⟨rfl,rfl,rfl,?_⟩,?_⟩
 ·intro s' a' w' loc' R' hv;have hlimE:lim B' s'=lim B s':=rfl;have hbM:w.heap.size∉B.M0:=fun h=>by have:=hnb _ (aO0 _ h);omega
  have hbH:w.heap.size∉Ab_ X.own loc:=fun h=>by have:=hnb _ (aM0 _ h);omega
  have hbS:w.heap.size∉Ab_ s'.own loc':=fun h=>R'.st.ap _ h aE0
  have hcell:w'.heap[w.heap.size]? =some (.cells us.toArray ty (0,0)):=by
   rw[R'.upd.blk w.heap.size (by show _<(w.alloc _).heap.size;omega) hbH];exact heap_alloc_new w _
  have hids:∀e∈upE s'.own t (lim B s') (.box cs),(e=⟨t,lim B s',.box cs⟩)∨(e∈s'.own∧e.id≠t):=fun e he=>by
   rcases aJ0.1 he with h | h
   ·exact .inl h
   ·exact .inr (Bg_.1 h)
  have hhot:∀b∈Ab_ (upE s'.own t (lim B s') (.box cs)) (upL loc' t ⟨[w.heap.size],Go.undef⟩),b=w.heap.size∨b∈Ab_ s'.own loc':=by
   intro b hb;obtain⟨e,he,h1⟩:=bS0.1 hb
   rcases hids e he with rfl | ⟨h2,h3⟩
   ·simp only[upL,if_true,aF0]at h1;exact .inl h1
   ·simp only[upL,if_neg h3]at h1;exact .inr (AN_ h2 h1)
  have W2:Weak (Ae_ s'.own loc') (Ae_ (upE s'.own t (lim B s') (.box cs)) (upL loc' t ⟨[w.heap.size],Go.undef⟩)) (Ab_ s'.own loc'++w.heap.size::B.M0) (Ab_ (upE s'.own t (lim B s') (.box cs)) (upL loc' t ⟨[w.heap.size],Go.undef⟩)++B.M0) w'.heap w'.heap (lim B s'):=by
   refine⟨fun id r l hr hl=> ?_,fun b o _ _ ho=>ho,fun b o hb _ _ hm=> ?_⟩
   ·obtain⟨e,he,rfl,rfl,rfl⟩:=Bi_ hl
    rcases hids e he with rfl | ⟨h2,h3⟩
    ·simp at hr
    ·simp only[upL,if_neg h3];exact Az_ R'.st.nd h2
   ·rcases aI0.1 hm with h | h
    ·rcases hhot b h with rfl | h
     ·exact hb (aO0 _ aE0)
     ·exact hb (aM0 _ h)
    ·exact hb (aO0 _ (aC0 _ h))
  refine⟨upL loc' t ⟨[w.heap.size],Go.undef⟩,⟨?_,?_,?_,?_,?_⟩,?_,?_,?_,?_,R'.nt,?_⟩
  ·simp only[upE,List.map_cons,cQ0];refine⟨fun hm=> ?_,CO_ R'.st.nd⟩;obtain⟨e,he,h1⟩:=aU0.1 hm;exact(Bg_.1 he).2 h1
  ·unfold upE;rw[CW_,Pa_,bU0];simp only[upL,if_true];refine⟨by simp,CE_ R'.st.bl _ (CO_ R'.st.nd) (fun e he=>(Bg_.1 he).1),?_⟩;intro b hb b' hb' hbb;subst hbb;obtain⟨e,he,hne,h1⟩:=OZ_ hb';simp only[aF0]at hb;subst hb;exact hbS (AN_ he h1)
  ·intro b hb hm
   rcases hhot b hb with rfl | h
   ·exact hbM hm
   ·exact R'.st.ap b h (aC0 _ hm)
  ·intro b hb
   rcases aI0.1 hb with h | h
   ·rcases hhot b h with rfl | h
    ·exact(aG0.1 hcell).1
    ·exact R'.st.lt b (aM0 _ h)
   ·exact R'.st.lt b (aO0 _ (aC0 _ h))
  ·intro e he
   rcases hids e he with rfl | ⟨h2,h3⟩
   ·refine⟨w.heap.size,us.toArray,ty,by simp[upL],hcell,by have:=Ap_ _ _ (hus (fun _ _=>none) [] #[]);simpa using this,?_⟩;have:=Fw_ cs us [] [] (hus (Ae_ (upE s'.own t (lim B s') (.box cs)) (upL loc' t ⟨[w.heap.size],Go.undef⟩)) (Ab_ (upE s'.own t (lim B s') (.box cs)) (upL loc' t ⟨[w.heap.size],Go.undef⟩)++B.M0) w'.heap) hone;simpa using this
   ·have hk:=R'.st.ok e h2;have hl:upL loc' t ⟨[w.heap.size],Go.undef⟩ e.id=loc' e.id:=by simp only[upL,if_neg h3]
    rw[hl];refine AM_ W2 ?_ (fun _ _ _ ho=>ho) hk;have:=(AT_ h2).2;unfold lim;omega
  ·exact(R.upd.trans (Upd.alloc [] w _) (by simp)).trans R'.upd (fun x hx=>R.new x hx)
  ·intro b hb
   rcases hhot b hb with rfl | h
   ·exact .inr R.upd.size
   ·rcases R'.new b h with h | h
    ·exact R.new b h
    ·right
     have h1:w.heap.size+1≤b:=by rw[←hsz1];exact h
     have:=R.upd.size;omega
  ·intro e he hlt
   rcases hids e he with rfl | ⟨h2,h3⟩
   ·simp only at hlt;unfold lim at hlt;omega
   ·simp only[upL,if_neg h3];obtain⟨e2,k1,k2,k3,k4⟩:=Bi_ (R'.ver e h2 hlt);have:=R.ver e2 k1 (by omega);rw[k2,k3]at this;rw[this,k4]
  ·intro i;simp only[getS]
   split
   ·rename_i hi;subst hi;simp only[rd];intro l hl;rw[CG_]at hl;simp only[aA0]at hl;subst hl;exact⟨_,rfl,hv⟩
   ·exact BH_ W2 _ _ (Nat.le_trans (OD_ _ i) (by unfold lim;omega)) (R'.sl i)
  ·obtain⟨rs,g1,g2,g3,g4⟩:=R'.df;refine⟨rs,g1,g2,fun r hr=> ?_,g4⟩;obtain⟨k1,k2,k3⟩:=g3 r hr;refine⟨k1,k2,fun hm=>k3 ?_⟩
   rcases aI0.1 hm with h | h
   ·rcases hhot r h with rfl | h
    ·exact aO0 _ aE0
    ·exact aM0 _ h
   ·exact aO0 _ (aC0 _ h)
 ·refine⟨⟨R.st.nd,R.st.bl,?_,?_,?_⟩,Upd.refl _ _,fun b hb=> .inl hb,fun e he _=>Az_ R.st.nd he,?_,by simpa[Act.put]using R.nt,?_⟩
  ·intro b hb hm
   rcases aJ0.1 hm with h | h
   ·have:=hnb b (aM0 _ hb);omega
   ·exact R.st.ap b hb h
  ·intro b hb;rw[hsz1]
   rcases aI0.1 hb with h | h
   ·have:=hnb b (aM0 _ h);omega
   ·rcases aJ0.1 h with h | h
    ·omega
    ·have:=hnb b (aO0 _ h);omega
  ·intro e he;have:=(AT_ he).2;exact AM_ W (by unfold lim;omega) (fun b o _ ho=>by rw[hget b (aG0.1 ho).1];exact ho) (R.st.ok e he)
  ·intro i
   by_cases hi:i=t
   ·subst hi;rw[hX];simp only[rd]
   ·have h1:(a.put (some t) (.pointer (some ⟨w.heap.size,0,none⟩))).tmps.getD i Go.undef=a.tmps.getD i Go.undef:=by
     show (a.tmps.setIfInBounds t _).getD i Go.undef=_
     rw[aQ0,aQ0,dR0 (Ne.symm hi)]
    rw[h1];exact BH_ W _ _ (hlm i) (R.sl i)
  ·refine R.df.keep (B:=B) (M':=Ab_ X.own loc++w.heap.size::B.M0) rfl hU (fun x hx=>aM0 _ hx) fun b hb=> ?_
   rcases aI0.1 hb with h | h
   ·exact .inl (aM0 _ h)
   ·rcases aJ0.1 h with h | h
    ·exact .inr (by omega)
    ·exact .inl (aO0 _ h)
def lastOK (o:Oper) (n:Nat):Bool:=((List.range n).all fun k=>o.after.toList.any fun e=>Region.binds .any e&&e.on==k)&&o.after.toList.all fun e=>decide (e.on<n)
def gdOK (ops:Array Oper):Bool:=ops.toList.all fun o=>match o.guard with | some (j,_)=>decide (j<ops.size) | none=>true
theorem YB_ {a:Act} {w:World} {i t:Nat} {z:List DVal} {type:TypeId} {pos:String} {after:Array Edge} {guard:Option (Nat×Bool)} (hz:tZero P t=some z) (hp:z.all (oneO [])=true) :
  ∃us:List Value,(∀cur M h,rdV cur M h z us)∧mxL z=0∧(∀u∈us,u.oneCell'=true)∧(execOp a.eval ⟨some i,.alloc t,type,pos,after,guard⟩).run P w= .ok (.value (.pointer (some ⟨w.heap.size,0,none⟩))) (w.alloc (.cells us.toArray t)):=by
 obtain⟨zv,hzr,rfl⟩:=FX_ (w:=w) hz
 have hmx:mxL (zv.cells.toList.map ofV1)=0:=by
  have h1:∀v,mx (ofV1 v)=0:=by
   intro v;unfold ofV1
   split<;>(try split)<;>simp[mx]
  generalize zv.cells.toList=l
  induction l with
  | nil=>simp[mxL]
  | cons v l ih =>
   show max (mx (ofV1 v)) (mxL (l.map ofV1))=0
   rw[h1,ih];rfl
 refine⟨zv.cells.toList,fun cur M h=>Be_ _,hmx,?_,?_⟩
 ·exact EK_ (s:=⟨[],[]⟩) (loc:=fun _=>⟨[],Go.undef⟩) (M0:=[]) (w:=w) ⟨by simp,by simp[Ab_],by simp[Ab_],by simp[Ab_],by simp⟩ (zv.cells.toList.map ofV1) zv.cells.toList (aX0.2 fun d hd=>Ou_ (aX0.1 hp d hd)) (Be_ _)
 ·simp[execOp,Instr.alloc,hzr,newVar,newRow]
def kF (P:Program) (B:Base) (Q:DS→Prop) (ow:List Nat) (t:Nat) (cs:List DVal) (o:Oper):Cont :=
 ⟨fun s1=>∀r,CI_ P B.nt ow [] [] #[o] [o] 0 ⟨Q⟩ ⟨(t,.bx t r 0)::s1.slots,upE s1.own t r (.box cs)⟩⟩
theorem kF_f (P:Program) (B:Base) (Q:DS→Prop) (ow:List Nat) (t:Nat) (cs:List DVal) (o:Oper) (s1:DS):(kF P B Q ow t cs o).f s1=∀r,CI_ P B.nt ow [] [] #[o] [o] 0 ⟨Q⟩ ⟨(t,.bx t r 0)::s1.slots,upE s1.own t r (.box cs)⟩:=id rfl
theorem Mr_ (ow l1 l2:List Nat) {id t ty:Nat} {ops ops3:Array Oper} {z o:Oper} {cs:List DVal} {Q:Exit→DS→Prop} (hm:P.follows .mixedOrders=true) (h3:ops3=(ops.push z).push o) (hok:Eh_ ow l1 l2 ops=true)
  (hz:z.op= .alloc ty∧z.dst=some t∧z.guard=none∧z.after= #[]) (ho:o.guard=none∧Bo_ ow o=true) (hlast:lastOK o (ops.size+1)=true) (hgd:gdOK ops=true)
  (ht:t<B.nt) (hdst:ops.toList.all (fun o=>decide (o.dst≠some t))=true) (hsl:getS s.slots t= .any) (hcs:tZero P ty=some cs) (hone:cs.all (oneO [])=true)
  (h:CI_ P B.nt ow l1 l2 ops ops.toList 0 (kF P B (Q .normal) ow t cs o) s):DW P B (.region id ops3 true) Q s:=by
 subst h3;intro a w loc R;refine wpIn_region_any hm ?_;obtain⟨Inv,i1,i2,i3,i4⟩:=MZ_ (N:=B.N) ow l1 l2 hok R.st.nd h;have hdst':∀o∈ops.toList,o.dst≠some t:=fun o ho=>by simpa using aX0.1 hdst o ho
 have spec:=LV_ (by unfold Eh_ at hok;simp only[aL0]at hok;exact hok.1);have hsz3:((ops.push z).push o).size=ops.size+2:=by simp
 have at_lo:∀k,k<ops.size→((ops.push z).push o)[k]? =ops[k]? :=fun k hk=>by
  rw[bR0,if_neg (by simp;omega),bR0,if_neg (by omega)]
 have at_z:((ops.push z).push o)[ops.size]? =some z:=by
  rw[bR0,if_neg (by simp),bR0,if_pos rfl]
 have at_o:((ops.push z).push o)[ops.size+1]? =some o:=by
  rw[bR0,if_pos (by simp)]
 have spec2:(∀k,k<ops.size+1→∃e∈o.after,Region.binds .any e=true∧e.on=k)∧∀e∈o.after,e.on<ops.size+1:=by
  unfold lastOK at hlast;simp only[aL0,aX0,dB0,cF0,beq_iff_eq,decide_eq_true_eq]at hlast;exact⟨fun k hk=>by obtain⟨e,he,h1,h2⟩:=hlast.1 k hk;exact⟨e,by simpa using he,h1,h2⟩,fun e he=>hlast.2 e (by simpa using he)⟩
 let lo:Array Bool→Array Bool:=fun l=>Array.ofFn (n:=ops.size) fun i=>l.getD i.1 false
 have lo_get:∀(l:Array Bool) k d,k<ops.size→(lo l).getD k d=l.getD k false:=by
  intro l k d hk;rw[aQ0];simp[lo,hk]
 have lo_set:∀(l:Array Bool) i,i<ops.size→l.size=ops.size+2→lo (l.setIfInBounds i true)=(lo l).setIfInBounds i true:=by
  intro l i hi hl
  apply Array.ext
  ·simp[lo]
  ·intro j h1 h2;rw[Array.getElem_setIfInBounds (by simpa using h2)];simp only[lo,Array.getElem_ofFn]
   split
   ·rename_i hij;subst hij;rw[aQ0,dX0 (by omega)];rfl
   ·rename_i hij;rw[aQ0,aQ0,dR0 hij]
 have lo_set2:∀(l:Array Bool) i,ops.size≤i→lo (l.setIfInBounds i true)=lo l:=by
  intro l i hi
  apply Array.ext
  ·simp[lo]
  ·intro j h1 h2;simp only[lo,Array.getElem_ofFn];have hj:j<ops.size:=by simpa[lo]using h2
   rw[aQ0,aQ0,dR0 (by omega)]
 have done:∀(fuel:Nat) (listed:Array Bool) (a:Act) (w:World),listed.size=ops.size+2→(∀i,i<ops.size+2→listed.getD i false=true)→QQ B Q .normal a w→wpAnyIn (wd B.ro) 0 P .any ((ops.push z).push o) (QQ B Q) fuel listed a w:=by
  intro fuel listed a w hsz hall hq
  have hr:Region.ready .any ((ops.push z).push o) listed=[]:=by
   rw[List.eq_nil_iff_forall_not_mem];intro i hi;rw[mem_ready]at hi;obtain⟨g0,o',ho',_⟩:=hi;have hlt:i<ops.size+2:=by have:=(aG0.1 ho').1;omega
   have g1:=hall i hlt;have hi':i<listed.size:=by omega
   simp only[aQ0,bW0 hi',bY0]at g0 g1;rw[g0]at g1;simp at g1
  cases fuel with
  | zero=>exact⟨hr,hq⟩
  | succ fuel=>exact⟨fun _=>hq,fun i hi=>by rw[hr]at hi;simp at hi⟩
 have main:∀(fuel:Nat) (listed:Array Bool) (a:Act) (w:World),(List.range (ops.size+2)).countP (fun k=>listed.getD k false)+fuel=ops.size+2→listed.size=ops.size+2→listed.getD (ops.size+1) false=false →
   ((listed.getD ops.size false=false∧Inv B (lo listed) a w)∨(listed.getD ops.size false=true∧∃B' b,Back B B' t b cs∧a.tmps.getD t Go.undef= .pointer (some ⟨b,0,none⟩)∧Inv B' (lo listed) a w)) →
   wpAnyIn (wd B.ro) 0 P .any ((ops.push z).push o) (QQ B Q) fuel listed a w:=by
  intro fuel
  induction fuel with
  | zero =>
   intro listed a w hcnt hsz hlst _;have:=(List.countP_eq_length (p:=fun k=>listed.getD k false) (l:=List.range (ops.size+2))).1 (by simpa using hcnt) (ops.size+1) (dB0.2 (by omega));simp only[hlst]at this;simp at this
  | succ fuel ih =>
   intro listed a w hcnt hsz hlst hJ
   have hgd1:∀k d,k<ops.size+2→listed.getD k d=listed.getD k false:=by
    intro k d hk;have:k<listed.size:=by omega
    simp[aQ0,bW0 this]
   have cnt1:∀i,i<ops.size+2→listed.getD i false=false→(List.range (ops.size+2)).countP (fun k=>(listed.setIfInBounds i true).getD k false)+fuel=ops.size+2:=by
    intro i hi hSi;have hi':i<listed.size:=by omega
    have hS':(fun k=>(listed.setIfInBounds i true).getD k false)=fun k=>if k=i then true else listed.getD k false:=by
     funext k
     by_cases hk:k=i
     ·subst hk;simp[hi']
     ·rw[if_neg hk,getD_set_ne false (Ne.symm hk)]
    rw[hS',TV_ _ i hSi _ hi];omega
   have low:∀i,i<ops.size→(i∈Region.ready .any ops (lo listed)↔i∈Region.ready .any ((ops.push z).push o) listed):=by
    intro i hi;rw[mem_ready,mem_ready,at_lo i hi,lo_get _ _ _ hi,hgd1 i true (by omega)];refine and_congr_right fun _=>exists_congr fun o'=>and_congr_right fun ho'=>forall_congr' fun e=>forall_congr' fun he=>forall_congr' fun hb=> ?_
    have:=spec.acy i o' ho' e he hb;rw[lo_get _ _ _ (by omega)]
   obtain⟨B1,hB1,hI1⟩:∃B1,(B1.nt=B.nt∧B1.N=B.N∧B1.ro=B.ro)∧Inv B1 (lo listed) a w:=by
    rcases hJ with ⟨_,hI⟩ | ⟨_,B',b,hB,_,hI⟩
    ·exact⟨B,⟨rfl,rfl,rfl⟩,hI⟩
    ·exact⟨B',⟨hB.1,hB.2.1,hB.2.2.1⟩,hI⟩
   obtain⟨hsl1,h5,h6⟩:=i2 _ _ _ _ hI1;refine⟨fun hr=> ?_,fun i hi=> ?_⟩
   ·exfalso
    have h7:Region.ready .any ops (lo listed)=[]:=by
     rw[List.eq_nil_iff_forall_not_mem];intro i hi
     have hlt:i<ops.size:=by
      rw[mem_ready]at hi;obtain⟨_,o',ho',_⟩:=hi;exact(aG0.1 ho').1
     have:=(low i hlt).1 hi;rw[hr]at this;simp at this
    have h8:=h5 h7
    rcases hJ with ⟨hzl,_⟩ | ⟨hzl,_⟩
    ·have:ops.size∈Region.ready .any ((ops.push z).push o) listed:=by
      rw[mem_ready,hgd1 _ true (by omega)];exact⟨hzl,z,at_z,fun e he=>by rw[hz.2.2.2]at he;simp at he⟩
     rw[hr]at this;simp at this
    ·have:ops.size+1∈Region.ready .any ((ops.push z).push o) listed:=by
      rw[mem_ready,hgd1 _ true (by omega)];refine⟨hlst,o,at_o,fun e he _=> ?_⟩;have:=spec2.2 e he
      by_cases he2:e.on=ops.size
      ·rw[he2];exact hzl
      ·rw[←lo_get listed e.on false (by omega)];exact h8 e.on (by omega)
     rw[hr]at this;simp at this
   ·have hi0:=hi;rw[mem_ready]at hi0;obtain⟨g0,o',ho',hpre⟩:=hi0;have hlt:i<ops.size+2:=by have:=(aG0.1 ho').1;omega
    rw[hgd1 i true hlt]at g0;have hset:∀k,k≠i→(listed.setIfInBounds i true).getD k false=listed.getD k false:=fun k hk=>getD_set_ne false (Ne.symm hk)
    by_cases hin:i<ops.size
    ·have hio:ops[i]? =some o':=by rw[←at_lo i hin];exact ho'
     have hdn:o'.dst≠some t:=hdst' o' (by simpa using Array.mem_of_getElem? hio)
     have hy:Region.wanted o' (yielded ((ops.push z).push o) a.tmps)=Region.wanted o' (yielded ops a.tmps):=by
      unfold Region.wanted
      cases hg:o'.guard with
      | none=>rfl
      | some jw =>
       obtain⟨j,want⟩:=jw
       have hj:j<ops.size:=by
        have h9:=aX0.1 hgd o' (by simpa using Array.mem_of_getElem? hio);rw[hg]at h9;simpa using h9
       simp only[yielded,at_lo j hj]
     have conv:∀{K:Act→World→Prop},wpOpIn (wd B.ro) 0 P ops (QQ B Q) i K a w→wpOpIn (wd B.ro) 0 P ((ops.push z).push o) (QQ B Q) i K a w:=by
      intro K hh;unfold wpOpIn at hh ⊢;rw[hio]at hh;rw[ho'];simp only at hh ⊢;rw[hy];exact hh
     have hsz':(listed.setIfInBounds i true).size=ops.size+2:=by simpa using hsz
     have hl':(listed.setIfInBounds i true).getD (ops.size+1) false=false:=by rw[hset _ (by omega)];exact hlst
     rcases hJ with ⟨hzl,hI⟩ | ⟨hzl,B',b,hB,hv,hI⟩
     ·refine conv (i3 B (lo listed) a w i _ _ rfl rfl hI ((low i hin).2 hi) fun a' w' hI'=> ?_)
      exact ih _ a' w' (cnt1 i hlt g0) hsz' hl' (.inl ⟨by rw[hset _ (by omega)];exact hzl,by rw[lo_set _ i hin hsz];exact hI'⟩)
     ·have hw:=i3 B' (lo listed) a w i (Inv B' ((lo listed).setIfInBounds i true)) (QQ B Q) hB.1 hB.2.1 hI ((low i hin).2 hi) fun _ _ h=>h
      rw[hB.2.2.1]at hw;refine conv ?_
      unfold wpOpIn at hw ⊢;rw[hio]at hw ⊢;simp only at hw ⊢
      have nx:∀a' w',Inv B' ((lo listed).setIfInBounds i true) a' w'∧a'.tmps.getD t Go.undef= .pointer (some ⟨b,0,none⟩)→wpAnyIn (wd B.ro) 0 P .any ((ops.push z).push o) (QQ B Q) fuel (listed.setIfInBounds i true) a' w':=by
       rintro a' w' ⟨hI',hv'⟩;exact ih _ a' w' (cnt1 i hlt g0) hsz' hl' (.inr ⟨by rw[hset _ (by omega)];exact hzl,B',b,hB,hv',by rw[lo_set _ i hin hsz];exact hI'⟩)
      split
      ·rename_i hw1;rw[if_pos hw1]at hw;exact Oper.wpIn_mono nx (wpIn_keep hdn hv hw)
      ·rename_i hw1;rw[if_neg hw1]at hw;refine⟨hw.1,nx _ _ ⟨hw.2,?_⟩⟩;unfold Act.put
       cases hd:o'.dst with
       | none=>exact hv
       | some i' =>
        have hi':i'≠t:=fun e=>hdn (by rw[hd,e])
        show (a.tmps.setIfInBounds i' _).getD t Go.undef=_
        rw[aQ0]at hv ⊢;rw[dR0 hi'];exact hv
    ·by_cases hiz:i=ops.size
     ·subst hiz;rw[at_z]at ho';simp only[aA0]at ho';subst ho'
      rcases hJ with ⟨_,hI⟩ | ⟨hzl,_⟩
      ·obtain⟨dst,op,type,pos,after,guard⟩:=z;obtain⟨hz1,hz2,hz3,hz4⟩:=hz;simp only at hz1 hz2 hz3 hz4;subst hz1 hz2 hz3 hz4;unfold wpOpIn;rw[at_z];simp only;rw[if_pos (by simp[Region.wanted])];obtain⟨us,u1,u2,u3,u4⟩:=YB_ (a:=a) (w:=w) (i:=t) (type:=type) (pos:=pos) (after:= #[]) (guard:=none) hcs hone;refine Fb_ (fun c hc=>by cases hc) u4 ?_
       obtain⟨B',⟨hB',hv'⟩,hI'⟩:=i4 B (fun B'=>Back B B' t w.heap.size cs∧(a.put (some t) (.pointer (some ⟨w.heap.size,0,none⟩))).tmps.getD t Go.undef= .pointer (some ⟨w.heap.size,0,none⟩)) (lo listed) a w (a.put (some t) (.pointer (some ⟨w.heap.size,0,none⟩))) (w.alloc (.cells us.toArray ty)) t hI hdst' (fun X loc hX RX=>by
        obtain⟨B',b1,b2⟩:=RX.hide (ty:=ty) ht (by rw[hX];exact hsl) u1 u2 u3;refine⟨B',⟨b1,?_⟩,b2⟩
        show (a.tmps.setIfInBounds t _).getD t Go.undef=_
        rw[aQ0,dX0 (by rw[RX.nt];exact ht)]
        rfl)
       refine ih _ _ _ (cnt1 _ hlt g0) (by simpa using hsz) (by rw[hset _ (by omega)];exact hlst) (.inr ⟨?_,B',_,hB',hv',by rw[lo_set2 _ _ (Nat.le_refl _)];exact hI'⟩);rw[aQ0,dX0 (by omega)];rfl
      ·rw[hzl]at g0;simp at g0
     ·have hil:i=ops.size+1:=by omega
      subst hil;rw[at_o]at ho';simp only[aA0]at ho';subst ho'
      have hall:∀k,k<ops.size+1→listed.getD k false=true:=by
       intro k hk;obtain⟨e,he,hb,rfl⟩:=spec2.1 k hk;exact hpre e he hb
      rcases hJ with ⟨hzl,_⟩ | ⟨_,B',b,hB,hv,hI⟩
      ·rw[hall _ (by omega)]at hzl;simp at hzl
      ·obtain⟨_,_,h9⟩:=i2 _ _ _ _ hI;obtain⟨s1,loc1,hK,R1⟩:=h9 fun k hk=>by rw[lo_get _ _ _ hk];exact hall k (by omega)
       obtain⟨loc2,R2⟩:=hB.2.2.2 s1 a w loc1 R1 hv;rw[kF_f]at hK;have hK:=hK (lim B s1);rw[Nt_,ho.1]at hK;simp only[ho.2,if_true]at hK;obtain⟨hd,_,hx⟩:=hK;obtain⟨d,own',x1,x2⟩:=Ir_ hx (lim B ⟨(t,.bx t (lim B s1) 0)::s1.slots,upE s1.own t (lim B s1) (.box cs)⟩);unfold wpOpIn;rw[at_o];simp only;rw[if_pos (by simp[Region.wanted,ho.1])];refine eo_wp (R:=R2) (Nat.le_refl _) hd (fun x _=>R2.ev x) (fun x _=>RM_ _ x) x1 fun a' w' loc' R'=> ?_
       refine done fuel _ a' w' (by simpa using hsz) (fun k hk=> ?_) ⟨_,loc',x2,R'⟩
       by_cases hk2:k=ops.size+1
       ·subst hk2;rw[aQ0,dX0 (by omega)];rfl
       ·rw[hset k hk2];exact hall k (by omega)
 have hrep:∀k,(Array.replicate (ops.size+2) false).getD k false=false:=by
  intro k;simp[aQ0,eC0]
  split<;>simp
 have hlo:lo (Array.replicate (ops.size+2) false)=Array.replicate ops.size false:=by
  apply Array.ext
  ·simp[lo]
  ·intro j h1 h2;simp only[lo,Array.getElem_ofFn,hrep,Array.getElem_replicate]
 rw[hsz3];refine main (ops.size+2) _ a _ ?_ (by simp) (hrep _) (.inl ⟨hrep _,by rw[hlo];exact i1 B rfl rfl a w loc R⟩)
 have:(List.range (ops.size+2)).countP (fun k=>(Array.replicate (ops.size+2) false).getD k false)=0:=by
  rw[List.countP_eq_zero];intro k _;rw[hrep];simp
 omega
def floatOK (ow l1 l2:List Nat) (ops3:Array Oper) (t ty:Nat):Bool :=
 Eh_ ow l1 l2 ops3.pop.pop&&gdOK ops3.pop.pop&&ops3.pop.pop.toList.all (fun o=>decide (o.dst≠some t)) &&
 (match ops3.pop.back? with | some z=>(match z.op with | .alloc ty'=>ty'==ty | _=>false)&&z.dst==some t&&z.guard.isNone&&z.after.isEmpty | none=>false) &&
 (match ops3.back? with | some o=>o.guard.isNone&&Bo_ ow o&&lastOK o (ops3.pop.pop.size+1) | none=>false)
theorem DW_rf (ow l1 l2:List Nat) (t ty:Nat) (cs:List DVal) {id:Nat} {ops3:Array Oper} {z o:Oper} {Q:Exit→DS→Prop} (hm:P.follows .mixedOrders=true) (hzb:ops3.pop.back?=some z) (hob:ops3.back?=some o) (h3:ops3=(ops3.pop.pop.push z).push o) (hc:floatOK ow l1 l2 ops3 t ty=true)
  (ht:t<B.nt) (hsl:getS s.slots t= .any) (hcs:tZero P ty=some cs) (hone:cs.all (oneO [])=true)
  (h:CI_ P B.nt ow l1 l2 ops3.pop.pop ops3.pop.pop.toList 0 (kF P B (Q .normal) ow t cs o) s):DW P B (.region id ops3 true) Q s:=by
 unfold floatOK at hc;rw[hzb,hob]at hc;simp only[aL0]at hc;obtain⟨⟨⟨⟨c1,c2⟩,c3⟩,c4⟩,c5⟩:=hc;obtain⟨⟨⟨c6,c7⟩,c8⟩,c9⟩:=c4;refine Mr_ ow l1 l2 (z:=z) (o:=o) hm h3 c1 ⟨?_,by simpa using c7,by simpa using c8,by simpa using c9⟩ ⟨by simpa using c5.1.1,c5.1.2⟩ c5.2 c2 ht c3 hsl hcs hone h;cases hz:z.op<;>rw[hz]at c6<;>simp at c6;rw[c6]
end
theorem Up_ {P:Program} {B:Base} {Q:Exit→DS→Prop} {s:DS} {x:Code} (bid c k bs:Nat) {rb:Nat} {cs:List DVal} (h:Ao_ s.own bid=some ⟨bid,rb,.box cs⟩) (hc:cs.getD c .any= .nilsl)
  (hw:DW P B x Q ⟨s.slots,upE s.own bid rb (.box (cs.set c (.sl k bs [])))⟩):DW P B x Q s:=by
 refine FT_ (fun a w loc R=> ?_) hw;refine R.reBox h rfl (by simp) fun arr hr=>Tb_ cs arr 0 c (fun v hv=> ?_) hr
 rw[hc]at hv;simp only[rd]at hv ⊢;rw[hv];exact⟨none,0,by simp,by simp,by simp,by simp,.inl ⟨by simp,fun _=>rfl⟩⟩
end Go.Dm
end
section
namespace Go.Proofs.YtchgnpnbcjflcaaGreat
open Go Go.Dm Go.Shelf
variable [DMode]
attribute [local irreducible] DW AV_ AZ_
set_option maxRecDepth 100000
def Br_ : Ann:=⟨[13,22,25],[⟨2,[],[],[0,1,2,3,4,5,6,7,9,10,12]⟩]⟩
set_option maxHeartbeats 2000000 in
theorem SW_ (S SF:List Sym) (A:List Arc) (e e':Bool) (f f' l l':List Nat) (hp:S <+: SF) (hf:∀q∈f',1≤q∧q≤S.length) (hS:S.length<9223372036854775807) (hb:(A.length+l.length*f'.length)*32≤150000000000000)
  (h1:(f.length+f'.length)*8≤140737488355328) (h2:(l'.length+l.length)*8≤140737488355328) :
  AL_ Tryz.prog (.func 184) [.bx 0 0 0,Pq_ e f l,Pq_ e' f' l'] (dBx 0 0 S A) (Pq_ (e&&e') (f++if e=true then f' else []) (l'++if e'=true then l else [])) (dBx 0 1 S (A++Dp_ SF (Cv_ l f'))):=by
 refine AR_ [22,25,6,7] [(0,0,0),(1,1,0),(2,2,1)] Br_ Tryz.func184 Tryz.call184 Tryz.ntmps184 mxd (aj2 @Br_.eq_1 Tryz.results184) rfl (by simp) (by simp) (by simp[dBx]) fun hwf B hnt hgAnn=> ?_
 clear hwf;simp only[argS];have e1:=Hl_ S SF A l f' hp hf hS hb;have e2:=Jy_ f (by omega);have e3:=Jy_ l' (by omega);have b1:(f.length+f'.length)*8≤150000000000000:=by omega
 have b2:(l'.length+l.length)*8≤150000000000000:=by omega
 obtain⟨Z,hZ⟩:∃Z,Z=A++Dp_ SF (Cv_ l f'):=⟨_,rfl⟩;rw[←hZ]at e1 ⊢;cases e
 ·cases e'
  ·(repeat (first | (refine DW_rf (id:=2) (Br_).ow [] [0,1,2,3,4,5,6,7,9,10] 7 165 [.bool false,.nilsl,.nilsl] mxd rfl rfl (by kernel_rfl) (by kernel_rfl) (by simp[hnt]) (by simp) (by simp) (by rfl) ?_;simp only[List.pop_toArray,fB0,fA0,List.dropLast_nil];simp[kF_f,Br_,hnt,dBx,b1,b2,kF_f];try simp (disch:=omega) only[Ah_]) | refine Ax_ fun K hK=> ?_ | (refine DW_r Br_ mxd (by kernel_rfl) ?_;simp[Br_,hnt,dBx,b1,b2,kF_f];try simp (disch:=omega) only[Ah_]) | refine An_ ?_ | (refine AW_ ?_ ?_ ?_;(· (simp[hnt,dBx,b1,b2,kF_f];done));(try (rotate_left;(· (intro hc;(try simp[hnt,dBx,b1,b2,kF_f]at hc);done))))) | (refine AC_ ?_;simp[Tryz.results184,hnt,dBx,b1,b2,kF_f]) | ((first | refine Ar_ ?_ | refine Aq_ ?_);simp[hnt,dBx,b1,b2,kF_f]) | (intro hc;(try simp[hnt,dBx,b1,b2,kF_f]at hc);(try (exfalso;omega))) | (refine Au_ [(0,0),(1,1),(2,2)] [] (e1) ?_ ?_;(· (simp[hnt,dBx,b1,b2,kF_f];done));(intro _;try simp[hnt,dBx,b1,b2,kF_f])) | (refine Au_ [] [(22,0)] (e2) ?_ ?_;(· (simp[hnt,dBx,b1,b2,kF_f];done));(intro _;try simp[hnt,dBx,b1,b2,kF_f])) | (refine Au_ [] [(25,0)] (e3) ?_ ?_;(· (simp[hnt,dBx,b1,b2,kF_f];done));(intro _;try simp[hnt,dBx,b1,b2,kF_f])) | (refine⟨?_,?_⟩; · omega) | omega | apply_assumption -exfalso -symm | (exfalso;omega)))
  ·(repeat (first | (refine DW_rf (id:=2) (Br_).ow [] [0,1,2,3,4,5,6,7,9,10] 7 165 [.bool false,.nilsl,.nilsl] mxd rfl rfl (by kernel_rfl) (by kernel_rfl) (by simp[hnt]) (by simp) (by simp) (by rfl) ?_;simp only[List.pop_toArray,fB0,fA0,List.dropLast_nil];simp[kF_f,Br_,hnt,dBx,b1,b2,kF_f];try simp (disch:=omega) only[Ah_]) | refine Ax_ fun K hK=> ?_ | (refine DW_r Br_ mxd (by kernel_rfl) ?_;simp[Br_,hnt,dBx,b1,b2,kF_f];try simp (disch:=omega) only[Ah_]) | refine An_ ?_ | (refine AW_ ?_ ?_ ?_;(· (simp[hnt,dBx,b1,b2,kF_f];done));(try (rotate_left;(· (intro hc;(try simp[hnt,dBx,b1,b2,kF_f]at hc);done))))) | (refine AC_ ?_;simp[Tryz.results184,hnt,dBx,b1,b2,kF_f]) | ((first | refine Ar_ ?_ | refine Aq_ ?_);simp[hnt,dBx,b1,b2,kF_f]) | (intro hc;(try simp[hnt,dBx,b1,b2,kF_f]at hc);(try (exfalso;omega))) | (refine Au_ [(0,0),(1,1),(2,2)] [] (e1) ?_ ?_;(· (simp[hnt,dBx,b1,b2,kF_f];done));(intro _;try simp[hnt,dBx,b1,b2,kF_f])) | (refine Au_ [] [(22,0)] (e2) ?_ ?_;(· (simp[hnt,dBx,b1,b2,kF_f];done));(intro _;try simp[hnt,dBx,b1,b2,kF_f])) | (refine Au_ [] [(25,0)] (e3) ?_ ?_;(· (simp[hnt,dBx,b1,b2,kF_f];done));(intro _;try simp[hnt,dBx,b1,b2,kF_f])) | (refine⟨?_,?_⟩; · omega) | omega | apply_assumption -exfalso -symm | (exfalso;omega)))
 ·cases e'
  ·(repeat (first | (refine DW_rf (id:=2) (Br_).ow [] [0,1,2,3,4,5,6,7,9,10] 7 165 [.bool false,.nilsl,.nilsl] mxd rfl rfl (by kernel_rfl) (by kernel_rfl) (by simp[hnt]) (by simp) (by simp) (by rfl) ?_;simp only[List.pop_toArray,fB0,fA0,List.dropLast_nil];simp[kF_f,Br_,hnt,dBx,b1,b2,kF_f];try simp (disch:=omega) only[Ah_]) | refine Ax_ fun K hK=> ?_ | (refine DW_r Br_ mxd (by kernel_rfl) ?_;simp[Br_,hnt,dBx,b1,b2,kF_f];try simp (disch:=omega) only[Ah_]) | refine An_ ?_ | (refine AW_ ?_ ?_ ?_;(· (simp[hnt,dBx,b1,b2,kF_f];done));(try (rotate_left;(· (intro hc;(try simp[hnt,dBx,b1,b2,kF_f]at hc);done))))) | (refine AC_ ?_;simp[Tryz.results184,hnt,dBx,b1,b2,kF_f]) | ((first | refine Ar_ ?_ | refine Aq_ ?_);simp[hnt,dBx,b1,b2,kF_f]) | (intro hc;(try simp[hnt,dBx,b1,b2,kF_f]at hc);(try (exfalso;omega))) | (refine Au_ [(0,0),(1,1),(2,2)] [] (e1) ?_ ?_;(· (simp[hnt,dBx,b1,b2,kF_f];done));(intro _;try simp[hnt,dBx,b1,b2,kF_f])) | (refine Au_ [] [(22,0)] (e2) ?_ ?_;(· (simp[hnt,dBx,b1,b2,kF_f];done));(intro _;try simp[hnt,dBx,b1,b2,kF_f])) | (refine Au_ [] [(25,0)] (e3) ?_ ?_;(· (simp[hnt,dBx,b1,b2,kF_f];done));(intro _;try simp[hnt,dBx,b1,b2,kF_f])) | (refine⟨?_,?_⟩; · omega) | omega | apply_assumption -exfalso -symm | (exfalso;omega)))
  ·(repeat (first | (refine DW_rf (id:=2) (Br_).ow [] [0,1,2,3,4,5,6,7,9,10] 7 165 [.bool false,.nilsl,.nilsl] mxd rfl rfl (by kernel_rfl) (by kernel_rfl) (by simp[hnt]) (by simp) (by simp) (by rfl) ?_;simp only[List.pop_toArray,fB0,fA0,List.dropLast_nil];simp[kF_f,Br_,hnt,dBx,b1,b2,kF_f];try simp (disch:=omega) only[Ah_]) | refine Ax_ fun K hK=> ?_ | (refine DW_r Br_ mxd (by kernel_rfl) ?_;simp[Br_,hnt,dBx,b1,b2,kF_f];try simp (disch:=omega) only[Ah_]) | refine An_ ?_ | (refine AW_ ?_ ?_ ?_;(· (simp[hnt,dBx,b1,b2,kF_f];done));(try (rotate_left;(· (intro hc;(try simp[hnt,dBx,b1,b2,kF_f]at hc);done))))) | (refine AC_ ?_;simp[Tryz.results184,hnt,dBx,b1,b2,kF_f]) | ((first | refine Ar_ ?_ | refine Aq_ ?_);simp[hnt,dBx,b1,b2,kF_f]) | (intro hc;(try simp[hnt,dBx,b1,b2,kF_f]at hc);(try (exfalso;omega))) | (refine Au_ [(0,0),(1,1),(2,2)] [] (e1) ?_ ?_;(· (simp[hnt,dBx,b1,b2,kF_f];done));(intro _;try simp[hnt,dBx,b1,b2,kF_f])) | (refine Au_ [] [(22,0)] (e2) ?_ ?_;(· (simp[hnt,dBx,b1,b2,kF_f];done));(intro _;try simp[hnt,dBx,b1,b2,kF_f])) | (refine Au_ [] [(25,0)] (e3) ?_ ?_;(· (simp[hnt,dBx,b1,b2,kF_f];done));(intro _;try simp[hnt,dBx,b1,b2,kF_f])) | (refine⟨?_,?_⟩; · omega) | omega | apply_assumption -exfalso -symm | (exfalso;omega)))
end Go.Proofs.YtchgnpnbcjflcaaGreat
end
section
namespace Go.Proofs.YtchgnpnbcjflcaaGreat
open Go Go.Dm
variable [DMode]
def IJ_ (H L:List ByteArray) (S:List Sym) (t:RT):List Sym:=S++(lvs (flat t)).map (symS H L)
def Fr_ (H L:List ByteArray) (S:List Sym) (us:List RT):List Sym:=S++(lvs (Ak_ us)).map (symS H L)
def firT (l:List Nd) (ah:Nat) (t:RT) (a:Nat):List Nat:=(fiT t a).map (num l ah)
def lasT (l:List Nd) (ah:Nat) (t:RT) (a:Nat):List Nat:=(laT t a).map (num l ah)
def FQ_ (SF:List Sym) (l:List Nd) (ah:Nat) (A:List Arc) (t:RT) (a:Nat):List Arc:=A++Dp_ SF ((arT t a).map (num2 l ah))
def firA (l:List Nd) (ah:Nat) (k:Int) (us:List RT) (a:Nat):List Nat:=(fiL k us a).map (num l ah)
def lasA (l:List Nd) (ah:Nat) (k:Int) (us:List RT) (a:Nat):List Nat:=(laL k us a).map (num l ah)
def EX_ (SF:List Sym) (l:List Nd) (ah:Nat) (A:List Arc) (k:Int) (us:List RT) (a:Nat):List Arc:=A++Dp_ SF ((arL k us a []).map (num2 l ah))
theorem symsA_nil (H L:List ByteArray) (S:List Sym):Fr_ H L S []=S:=by unfold Fr_;rw[Bp_];simp[lvs]
theorem firA_nil (l:List Nd) (ah:Nat) (k:Int) (a:Nat):firA l ah k [] a=[]:=by unfold firA;rw[Hp_];rfl
theorem lasA_nil (l:List Nd) (ah:Nat) (k:Int) (a:Nat):lasA l ah k [] a=[]:=by unfold lasA;rw[FF_];rfl
theorem arcsA_nil (SF:List Sym) (l:List Nd) (ah:Nat) (A:List Arc) (k:Int) (a:Nat):EX_ SF l ah A k [] a=A:=by unfold EX_;rw[Hx_];simp[Dp_]
theorem Yv_ (H L:List ByteArray) (S:List Sym) (us:List RT) (u:RT):Fr_ H L S (us++[u])=IJ_ H L (Fr_ H L S us) u:=by
 unfold Fr_ IJ_;rw[DM_,flatL_one,EO_,aZ0,aT0]
theorem symsA_all (H L:List ByteArray) (S:List Sym) {x:Nd} (ks:List RT) (h:¬(x.k=2∨x.k=3)):IJ_ H L S (.mk x ks)=Fr_ H L S ks:=by
 unfold Fr_ IJ_;rw[AF_,Ia_ h]
theorem firA_four (l:List Nd) (ah:Nat) (us:List RT) (u:RT) (a:Nat):firA l ah 4 (us++[u]) a=firA l ah 4 us a++(if pE 4 us=true then firT l ah u (a+(Ak_ us).length)else []):=by
 unfold firA firT;rw[Pj_,aZ0]
 congr 1
 unfold pE;cases h:allE us<;>simp
theorem firA_else (l:List Nd) (ah:Nat) {k:Int} (hk:¬k=4) (us:List RT) (u:RT) (a:Nat):firA l ah k (us++[u]) a=firA l ah k us a++firT l ah u (a+(Ak_ us).length):=by
 unfold firA firT;rw[Pj_,aZ0,if_neg (fun h=>hk h.1)]
theorem lasA_four (l:List Nd) (ah:Nat) (us:List RT) (u:RT) (a:Nat):lasA l ah 4 (us++[u]) a=lasT l ah u (a+(Ak_ us).length)++(if empT u=true then lasA l ah 4 us a else []):=by
 unfold lasA lasT;rw[OP_,if_pos rfl,aZ0];cases h:empT u<;>simp
theorem lasA_else (l:List Nd) (ah:Nat) {k:Int} (hk:¬k=4) (us:List RT) (u:RT) (a:Nat):lasA l ah k (us++[u]) a=lasA l ah k us a++lasT l ah u (a+(Ak_ us).length):=by
 unfold lasA lasT;rw[OP_,if_neg hk,aZ0]
theorem ZC_ (SF:List Sym) (l:List Nd) (ah:Nat) (A:List Arc) (us:List RT) (u:RT) (a:Nat):EX_ SF l ah A 4 (us++[u]) a=FQ_ SF l ah (EX_ SF l ah A 4 us a) u (a+(Ak_ us).length)++Dp_ SF (Cv_ (lasA l ah 4 us a) (firT l ah u (a+(Ak_ us).length))):=by
 unfold EX_ FQ_ lasA firT;rw[Sm_,Rq_,aZ0,aZ0,EA_,EA_];simp[aT0]
theorem ZD_ (SF:List Sym) (l:List Nd) (ah:Nat) (A:List Arc) {k:Int} (hk:¬k=4) (us:List RT) (u:RT) (a:Nat):EX_ SF l ah A k (us++[u]) a=FQ_ SF l ah (EX_ SF l ah A k us a) u (a+(Ak_ us).length):=by
 unfold EX_ FQ_;rw[Wi_ k hk,aZ0,EA_,aT0]
theorem firA_all (l:List Nd) (ah:Nat) {x:Nd} (ks:List RT) (a:Nat) (h:¬(x.k=2∨x.k=3)):firT l ah (.mk x ks) a=firA l ah x.k ks (a+1):=by
 unfold firT firA;rw[Jv_,if_neg h]
theorem lasA_all (l:List Nd) (ah:Nat) {x:Nd} (ks:List RT) (a:Nat) (h:¬(x.k=2∨x.k=3)):lasT l ah (.mk x ks) a=lasA l ah x.k ks (a+1):=by
 unfold lasT lasA;rw[If_,if_neg h]
theorem NF_ (SF:List Sym) (l:List Nd) (ah:Nat) (A:List Arc) {x:Nd} (ks:List RT) (a:Nat) (h:¬(x.k=2∨x.k=3)) (h6:x.k=6∨x.k=7):FQ_ SF l ah A (.mk x ks) a=EX_ SF l ah A x.k ks (a+1)++Dp_ SF (Cv_ (lasA l ah x.k ks (a+1)) (firA l ah x.k ks (a+1))):=by
 unfold FQ_ EX_ lasA firA;rw[IA_,if_neg h,if_pos h6,Rq_,aZ0,EA_,aT0]
theorem ZB_ (SF:List Sym) (l:List Nd) (ah:Nat) (A:List Arc) {x:Nd} (ks:List RT) (a:Nat) (h:¬(x.k=2∨x.k=3)) (h6:¬(x.k=6∨x.k=7)):FQ_ SF l ah A (.mk x ks) a=EX_ SF l ah A x.k ks (a+1):=by
 unfold FQ_ EX_;rw[IA_,if_neg h,if_neg h6,bP0]
theorem firT_len (l:List Nd) (ah:Nat) (t:RT) (a:Nat):(firT l ah t a).length≤(lvs (flat t)).length:=by unfold firT;rw[aK0];exact Ph_ t a
theorem lasT_len (l:List Nd) (ah:Nat) (t:RT) (a:Nat):(lasT l ah t a).length≤(lvs (flat t)).length:=by unfold lasT;rw[aK0];exact OO_ t a
theorem VO_ (l:List Nd) (ah:Nat) (k:Int) (us:List RT) (a:Nat):(firA l ah k us a).length≤(lvs (Ak_ us)).length:=by unfold firA;rw[aK0];exact Pl_ k us a
theorem Vw_ (l:List Nd) (ah:Nat) (k:Int) (us:List RT) (a:Nat):(lasA l ah k us a).length≤(lvs (Ak_ us)).length:=by unfold lasA;rw[aK0];exact OR_ k us a
theorem Sl_ (SF:List Sym) (l:List Nd) (ah:Nat) (A:List Arc) (k:Int) (us:List RT) (a:Nat) (h:(lvs (Ak_ us)).length≤64):(EX_ SF l ah A k us a).length≤A.length+8192*(Ak_ us).length:=by
 unfold EX_;rw[aD0,Iz_,aK0];have:=Ui_ k us a [] (by simpa using h);omega
theorem arcsT_len (SF:List Sym) (l:List Nd) (ah:Nat) (A:List Arc) (t:RT) (a:Nat) (h:(lvs (flat t)).length≤64):(FQ_ SF l ah A t a).length+4096≤A.length+8192*(flat t).length:=by
 unfold FQ_;rw[aD0,Iz_,aK0];have:=Uh_ t a h;omega
theorem symsT_len (H L:List ByteArray) (S:List Sym) (t:RT):(IJ_ H L S t).length=S.length+(lvs (flat t)).length:=by simp[IJ_]
theorem Qm_ (H L:List ByteArray) (S:List Sym) (us:List RT):(Fr_ H L S us).length=S.length+(lvs (Ak_ us)).length:=by simp[Fr_]
theorem firT_num {l r:List Nd} {t:RT} {a ah:Nat} (h:l.drop a=flat t++r):∀q∈firT l ah t a,1≤q∧q≤ah+rkN l (a+(flat t).length):=fi_num h
theorem firA_num {l r:List Nd} {k:Int} {us:List RT} {a ah:Nat} (h:l.drop a=Ak_ us++r):∀q∈firA l ah k us a,1≤q∧q≤ah+rkN l (a+(Ak_ us).length):=fiL_num h
end Go.Proofs.YtchgnpnbcjflcaaGreat
end
section
namespace Go.Proofs.YtchgnpnbcjflcaaGreat
open Go Go.Dm Go.Shelf
variable [DMode]
attribute [local irreducible] DW AV_ AZ_
set_option maxRecDepth 100000
abbrev ofF (H L:List ByteArray):DVal:= .fn (.func 105) [] [.ref [dTab H L]]
def KB_ (H L:List ByteArray) (l:List Nd) (ah:Nat) (SF:List Sym) (t:RT):Prop :=
 ∀(a:Nat) (r:List Nd) (S:List Sym) (A:List Arc),l.drop a=flat t++r→S.length=ah+rkN l a→IJ_ H L S t <+: SF→(A.length+8192*(flat t).length)*32≤150000000000000 →
  AL_ Tryz.prog (.func 104) [.bx 0 0 0,dNds (flat t++r),ofF H L] (dBx 0 0 S A) (.tup [Pq_ (empT t) (firT l ah t a) (lasT l ah t a),dNds r]) (dBx 1 1 (IJ_ H L S t) (FQ_ SF l ah A t a))
def XK_ : Ann:=⟨[66,75,90],[⟨1,[8],[],[]⟩,⟨5,[],[0],[]⟩]⟩
set_option maxHeartbeats 2000000 in
theorem SK_ (H L:List ByteArray) (l:List Nd) (ah:Nat) (SF:List Sym) (x:Nd) (hx:x.k=2∨x.k=3) (h64:ah+(lvs l).length≤64):KB_ H L l ah SF (.mk x []):=by
 intro a r S A hdr hS hSF hA;have hfl:flat (.mk x [])=[x]:=by rw[AF_,Bp_]
 have hlx:lvs (flat (.mk x []))=[x]:=by rw[hfl,OK_ hx];rfl
 have h1:IJ_ H L S (.mk x [])=S++[symS H L x]:=by unfold IJ_;rw[hlx];rfl
 have h2:firT l ah (.mk x []) a=[num l ah a]:=by unfold firT;rw[Jv_,if_pos hx];rfl
 have h3:lasT l ah (.mk x []) a=[num l ah a]:=by unfold lasT;rw[If_,if_pos hx];rfl
 have h4:FQ_ SF l ah A (.mk x []) a=A:=by unfold FQ_;rw[IA_,if_pos hx];simp[Dp_]
 have h5:empT (.mk x [])=false:=by rw[Pp_,if_pos hx]
 have h6:num l ah a=S.length+1:=by unfold num;omega
 have hs:=lvs_sub hdr;rw[hlx]at hs
 have hr1:rkN l a≤(lvs l).length:=by
  rw[←IP_]
  by_cases h:a≤l.length
  ·exact Oh_ l h
  ·unfold rkN;rw[cY0 (by omega),aS0];exact Nat.le_refl _
 rw[h1,h2,h3,h4,h5,h6,hfl];have e1:=of70_pure H L x;clear hSF h1 h2 h3 h4 h5 h6 hdr hfl hlx;refine AR_ [6,10] [(0,0,0),(1,1,1),(2,2,1)] XK_ Tryz.func104 Tryz.call104 Tryz.ntmps104 mxd (aj2 @XK_.eq_1 Tryz.results104) rfl (by simp) (by simp) (by simp[dBx]) fun hwf B hnt hgAnn=> ?_
 clear hwf;have hS1:S.length≤64:=by omega
 have hS2:(S.length+1)*16≤150000000000000:=by omega
 simp only[argS,List.cons_append,List.nil_append];have hT:List.take r.length (List.map dNd r)=List.map dNd r:=cY0 (by simp)
 rcases hx with hx | hx
 ·simp only[dNd,hx]at e1;exact go0 (aj1 e1) aj0 (aj7 @dBx.eq_1 @dNd.eq_1 @dSym.eq_1 hx hS2 @natD.eq_1 hT)
 ·simp only[dNd,hx]at e1;exact go0 (aj1 e1) aj0 (aj7 @dBx.eq_1 @dNd.eq_1 @dSym.eq_1 hx hS2 @natD.eq_1 hT)
theorem rkN_le (l:List Nd) (p:Nat):rkN l p≤(lvs l).length:=by
 rw[←IP_]
 by_cases h:p≤l.length
 ·exact Oh_ l h
 ·unfold rkN;rw[cY0 (by omega),aS0];exact Nat.le_refl _
theorem VN_ : ∀us:List RT,us.length≤(Ak_ us).length
 | []=>by simp
 | u::us=>by
  have h1:=EU_ u;have h2:=VN_ us;rw[Al_,aD0,List.length_cons];omega
theorem VM_ : ∀{us:List RT} {u:RT},u∈us→(flat u).length≤(Ak_ us).length
 | v::us,u,h=>by
  rw[Al_,aD0]
  rcases aJ0.1 h with rfl | h
  ·omega
  ·have:=VM_ h;omega
def NI_ : Ann:=⟨[66,75,90],[⟨1,[8],[],[]⟩,⟨5,[],[0],[]⟩]⟩
set_option maxHeartbeats 4000000 in
theorem SJ_ (H L:List ByteArray) (l:List Nd) (ah:Nat) (SF:List Sym) (x:Nd) (ks:List RT) (ht:okT (.mk x ks)=true) (hx:¬(x.k=2∨x.k=3)) (h64:ah+(lvs l).length≤64) (ih:∀u∈ks,KB_ H L l ah SF u):KB_ H L l ah SF (.mk x ks):=by
 intro a r S A hdr hS hSF hA;have hn:=(Bx_ ht).2.1;have hEall:=pE_all ht hx
 have hdr1:l.drop (a+1)=Ak_ ks++r:=by
  have:=RU_ (m:=[x]) (r:=Ak_ ks++r) (by rw[hdr,AF_];rfl);simpa using this
 have hrk1:rkN l (a+1)=rkN l a:=by
  have:=EF_ (m:=[x]) (r:=Ak_ ks++r) (by rw[hdr,AF_];rfl);rw[Ia_ hx]at this;simpa[lvs]using this
 rw[symsA_all H L S ks hx]at hSF ⊢;rw[firA_all l ah ks a hx,lasA_all l ah ks a hx,hEall];rw[AF_,List.length_cons]at hA;have hlv:=lvs_sub hdr1;have hrl:=rkN_le l;obtain⟨AF,hAF⟩:∃AF,AF=FQ_ SF l ah A (.mk x ks) a:=⟨_,rfl⟩;rw[←hAF,AF_];clear hEall hdr ht;refine AR_ [6,10] [(0,0,0),(1,1,1),(2,2,1)] NI_ Tryz.func104 Tryz.call104 Tryz.ntmps104 mxd (aj2 @NI_.eq_1 Tryz.results104) rfl (by simp) (by simp) (by simp[dBx]) fun hwf B hnt hgAnn=> ?_
 clear hwf;have k2:¬x.k=2:=fun h=>hx (.inl h)
 have k3:¬x.k=3:=fun h=>hx (.inr h)
 have hT:List.take (Ak_ ks++r).length (List.map dNd (Ak_ ks++r))=List.map dNd (Ak_ ks++r):=cY0 (by simp);obtain⟨R1,hR1⟩:∃R1,R1=Ak_ ks++r:=⟨_,rfl⟩;simp only[argS,List.cons_append];rw[←hR1]at hT ⊢;have b2:(x.k==2)=false:=by simpa using k2
 have b3:(x.k==3)=false:=by simpa using k3
 (refine go1 aj0 aj0 (aj7 @dBx.eq_1 @dNd.eq_1 k2 k3 b2 b3 hT) ?_;intros;refine mk_i ?_)
 have hp0:(decide (x.k=1)||x.k==4)=pE x.k []:=by rw[pE_nil];rfl
 rw[hp0];refine Up_ 10 1 1 8 rfl rfl ?_;refine Up_ 10 2 1 8 rfl rfl ?_;have hj0:(0:Int)=(([]:List RT).length:Int):=rfl
 refine Ad_ (X:={p:List RT×List RT//ks=p.1++p.2}) (fun p=>⟨[(0,.bx 0 0 0),(2,ofF H L),(6,.bx 6 1 0),(7,.nilsl),(8,.ref (dNd x)),(9,dNds (Ak_ p.1.2++r)),(10,.bx 10 1 0),(59,.int .i64 x.n),(60,.int .i64 p.1.1.length)],
  dBx 1 1 (Fr_ H L S p.1.1) (EX_ SF l ah A x.k p.1.1 (a+1))++[⟨6,1,.box [.bool false,.nilsl,.nilsl]⟩,⟨10,1,.box [.bool (pE x.k p.1.1),Ei_ (firA l ah x.k p.1.1 (a+1)),Ei_ (lasA l ah x.k p.1.1 (a+1))]⟩]⟩) (fun p=>p.1.2.length) ⟨([],ks),rfl⟩ (Sub.lit (by simp[dBx,symsA_nil,arcsA_nil,firA_nil,lasA_nil,dNd,hR1])) ?_
 rintro⟨⟨us,vs⟩,hks⟩;simp only at hks ⊢
 cases vs with
 | cons u vs =>
  have hmem:u∈ks:=by rw[hks];simp
  have hlt:(us.length:Int)<x.n:=by rw[hn,hks];simp;omega
  have hks1:Ak_ ks=Ak_ us++(flat u++Ak_ vs):=by rw[hks,DM_,Al_]
  have hdrA:l.drop (a+1)=Ak_ us++(flat u++(Ak_ vs++r)):=by rw[hdr1,hks1];simp
  have hdrU:=RU_ hdrA;have hSU:(Fr_ H L S us).length=ah+rkN l (a+1+(Ak_ us).length):=by rw[Qm_,EF_ hdrA,hS,hrk1];omega
  have hpre:Fr_ H L S (us++[u]) <+: SF:=by
   refine List.IsPrefix.trans ?_ hSF;rw[hks];unfold Fr_;rw[show us++u::vs=(us++[u])++vs by simp,DM_ (us++[u]),EO_,aZ0,←aT0];exact List.prefix_append _ _
  have hSn:=Yv_ H L S us u;rw[hSn]at hpre
  have hlv1:(lvs (Ak_ us)).length+(lvs (flat u)).length≤(lvs l).length:=by
   rw[hks1,EO_,EO_,aD0,aD0]at hlv;omega
  have hAl:=Sl_ SF l ah A x.k us (a+1) (by omega);have hfl:(Ak_ ks).length=(Ak_ us).length+((flat u).length+(Ak_ vs).length):=by rw[hks1,aD0,aD0]
  have e1:=ih u hmem _ _ (Fr_ H L S us) (EX_ SF l ah A x.k us (a+1)) hdrU hSU hpre (by omega);have hAl1:=arcsT_len SF l ah (EX_ SF l ah A x.k us (a+1)) u (a+1+(Ak_ us).length) (by omega);have hSl1:=symsT_len H L (Fr_ H L S us) u;have hnum:=firT_num (ah:=ah) hdrU;have hr5:=hrl (a+1+(Ak_ us).length+(flat u).length);rw[EF_ hdrU]at hnum hr5;have hF0:=VO_ l ah x.k us (a+1);have hL0:=Vw_ l ah x.k us (a+1)
  have hF1:=firT_len l ah u (a+1+(Ak_ us).length);have hL1:=lasT_len l ah u (a+1+(Ak_ us).length);have hEn:=pE_snoc x.k us u;have hFn:=fun h=>firA_else l ah (k:=x.k) h us u (a+1)
  have hLn:=fun h=>lasA_else l ah (k:=x.k) h us u (a+1)
  have hAn:=fun h=>ZD_ SF l ah A (k:=x.k) h us u (a+1)
  have hFn4:=firA_four l ah us u (a+1);have hLn4:=lasA_four l ah us u (a+1);have hAn4:=ZC_ SF l ah A us u (a+1);have hdl:Ak_ (u::vs)++r=flat u++(Ak_ vs++r):=by rw[Al_,aT0]
  rw[hdl];obtain⟨R0,hR0⟩:∃R0,R0=flat u++(Ak_ vs++r):=⟨_,rfl⟩;rw[←hR0]at e1 ⊢;obtain⟨R2,hR2⟩:∃R2,R2=Ak_ vs++r:=⟨_,rfl⟩;rw[←hR2]at e1;have hjm:=OV_ (l:=lasA l ah x.k us (a+1)) (f:=firT l ah u (a+1+(Ak_ us).length)) (by omega) (by omega);have hge:=VN_ us;have hwr:IntKind.i64.wrap ((us.length:Int)+1)=(us.length:Int)+1:=wq
  by_cases k4:x.k=4
  ·have e2:=SW_ (IJ_ H L (Fr_ H L S us) u) SF (FQ_ SF l ah (EX_ SF l ah A x.k us (a+1)) u (a+1+(Ak_ us).length)) (pE x.k us) (empT u) (firA l ah x.k us (a+1)) (firT l ah u (a+1+(Ak_ us).length)) (lasA l ah x.k us (a+1)) (lasT l ah u (a+1+(Ak_ us).length)) hpre (fun q hq=>by have:=hnum q hq;omega) (by omega) (by omega) (by omega) (by omega);rw[k4]at e1 e2 hEn;rw[if_pos rfl]at hEn;rw[←hFn4,←hLn4,←hAn4,←hEn]at e2
   rw[←hSn]at e1 e2;simp only[k4]
   (refine go1 aj0 (aj2 (spc [(0,0),(1,1),(2,2)] [] e1) (spc [(0,0),(1,1),(2,2)] [] e2)) (aj4 @dBx.eq_1 @dNd.eq_1 k4 hlt) ?_;intros;refine mk_i ?_)
   refine Ai_.mk ⟨(us++[u],vs),by simp[hks]⟩ (Sub.lit (by simp[dBx,hR2,hwr])) (by simp)
   skip
  ·have e2:=ZI_ (pE x.k us) (empT u) (firA l ah x.k us (a+1)) (firT l ah u (a+1+(Ak_ us).length)) (lasA l ah x.k us (a+1)) (lasT l ah u (a+1+(Ak_ us).length)) (by omega) (by omega);rw[if_neg k4]at hEn;rw[←hFn k4,←hLn k4,←hEn]at e2;rw[←hAn k4,←hSn]at e1;have b4:(x.k==4)=false:=by simpa using k4
   (refine go1 (aj1 e2) (aj1 (spc [(0,0),(1,1),(2,2)] [] e1)) (aj5 @dBx.eq_1 @dNd.eq_1 k4 b4 hlt) ?_;intros;refine mk_i ?_)
   refine Ai_.mk ⟨(us++[u],vs),by simp[hks]⟩ (Sub.lit (by simp[dBx,hR2,hwr])) (by simp)
   skip
 | nil =>
  rw[bP0]at hks;subst hks;have hnlt:¬((ks.length:Int)<x.n):=by rw[hn];omega
  have hSl:=Qm_ H L S ks;have hr5:=hrl (a+1+(Ak_ ks).length);rw[EF_ hdr1]at hr5;have hF0:=VO_ l ah x.k ks (a+1);have hL0:=Vw_ l ah x.k ks (a+1);have hAl:=Sl_ SF l ah A x.k ks (a+1) (by omega);have hnum:=firA_num (ah:=ah) (k:=x.k) hdr1;rw[EF_ hdr1]at hnum;have hjm:=OV_ (l:=lasA l ah x.k ks (a+1)) (f:=firA l ah x.k ks (a+1)) (by omega) (by omega);have e3:=Hl_ (Fr_ H L S ks) SF (EX_ SF l ah A x.k ks (a+1)) (lasA l ah x.k ks (a+1)) (firA l ah x.k ks (a+1)) hSF (fun q hq=>by have:=hnum q hq;omega) (by omega) (by omega)
  have hdl:Ak_ []++r=r:=by rw[Bp_];rfl
  rw[hdl];have hbe:∀n:Int,(x.k==n)=decide (x.k=n):=fun n=>rfl
  by_cases h6:x.k=6
  ·rw[NF_ SF l ah A ks a hx (.inl h6)]at hAF;rw[←hAF]at e3;rw[h6]at e3;simp only[h6];exact go0 aj0 (aj1 (spc [(0,0),(1,1),(2,2)] [] e3)) (aj4 @dBx.eq_1 @dNd.eq_1 h6 hnlt)
  ·by_cases h7:x.k=7
   ·rw[NF_ SF l ah A ks a hx (.inr h7)]at hAF;rw[←hAF]at e3;rw[h7]at e3;simp only[h7];exact go0 aj0 (aj1 (spc [(0,0),(1,1),(2,2)] [] e3)) (aj4 @dBx.eq_1 @dNd.eq_1 h7 hnlt)
   ·rw[ZB_ SF l ah A ks a hx (by omega)]at hAF;have b6:(x.k==6)=false:=by simpa using h6
    have b7:(x.k==7)=false:=by simpa using h7
    exact go0 aj0 aj0 (aj9 @dBx.eq_1 @dNd.eq_1 h6 h7 b6 b7 hnlt hbe hAF)
theorem MR_ (H L:List ByteArray) (l:List Nd) (ah:Nat) (SF:List Sym) (h64:ah+(lvs l).length≤64):∀(n:Nat) (t:RT),(flat t).length≤n→okT t=true→KB_ H L l ah SF t
 | 0,t,hn,_=>by have:=EU_ t;omega
 | n+1,.mk x ks,hn,ht=>by
  by_cases hx:x.k=2∨x.k=3
  ·have:=ER_ ht hx;subst this;exact SK_ H L l ah SF x hx h64
  ·refine SJ_ H L l ah SF x ks ht hx h64 fun u hu=> ?_
   refine MR_ H L l ah SF h64 n u ?_ (Oy_ (Bx_ ht).2.2 u hu);have h1:=VM_ hu;rw[AF_,List.length_cons]at hn;omega
end Go.Proofs.YtchgnpnbcjflcaaGreat
end
section
namespace Go.Proofs.YtchgnpnbcjflcaaGreat
open Go Go.Dm
variable [DMode]
attribute [local irreducible] DW AV_ AZ_
set_option maxRecDepth 100000
def XH_ : Ann:=⟨[],[]⟩
theorem Sg_ (x y:Sym):Ac_ Tryz.prog 190 [.agg (dSym x),.agg (dSym y)] (.int .i64 (symC x y)):=by
 refine Aa_ [] XH_ Tryz.func190 Tryz.call190 Tryz.ntmps190 mxd (aj2 @XH_.eq_1 Tryz.results190) rfl (by simp) (by simp[mx]) fun hwf B hnt hgAnn=> ?_
 simp only[argS];cases h1:x.label<;>cases h2:y.label<;>exact go0 (aj1 (BR_ x.n y.n)) aj0 (aj4 @dSym.eq_1 h1 h2 @symC.eq_1)
def XI_ : Ann:=⟨[],[]⟩
theorem QQ_ (x y:Arc):Ac_ Tryz.prog 109 [.agg (dArc x),.agg (dArc y)] (.int .i64 (arcC x y)):=by
 refine Aa_ [] XI_ Tryz.func109 Tryz.call109 Tryz.ntmps109 mxd (aj2 @XI_.eq_1 Tryz.results109) rfl (by simp) (by simp[mx]) fun hwf B hnt hgAnn=> ?_
 simp only[argS];have h1:=BR_ x.fr y.fr;have h2:=Sg_ x.sy y.sy;have h3:=BR_ x.to y.to;have h4:=Os_ (cmpI x.fr y.fr) (symC x.sy y.sy) (cmpI x.to y.to);simp only[dSym]at h2;unfold arcC;exact go0 (aj4 h1 h2 h3 h4) aj0 (aj1 @dArc.eq_1)
end Go.Proofs.YtchgnpnbcjflcaaGreat
end
section
namespace Go.Dm
variable [DMode]
open Go.Shelf Go.Sort Go.Proofs Go.RowKit
abbrev TextM := { s:ByteArray//s.size≤maxLen }
instance : Inhabited TextM:=⟨⟨⟨#[]⟩,by decide⟩⟩
end Go.Dm
end
section
namespace Go.Proofs.YtchgnpnbcjflcaaGreat
open Go Go.Dm Go.Shelf
variable [DMode]
attribute [local irreducible] DW AV_ AZ_
set_option maxRecDepth 100000
abbrev eqA (x y:Arc):Bool:=arcC x y==0
theorem eqA_ne {x y:Arc} (h:eqA x y=false):¬x=y:=fun e=>by
 have:=(GT_.eq0 x y).2 e;simp[eqA,this]at h
theorem eqA_eq {x y:Arc} (h:eqA x y=true):x=y:=(GT_.eq0 x y).1 (by simpa[eqA]using h)
theorem arc_ne {x y:Arc} (h:¬x=y):(x.fr==y.fr&&(x.sy.label==y.sy.label&&(x.sy.n==y.sy.n&&x.to==y.to)))=false:=by
 cases hb:(x.fr==y.fr&&(x.sy.label==y.sy.label&&(x.sy.n==y.sy.n&&x.to==y.to)))with
 | false=>rfl
 | true =>
  exfalso
  apply h
  obtain⟨a,⟨b,c⟩,d⟩:=x;obtain⟨a',⟨b',c'⟩,d'⟩:=y;simp at hb;obtain⟨rfl,rfl,rfl,rfl⟩:=hb;rfl
def XJ_ : Ann:=⟨[],[]⟩
set_option maxHeartbeats 4000000 in
theorem Pr_ (l:List Arc) :
  AL_ Tryz.prog (.func 111) [.osl 0 0] [⟨0,0,.row 97 4 32 (l.map dArc)⟩] (Is_ (Bd_ eqA l)) []:=by
 refine Dj_ [0] [] Tryz.func111 rfl Tryz.call111 (by simp[Tryz.ntmps111]) (by simp) (by simp) ?_;intro hwf hwo B hnt;have hgAnn:=an_is XJ_ mxd (aj2 @XJ_.eq_1 Tryz.results111);simp only[argS]
 have hl:l.length≤9223372036854775807:=by
  simp only[SE_,maxLen,aK0]at hwo;omega
 clear hwo
 by_cases hl2:l.length<2
 ·have hcl:Bd_ eqA l=l:=by
   match l,hl2 with
   | [],_=>rfl
   | [x],_=>rfl
  exact go0 aj0 aj0 (aj2 hl2 hcl)
 have hl2':¬(l.length:Int)<2:=by omega
 obtain⟨R0,hR0⟩:∃R0,R0=Bd_ eqA l:=⟨_,rfl⟩;rw[←hR0]
 (refine go1 aj0 aj0 (aj2 hl2 hl2') ?_;intros;refine mk_i ?_)
 refine Ad_ (X:={k:Nat//1≤k∧k≤l.length∧Bd_ eqA (l.take k)=l.take k}) (fun k=>⟨[(0,.osl 0 0),(3,.int .i64 k.1)],[⟨0,0,.row 97 4 32 (l.map dArc)⟩]⟩) (fun k=>l.length-k.1) ⟨1,by
  obtain⟨x,t,rfl⟩:∃x t,l=x::t:=by
   cases l with
   | nil=>simp at hl2
   | cons x t=>exact⟨x,t,rfl⟩
  simp[Bd_,BC_]⟩ (Sub.lit (by simp)) ?_
 rintro⟨k,hk1,hk,hck⟩
 by_cases hlt:k<l.length
 ·obtain⟨q,hq,hq',hqm⟩:=Aj_ hlt;obtain⟨p,hp,hp',hpm⟩:=Aj_ (show k-1<l.length by omega);have hwr:IntKind.i64.wrap ((k:Int)-1)=(k:Int)-1:=wq;have hk0:((k:Int)-1).toNat=k-1:=by omega
  have hs:=DD_ (e:=eqA) (by omega) hp hq;have hb1:(0:Int)≤(k:Int)-1:=by omega
  have hb2:(k:Int)-1<l.length:=by omega
  cases hepq:eqA q p
  ·rw[hepq]at hs;simp only[aP0,if_false]at hs;have he2:(q.fr==p.fr&&(q.sy.label==p.sy.label&&(q.sy.n==p.sy.n&&q.to==p.to)))=false:=arc_ne (eqA_ne hepq)
   (refine go1 aj0 aj0 (aj11 @dArc.eq_1 hlt hq' hp' hp hq hk0 hwr hb1 hb2 he2) ?_;intros;refine mk_i ?_)
   refine Ai_.mk ⟨k+1,by omega,by omega,by rw[hs,hck,bF0,hq];rfl⟩ (Sub.lit (by simp)) (by simp;omega)
   skip
  ·rw[hepq]at hs;simp only[if_true,bP0]at hs;have he2:(q.fr==p.fr&&(q.sy.label==p.sy.label&&(q.sy.n==p.sy.n&&q.to==p.to)))=true:=by rw[eqA_eq hepq];simp
   (refine go1 aj0 aj0 (aj11 @dArc.eq_1 hlt hq' hp' hp hq hk0 hwr hb1 hb2 he2) ?_;intros;refine mk_i ?_)
   clear hwr hk0 hb1 hb2
   refine Ad_ (X:={x:Nat×Nat×List Arc//1≤x.1∧k+x.1≤l.length∧x.2.1<k+x.1∧k≤x.2.1∧x.2.2.length=l.length∧x.2.2.take x.2.1=Bd_ eqA (l.take (k+x.1))∧∀j,k+x.1≤j+1→x.2.2[j]? =l[j]?}) (fun x=>⟨[(0,.osl 0 0),(3,.int .i64 x.1.2.1),(4,.vw 0 0 4 32 k (l.length-k)),(5,.int .i64 x.1.1)],[⟨0,0,.row 97 4 32 (x.1.2.2.map dArc)⟩]⟩) (fun x=>l.length-x.1.1)
    ⟨(1,k,l),show 1≤1∧k+1≤l.length∧k<k+1∧k≤k∧l.length=l.length∧l.take k=Bd_ eqA (l.take (k+1))∧(∀j,k+1≤j+1→l[j]? =l[j]?) from ⟨by omega,by omega,by omega,by omega,rfl,by rw[hs,hck],fun _ _=>rfl⟩⟩ (Sub.lit (by simp)) ?_
   rintro⟨⟨m,kk,R⟩,x1,x2,x3,x4,x5,x6,x7⟩;simp only at x1 x2 x3 x4 x5 x6 x7 ⊢;have hv:k+(l.length-k)≤l.length:=by omega
   by_cases hm:m<l.length-k
   ·obtain⟨y,hy,hy',hym⟩:=Aj_ (show k+m<l.length by omega);obtain⟨z,hz,hz',hzm⟩:=Aj_ (show k+m-1<l.length by omega);obtain⟨c0,hc0,_,_⟩:=Aj_ (show kk<R.length by omega);have hRy:R[k+m]? =some y:=by rw[x7 _ (by omega)];exact hy
    have hRz:R[k+(m-1)]? =some z:=by rw[x7 _ (by omega),show k+(m-1)=k+m-1 by omega];exact hz
    have hRy':R[k+m]'(by omega)=y:=(aB0.1 hRy).2;have hRz':R[k+(m-1)]'(by omega)=z:=(aB0.1 hRz).2;have hwr:IntKind.i64.wrap ((m:Int)-1)=(m:Int)-1:=wq;have hk0:((m:Int)-1).toNat=m-1:=by omega
    have hb1:(0:Int)≤(m:Int)-1:=by omega
    have hb2:(m:Int)-1<((l.length-k:Nat):Int):=by omega
    have hs2:=DD_ (e:=eqA) (by omega) hz hy;rw[←x6]at hs2;have hkk:kk<l.length:=by omega
    cases heyz:eqA y z
    ·rw[heyz]at hs2;simp only[aP0,if_false]at hs2;have he3:(y.fr==z.fr&&(y.sy.label==z.sy.label&&(y.sy.n==z.sy.n&&y.to==z.to)))=false:=arc_ne (eqA_ne heyz)
     (refine go1 aj0 aj0 (aj15 @dArc.eq_1 hm hRy hRz hRy' hRz' hk0 hwr hb1 hb2 x5 hv hc0 hkk he3) ?_;intros;refine mk_i ?_)
     refine Ai_.mk ⟨(m+1,kk+1,R.set kk y),show 1≤m+1∧k+(m+1)≤l.length∧kk+1<k+(m+1)∧k≤kk+1∧(R.set kk y).length=l.length∧(R.set kk y).take (kk+1)=Bd_ eqA (l.take (k+(m+1)))∧(∀j,k+(m+1)≤j+1→(R.set kk y)[j]? =l[j]?) from ⟨by omega,by omega,by omega,by omega,by simp[x5],?_,fun j hj=> ?_⟩⟩ (Sub.lit ?_) (by simp;omega)
     ·rw[show k+(m+1)=k+m+1 by omega,hs2,bF0,fF0 (by omega),List.take_set_of_le (by omega)];rfl
     ·rw[List.getElem?_set_ne (by omega)];exact x7 j (by omega)
     ·have hm0:mxR ((R.map dArc).set kk [.int .i64 y.fr,.bool y.sy.label,.int .i64 y.sy.n,.int .i64 y.to])=0:=by
       rw[show (R.map dArc).set kk [.int .i64 y.fr,.bool y.sy.label,.int .i64 y.sy.n,.int .i64 y.to]=(R.set kk y).map dArc by simp[eB0,dArc]];exact mx_dArcs _
      simp[eB0,dArc,hm0]
     skip
    ·rw[heyz]at hs2;simp only[if_true,bP0]at hs2;have he3:(y.fr==z.fr&&(y.sy.label==z.sy.label&&(y.sy.n==z.sy.n&&y.to==z.to)))=true:=by rw[eqA_eq heyz];simp
     (refine go1 aj0 aj0 (aj15 @dArc.eq_1 hm hRy hRz hRy' hRz' hk0 hwr hb1 hb2 x5 hv hc0 hkk he3) ?_;intros;refine mk_i ?_)
     refine Ai_.mk ⟨(m+1,kk,R),show 1≤m+1∧k+(m+1)≤l.length∧kk<k+(m+1)∧k≤kk∧R.length=l.length∧R.take kk=Bd_ eqA (l.take (k+(m+1)))∧(∀j,k+(m+1)≤j+1→R[j]? =l[j]?) from ⟨by omega,by omega,by omega,by omega,x5,by rw[show k+(m+1)=k+m+1 by omega,hs2],fun j hj=>x7 j (by omega)⟩⟩ (Sub.lit (by simp)) (by simp;omega)
     skip
   ·have hkm:k+m=l.length:=by omega
    have hcl1:(BS_ (R.map dArc) kk (l.length-kk) [.int .i64 0,.bool false,.int .i64 0,.int .i64 0]).length=l.length:=by simp[BS_];omega
    have hcl2:(BS_ (R.map dArc) kk (l.length-kk) [.int .i64 0,.bool false,.int .i64 0,.int .i64 0]).take kk=R0.map dArc:=by
     have e1:l.take (k+m)=l:=by rw[hkm,aS0]
     rw[e1]at x6;rw[hR0,←x6];simp only[BS_];rw[aT0,dU0 (by simp;omega),eU0,Nat.min_self,List.map_take]
    have hkl:kk≤l.length:=by omega
    exact go0 aj0 aj0 (aj6 hm x5 hv hcl1 hcl2 hkl)
 ·have hkk:k=l.length:=by omega
  subst hkk;rw[aS0]at hck;rw[hck]at hR0;exact go0 aj0 aj0 (aj1 hR0)
theorem ST_ (l:List Arc):AL_ Tryz.prog (.func 108) [.osl 0 0,.fn (.func 109) [] []] [⟨0,0,.row 97 4 32 (l.map dArc)⟩] (.tup []) [⟨0,0,.row 97 4 32 ((Fu_ arcC l).map dArc)⟩]:=by
 obtain⟨un,hun⟩:∃un:List DVal→Arc,∀e,un (dArc e)=e:=⟨fun d=>match d with | [.int _ a,.bool b,.int _ c,.int _ e]=>⟨a,⟨b,c⟩,e⟩ | _=>⟨0,⟨false,0⟩,0⟩,fun e=>rfl⟩
 have hmem:∀x∈l.map dArc,∃p∈l,x=dArc p:=fun x hx=>by
  obtain⟨p,hp,rfl⟩:=aU0.1 hx;exact⟨p,hp,rfl⟩
 refine Qx_ (cf:=fun x y=>arcC (un x) (un y)) Tryz.sortFArc (by rfl) Tryz.call108 (by kernel_rfl) (by kernel_rfl) (by decide) rfl ?_ Tryz.call109 ?_ ?_ ?_ ?_ ?_
 ·intro x hx;obtain⟨p,_,rfl⟩:=hmem x hx;simp
 ·intro x hx y hy;obtain⟨p,_,rfl⟩:=hmem x hx;obtain⟨q,_,rfl⟩:=hmem y hy;simp only[hun];exact @QQ_ HG_ p q
 ·intro x _;rw[GT_.refl];omega
 ·intro x _ y _ z _;exact GT_.trans _ _ _
 ·intro x _ y _ z _;exact GT_.ntrans _ _ _
 ·intro L hp hs;exact Qe_ GT_ hun hp hs
end Go.Proofs.YtchgnpnbcjflcaaGreat
end
section
namespace Go.Proofs.YtchgnpnbcjflcaaGreat
open Go Go.Dm
variable [DMode]
inductive Rch (E:List (Nat×Nat)):Nat→Nat→Prop where
 | refl (p:Nat):Rch E p p
 | step {p q r:Nat}:(p,q)∈E→Rch E q r→Rch E p r
theorem Rch.one {E:List (Nat×Nat)} {p q:Nat} (h:(p,q)∈E):Rch E p q:= .step h (.refl q)
theorem Rch.trans {E:List (Nat×Nat)} {p q r:Nat} (h:Rch E p q) (h':Rch E q r):Rch E p r:=by
 induction h with
 | refl _=>exact h'
 | step a _ ih=>exact .step a (ih h')
theorem Rch.mono {E E':List (Nat×Nat)} (h:∀x∈E,x∈E') {p q:Nat} (hr:Rch E p q):Rch E' p q:=by
 induction hr with
 | refl _=>exact .refl _
 | step a _ ih=>exact .step (h _ a) ih
theorem Rch.map {E E':List (Nat×Nat)} (f:Nat→Nat) (h:∀x∈E,(f x.1,f x.2)∈E') {p q:Nat} (hr:Rch E p q):Rch E' (f p) (f q):=by
 induction hr with
 | refl _=>exact .refl _
 | step a _ ih=>exact .step (h _ a) ih
theorem Rh_ {x:Nd} {ks:List RT} (h:okT (.mk x ks)=true) (h5:x.k=5):ks≠[]:=by
 obtain⟨h1,h2,_⟩:=Bx_ h;rintro rfl;unfold mayN at h1;simp[h5,h2]at h1
mutual
theorem fiT_none : ∀(t:RT) (a:Nat),okT t=true→fiT t a=[]→empT t=true
 | .mk x ks,a,hok,h=>by
  rw[Jv_]at h;rw[Pp_]
  split at h
  ·simp at h
  ·rename_i h23;rw[if_neg h23];have hall:=Pk_ x.k ks (a+1) (Bx_ hok).2.2 h
   split
   ·rename_i h5;have:=Rh_ hok h5
    cases ks with
    | nil=>exact absurd rfl this
    | cons u us =>
     rw[Di_,aL0]at hall;rw[anyE,hall.1];rfl
   ·split
    ·exact hall
    ·rfl
theorem Pk_ (k:Int):∀(us:List RT) (a:Nat),okL us=true→fiL k us a=[]→allE us=true
 | [],a,_,_=>Ec_
 | u::us,a,hok,h=>by
  obtain⟨o1,o2⟩:=AX_ hok;rw[Ch_]at h;obtain⟨h1,h2⟩:=List.append_eq_nil_iff.1 h;have e1:=fiT_none u a o1 h1;rw[if_neg (by rw[e1];simp)]at h2;rw[Di_,e1,Pk_ k us _ o2 h2];rfl
end
mutual
theorem ON_ : ∀(t:RT) (a:Nat),okT t=true→laT t a=[]→empT t=true
 | .mk x ks,a,hok,h=>by
  rw[If_]at h;rw[Pp_]
  split at h
  ·simp at h
  ·rename_i h23;rw[if_neg h23];have hall:=OQ_ x.k ks (a+1) (Bx_ hok).2.2 h
   split
   ·rename_i h5;have:=Rh_ hok h5
    cases ks with
    | nil=>exact absurd rfl this
    | cons u us =>
     rw[Di_,aL0]at hall;rw[anyE,hall.1];rfl
   ·split
    ·exact hall
    ·rfl
theorem OQ_ (k:Int):∀(us:List RT) (a:Nat),okL us=true→laL k us a=[]→allE us=true
 | [],a,_,_=>Ec_
 | u::us,a,hok,h=>by
  obtain⟨o1,o2⟩:=AX_ hok;rw[BJ_]at h
  split at h
  ·obtain⟨h1,h2⟩:=List.append_eq_nil_iff.1 h;have e2:=OQ_ k us _ o2 h1;rw[if_pos e2]at h2;rw[Di_,ON_ u a o1 h2,e2];rfl
  ·obtain⟨h1,h2⟩:=List.append_eq_nil_iff.1 h;rw[Di_,ON_ u a o1 h1,OQ_ k us _ o2 h2];rfl
end
def LfT (l:List Nd) (a q:Nat):Prop:=a≤q∧∃x,l[q-a]? =some x∧(x.k=2∨x.k=3)
theorem Ym_ {u:RT} {us:List RT} {a q:Nat} (h:LfT (Ak_ (u::us)) a q):LfT (flat u) a q∨LfT (Ak_ us) (a+(flat u).length) q:=by
 obtain⟨h1,x,hx,hk⟩:=h;rw[Al_]at hx
 by_cases hq:q-a<(flat u).length
 ·rw[bA0 hq]at hx;exact .inl ⟨h1,x,hx,hk⟩
 ·rw[bE0 (by omega)]at hx;exact .inr ⟨by omega,x,by rw[←eY0];exact hx,hk⟩
theorem laT_Lf {t:RT} {a q:Nat} (h:q∈laT t a):LfT (flat t) a q:=⟨(FE_ t a q h).1,Kf_ t a q h⟩
theorem fiL_Lf {k:Int} {us:List RT} {a q:Nat} (h:q∈fiL k us a):LfT (Ak_ us) a q:=⟨(Jx_ k us a q h).1,Io_ k us a q h⟩
theorem acc_fi : ∀(us:List RT) (a:Nat) (acc:List Nat),∀l∈acc,∀f∈fiL 4 us a,(l,f)∈arL 4 us a acc
 | [],a,acc,l,hl,f,hf=>by rw[Hp_]at hf;simp at hf
 | u::us,a,acc,l,hl,f,hf=>by
  rw[Ch_,aI0]at hf;rw[Ck_,if_pos rfl,if_pos rfl,aI0,aI0]
  rcases hf with hf | hf
  ·exact .inr (.inl (DK_.2 ⟨hl,hf⟩))
  ·split at hf
   ·simp at hf
   ·rename_i he;have he:empT u=true:=by cases h:empT u with | true=>rfl | false=>exact absurd ⟨rfl,h⟩ he
    exact .inr (.inr (acc_fi us _ _ l (by rw[if_pos he];exact aO0 _ hl) f hf))
theorem arL_sub (k:Int) (u:RT) (us:List RT) (a:Nat) (acc:List Nat):(∀x∈arT u a,x∈arL k (u::us) a acc)∧(∀x∈arL k us (a+(flat u).length) (if k=4 then laT u a++(if empT u=true then acc else [])else []),x∈arL k (u::us) a acc):=by
 rw[Ck_];exact⟨fun x h=>aM0 _ h,fun x h=>aO0 _ (aO0 _ h)⟩
mutual
theorem ahead_T : ∀(t:RT) (a q:Nat),okT t=true→LfT (flat t) a q→∃f∈fiT t a,Rch (arT t a) f q
 | .mk x ks,a,q,hok,h=>by
  rw[Jv_,IA_];obtain⟨h1,y,hy,hk⟩:=h;rw[AF_]at hy
  split
  ·rename_i h23;have hks:=ER_ hok h23;rw[hks,Bp_]at hy
   have hq:q=a:=by
    have:=(aB0.1 hy).1;simp at this;omega
   subst hq;exact⟨q,by simp,.refl q⟩
  ·rename_i h23
   have hq:a+1≤q:=by
    rcases Nat.lt_or_ge a q with h | h
    ·exact h
    ·exfalso;rw[show q-a=0 by omega]at hy;simp at hy;rw[hy]at h23;exact h23 hk
   have hl:LfT (Ak_ ks) (a+1) q:=⟨hq,y,by rw[show q-a=q-(a+1)+1 by omega,bI0]at hy;exact hy,hk⟩;obtain⟨f,hf,hr⟩:=ahead_L x.k ks (a+1) [] q (Bx_ hok).2.2 hl;exact⟨f,hf,hr.mono fun _ h=>aM0 _ h⟩
theorem ahead_L (k:Int):∀(us:List RT) (a:Nat) (acc:List Nat) (q:Nat),okL us=true→LfT (Ak_ us) a q→∃f∈fiL k us a,Rch (arL k us a acc) f q
 | [],a,acc,q,_,h=>by
  obtain⟨_,y,hy,_⟩:=h;rw[Bp_]at hy;simp at hy
 | u::us,a,acc,q,hok,h=>by
  obtain⟨o1,o2⟩:=AX_ hok;obtain⟨s1,s2⟩:=arL_sub k u us a acc
  rcases Ym_ h with h | h
  ·obtain⟨f,hf,hr⟩:=ahead_T u a q o1 h;exact⟨f,by rw[Ch_];exact aM0 _ hf,hr.mono s1⟩
  ·obtain⟨f,hf,hr⟩:=ahead_L k us (a+(flat u).length) (if k=4 then laT u a++(if empT u=true then acc else [])else []) q o2 h
   by_cases hc:k=4∧empT u=false
   ·obtain⟨h4,he⟩:=hc;subst h4;rw[if_pos rfl]at s2 hr;have hla:laT u a≠[]:=fun h=>by rw[ON_ u a o1 h]at he;simp at he
    obtain⟨l,hl⟩:=List.exists_mem_of_ne_nil _ hla;obtain⟨f0,hf0,hr0⟩:=ahead_T u a l o1 (laT_Lf hl);have hj:=acc_fi us (a+(flat u).length) _ l (aM0 (if empT u=true then acc else []) hl) f hf;exact⟨f0,by rw[Ch_];exact aM0 _ hf0,(hr0.mono s1).trans ((Rch.one (s2 _ hj)).trans (hr.mono s2))⟩
   ·exact⟨f,by rw[Ch_,if_neg hc];exact aO0 _ hf,hr.mono s2⟩
end
mutual
theorem behind_T : ∀(t:RT) (a q:Nat),okT t=true→LfT (flat t) a q→∃l∈laT t a,Rch (arT t a) q l
 | .mk x ks,a,q,hok,h=>by
  rw[If_,IA_];obtain⟨h1,y,hy,hk⟩:=h;rw[AF_]at hy
  split
  ·rename_i h23;have hks:=ER_ hok h23;rw[hks,Bp_]at hy
   have hq:q=a:=by
    have:=(aB0.1 hy).1;simp at this;omega
   subst hq;exact⟨q,by simp,.refl q⟩
  ·rename_i h23
   have hq:a+1≤q:=by
    rcases Nat.lt_or_ge a q with h | h
    ·exact h
    ·exfalso;rw[show q-a=0 by omega]at hy;simp at hy;rw[hy]at h23;exact h23 hk
   have hl:LfT (Ak_ ks) (a+1) q:=⟨hq,y,by rw[show q-a=q-(a+1)+1 by omega,bI0]at hy;exact hy,hk⟩;obtain⟨f,hf,hr⟩:=PC_ x.k ks (a+1) [] q (Bx_ hok).2.2 hl;exact⟨f,hf,hr.mono fun _ h=>aM0 _ h⟩
theorem PC_ (k:Int):∀(us:List RT) (a:Nat) (acc:List Nat) (q:Nat),okL us=true→LfT (Ak_ us) a q→∃l∈laL k us a,Rch (arL k us a acc) q l
 | [],a,acc,q,_,h=>by
  obtain⟨_,y,hy,_⟩:=h;rw[Bp_]at hy;simp at hy
 | u::us,a,acc,q,hok,h=>by
  obtain⟨o1,o2⟩:=AX_ hok;obtain⟨s1,s2⟩:=arL_sub k u us a acc
  rcases Ym_ h with h | h
  ·obtain⟨l,hl,hr⟩:=behind_T u a q o1 h
   by_cases h4:k=4
   ·subst h4;rw[if_pos rfl]at s2
    by_cases he:allE us=true
    ·exact⟨l,by rw[BJ_,if_pos rfl,if_pos he];exact aO0 _ hl,hr.mono s1⟩
    ·have hfi:fiL 4 us (a+(flat u).length)≠[]:=fun h=>he (Pk_ 4 us _ o2 h)
     obtain⟨f,hf⟩:=List.exists_mem_of_ne_nil _ hfi;have hj:=acc_fi us (a+(flat u).length) _ l (aM0 (if empT u=true then acc else []) hl) f hf;obtain⟨l2,hl2,hr2⟩:=PC_ 4 us (a+(flat u).length) (laT u a++(if empT u=true then acc else [])) f o2 (fiL_Lf hf);exact⟨l2,by rw[BJ_,if_pos rfl];exact aM0 _ hl2,(hr.mono s1).trans ((Rch.one (s2 _ hj)).trans (hr2.mono s2))⟩
   ·exact⟨l,by rw[BJ_,if_neg h4];exact aM0 _ hl,hr.mono s1⟩
  ·obtain⟨l,hl,hr⟩:=PC_ k us (a+(flat u).length) _ q o2 h;refine⟨l,?_,hr.mono s2⟩;rw[BJ_]
   split
   ·exact aM0 _ hl
   ·exact aO0 _ hl
end
theorem Gn_ (l:List Nd):∃c:Int,Ac_ Tryz.prog 101 [dNds l] (.int .i64 c)∧Ac_ Tryz.prog 207 [dNds l] (.int .i64 c)∧(c=0→l.length≤2048∧∃t,okT t=true∧l=flat t)∧(l.length≤2048→CK_ l=true→∃t,okT t=true∧l=flat t∧c=CM_ t):=by
 by_cases h:2048<l.length
 ·exact⟨3,JB_ l h,My_ l h,by omega,fun hh=>by omega⟩
 ·cases hw:CK_ l with
  | false=>exact⟨170,Ua_ l (by omega) hw,On_ l (by omega) hw,by omega,fun _ hh=>by simp at hh⟩
  | true =>
   obtain⟨t,ht,rfl⟩:=IF_ hw;exact⟨CM_ t,JA_ t ht (by omega),Mx_ t ht (by omega),fun _=>⟨by omega,t,ht,rfl⟩,fun _ _=>⟨t,ht,rfl,rfl⟩⟩
noncomputable def Pz_ (l:List Nd):Int:=Classical.choose (Gn_ l)
theorem bodyC_p (l:List Nd):Ac_ Tryz.prog 101 [dNds l] (.int .i64 (Pz_ l)):=(Classical.choose_spec (Gn_ l)).1
theorem bodyC_0 {l:List Nd} (h:Pz_ l=0):l.length≤2048∧∃t,okT t=true∧l=flat t:=(Classical.choose_spec (Gn_ l)).2.2.1 h
theorem bodyC_t {l:List Nd} (h:l.length≤2048) (hw:CK_ l=true):∃t,okT t=true∧l=flat t∧Pz_ l=CM_ t:=(Classical.choose_spec (Gn_ l)).2.2.2 h hw
noncomputable def errF : List (List Nd)→Int
 | []=>0
 | l::ls=>if Pz_ l=0 then errF ls else Pz_ l
theorem Nr_ : ∀{ls:List (List Nd)},errF ls=0→∃ts:List RT,ls=ts.map flat∧∀t∈ts,okT t=true∧(flat t).length≤2048
 | [],_=>⟨[],rfl,by simp⟩
 | l::ls,h=>by
  unfold errF at h
  split at h
  ·rename_i h1;obtain⟨h2,t,h3,h4⟩:=bodyC_0 h1;obtain⟨ts,h5,h6⟩:=Nr_ h;refine⟨t::ts,by rw[h5,h4];rfl,fun u hu=> ?_⟩
   rcases aJ0.1 hu with rfl | hu
   ·exact⟨h3,by rw[←h4];exact h2⟩
   ·exact h6 u hu
  ·rename_i h1;exact absurd h h1
def bad4 (H L:List ByteArray) (l:List Nd):Bool:=l.any fun x=>decide (symE H L x=4)
def rowB (l:List Nd):List DVal:=[dNds l]
@[simp] theorem mx_rowB (l:List Nd):mxL (rowB l)=0:=by simp[rowB,mxL,mx]
@[simp] theorem mx_rowBs (l:List (List Nd)):mxR (l.map rowB)=0:=mxR0 _ mx_rowB l
def occS (ls:List (List Nd)):Nat:=(ls.map occN).sum
theorem occS_snoc (ls:List (List Nd)) (l:List Nd):occS (ls++[l])=occS ls+occN l:=by simp[occS]
theorem occS_nil : occS []=0:=rfl
theorem Gc_ : ∀ts:List RT,occS (ts.map flat)=(lvL ts).length
 | []=>by simp[occS,lvL]
 | t::ts=>by
  have ih:=Gc_ ts;have h1:lvL (t::ts)=lvs (flat t)++lvL ts:=by simp[lvL]
  have h2:occS (List.map flat (t::ts))=occN (flat t)+occS (ts.map flat):=by simp[occS]
  rw[h2,h1,aD0,ih,JZ_]
theorem occS_le : ∀(ts:List RT),(∀t∈ts,(flat t).length≤2048)→occS (ts.map flat)≤2048*ts.length
 | [],_=>by simp[occS]
 | t::ts,h=>by
  have ih:=occS_le ts fun u hu=>h u (aC0 _ hu)
  have h1:=h t aE0;have h2:occS (List.map flat (t::ts))=occN (flat t)+occS (ts.map flat):=by simp[occS]
  have h3:occN (flat t)≤(flat t).length:=by rw[JZ_];exact cG0 _ _
  rw[h2,List.length_cons];omega
theorem occS_take {ls:List (List Nd)} {k:Nat}:occS (ls.take k)≤occS ls:=by
 have h1:occS ls=occS (ls.take k)+occS (ls.drop k):=by
  unfold occS;rw[←List.sum_append_nat,←aZ0,List.take_append_drop]
 omega
theorem arT_few (t:RT) (h:(flat t).length≤2048) (h64:(lvs (flat t)).length≤64):(arT t 0).length≤16777216*(lvs (flat t)).length:=by
 by_cases h0:(lvs (flat t)).length=0
 ·have:arT t 0=[]:=by
   cases ha:arT t 0 with
   | nil=>rfl
   | cons p r =>
    exfalso;obtain⟨⟨x,hx,hk⟩,_⟩:=PG_ t 0 p.1 p.2 (by rw[ha];exact aE0)
    have h1:x∈lvs (flat t):=by
     unfold lvs;rw[cI0];exact⟨bL0 hx,CB_.2 hk⟩
    have:=List.length_pos_of_mem h1;omega
  rw[this];simp
 ·have:=Uh_ t 0 h64;omega
theorem Te_ : ∀(ts:List RT) (ah:Nat),(∀t∈ts,(flat t).length≤2048)→(lvL ts).length≤64→(prL ah ts).length≤16777216*(lvL ts).length
 | [],ah,_,_=>by simp[prL]
 | t::ts,ah,h,h64=>by
  have h1:lvL (t::ts)=lvs (flat t)++lvL ts:=by simp[lvL]
  rw[h1,aD0]at h64 ⊢;have ih:=Te_ ts (ah+(lvs (flat t)).length) (fun u hu=>h u (aC0 _ hu)) (by omega);have h2:=arT_few t (h t aE0) (by omega);rw[prL,aD0,aK0];omega
theorem TO_ : ∀(ts:List RT) (ah:Nat),(fiN ah ts).length≤(lvL ts).length
 | [],ah=>by simp[fiN]
 | t::ts,ah=>by
  have h1:lvL (t::ts)=lvs (flat t)++lvL ts:=by simp[lvL]
  have ih:=TO_ ts (ah+(lvs (flat t)).length);have h2:=Ph_ t 0;rw[fiN,h1,aD0,aD0,aK0];omega
theorem laN_len : ∀(ts:List RT) (ah:Nat),(laN ah ts).length≤(lvL ts).length
 | [],ah=>by simp[laN]
 | t::ts,ah=>by
  have h1:lvL (t::ts)=lvs (flat t)++lvL ts:=by simp[lvL]
  have ih:=laN_len ts (ah+(lvs (flat t)).length);have h2:=OO_ t 0;rw[laN,h1,aD0,aD0,aK0];omega
theorem TN_ : ∀(ts:List RT) (ah:Nat),∀q∈fiN ah ts,1≤q∧q≤ah+(lvL ts).length
 | [],ah,q,h=>by simp[fiN]at h
 | t::ts,ah,q,h=>by
  have h1:lvL (t::ts)=lvs (flat t)++lvL ts:=by simp[lvL]
  rw[h1,aD0];rw[fiN,aI0]at h
  rcases h with h | h
  ·have h2:(flat t).drop 0=flat t++[]:=by simp
   have h3:=fi_num (ah:=ah) h2 q h;rw[EF_ h2,Of_]at h3;omega
  ·have:=TN_ ts _ q h;omega
def firN (us:List RT):List Nat:=fiN 0 us
def lasN (us:List RT):List Nat:=laN 0 us
def Mj_ (SF:List Sym) (us:List RT):List Arc:=Dp_ SF (prL 0 us)
theorem syL_snoc (sy:Nd→Sym) (us:List RT) (t:RT):syL sy (us++[t])=syL sy us++(lvs (flat t)).map sy:=by unfold syL;rw[Vt_,aZ0]
theorem NU_ (sy:Nd→Sym) (us:List RT):(syL sy us).length=(lvL us).length:=by simp[syL]
theorem syN_step (H L:List ByteArray) (us:List RT) (t:RT):IJ_ H L (syL (symS H L) us) t=syL (symS H L) (us++[t]):=by unfold IJ_;rw[syL_snoc]
theorem firN_step (us:List RT) (t:RT):firN us++firT (flat t) (lvL us).length t 0=firN (us++[t]):=by unfold firN firT;rw[VU_,bQ0]
theorem lasN_step (us:List RT) (t:RT):lasN us++lasT (flat t) (lvL us).length t 0=lasN (us++[t]):=by unfold lasN lasT;rw[Vy_,bQ0]
theorem ZA_ (SF:List Sym) (us:List RT) (t:RT):FQ_ SF (flat t) (lvL us).length (Mj_ SF us) t 0=Mj_ SF (us++[t]):=by unfold Mj_ FQ_;rw[UV_,EA_,bQ0]
theorem arcsN_all (sy:Nd→Sym) (ts:List RT):Mj_ (syL sy ts) ts++Dp_ (syL sy ts) (Cv_ [0] (firN ts))=Iy_ sy ts:=by
 unfold Mj_ Iy_ firN Dp_ Cv_;rw[aZ0];simp
theorem lvL_pre {us vs:List RT}:(lvL us).length≤(lvL (us++vs)).length:=by
 have:lvL (us++vs)=lvL us++lvL vs:=by simp[lvL]
 rw[this,aD0];omega
theorem syL_pre (sy:Nd→Sym) (us vs:List RT):syL sy us <+: syL sy (us++vs):=by
 unfold syL;have:lvL (us++vs)=lvL us++lvL vs:=by simp[lvL]
 rw[this,aZ0];exact List.prefix_append _ _
theorem ZG_ (us:List RT) (t:RT):(anyE us||empT t)=anyE (us++[t]):=(Sn_ us t).symm
def autoD (n:Int) (fs:List Int) (zs:List Arc):DVal:= .agg [.int .i64 n,CJ_ fs,Is_ zs]
def boxF (H L:List ByteArray) (ts:List RT):DVal:=autoD ((lvL ts).length+1) (LL_ ts) (Bd_ (fun x y=>arcC x y==0) (Fu_ arcC (Iy_ (symS H L) ts)))
def PD_ (sy:Nd→Sym) (ts:List RT):List Arc:=Bd_ (fun x y=>arcC x y==0) (Fu_ arcC (Iy_ sy ts))
theorem mem_arcsB {sy:Nd→Sym} {ts:List RT} {x:Arc}:x∈PD_ sy ts↔x∈Iy_ sy ts:=by
 unfold PD_;rw[(Dg_ GT_ (Cq_ GT_ (Iy_ sy ts))).2,(Dz_ _ _).mem_iff]
theorem Sk_ (sy:Nd→Sym) (ts:List RT):Dl_ arcC (PD_ sy ts):=(Dg_ GT_ (Cq_ GT_ (Iy_ sy ts))).1
theorem arc_pair {sy:Nd→Sym} {ts:List RT} {x:Arc}:x∈PD_ sy ts↔∃p q,((p,q)∈prL 0 ts∨(p=0∧q∈fiN 0 ts))∧x=arcJ (syL sy ts) (p,q):=by
 rw[mem_arcsB];unfold Iy_;rw[aU0]
 constructor
 ·rintro⟨⟨p,q⟩,h,rfl⟩;refine⟨p,q,?_,rfl⟩
  rcases aI0.1 h with h | h
  ·exact .inl h
  ·obtain⟨q',hq,he⟩:=aU0.1 h;simp only[_root_.Prod.mk.injEq]at he;obtain⟨rfl,rfl⟩:=he;exact .inr ⟨rfl,hq⟩
 ·rintro⟨p,q,h,rfl⟩;refine⟨(p,q),?_,rfl⟩
  rcases h with h | ⟨rfl,h⟩
  ·exact aM0 _ h
  ·exact aO0 _ (aU0.2 ⟨q,h,rfl⟩)
theorem prL_num : ∀(ts:List RT) (ah:Nat) (p q:Nat),(p,q)∈prL ah ts→(ah<p∧p≤ah+(lvL ts).length)∧ah<q∧q≤ah+(lvL ts).length
 | [],ah,p,q,h=>by simp[prL]at h
 | t::ts,ah,p,q,h=>by
  have hl:(lvL (t::ts)).length=(lvs (flat t)).length+(lvL ts).length:=by simp[lvL]
  rw[prL,aI0]at h
  rcases h with h | h
  ·obtain⟨⟨a,b⟩,hab,he⟩:=aU0.1 h;simp only[num2,_root_.Prod.mk.injEq]at he;obtain⟨rfl,rfl⟩:=he;obtain⟨⟨x,hx,hkx⟩,⟨y,hy,hky⟩⟩:=PG_ t 0 a b hab;have hd:(flat t).drop 0=flat t++[]:=by simp
   have h1:=Vc_ (ah:=ah) hd (cW0 a) ⟨x,hx,hkx⟩;have h2:=Vc_ (ah:=ah) hd (cW0 b) ⟨y,hy,hky⟩;rw[EF_ hd,Of_]at h1 h2;unfold num at h1 h2 ⊢;omega
  ·have:=prL_num ts _ p q h;omega
theorem fiN_num2 (ts:List RT):∀q∈fiN 0 ts,1≤q∧q≤(lvL ts).length:=fun q h=>by have:=TN_ ts 0 q h;omega
theorem arc_num {sy:Nd→Sym} {ts:List RT} {x:Arc} (h:x∈PD_ sy ts):∃p q:Nat,p≤(lvL ts).length∧1≤q∧q≤(lvL ts).length∧x=⟨(p:Int),(syL sy ts).getD (q-1) ⟨false,0⟩,(q:Int)⟩:=by
 obtain⟨p,q,hpq,rfl⟩:=arc_pair.1 h;clear h
 rcases hpq with h | ⟨rfl,h⟩
 ·have:=prL_num ts 0 p q h;exact⟨p,q,by omega,by omega,by omega,rfl⟩
 ·have:=fiN_num2 ts q h;exact⟨0,q,by omega,by omega,by omega,rfl⟩
def boxA (sy:Nd→Sym) (ts:List RT):Auto:=⟨(lvL ts).length+1,LL_ ts,PD_ sy ts⟩
theorem pw_ok {l:List Int} {s:Int} (hp:l.Pairwise (· < ·)) (h:∀q∈l,0≤q∧q<s):(List.range l.length).all (okF s l)=true:=by
 rw[aX0];intro k hk;have hk:=dB0.1 hk
 have hs:stB s l[k]=true:=by
  have:=h _ (cR0 hk);unfold stB;simp[this]
 rcases Nat.eq_zero_or_pos k with rfl | h0
 ·rw[okF_zero (aH0 hk)];exact hs
 ·rw[okF_pos h0 (aH0 hk) (aH0 (show k-1<l.length by omega)),hs];have:=eV0.1 hp (k-1) k (by omega) hk (by omega);simpa using this
theorem pw_okA {l:List Arc} {s:Int} (hp:l.Pairwise (fun x y=>arcC x y<0)) (h:∀x∈l,ZE_ s x=true):(List.range l.length).all (okA s l)=true:=by
 rw[aX0];intro k hk;have hk:=dB0.1 hk;have hs:=h _ (cR0 hk)
 rcases Nat.eq_zero_or_pos k with rfl | h0
 ·rw[okA_zero (aH0 hk)];exact hs
 ·rw[okA_pos h0 (aH0 hk) (aH0 (show k-1<l.length by omega)),hs,ZF_];have:=eV0.1 hp (k-1) k (by omega) hk (by omega);simpa using this
theorem symS_nn (H L:List ByteArray) (x:Nd):0≤(symS H L x).n:=by
 unfold symS ixS
 repeat' split
 all_goals simp
theorem boxA_ok (H L:List ByteArray) (ts:List RT) (h64:(lvL ts).length≤64):FP_ (boxA (symS H L) ts)=true:=by
 unfold FP_ boxA;simp only[aL0,decide_eq_true_eq];refine⟨⟨by omega,by omega⟩,?_,?_⟩
 ·obtain⟨h1,h2⟩:=TM_ ts 0
  have hm:((finR 0 ts).map toI).Pairwise (· < ·):=by
   rw[dH0];exact h1.imp fun h=>by unfold toI;omega
  have hb:∀q∈(finR 0 ts).map toI,0<q∧q<((lvL ts).length:Int)+1:=by
   intro q hq;obtain⟨p,hp,rfl⟩:=aU0.1 hq;have:=h2 p hp;unfold toI;omega
  refine pw_ok ?_ ?_
  ·unfold LL_
   split
   ·exact bX0.2 ⟨fun q hq=>(hb q hq).1,hm⟩
   ·exact hm
  ·intro q hq;unfold LL_ at hq
   rcases aI0.1 hq with hq | hq
   ·split at hq
    ·simp at hq;subst hq;omega
    ·simp at hq
   ·have:=hb q hq;omega
 ·refine pw_okA (Sk_ _ _) ?_;intro x hx;obtain⟨p,q,h1,h2,h3,rfl⟩:=arc_num hx
  have hn:0≤((syL (symS H L) ts).getD (q-1) ⟨false,0⟩).n:=by
   rw[bH0]
   cases h:(syL (symS H L) ts)[q-1]? with
   | none=>exact Int.le_refl 0
   | some s =>
    obtain⟨y,_,rfl⟩:=aU0.1 (bL0 h);exact symS_nn H L y
  unfold ZE_ stB;simp only[aL0,decide_eq_true_eq];exact⟨⟨by omega,by omega⟩,⟨by omega,by omega⟩,hn⟩
theorem boxA_eq (H L:List ByteArray) (ts:List RT):boxF H L ts= .agg (TT_ (boxA (symS H L) ts)):=rfl
theorem compL_le {α:Type} (e:α→α→Bool) (l:List α):(Bd_ e l).length≤l.length:=by
 cases l with
 | nil=>simp[Bd_]
 | cons p t =>
  have:=EV_ e t p;simp only[Bd_,List.length_cons];omega
theorem arcsB_len (sy:Nd→Sym) (ts:List RT) (h:∀t∈ts,(flat t).length≤2048) (h64:(lvL ts).length≤64):(PD_ sy ts).length≤1073741888:=by
 have h1:=compL_le (fun x y=>arcC x y==0) (Fu_ arcC (Iy_ sy ts));rw[(Dz_ arcC (Iy_ sy ts)).length_eq]at h1;have h2:=Te_ ts 0 h h64;have h3:=TO_ ts 0;unfold PD_;unfold Iy_ at h1 ⊢;rw[aK0,aD0,aK0]at h1;omega
end Go.Proofs.YtchgnpnbcjflcaaGreat
end
section
namespace Go.Proofs.YtchgnpnbcjflcaaGreat
open Go Go.Dm
variable [DMode]
attribute [local irreducible] DW AV_ AZ_
set_option maxRecDepth 100000
theorem At.end {l:List Nd} {p:Nat} {t:RT} (h:At l p t):endI l p=(p:Int)+(flat t).length:=by
 obtain⟨hok,hle,r,hr⟩:=h;unfold endI;rw[hr,Eu_ _ _ 0 hok,BG_];have h2:=congrArg List.length hr;rw[cA0,aD0]at h2;simp only;omega




def syG (g:List Rul):Nd→Sym:=symS (As_ g) (Aw_ g)
end Go.Proofs.YtchgnpnbcjflcaaGreat
end
section
namespace Go.Proofs.YtchgnpnbcjflcaaGreat
open Go Go.Dm Go.Shelf
variable [DMode]
attribute [local irreducible] DW AV_ AZ_
set_option maxRecDepth 100000
abbrev autoZ : DVal:= .agg [.int .i64 0,.nilsl,.nilsl]
abbrev Ej_ (ls:List (List Nd)):DVal:= .sl 1 24 (ls.map rowB)
theorem TU_ (l:List Arc):AL_ Tryz.prog (.func 111) [.osl 0 0] [⟨0,0,.row 97 4 32 (l.map dArc)⟩] (Is_ (Bd_ (fun x y=>arcC x y==0) l)) []:=Pr_ l
theorem MV_ (l:List Nat):AL_ Tryz.prog (.func 110) [.osl 0 0] [⟨0,0,.row 3 1 8 (l.map natD)⟩] (.tup []) [⟨0,0,.row 3 1 8 ((JI_ (l.map toI)).map dNum)⟩]:=by
 have h:=Oa_ (l.map toI);rw[bZ0]at h;exact h
structure BoxR (H L:List ByteArray) (ls:List (List Nd)) (R:DVal):Prop where
 a:errF ls≠0→R= .tup [autoZ,.int .i64 (errF ls)]
 b:errF ls=0→ls.any (bad4 H L)=true→R= .tup [autoZ,.int .i64 4]
 c:errF ls=0→ls.any (bad4 H L)=false→64<occS ls→R= .tup [autoZ,.int .i64 183]
 d:errF ls=0→∀ts,ls=ts.map flat→(∀t∈ts,okT t=true∧(flat t).length≤2048)→ls.any (bad4 H L)=false→occS ls≤64→R= .tup [boxF H L ts,.int .i64 0]
def FR_ : Ann:=⟨[77,89,94,100,105,114,126],[⟨16,[13],[],[]⟩,⟨17,[14],[],[]⟩,⟨30,[20],[],[]⟩,⟨38,[201,77],[],[]⟩,⟨39,[],[],[0,1,2,3,4,5,6]⟩]⟩
set_option maxHeartbeats 8000000 in
theorem of15_pure (H L:List ByteArray) (ls:List (List Nd)) (R:DVal) (hH:H.length≠0) (hR:BoxR H L ls R) (hm:mx R=0):Ac_ Tryz.prog 34 [dTab H L,Ej_ ls] R:=by
 refine Aa_ [94,4] FR_ Tryz.func34 Tryz.call34 Tryz.ntmps34 mxd (aj2 @FR_.eq_1 Tryz.results34) rfl (by simp) (by simpa using hm) fun hwf B hnt hgAnn=> ?_
 have hwl:ls.length*24≤150000000000000:=by
  have h1:=hwf.2.1;simp only[wfD,aK0]at h1;exact h1.1
 clear hwf;simp only[argS];have e1:=Fx_ H L
 (refine go1 (aj1 e1) aj0 (aj1 hH) ?_;intros;refine mk_i ?_)
 clear hH;refine Ad_ (X:={k:Nat//k≤ls.length∧errF ls=errF (ls.drop k)}) (fun k=>⟨[(1,Ej_ ls),(2,.ref [dTab H L]),(4,.bx 4 1 0),(5,.int .i64 0),(32,Ej_ ls),(33,.int .i64 ls.length),(34,.int .i64 k.1)],[⟨4,1,.box [.int .i64 0,.nilsl,.nilsl]⟩]⟩) (fun k=>ls.length-k.1) ⟨0,by simp⟩ (Sub.lit (by simp)) ?_;rintro⟨k,hk,hek⟩;simp only
 by_cases hlt:k<ls.length
 ·obtain⟨l,hl,hl',hlm⟩:=Aj_ hlt;rw[aR0 hlt,hl',errF]at hek;have e2:=bodyC_p l
  by_cases hc:Pz_ l=0
  ·rw[if_pos hc]at hek;rw[hc]at e2
   (refine go1 (aj1 e2) aj0 (aj4 hlt hl hl' @rowB.eq_1) ?_;intros;refine mk_i ?_)
   exact Ai_.mk ⟨k+1,by omega,hek⟩ (Sub.lit (by simp)) (by simp;omega)
   skip
  ·rw[if_neg hc]at hek;have hRR:=hR.a (by rw[hek];exact hc);rw[hek]at hRR;rw[hRR];have hcb:(Pz_ l==0)=false:=by simpa using hc
   exact go0 (aj1 e2) aj0 (aj6 hlt hl hl' @rowB.eq_1 hc hcb)
 have hkk:k=ls.length:=by omega
 subst hkk;rw[cB0]at hek;have he0:errF ls=0:=hek;obtain⟨ts,hts,htp⟩:=Nr_ he0;clear hek hk;have htl:ls.length=ts.length:=by rw[hts,aK0]
 have hocl:=occS_le ts fun t ht=>(htp t ht).2
 rw[←hts]at hocl
 (refine go1 aj0 aj0 aj0 ?_;intros;refine mk_i ?_)
 refine Ad_ (X:={k:Nat//k≤ls.length∧(ls.take k).any (bad4 H L)=false}) (fun k=>⟨[(1,Ej_ ls),(2,.ref [dTab H L]),(4,.bx 4 1 0),(5,.int .i64 0),(9,.int .i64 (occS (ls.take k.1))),(45,Ej_ ls),(46,.int .i64 ls.length),(47,.int .i64 k.1)],[⟨4,1,.box [.int .i64 0,.nilsl,.nilsl]⟩]⟩) (fun k=>ls.length-k.1) ⟨0,by simp⟩ (Sub.lit (by simp[occS_nil])) ?_;rintro⟨k,hk,hno⟩;simp only
 by_cases hlt:k<ls.length
 ·obtain⟨l,hl,hl',hlm⟩:=Aj_ hlt
  have hll:l.length≤2048:=by
   rw[hts]at hlm;obtain⟨t,ht,rfl⟩:=aU0.1 hlm;exact(htp t ht).2
  have hos:=occS_snoc (ls.take k) l;rw[←Bv_ hl]at hos;have hot:=occS_take (ls:=ls) (k:=k+1);obtain⟨m,hm2⟩:∃m,m=occS (ls.take k):=⟨_,rfl⟩;rw[←hm2]at hos ⊢;have e5:=Nf_ l;have hw5:IntKind.i64.wrap ((m:Int)+(occN l:Int))=(occS (ls.take (k+1)):Int):=by rw[wq,hos];omega
  (refine go1 aj0 aj0 (aj4 hlt hl hl' @rowB.eq_1) ?_;intros;refine mk_i ?_)
  refine Ad_ (X:={j:Nat//j≤l.length∧bad4 H L (l.take j)=false}) (fun j=>⟨[(1,Ej_ ls),(2,.ref [dTab H L]),(4,.bx 4 1 0),(5,.int .i64 0),(9,.int .i64 m),(11,dNds l),(45,Ej_ ls),(46,.int .i64 ls.length),(47,.int .i64 k),(51,dNds l),(52,.int .i64 l.length),(53,.int .i64 j.1)],[⟨4,1,.box [.int .i64 0,.nilsl,.nilsl]⟩]⟩) (fun j=>l.length-j.1) ⟨0,by simp[bad4]⟩ (Sub.lit (by simp)) ?_;rintro⟨j,hj,hnj⟩;simp only
  by_cases hlt2:j<l.length
  ·obtain⟨x,hx,hx',hxm⟩:=Aj_ hlt2;have e3:=MT_ H L x
   have hbs:bad4 H L (l.take (j+1))=decide (symE H L x=4):=by
    unfold bad4 at hnj ⊢;rw[Bv_ hx,List.any_append,hnj];simp
   obtain⟨E,hE⟩:∃E,E=symE H L x:=⟨_,rfl⟩;rw[←hE]at e3 hbs;simp only[dNd,dSym]at e3
   by_cases h4:E=4
   ·have hany:ls.any (bad4 H L)=true:=by
     rw[cF0];refine⟨l,hlm,?_⟩;unfold bad4;rw[cF0];exact⟨x,hxm,by rw[←hE];simp[h4]⟩
    rw[hR.b he0 hany];exact go0 (aj1 e3) aj0 (aj5 @dNd.eq_1 hlt2 hx hx' h4)
   ·have h4b:(E==4)=false:=by simpa using h4
    rw[decide_eq_false h4]at hbs
    (refine go1 (aj1 e3) aj0 (aj6 @dNd.eq_1 hlt2 hx hx' h4 h4b) ?_;intros;refine mk_i ?_)
    refine Ai_.mk ⟨j+1,by omega,hbs⟩ (Sub.lit (by simp)) (by simp;omega)
    skip
  ·have hkk:j=l.length:=by omega
   subst hkk;rw[aS0]at hnj;have hno2:(ls.take (k+1)).any (bad4 H L)=false:=by rw[Bv_ hl,List.any_append,hno];simp[hnj]
   (refine go1 (aj1 e5) aj0 (aj1 hw5) ?_;intros;refine mk_i ?_)
   refine Ai_.mk ⟨k+1,by omega,hno2⟩ (Sub.lit (by simp)) (by simp;omega)
   skip
 have hkk:k=ls.length:=by omega
 subst hkk;rw[aS0]at hno;clear hk hlt
 by_cases h64:64<occS ls
 ·have hRc:=hR.c he0 hno h64;have d1:(64:Int)<(occS ls:Int):=by omega
  exact go0 aj0 aj0 (aj3 d1 h64 hRc)
 have hRd:=hR.d he0 ts hts htp hno (by omega);have hoc:=Gc_ ts;rw[←hts]at hoc;have d1:¬(64:Int)<(occS ls:Int):=by omega
 (refine go1 aj0 aj0 (aj2 d1 h64) ?_;intros;refine mk_i ?_)
 have hlv64:(lvL ts).length≤64:=by omega
 obtain⟨SF,hSF⟩:∃SF,SF=syL (symS H L) ts:=⟨_,rfl⟩
 have hpre:∀k,(lvL (ts.take k)).length≤64∧syL (symS H L) (ts.take k) <+: SF:=fun k=>by
  have h1:=lvL_pre (us:=ts.take k) (vs:=ts.drop k);have h2:=syL_pre (symS H L) (ts.take k) (ts.drop k);rw[List.take_append_drop]at h1 h2;rw[hSF];exact⟨by omega,h2⟩
 have hpl:∀k,(Mj_ SF (ts.take k)).length≤1073741824:=fun k=>by
  have h1:=Te_ (ts.take k) 0 (fun t ht=>(htp t (cK0 ht)).2) (hpre k).1;unfold Mj_;rw[Iz_];have:=(hpre k).1;omega
 have hfl:∀k,(firN (ts.take k)).length≤64∧(lasN (ts.take k)).length≤64:=fun k=>by
  have h1:=TO_ (ts.take k) 0;have h2:=laN_len (ts.take k) 0;have:=(hpre k).1;exact⟨by unfold firN;omega,by unfold lasN;omega⟩
 have z0:Mj_ SF []=[]:=rfl;have z1:syL (symS H L) []=[]:=rfl;have z2:firN []=[]:=rfl;have z3:lasN []=[]:=rfl;have z4:anyE []=false:=by rw[anyE]
 refine Cf_ 77 0 201 95 2 16 (by simp) (fun n1=> ?_);refine Cf_ 77 1 202 97 4 32 (by simp) (fun n2=> ?_);refine Cf_ 17 2 94 3 1 8 (by simp) (fun n3=> ?_);refine Up_ 17 1 1 8 rfl rfl ?_
 refine Ad_ (X:={k:Nat//k≤ts.length}) (fun k=>⟨[(2,.ref [dTab H L]),(4,.bx 4 1 0),(16,.bx 77 1 0),(17,.bx 17 1 0),(79,Ej_ ls),(80,.int .i64 ls.length),(81,.int .i64 k.1)],
  [⟨4,1,.box [.int .i64 0,.nilsl,.nilsl]⟩,⟨77,1,.box [.osl 201 1,.osl 202 1]⟩,⟨201,1,.row 95 2 16 ((syL (symS H L) (ts.take k.1)).map dSym)⟩,⟨202,1,.row 97 4 32 ((Mj_ SF (ts.take k.1)).map dArc)⟩,⟨17,1,.box [.bool (anyE (ts.take k.1)),Ei_ (firN (ts.take k.1)),.osl 94 1]⟩,⟨94,1,.row 3 1 8 ((lasN (ts.take k.1)).map natD)⟩]⟩) (fun k=>ts.length-k.1) ⟨0,by simp⟩ (Sub.lit (by simp[z0,z1,z2,z3,z4])) ?_
 rintro⟨k,hk⟩;simp only
 by_cases hlt:k<ts.length
 ·obtain⟨t,ht,ht',htm⟩:=Aj_ hlt;obtain⟨hok,h2048⟩:=htp t htm;have hlk:ls[k]? =some (flat t):=by rw[hts,bM0,ht];rfl
  have hltl:k<ls.length:=by omega
  have hlk':ls[k]'hltl=flat t:=(aB0.1 hlk).2;have hp1:=hpre (k+1);have y1:=syN_step H L (ts.take k) t;have y2:=firN_step (ts.take k) t;have y3:=lasN_step (ts.take k) t;have y4:=ZA_ SF (ts.take k) t;have y5:=ZG_ (ts.take k) t;have y6:=Vt_ (ts.take k) t;rw[←Bv_ ht]at y1 y2 y3 y4 y5 y6;have y7:=congrArg List.length y6;rw[aD0]at y7;have hA:=hpl k;have hF:=hfl k;have hF1:=hfl (k+1);have e6:=MR_ H L (flat t) (lvL (ts.take k)).length SF (by rw[←y7];exact hp1.1) _ t (Nat.le_refl _) hok 0 [] (syL (symS H L) (ts.take k)) (Mj_ SF (ts.take k)) (by simp) (by rw[NU_,Of_];rfl) (by rw[y1];exact hp1.2) (by omega)
  rw[y1,y4,bP0]at e6;have g1:=congrArg List.length y2;have g2:=congrArg List.length y3;rw[aD0]at g1 g2;have e7:=ZH_ (anyE (ts.take k)) (empT t) (firN (ts.take k)) (firT (flat t) (lvL (ts.take k)).length t 0) (lasN (ts.take k)) (lasT (flat t) (lvL (ts.take k)).length t 0) (by omega) (by omega);rw[y5,y2,y3]at e7;refine FT_ (Sub.freezeL [94] _) ?_;simp
  (repeat (first | refine Ax_ fun K hK=> ?_ | (refine DW_r FR_ mxd (by kernel_rfl) ?_;simp[FR_,hnt,dBx,hltl,hlk,hlk',rowB];try simp (disch:=omega) only[Ah_]) | refine An_ ?_ | (refine AW_ ?_ ?_ ?_;(· (simp[hnt,dBx,hltl,hlk,hlk',rowB];done));(try (rotate_left;(· (intro hc;(try simp[hnt,dBx,hltl,hlk,hlk',rowB]at hc);done))))) | (refine AC_ ?_;simp[Tryz.results34,hnt,dBx,hltl,hlk,hlk',rowB]) | ((first | refine Ar_ ?_ | refine Aq_ ?_);simp[hnt,dBx,hltl,hlk,hlk',rowB]) | (intro hc;(try simp[hnt,dBx,hltl,hlk,hlk',rowB]at hc);(try (exfalso;omega))) | (refine Au_ [(77,0),(201,1),(202,2)] [] (e6) ?_ ?_;(· (simp[hnt,dBx,hltl,hlk,hlk',rowB];done));(intro _;try simp[hnt,dBx,hltl,hlk,hlk',rowB])) | (refine Au_ [] [(94,0)] (e7) ?_ ?_;(· (simp[hnt,dBx,hltl,hlk,hlk',rowB];done));(intro _;try simp[hnt,dBx,hltl,hlk,hlk',rowB])) | (refine⟨?_,?_⟩; · omega) | omega | apply_assumption -exfalso -symm | (exfalso;omega)))
  refine Ai_.mk ⟨k+1,by omega⟩ (Sub.lit (by simp)) (by simp;omega)
  skip
 ·have hkk:k=ts.length:=by omega
  subst hkk;rw[aS0];have hA:=hpl ts.length;have hF:=hfl ts.length;have hP:=hpre ts.length;rw[aS0]at hA hF hP;have e8:=Hl_ SF SF (Mj_ SF ts) [0] (firN ts) (List.prefix_refl _) (fun q hq=>by have:=TN_ ts 0 q hq;rw[hSF,NU_];omega) (by rw[hSF,NU_];omega) (by simp;omega);have y8:=arcsN_all (symS H L) ts;rw[←hSF]at y8;rw[y8]at e8;have e9:=ST_ (Iy_ (symS H L) ts);have e11:=TU_ (Fu_ arcC (Iy_ (symS H L) ts))
  rw[←hSF];have hnlt:¬(ts.length:Int)<(ls.length:Int):=by omega
  have hSl:SF.length=(lvL ts).length:=by rw[hSF,NU_]
  have hw1:IntKind.i64.wrap ((SF.length:Int)+1)=((lvL ts).length:Int)+1:=by rw[hSl];exact wq
  have hfin:=fins_law ts fun t ht=>(htp t ht).1
  unfold boxF autoD at hRd;obtain⟨CZ,hCZ⟩:∃CZ,CZ=Bd_ (fun x y=>arcC x y==0) (Fu_ arcC (Iy_ (symS H L) ts)):=⟨_,rfl⟩;rw[←hCZ]at hRd e11;obtain⟨FR,hFR⟩:∃FR,FR=LL_ ts:=⟨_,rfl⟩;rw[←hFR]at hRd hfin;cases hE:anyE ts
  ·have e10:=MV_ (lasN ts)
   have h12:JI_ ((lasN ts).map toI)=FR:=by
    rw[hE]at hfin;simp only[aP0,if_false,bP0]at hfin;exact hfin
   rw[h12]at e10
   (repeat (first | refine Ax_ fun K hK=> ?_ | (refine DW_r FR_ mxd (by kernel_rfl) ?_;simp[FR_,hnt,dBx,hnlt,natD,hw1,hRd];try simp (disch:=omega) only[Ah_]) | refine An_ ?_ | (refine AW_ ?_ ?_ ?_;(· (simp[hnt,dBx,hnlt,natD,hw1,hRd];done));(try (rotate_left;(· (intro hc;(try simp[hnt,dBx,hnlt,natD,hw1,hRd]at hc);done))))) | (refine AC_ ?_;simp[Tryz.results34,hnt,dBx,hnlt,natD,hw1,hRd]) | ((first | refine Ar_ ?_ | refine Aq_ ?_);simp[hnt,dBx,hnlt,natD,hw1,hRd]) | (intro hc;(try simp[hnt,dBx,hnlt,natD,hw1,hRd]at hc);(try (exfalso;omega))) | (refine Au_ [(77,0),(201,1),(202,2)] [] (e8) ?_ ?_;(· (simp[hnt,dBx,hnlt,natD,hw1,hRd];done));(intro _;try simp[hnt,dBx,hnlt,natD,hw1,hRd])) | (refine Au_ [(202,0)] [] (e9) ?_ ?_;(· (simp[hnt,dBx,hnlt,natD,hw1,hRd];done));(intro _;try simp[hnt,dBx,hnlt,natD,hw1,hRd])) | (refine Au_ [(94,0)] [] (e10) ?_ ?_;(· (simp[hnt,dBx,hnlt,natD,hw1,hRd];done));(intro _;try simp[hnt,dBx,hnlt,natD,hw1,hRd])) | (refine Au_ [(202,0)] [] (e11) ?_ ?_;(· (simp[hnt,dBx,hnlt,natD,hw1,hRd];done));(intro _;try simp[hnt,dBx,hnlt,natD,hw1,hRd])) | (refine⟨?_,?_⟩; · omega) | omega | apply_assumption -exfalso -symm | (exfalso;omega)))
  ·have e10:=MV_ (lasN ts++[0])
   have h12:JI_ ((lasN ts++[0]).map toI)=FR:=by
    rw[hE]at hfin;simp only[if_true]at hfin;rw[aZ0];exact hfin
   rw[h12]at e10;have hb:((lasN ts).length+1)*8≤150000000000000:=by omega
   (repeat (first | refine Ax_ fun K hK=> ?_ | (refine DW_r FR_ mxd (by kernel_rfl) ?_;simp[FR_,hnt,dBx,hnlt,natD,hw1,hRd,hb];try simp (disch:=omega) only[Ah_]) | refine An_ ?_ | (refine AW_ ?_ ?_ ?_;(· (simp[hnt,dBx,hnlt,natD,hw1,hRd,hb];done));(try (rotate_left;(· (intro hc;(try simp[hnt,dBx,hnlt,natD,hw1,hRd,hb]at hc);done))))) | (refine AC_ ?_;simp[Tryz.results34,hnt,dBx,hnlt,natD,hw1,hRd,hb]) | ((first | refine Ar_ ?_ | refine Aq_ ?_);simp[hnt,dBx,hnlt,natD,hw1,hRd,hb]) | (intro hc;(try simp[hnt,dBx,hnlt,natD,hw1,hRd,hb]at hc);(try (exfalso;omega))) | (refine Au_ [(77,0),(201,1),(202,2)] [] (e8) ?_ ?_;(· (simp[hnt,dBx,hnlt,natD,hw1,hRd,hb];done));(intro _;try simp[hnt,dBx,hnlt,natD,hw1,hRd,hb])) | (refine Au_ [(202,0)] [] (e9) ?_ ?_;(· (simp[hnt,dBx,hnlt,natD,hw1,hRd,hb];done));(intro _;try simp[hnt,dBx,hnlt,natD,hw1,hRd,hb])) | (refine Au_ [(94,0)] [] (e10) ?_ ?_;(· (simp[hnt,dBx,hnlt,natD,hw1,hRd,hb];done));(intro _;try simp[hnt,dBx,hnlt,natD,hw1,hRd,hb])) | (refine Au_ [(202,0)] [] (e11) ?_ ?_;(· (simp[hnt,dBx,hnlt,natD,hw1,hRd,hb];done));(intro _;try simp[hnt,dBx,hnlt,natD,hw1,hRd,hb])) | (refine⟨?_,?_⟩; · omega) | omega | apply_assumption -exfalso -symm | (exfalso;omega)))
end Go.Proofs.YtchgnpnbcjflcaaGreat
end
section
namespace Go.Proofs.YtchgnpnbcjflcaaGreat
open Go Go.Dm
variable [DMode]
attribute [local irreducible] DW AV_ AZ_
set_option maxRecDepth 100000


@[simp] theorem bD_tail (l:List Bool) (v:Nat) (h:v<(bD l).length):((bD l)[v]'h).tail=[]:=by simp[bD,dBl]
def numD (l:List Int):List (List DVal):=l.map dNum
@[simp] theorem mx_numD (l:List Int):mxR (numD l)=0:=mx_dNums l


end Go.Proofs.YtchgnpnbcjflcaaGreat
end
section
namespace Go.Proofs.YtchgnpnbcjflcaaGreat
open Go Go.Dm
attribute [local irreducible] DW AV_ AZ_
set_option maxRecDepth 100000
mutual
theorem Pe_ : ∀(t t':RT) (r r':List Nd),okT t=true→okT t'=true→flat t++r=flat t'++r'→t=t'∧r=r'
 | .mk x ks,.mk x' ks',r,r',h,h',he=>by
  rw[AF_,AF_,List.cons_append,List.cons_append]at he;injection he with h1 h2
  subst h1;have h3:=(Bx_ h).2.1;have h4:=(Bx_ h').2.1;obtain⟨h5,h6⟩:=RJ_ ks ks' r r' (Bx_ h).2.2 (Bx_ h').2.2 (by omega) h2;exact⟨by rw[h5],h6⟩
theorem RJ_ : ∀(ks ks':List RT) (r r':List Nd),okL ks=true→okL ks'=true→ks.length=ks'.length→Ak_ ks++r=Ak_ ks'++r'→ks=ks'∧r=r'
 | [],[],r,r',_,_,_,he=>by rw[Bp_]at he;exact⟨rfl,by simpa using he⟩
 | [],_::_,_,_,_,_,hl,_=>by simp at hl
 | _::_,[],_,_,_,_,hl,_=>by simp at hl
 | u::us,u'::us',r,r',h,h',hl,he=>by
  rw[Al_,Al_,aT0,aT0]at he;obtain⟨h1,h2⟩:=Pe_ u u' _ _ (AX_ h).1 (AX_ h').1 he;obtain⟨h3,h4⟩:=RJ_ us us' r r' (AX_ h).2 (AX_ h').2 (by simpa using hl) h2;exact⟨by rw[h1,h3],h4⟩
end
theorem Qg_ : ∀(ts ts':List RT),(∀t∈ts,okT t=true)→(∀t∈ts',okT t=true)→ts.map flat=ts'.map flat→ts=ts'
 | [],[],_,_,_=>rfl
 | [],_::_,_,_,h=>by simp at h
 | _::_,[],_,_,h=>by simp at h
 | t::ts,t'::ts',h,h',he=>by
  rw[List.map_cons,List.map_cons]at he;injection he with h1 h2
  have h3:=(Pe_ t t' [] [] (h t aE0) (h' t' aE0) (by rw[h1])).1;have h4:=Qg_ ts ts' (fun u hu=>h u (aC0 _ hu)) (fun u hu=>h' u (aC0 _ hu)) h2;rw[h3,h4]
end Go.Proofs.YtchgnpnbcjflcaaGreat
end
section
namespace Go.Proofs.YtchgnpnbcjflcaaGreat
open Go Go.Dm
variable [DMode]
def bsL (g:List Rul) (h:ByteArray):List (List Nd):=(g.filter fun r=>decide (r.h=h)).map (·.b)
def tsL (gt:GT) (h:ByteArray):List RT:=(gt.filter fun p=>decide (p.1=h)).map (·.2)
theorem bsL_snoc (g:List Rul) (r:Rul) (h:ByteArray):bsL (g++[r]) h=bsL g h++(if r.h=h then [r.b]else []):=by
 unfold bsL;rw[dN0,aZ0]
 congr 1
 by_cases hr:r.h=h<;>simp[hr]
theorem bsL_len (g:List Rul) (h:ByteArray):(bsL g h).length≤g.length:=by unfold bsL;rw[aK0];exact cG0 _ _
theorem Sh_ (gt:GT) (h:ByteArray):bsL (mkG gt) h=(tsL gt h).map flat:=by
 unfold bsL tsL mkG;rw[List.filter_map,bZ0,bZ0];rfl
theorem SG_ {gt:GT} {h:ByteArray} {t:RT} (ht:t∈tsL gt h):∃p∈gt,p.2=t:=by
 unfold tsL at ht;obtain⟨p,hp,rfl⟩:=aU0.1 ht;exact⟨p,(cI0.1 hp).1,rfl⟩
theorem Lf_ : ∀(g:List Rul) (h:ByteArray),occS (bsL g h)≤occG g
 | [],h=>by simp[bsL,occS,occG]
 | r::g,h=>by
  have ih:=Lf_ g h;have h2:occG (r::g)=occN r.b+occG g:=by simp[occG]
  by_cases hr:r.h=h
  ·have h1:bsL (r::g) h=r.b::bsL g h:=by simp[bsL,hr]
   have h3:occS (r.b::bsL g h)=occN r.b+occS (bsL g h):=by simp[occS]
   rw[h1,h3,h2];omega
  ·have h1:bsL (r::g) h=bsL g h:=by simp[bsL,hr]
   rw[h1,h2];omega
structure OkgT (gt:GT):Prop where
 ok:OkG gt
 one:1≤gt.length
 le:gt.length≤64
 hd:(As_ (mkG gt)).length≤16
 lb:(Aw_ (mkG gt)).length≤16
 oc:occG (mkG gt)≤64
 dp:GI_ gt=false
 ms:(Dc_ (mkG gt)).length=0
 tx:(BZ_ gt).size≤2048
theorem okgT_of {gt:GT} (hk:OkG gt) (h1:1≤gt.length) (h2:gt.length≤64) (h:Ps_ gt=0):OkgT gt:=by
 unfold Ps_ at h
 repeat' split at h
 all_goals first
  | omega
  | skip
 rename_i a1 a2 a3 a4 a5 a6;exact⟨hk,h1,h2,by omega,by omega,by omega,by simpa using a4,by omega,by omega⟩
theorem tree_ok {gt:GT} (h:OkgT gt) {p:ByteArray×RT} (hp:p∈gt):okT p.2=true∧(flat p.2).length≤2048∧CM_ p.2=0:=by
 have h1:=(h.ok p hp).2;have h2:=UF_ hp;have h3:=h.tx;have h4:=SF_ p.2 h1;refine⟨h1,by omega,?_⟩
 have h5:¬16<htT p.2:=fun hh=>by
  have:GI_ gt=true:=by unfold GI_;rw[cF0];exact⟨p,hp,by simpa using hh⟩
  rw[h.dp]at this;simp at this
 unfold CM_;rw[if_neg h5,if_neg (by omega)]
theorem sym_known {gt:GT} (h:OkgT gt) {p:ByteArray×RT} (hp:p∈gt) {x:Nd} (hx:x∈flat p.2):symE (As_ (mkG gt)) (Aw_ (mkG gt)) x≠4:=by
 have hr:(⟨p.1,flat p.2⟩:Rul)∈mkG gt:=aU0.2 ⟨p,hp,rfl⟩;unfold symE
 split
 ·rename_i h3
  have hm:x.s∈Aw_ (mkG gt):=by
   unfold Aw_;rw[(FW_ _).2];unfold AG_ BY_;exact bS0.2 ⟨_,hr,aU0.2 ⟨x,cI0.2 ⟨hx,by simpa using h3⟩,rfl⟩⟩
  unfold numE;rw[if_pos hm];omega
 ·split
  ·rename_i h2
   have hm:x.s∈As_ (mkG gt):=by
    rcases Classical.em (x.s∈As_ (mkG gt))with hh | hh
    ·exact hh
    ·exfalso
     have:x.s∈Dc_ (mkG gt):=by
      unfold Dc_;rw[cI0,(FW_ _).2];refine⟨?_,by simpa using hh⟩;unfold AG_ BY_;exact bS0.2 ⟨_,hr,aU0.2 ⟨x,cI0.2 ⟨hx,by simpa using h2⟩,rfl⟩⟩
     have h3:=List.length_pos_of_mem this;have:=h.ms;omega
   unfold numE;rw[if_pos hm];omega
  ·omega
theorem bad_none {gt:GT} (h:OkgT gt) (s:ByteArray):(bsL (mkG gt) s).any (bad4 (As_ (mkG gt)) (Aw_ (mkG gt)))=false:=by
 rw[eX0];intro hh;rw[cF0]at hh;obtain⟨l,hl,hb⟩:=hh;rw[Sh_]at hl;obtain⟨t,ht,rfl⟩:=aU0.1 hl;obtain⟨p,hp,rfl⟩:=SG_ ht;unfold bad4 at hb;rw[cF0]at hb;obtain⟨x,hx,hxe⟩:=hb;exact sym_known h hp hx (by simpa using hxe)
theorem tsL_ok {gt:GT} (h:OkgT gt) (s:ByteArray):∀t∈tsL gt s,okT t=true∧(flat t).length≤2048:=fun t ht=>by
 obtain⟨p,hp,rfl⟩:=SG_ ht;have:=tree_ok h hp;exact⟨this.1,this.2.1⟩
theorem lvL_le {gt:GT} (h:OkgT gt) (s:ByteArray):(lvL (tsL gt s)).length≤64:=by
 rw[←Gc_,←Sh_];have:=Lf_ (mkG gt) s;have:=h.oc;omega
def autL (gt:GT):List Auto:=(As_ (mkG gt)).map fun s=>boxA (syG (mkG gt)) (tsL gt s)
theorem Kl_ (gt:GT):(autL gt).length=(As_ (mkG gt)).length:=by simp[autL]
theorem autL_at {gt:GT} {i:Nat} {s:ByteArray} (h:(As_ (mkG gt))[i]? =some s):(autL gt)[i]? =some (boxA (syG (mkG gt)) (tsL gt s)):=by unfold autL;rw[bM0,h];rfl
def sumS (l:List Auto):Nat:=(l.map fun a=>a.st.toNat).sum
theorem sumS_snoc (l:List Auto) (a:Auto):sumS (l++[a])=sumS l+a.st.toNat:=by simp[sumS]
theorem autL_ok {gt:GT} (h:OkgT gt):∀a∈autL gt,FP_ a=true:=fun a ha=>by
 obtain⟨s,_,rfl⟩:=aU0.1 ha;exact boxA_ok _ _ _ (lvL_le h s)
theorem IK_ : ∀{l:List Auto},(∀a∈l,FP_ a=true)→sumS l≤65*l.length
 | [],_=>by simp[sumS]
 | a::l,h=>by
  have h1:=Ov_ (h a aE0);have h2:=IK_ (l:=l) fun x hx=>h x (aC0 _ hx)
  have h3:sumS (a::l)=a.st.toNat+sumS l:=by simp[sumS]
  rw[h3,List.length_cons];omega
def parA : Nat→List Auto→List (Auto×Nat)
 | _,[]=>[]
 | f,a::l=>(a,f)::parA (f+a.st.toNat) l
theorem QO_ (a:Auto):∀(l:List Auto) (f:Nat),parA f (l++[a])=parA f l++[(a,f+sumS l)]
 | [],f=>by simp[parA,sumS]
 | b::l,f=>by
  have h3:sumS (b::l)=b.st.toNat+sumS l:=by simp[sumS]
  rw[List.cons_append,parA,parA,QO_ a l,h3,dE0];rfl
theorem EI_ : ∀(l:List Auto) (f:Nat),(parA f l).length=l.length
 | [],_=>rfl
 | a::l,f=>by rw[parA,List.length_cons,List.length_cons,EI_ l]
def dPt (p:Auto×Nat):List DVal:=[.int .i64 p.1.st,CJ_ p.1.fin,Is_ p.1.arcs,.int .i64 (p.2:Int)]
abbrev dPts (l:List (Auto×Nat)):DVal:= .sl 4 64 (l.map dPt)
@[simp] theorem mx_dPt (p:Auto×Nat):mxL (dPt p)=0:=by simp[dPt,mxL,mx]
@[simp] theorem mx_dPts (l:List (Auto×Nat)):mxR (l.map dPt)=0:=mxR0 _ mx_dPt l
def Dn_ (H L:List ByteArray) (xs:List Auto):DVal:= .ref [dTab H L,dPts (parA 0 xs),.int .i64 (sumS xs)]
end Go.Proofs.YtchgnpnbcjflcaaGreat
end
section
namespace Go.Proofs.YtchgnpnbcjflcaaGreat
open Go Go.Dm
variable [DMode]
attribute [local irreducible] DW AV_ AZ_
set_option maxRecDepth 100000
def Mk_ : Ann:=⟨[],[⟨4,[7],[],[]⟩]⟩
set_option maxHeartbeats 2000000 in
theorem PA_ (g:List Rul) (h:ByteArray) (hl:g.length≤64):Ac_ Tryz.prog 35 [Av_ g,.str h] (Ej_ (bsL g h)):=by
 refine Aa_ [50] Mk_ Tryz.func35 Tryz.call35 Tryz.ntmps35 mxd (aj2 @Mk_.eq_1 Tryz.results35) rfl (by simp) (by simp[mx]) fun hwf B hnt hgAnn=> ?_
 clear hwf;simp only[argS]
 iterate 6 ((first | refine Ax_ fun K hK=> ?_ | (refine DW_r Mk_ mxd (by kernel_rfl) ?_;simp[Mk_,hnt];try simp (disch:=omega) only[Ah_]) | refine An_ ?_ | (refine AW_ ?_ ?_ ?_;(· (simp[hnt];done));(try (rotate_left;(· (intro hc;(try simp[hnt]at hc);done))))) | (refine AC_ ?_;simp[Tryz.results35,hnt]) | ((first | refine Ar_ ?_ | refine Aq_ ?_);simp[hnt]) | (intro hc;(try simp[hnt]at hc);(try (exfalso;omega))) | (refine⟨?_,?_⟩; · omega) | omega | apply_assumption -exfalso -symm | (exfalso;omega)))
 refine Bn_ 5 50 153 1 24 (by simp[hnt,Tryz.results35,Mk_]) (fun n=> ?_)
 (refine go1 aj0 aj0 aj0 ?_;intros;refine mk_i ?_)
 refine Ad_ (X:={k:Nat//k≤g.length}) (fun k=>⟨[(1,.str h),(5,.osl 50 1),(8,Av_ g),(9,.int .i64 g.length),(10,.int .i64 k.1)],[⟨50,1,.row 153 1 24 ((bsL (g.take k.1) h).map rowB)⟩]⟩) (fun k=>g.length-k.1) ⟨0,by omega⟩ (Sub.lit (by simp[bsL])) ?_;rintro⟨k,hk⟩;simp only
 by_cases hlt:k<g.length
 ·obtain⟨r,hr,hr',hrm⟩:=Aj_ hlt;have e1:=Md_ r.b;have hsn:=bsL_snoc (g.take k) r h;rw[←Bv_ hr]at hsn;have htl:=bsL_len (g.take k) h;rw[bB0]at htl;obtain⟨T,hT⟩:∃T,T=bsL (g.take k) h:=⟨_,rfl⟩;rw[←hT]at hsn htl ⊢;have hb:(T.length+1)*24≤150000000000000:=by omega
  have hwk:IntKind.i64.wrap ((k:Int)+1)=(k:Int)+1:=wq
  by_cases hh:r.h=h
  ·rw[if_pos hh]at hsn;have hs2:(bsL (g.take (k+1)) h).map rowB=T.map rowB++[[dNds r.b]]:=by rw[hsn,aZ0];rfl
   (refine go1 (aj1 e1) aj0 (aj7 @dRul.eq_1 hlt hr hr' hh hb hwk) ?_;intros;refine mk_i ?_)
   refine Ai_.mk ⟨k+1,by omega⟩ (Sub.lit (by simp[hs2])) (by simp;omega)
   skip
  ·rw[if_neg hh,bP0]at hsn;have hh2:(r.h==h)=false:=by simpa using hh
   (refine go1 aj0 aj0 (aj7 @dRul.eq_1 hlt hr hr' hh hh2 hwk) ?_;intros;refine mk_i ?_)
   refine Ai_.mk ⟨k+1,by omega⟩ (Sub.lit (by simp[hsn])) (by simp;omega)
   skip
 ·have hkk:k=g.length:=by omega
  subst hkk;rw[aS0];exact go0 aj0 aj0 aj0
end Go.Proofs.YtchgnpnbcjflcaaGreat
end
