/- Parts of a proof, laid together: AP2, RH. -/
import Derived.Test.YtbpmiknobocjoaaGreatqAp10
import Derived.Test.YtbpmiknobocjoaaGreatqAp18
import Derived.Test.YtbpmiknobocjoaaGreatqAp20
set_option linter.unusedSimpArgs false
set_option maxHeartbeats 8000000
set_option linter.unusedVariables false
set_option linter.unusedSectionVars false
section
namespace Go.Proofs.Wy
open Go Go.Dm Tryz
variable [DMode]
set_option maxRecDepth 100000
theorem EP.at {ok:Nat->Prop} {h:Array Obj} {g:List Rul} {v:Value} {i:Nat} (hr:EP ok h g v) (hi:i<g.length):∃b off cap arr ty r,v= .slice (some ⟨b,off,none⟩) g.length cap/\ok b/\h[b]? =some (.cells arr ty (0,0))/\g[i]? =some r/\arr[off+i*2]? =some (.string r.h) /\
  ∃u,arr[off+i*2+1]? =some u/\FO ok h r.b u:=by
 obtain⟨a,cap,hv,h1,h2,h3,h4⟩:=hr
 rcases h4 with ⟨rfl,_⟩ | ⟨b,off,arr,ty,rfl,g2,g3,g4⟩
 ·simp at hi
 ·obtain⟨⟨k1,_⟩,u,k2,_,k3⟩:=g4 i g[i] (aI0 hi);exact⟨b,off,cap,arr,ty,g[i],hv,g2,g3,aI0 hi,k1,u,k2,k3⟩
theorem GB {g:List Rul} {L:List Nat} (h:DB g=L):g.length=L.length:=by rw[<-h];simp[DB]
theorem sE {g:List Rul} {L:List Nat} {i m:Nat} {r:Rul} (h:DB g=L) (hr:g[i]? =some r) (hm:L[i]? =some m):r.b.length=m:=by
 rw[<-h]at hm;unfold DB at hm;rw[bH0,hr]at hm;simpa using hm
section
variable [DMode] {B : Base} {Q : Exit -> DS -> Prop} {s : DS} {L : List Nat} {i j m : Nat} {y0 y1 y2 y3 y4 y5 y6 y7 y8 : TypeId} {p0 p1 p2 p3 p4 p5 p6 p7 p8 : String} {f0 f1 f2 f3 f4 f5 f6 f7 f8 : Array Go.Edge}
abbrev Vs (L:List Nat):List Ent:=[⟨5,1,.abs (GJ fun g=>DB g=L)⟩]
theorem Dy_ (qX:134<B.nt) (ho:s.own=Vs L) (h5:getS s.slots 5= .osl 5 1) (h8:getS s.slots 8= .int .i64 i) (hL:L.length<9223372036854775807)
  (hQ:Q .normal ⟨(55,.bool (decide ((i:Int)<(L.length:Int))))::(54,.int .i64 L.length)::(53,.any)::(52,.int .i64 i)::s.slots,s.own⟩) :
  DW Tryz.prog B (.region 8 #[⟨some 52,.move (.tmp 8),y0,p0,f0,none⟩,⟨some 53,.move (.tmp 5),y1,p1,f1,none⟩,⟨some 54,.call ⟨.builtin .len, #[.tmp 53], #[22]⟩,y2,p2,f2,none⟩,⟨some 55,.binOp .lss 3 (.tmp 52) (.tmp 54) 3,y3,p3,f3,none⟩] false) Q s:=by
 refine Lm fun a w loc R=> ?_
 have hh:Ah s.own 5=some ⟨5,1,.abs (GJ fun g=>DB g=L)⟩:=by rw[ho];rfl
 have H0:=((RV.of R).int h8).osl h5 hh;obtain⟨_,g,hg,ad,cap,hv,_⟩:=H0.cell hh;rw[hv,GB hg]at H0;refine⟨rfl,rv (.int .i64 i) H0 rfl (by omega) (by simp) (Fo (H0.ev (x:=8) (.tail _ (.head _)))) (by have:=R.sl 8;rw[h8]at this;simp only[rd]at this |-;exact⟨trivial,this.2⟩) (by simp) fun a1 H1=> ?_⟩;refine⟨rfl,rv .any H1 rfl (by omega) (by simp) (Fo (H1.ev (x:=5) (.tail _ (.head _)))) (by simp[rd]) (by simp) fun a2 H2=> ?_⟩
 refine⟨rfl,rv (.int .i64 L.length) H2 rfl (by omega) (by simp) (CC_ (by simp) (H2.ev (x:=53) (.head _))) (by simp only[rd];exact⟨trivial,by constructor<;>omega⟩) (by simp) fun a3 H3=> ?_⟩;have dJ:=DQ (P:=Tryz.prog) (B:=B) (s:=⟨(54,.int .i64 L.length)::(53,.any)::(52,.int .i64 i)::s.slots,s.own⟩) (o:=⟨some 55,.binOp .lss 3 (.tmp 52) (.tmp 54) 3,y3,p3,f3,none⟩) (by simp[Bs];omega) (by simp[DV,ev,getS,FH])
 refine⟨rfl,dJ a3 w loc _ _ H3.R fun a' w' loc' R'=> ?_⟩;refine⟨_,loc',hQ,?_⟩;simpa[Bm,ev,getS,FH,putS]using R'
theorem FL_ {X:ByteArray} (hX:X.size<=maxLen) (qX:134<B.nt) (ho:s.own=Vs L) (h5:getS s.slots 5= .osl 5 1) (h8:getS s.slots 8= .int .i64 i) (hi:i<L.length)
  (hQ:Q .normal ⟨(61,.any)::(60,.any)::(59,.any)::(58,.any)::s.slots,s.own⟩) :
  DW Tryz.prog B (.region 10 #[⟨some 58,.move (.tmp 5),y0,p0,f0,none⟩,⟨some 59,.move (.tmp 8),y1,p1,f1,none⟩,⟨some 60,.indexAddr 22 (.tmp 58) (.tmp 59),y2,p2,f2,none⟩,⟨some 61,.fieldAddr 33 (.tmp 60) 0,y3,p3,f3,none⟩,⟨none,.store 9 (.tmp 61) (.const (.string X)),y4,p4,f4,none⟩] false) Q s:=by
 refine Lm fun a w loc R=> ?_
 have hh:Ah s.own 5=some ⟨5,1,.abs (GJ fun g=>DB g=L)⟩:=by rw[ho];rfl
 have H0:=((RV.of R).int h8).osl h5 hh;have HJ:=H0.cell hh;obtain⟨hz,g,hg,hR⟩:=HJ;obtain⟨b,off,cap,arr,ty,r,hv,hb,hbh,hr,hc,_⟩:=hR.at (i:=i) (by rw[GB hg];exact hi);rw[hv]at H0;refine⟨rfl,rv .any H0 rfl (by omega) (by simp) (Fo (H0.ev (x:=5) (.head _))) (by simp[rd]) (by simp) fun a1 H1=> ?_⟩;refine⟨rfl,rv .any H1 rfl (by omega) (by simp) (Fo (H1.ev (x:=8) (.tail _ (.tail _ (.head _))))) (by simp[rd]) (by simp) fun a2 H2=> ?_⟩
 refine⟨rfl,rv .any H2 rfl (by omega) (by simp) (MB (k:=2) (bs:=40) (by simp) (H2.ev (x:=58) (.tail _ (.head _))) (H2.ev (x:=59) (.head _)) (by rw[GB hg];exact hi)) (by simp[rd]) (by simp) fun a3 H3=> ?_⟩;refine⟨rfl,rv .any H3 rfl (by omega) (by simp) (QD (fo:=0) (fn:=1) (fb:=false) (by simp) (by decide) (H3.ev (x:=60) (.head _))) (by simp[rd]) (by simp) fun a4 H4=> ?_⟩;have qV:=(aC0.1 hc).1;refine⟨rfl,Xn (id:=5) H4 rfl (by simp) hh hb (Xr (arr:=arr) (v:= .string X) (H4.ev (x:=61) (.head _)) rfl hbh (by simp[Value.cells]) (by simp[Value.cells];omega) (by simp[Value.cells,Value.oneCell'])) (fun M=> ?_) fun a' w' H'=>⟨_,loc,hQ,H'⟩⟩
 refine GJ.kd (M:=[]) (Uh (off:=off+i*2+0) (vs:=(Value.string X).cells.toList) hbh (by simp[Value.cells];omega) ?_) ⟨hz,g,hg,hR⟩;intro j v' hj;have fH:[Value.string X][j]? =some v':=hj
 cases j with
 | succ j=>simp at fH
 | zero =>
 simp only[bA0,aA0]at fH;subst fH;exact⟨_,by simpa using hc,.inr (.inl ⟨_,_,rfl,rfl,hX⟩)⟩
theorem FO.at {ok:Nat->Prop} {h:Array Obj} {l:List Nd} {v:Value} {j:Nat} (hb:FO ok h l v) (hj:j<l.length):∃b off cap arr ty,v= .slice (some ⟨b,off,none⟩) l.length cap/\ok b/\h[b]? =some (.cells arr ty (0,0)) /\
  ∃n1 s n2,arr[off+j*3]? =some (.int .i64 n1)/\arr[off+j*3+1]? =some (.string s)/\arr[off+j*3+2]? =some (.int .i64 n2):=by
 obtain⟨a,cap,hv,h1,h2,h3,h4⟩:=hb
 rcases h4 with ⟨rfl,_⟩ | ⟨b,off,arr,ty,rfl,g2,g3,g4⟩
 ·simp at hj
 ·have hc:(l.map Bo)[j]? =some (Bo l[j]):=by rw[bH0,aI0 hj];rfl
  obtain⟨_,g5⟩:=Dh 3 _ arr off j _ g4 hc;simp only[Bo,rdC,rd]at g5;obtain⟨⟨v1,a1,a2,rfl,a4⟩,⟨v2,b1,b2,rfl,b4⟩,⟨v3,c1,c2,rfl,c4⟩,_⟩:=g5;exact⟨b,off,cap,arr,ty,hv,g2,g3,_,_,_,a1,b1,c1⟩
theorem sG (qX:134<B.nt) (ho:s.own=Vs L) (h5:getS s.slots 5= .osl 5 1) (h8:getS s.slots 8= .int .i64 i) (h9:getS s.slots 9= .int .i64 j) (hi:L[i]? =some m) (hm:m<9223372036854775807)
  (hQ:Q .normal ⟨(69,.bool (decide ((j:Int)<(m:Int))))::(68,.int .i64 m)::(67,.any)::(66,.any)::(65,.any)::(64,.any)::(63,.any)::(62,.int .i64 j)::s.slots,s.own⟩) :
  DW Tryz.prog B (.region 12 #[⟨some 62,.move (.tmp 9),y0,p0,f0,none⟩,⟨some 63,.move (.tmp 5),y1,p1,f1,none⟩,⟨some 64,.move (.tmp 8),y2,p2,f2,none⟩,⟨some 65,.indexAddr 22 (.tmp 63) (.tmp 64),y3,p3,f3,none⟩,⟨some 66,.fieldAddr 33 (.tmp 65) 1,y4,p4,f4,none⟩,
   ⟨some 67,.load 31 (.tmp 66),y5,p5,f5,none⟩,⟨some 68,.call ⟨.builtin .len, #[.tmp 67], #[31]⟩,y6,p6,f6,none⟩,⟨some 69,.binOp .lss 3 (.tmp 62) (.tmp 68) 3,y7,p7,f7,none⟩] false) Q s:=by
 refine Lm fun a w loc R=> ?_
 have hh:Ah s.own 5=some ⟨5,1,.abs (GJ fun g=>DB g=L)⟩:=by rw[ho];rfl
 have H0:=(((RV.of R).int h8).int h9).osl h5 hh;obtain⟨hz,g,hg,hR⟩:=H0.cell hh;have kI:i<L.length:=(aB0.1 hi).1;obtain⟨b,off,cap,arr,ty,r,hv,hb,hbh,hr,_,u,hu,nF⟩:=hR.at (i:=i) (by rw[GB hg];exact kI);have jF:=sE hg hr hi;rw[hv]at H0;obtain⟨a5,cap5,hu5,_⟩:=nF;rw[jF]at hu5;refine⟨rfl,rv (.int .i64 j) H0 rfl (by omega) (by simp) (Fo (H0.ev (x:=9) (.tail _ (.head _)))) (by have:=R.sl 9;rw[h9]at this;simp only[rd]at this |-;exact⟨trivial,this.2⟩) (by simp) fun a1 H1=> ?_⟩
 refine⟨rfl,rv .any H1 rfl (by omega) (by simp) (Fo (H1.ev (x:=5) (.tail _ (.head _)))) (by simp[rd]) (by simp) fun a2 H2=> ?_⟩;refine⟨rfl,rv .any H2 rfl (by omega) (by simp) (Fo (H2.ev (x:=8) (.tail _ (.tail _ (.tail _ (.tail _ (.head _))))))) (by simp[rd]) (by simp) fun a3 H3=> ?_⟩;refine⟨rfl,rv .any H3 rfl (by omega) (by simp) (MB (k:=2) (bs:=40) (by simp) (H3.ev (x:=63) (.tail _ (.head _))) (H3.ev (x:=64) (.head _)) (by rw[GB hg];exact kI)) (by simp[rd]) (by simp) fun a4 H4=> ?_⟩
 refine⟨rfl,rv .any H4 rfl (by omega) (by simp) (QD (fo:=1) (fn:=1) (fb:=false) (by simp) (by decide) (H4.ev (x:=65) (.head _))) (by simp[rd]) (by simp) fun a5 H5=> ?_⟩;refine⟨rfl,rv .any H5 rfl (by omega) (by simp) (oX (by simp) (H5.ev (x:=66) (.head _)) hbh (by rw[hu,hu5])) (by simp[rd]) (by simp) fun a6 H6=> ?_⟩;refine⟨rfl,rv (.int .i64 m) H6 rfl (by omega) (by simp) (CC_ (by simp) (H6.ev (x:=67) (.head _))) (by simp only[rd];exact⟨trivial,by constructor<;>omega⟩) (by simp) fun a7 H7=> ?_⟩
 have dJ:=DQ (P:=Tryz.prog) (B:=B) (s:=⟨(68,.int .i64 m)::(67,.any)::(66,.any)::(65,.any)::(64,.any)::(63,.any)::(62,.int .i64 j)::s.slots,s.own⟩) (o:=⟨some 69,.binOp .lss 3 (.tmp 62) (.tmp 68) 3,y7,p7,f7,none⟩) (by simp[Bs];omega) (by simp[DV,ev,getS,FH]);refine⟨rfl,dJ a7 w loc _ _ H7.R fun a' w' loc' R'=> ?_⟩;refine⟨_,loc',hQ,?_⟩;simpa[Bm,ev,getS,FH,putS]using R'
theorem FK_ (qX:134<B.nt) (ho:s.own=Vs L) (h5:getS s.slots 5= .osl 5 1) (h8:getS s.slots 8= .int .i64 i) (h9:getS s.slots 9= .int .i64 j) (hi:L[i]? =some m) (hj:j<m)
  (hQ:Q .normal ⟨(79,.any)::(78,.agg [.int .i64 0,.str ⟨#[]⟩,.int .i64 0])::(77,.any)::(76,.any)::(75,.any)::(74,.any)::(73,.any)::(72,.any)::s.slots,s.own⟩) :
  DW Tryz.prog B (.region 14 #[⟨some 72,.move (.tmp 5),y0,p0,f0,none⟩,⟨some 73,.move (.tmp 8),y1,p1,f1,none⟩,⟨some 74,.indexAddr 22 (.tmp 72) (.tmp 73),y2,p2,f2,none⟩,⟨some 75,.fieldAddr 33 (.tmp 74) 1,y3,p3,f3,none⟩,
   ⟨some 76,.load 31 (.tmp 75),y4,p4,f4,none⟩,⟨some 77,.move (.tmp 9),y5,p5,f5,none⟩,⟨some 78,.build 36 #[],y6,p6,f6,none⟩,⟨some 79,.indexAddr 31 (.tmp 76) (.tmp 77),y7,p7,f7,none⟩,⟨none,.store 36 (.tmp 79) (.tmp 78),y8,p8,f8,none⟩] false) Q s:=by
 refine Lm fun a w loc R=> ?_
 have hh:Ah s.own 5=some ⟨5,1,.abs (GJ fun g=>DB g=L)⟩:=by rw[ho];rfl
 have H0:=(((RV.of R).int h8).int h9).osl h5 hh;obtain⟨hz,g,hg,hR⟩:=H0.cell hh;have kI:i<L.length:=(aB0.1 hi).1;obtain⟨b,off,cap,arr,ty,r,hv,hb,hbh,hr,_,u,hu,nF⟩:=hR.at (i:=i) (by rw[GB hg];exact kI);have jF:=sE hg hr hi;rw[hv]at H0;obtain⟨b',off',cap',arr',ty',vO,qM,hbh',n1,s1,n2,c1,c2,c3⟩:=nF.at (j:=j) (by omega);rw[jF]at vO;refine⟨rfl,rv .any H0 rfl (by omega) (by simp) (Fo (H0.ev (x:=5) (.head _))) (by simp[rd]) (by simp) fun a1 H1=> ?_⟩
 refine⟨rfl,rv .any H1 rfl (by omega) (by simp) (Fo (H1.ev (x:=8) (.tail _ (.tail _ (.tail _ (.head _)))))) (by simp[rd]) (by simp) fun a2 H2=> ?_⟩;refine⟨rfl,rv .any H2 rfl (by omega) (by simp) (MB (k:=2) (bs:=40) (by simp) (H2.ev (x:=72) (.tail _ (.head _))) (H2.ev (x:=73) (.head _)) (by rw[GB hg];exact kI)) (by simp[rd]) (by simp) fun a3 H3=> ?_⟩;refine⟨rfl,rv .any H3 rfl (by omega) (by simp) (QD (fo:=1) (fn:=1) (fb:=false) (by simp) (by decide) (H3.ev (x:=74) (.head _))) (by simp[rd]) (by simp) fun a4 H4=> ?_⟩
 refine⟨rfl,rv .any H4 rfl (by omega) (by simp) (oX (by simp) (H4.ev (x:=75) (.head _)) hbh (by rw[hu,vO])) (by simp[rd]) (by simp) fun a5 H5=> ?_⟩;refine⟨rfl,rv .any H5 rfl (by omega) (by simp) (Fo (H5.ev (x:=9) (.tail _ (.tail _ (.tail _ (.tail _ (.tail _ (.tail _ (.head _))))))))) (by simp[rd]) (by simp) fun a6 H6=> ?_⟩;refine⟨rfl,GD_ H6 rfl (by omega) (by simp) (by simp[DV,FT,ev]) (by simp) fun v a7 w' hu7 hrv H7=> ?_⟩
 have hvv:v= .agg #[.int .i64 0,.string ⟨#[]⟩,.int .i64 0]:=by
  simp[Bm,FT,ev,rd,rdV]at hrv;obtain⟨us,rfl,v1,r1,q1,rfl,v2,rfl,rfl,_⟩:=hrv;rw[<-Array.toArray_toList (xs:=us),q1]
 subst hvv;have hbh2:w'.heap[b']? =some (.cells arr' ty' (0,0)):=by rw[hu7.blk b' (aC0.1 hbh').1 (by simp)];exact hbh'
 refine⟨rfl,rv .any H7 rfl (by omega) (by simp) (MB (k:=3) (bs:=32) (by simp) (H7.ev (x:=76) (.tail _ (.tail _ (.head _)))) (H7.ev (x:=77) (.tail _ (.head _))) hj) (by simp[rd]) (by simp) fun a8 H8=> ?_⟩;have qV:=(aC0.1 c3).1;have HJ:=H8.cell hh;refine⟨rfl,Xn (id:=5) H8 rfl (by simp) hh qM (Xr (arr:=arr') (v:= .agg #[.int .i64 0,.string ⟨#[]⟩,.int .i64 0]) (H8.ev (x:=79) (.head _)) (H8.ev (x:=78) (.tail _ (.head _))) hbh2 (by simp[Value.cells]) (by simp[Value.cells];omega) (by simp[Value.cells,Value.oneCell'])) (fun M=> ?_) fun a' w2 H'=>⟨_,loc,hQ,?_⟩⟩
 ·refine GJ.kd (M:=(Aa s.own loc++B.M0)) (Uh (off:=off'+j*3) (vs:=(Value.agg #[.int .i64 0,.string ⟨#[]⟩,.int .i64 0]).cells.toList) hbh2 (by simp[Value.cells];omega) ?_) HJ;intro q v' hq;have wB:[Value.int .i64 0,.string ⟨#[]⟩,.int .i64 0][q]? =some v':=hq
  match q,wB with
  | 0,wB=>simp at wB;subst wB;exact⟨_,c1,.inr (.inr ⟨_,_,rfl,rfl,by decide⟩)⟩
  | 1,wB=>simp at wB;subst wB;exact⟨_,c2,.inr (.inl ⟨_,_,rfl,rfl,by decide⟩)⟩
  | 2,wB=>simp at wB;subst wB;exact⟨_,c3,.inr (.inr ⟨_,_,rfl,rfl,by decide⟩)⟩
  | q+3,wB=>simp at wB
 ·simpa[Bm,FT,ev]using H'
end
end Go.Proofs.Wy
end
section
namespace Go.Proofs.Wy
open Go Go.Dm Tryz
variable [DMode]
mutual
def JC : RT->Nat
 | .mk _ ks=>Ti ks+1
def Ti : List RT->Nat
 | []=>0
 | t::ts=>max (JC t) (Ti ts)
end
theorem VS (x:Nd) (ks:List RT):JC (.mk x ks)=Ti ks+1:=by rw[JC]
theorem Im (t:RT) (ts:List RT):Ti (t::ts)=max (JC t) (Ti ts):=by rw[Ti]
theorem MW : Ti []=0:=by rw[Ti]
def fin : List Nat->List Nat
 | []=>[]
 | c::s=>if c=1 then fin s else (c-1)::s
def Hn (p:List Nat×Nat) (x:Nd):List Nat×Nat:=(if x.n.toNat=0 then fin p.1 else x.n.toNat::p.1,max p.2 (p.1.length+1))
mutual
theorem Md : ∀(t:RT) (s:List Nat) (m:Nat),ED t=true->(Ad t).foldl Hn (s,m)=(fin s,max m (s.length+JC t))
 | .mk x ks,s,m,h=>by
  obtain⟨h1,h2,h3⟩:=Cg h;rw[AQ,cY0,VS];unfold Hn;rw[h2,eC0]
  cases ks with
  | nil=>simp[An,MW]
  | cons t ts =>
   have:=OW (t::ts) s (max m (s.length+1)) h3 (by simp);simp only[List.length_cons]at this |-;rw[if_neg (by omega)];unfold Hn at this;rw[this]
   congr 1
   omega
theorem OW : ∀(ts:List RT) (s:List Nat) (m:Nat),FQ ts=true->ts≠[]->(An ts).foldl Hn (ts.length::s,m)=(fin s,max m (s.length+1+Ti ts))
 | [],s,m,h,qF=>absurd rfl qF
 | [t],s,m,h,qF=>by
  obtain⟨h1,h2⟩:=BQ h;have:=Md t (1::s) m h1;rw[Ax,dF0];simp only[List.length_cons,List.length_nil,bQ0]at this |-;rw[this,Im,MW];simp[An,fin]
 | t::u::r,s,m,h,qF=>by
  obtain⟨h1,h2⟩:=BQ h;have h3:=Md t (((u::r).length+1)::s) m h1;have h4:=OW (u::r) s (max m (s.length+1+JC t)) h2 (by simp);rw[Ax,dF0,List.length_cons,h3]
  have e:fin (((u::r).length+1)::s)=(u::r).length::s:=by
   simp only[fin];rw[if_neg (by simp)];simp
  rw[e];have e2:max m ((((u::r).length+1)::s).length+JC t)=max m (s.length+1+JC t):=by rw[List.length_cons]
  rw[e2,h4,Im t]
  congr 1
  omega
end
theorem Kk {t:RT} (h:ED t=true):(Ad t).foldl Hn ([],0)=([],JC t):=by
 rw[Md t [] 0 h];simp[fin]
def CL_ : List Nat->List Nat
 | []=>[]
 | c::s=>if c=0 then fin s else c::s
def Fx (s:List Nat):Prop:=∀c∈s,1<=c/\c<=1572864
theorem Ay_ {c:Nat} {s:List Nat} (h:1<=c):CL_ ((c-1)::s)=fin (c::s):=by
 rw[show CL_ ((c-1)::s)=if c-1=0 then fin s else (c-1)::s from rfl,show fin (c::s)=if c=1 then fin s else (c-1)::s from rfl]
 by_cases h1:c=1
 ·rw[if_pos (by omega),if_pos h1]
 ·rw[if_neg (by omega),if_neg h1]
theorem sN : ∀s:List Nat,(fin s).length<=s.length
 | []=>by simp[fin]
 | c::s=>by
  unfold fin
  split
  ·have:=sN s;simp;omega
  ·simp
theorem sM : ∀{s:List Nat},Fx s->Fx (fin s)
 | [],_=>by intro c hc;simp[fin]at hc
 | c::s,h=>by
  unfold fin
  split
  ·exact sM fun d hd=>h d (aF0 _ hd)
  ·intro d hd;have hc:=h c aH0
   rcases aK0.1 hd with rfl | hd
   ·omega
   ·exact h d (aF0 _ hd)
theorem Bj_ (p:List Nat×Nat) (x:Nd):(Hn p x).1.length<=p.1.length+1:=by
 unfold Hn;simp only
 split
 ·have:=sN p.1;omega
 ·simp
theorem Bi_ {p:List Nat×Nat} (x:Nd) (hx:x.n.toNat<=1572864) (h:Fx p.1):Fx (Hn p x).1:=by
 unfold Hn;simp only
 split
 ·exact sM h
 ·intro d hd
  rcases aK0.1 hd with rfl | hd
  ·omega
  ·exact h d hd
theorem Az_ (c:Nat) (s:List Nat):CL_ (c::s)=if c=0 then fin s else c::s:=rfl
def Jg (s:List Nat):List (List DVal):=(s.map fun c:Nat=>[DVal.int .i64 (c:Int)]).reverse
theorem EL (s:List Nat):(Jg s).length=s.length:=by simp[Jg]
theorem Iv (c:Nat) (s:List Nat):Jg (c::s)=Jg s++[[.int .i64 (c:Int)]]:=by simp[Jg]
theorem Db : Jg []=[]:=rfl
@[simp] theorem IB_ (s:List Nat):Br (Jg s)=0:=by
 unfold Jg
 exact Nat.le_zero.1 (PX fun d hd=>by
  obtain⟨c,_,rfl⟩:=aT0.1 (List.mem_reverse.1 hd)
  simp[AJ,mx])
theorem YX (c:Nat) (s:List Nat):(Jg (c::s))[s.length]? =some [.int .i64 (c:Int)]:=by
 rw[Iv,bE0 (by rw[EL];omega),EL,eF0];rfl
theorem BA_ (c:Nat) (s:List Nat):(Jg (c::s)).take s.length=Jg s:=by
 rw[Iv,List.take_append_of_le_length (by rw[EL];omega),cK0 (by rw[EL];omega)]
theorem Ei_ (c d:Nat) (s:List Nat):(Jg (c::s)).set s.length [.int .i64 (d:Int)]=Jg (d::s):=by
 rw[Iv,Iv,List.set_append_right _ _ (by rw[EL];omega),EL,eF0];rfl
end Go.Proofs.Wy
end
