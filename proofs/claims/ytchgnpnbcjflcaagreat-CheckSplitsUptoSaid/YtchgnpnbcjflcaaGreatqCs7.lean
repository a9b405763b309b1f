/- Parts of a proof, laid together: WB4, WB5, WB6, WB7, BN0, WB8, WB9, WB10, WB11, WB12, WB13, EnBo, BN1, WRn, RY1, RX2, RX3, RX4, RY2, RY3. -/
import Derived.Test.YtchgnpnbcjflcaaGreatqCs4
import Derived.Test.YtchgnpnbcjflcaaGreatqCs5
import Derived.Test.YtchgnpnbcjflcaaGreatqCs6
set_option linter.unusedSimpArgs false
set_option linter.unusedVariables false
set_option linter.unusedSectionVars false
section
namespace Go.Proofs.YtchgnpnbcjflcaaGreat
open Go Go.Dm
variable [DMode]
attribute [local irreducible] DW AV_ AZ_
set_option maxRecDepth 100000
def WC_ : Ann:=⟨[],[]⟩
theorem JP_ (l:List Edge) (s:Edge):Ac_ Tryz.prog 168 [dEds l,.agg (Bl_ s)] (.bool (decide (0≤HS_ l s))):=by
 refine Aa_ [] WC_ Tryz.func168 Tryz.call168 Tryz.ntmps168 mxd (aj2 @WC_.eq_1 Tryz.results168) rfl (by simp) (by simp[mx]) fun hwf B hnt hgAnn=> ?_
 simp only[argS];have h:=OY_ l s;simp only[Bl_]at h;exact go0 (aj1 h) aj0 (aj1 @Bl_.eq_1)
def anWB459 : Ann:=⟨[],[]⟩
theorem LK_ (g1 g2 g3 g4:FuncId) (c1 c2 c3 c4:List DVal) (e1 e2 e3 e4:Int) (h1:Ac_ Tryz.prog g1 c1 (.int .i64 e1)) (h2:e1=0→Ac_ Tryz.prog g2 c2 (.int .i64 e2)) (h3:e1=0→e2=0→Ac_ Tryz.prog g3 c3 (.int .i64 e3)) (h4:e1=0→e2=0→e3=0→Ac_ Tryz.prog g4 c4 (.int .i64 e4)) :
  Ac_ Tryz.prog 59 [.sl 1 8 [[.fn (.func g1) [] c1],[.fn (.func g2) [] c2],[.fn (.func g3) [] c3],[.fn (.func g4) [] c4]]] (.int .i64 (if e1=0 then (if e2=0 then (if e3=0 then e4 else e3)else e2)else e1)):=by
 refine Aa_ [] anWB459 Tryz.func59 Tryz.call59 Tryz.ntmps59 mxd (aj2 @anWB459.eq_1 Tryz.results59) rfl (by simp) (by simp[mx]) fun hwf B hnt hgAnn=> ?_
 simp only[argS];clear hwf;obtain⟨R,hR⟩:∃R,R=(if e1=0 then (if e2=0 then (if e3=0 then e4 else e3)else e2)else e1):=⟨_,rfl⟩;rw[←hR]
 (refine go1 aj0 aj0 aj0 ?_;intros;refine mk_i ?_)
 refine Ad_ (X:={k:Nat//k≤4∧(1≤k→e1=0)∧(2≤k→e2=0)∧(3≤k→e3=0)∧(4≤k→e4=0)}) (fun x=>⟨[(6,.sl 1 8 [[.fn (.func g1) [] c1],[.fn (.func g2) [] c2],[.fn (.func g3) [] c3],[.fn (.func g4) [] c4]]),(7,.int .i64 4),(8,.int .i64 x.1)],[]⟩) (fun x=>4-x.1) ⟨0,by simp⟩ (Sub.lit (by simp)) ?_;rintro⟨k,hk,q1,q2,q3,q4⟩
 match k,hk,q1,q2,q3,q4 with
 | 0,_,_,_,_,_ =>
  by_cases h:e1=0
  ·subst h
   (refine go1 (aj1 h1) aj0 aj0 ?_;intros;refine mk_i ?_)
   exact Ai_.mk ⟨1,by omega,by simp,by omega,by omega,by omega⟩ (Sub.lit (by simp)) (by simp)
   skip
  ·have hRk:R=e1:=by rw[hR];simp[h]
   subst hRk;exact go0 (aj1 h1) aj0 (aj1 h)
 | 1,_,q1,_,_,_ =>
  have q1:=q1 (by omega);have k2:=h2 q1;clear h2 h3 h4;subst q1
  by_cases h:e2=0
  ·subst h
   (refine go1 (aj1 k2) aj0 aj0 ?_;intros;refine mk_i ?_)
   exact Ai_.mk ⟨2,by omega,by simp,by simp,by omega,by omega⟩ (Sub.lit (by simp)) (by simp)
   skip
  ·have hRk:R=e2:=by rw[hR];simp[h]
   subst hRk;exact go0 (aj1 k2) aj0 (aj1 h)
 | 2,_,q1,q2,_,_ =>
  have q1:=q1 (by omega);have q2:=q2 (by omega);have k3:=h3 q1 q2;clear h2 h3 h4;subst q1;subst q2
  by_cases h:e3=0
  ·subst h
   (refine go1 (aj1 k3) aj0 aj0 ?_;intros;refine mk_i ?_)
   exact Ai_.mk ⟨3,by omega,by simp,by simp,by simp,by omega⟩ (Sub.lit (by simp)) (by simp)
   skip
  ·have hRk:R=e3:=by rw[hR];simp[h]
   subst hRk;exact go0 (aj1 k3) aj0 (aj1 h)
 | 3,_,q1,q2,q3,_ =>
  have q1:=q1 (by omega);have q2:=q2 (by omega);have q3:=q3 (by omega);have k4:=h4 q1 q2 q3;clear h2 h3 h4;subst q1;subst q2;subst q3
  by_cases h:e4=0
  ·subst h
   (refine go1 (aj1 k4) aj0 aj0 ?_;intros;refine mk_i ?_)
   exact Ai_.mk ⟨4,by omega,by simp,by simp,by simp,by simp⟩ (Sub.lit (by simp)) (by simp)
   skip
  ·have hRk:R=e4:=by rw[hR];simp
   subst hRk;exact go0 (aj1 k4) aj0 (aj1 h)
 | 4,_,q1,q2,q3,q4 =>
  clear h2 h3 h4;have q1:=q1 (by omega);have q2:=q2 (by omega);have q3:=q3 (by omega);have q4:=q4 (by omega);subst q1;subst q2;subst q3;subst q4;have hRk:R=0:=by rw[hR];simp
  subst hRk;exact go0 aj0 aj0 aj0
def Qa_ (es:List Edge):ByteArray→List Edge→Option ByteArray
 | p,[]=>some p
 | p,x::l=>if x.fr=p∧0≤HS_ es x then Qa_ es x.to l else none
def Lx_ (g:Edges) (a b:ByteArray) (way:List Edge):Bool:=match Qa_ g.edges a way with
 | some z=>z==b
 | none=>false
def anWB483 : Ann:=⟨[],[⟨5,[12],[],[]⟩]⟩
theorem Lv_ (g:Edges) (a b:ByteArray) (way:List Edge):Ac_ Tryz.prog 83 [.agg (dGr g),.str a,.str b,dEds way] (.bool (Lx_ g a b way)):=by
 refine Aa_ [] anWB483 Tryz.func83 Tryz.call83 Tryz.ntmps83 mxd (aj2 @anWB483.eq_1 Tryz.results83) rfl (by simp) (by simp[mx]) fun hwf B hnt hgAnn=> ?_
 have hlen:way.length<9223372036854775807:=IV_ hwf.2.2.2.1;clear hwf;simp only[argS];obtain⟨R,hR⟩:∃R,R=Lx_ g a b way:=⟨_,rfl⟩;rw[←hR];unfold Lx_ at hR
 (refine go1 aj0 aj0 (aj1 @dGr.eq_1) ?_;intros;refine mk_i ?_)
 refine Yo_ ?_
 (refine go1 aj0 aj0 (aj1 @dGr.eq_1) ?_;intros;refine mk_i ?_)
 refine Yp_ ?_;simp
 (refine go1 aj0 aj0 (aj1 @dGr.eq_1) ?_;intros;refine mk_i ?_)
 refine Ad_ (X:={x:Nat×ByteArray//x.1≤way.length∧Qa_ g.edges x.2 (way.drop x.1)=Qa_ g.edges a way})
  (fun x=>⟨[(2,.str b),(4,.ref (dGr g)),(9,.str x.1.2),(10,.bool true),(14,dEds way),(15,.int .i64 way.length),(16,.int .i64 x.1.1)],[]⟩) (fun x=>way.length-x.1.1) ⟨(0,a),by simp⟩ (Sub.lit (by simp[dGr])) ?_
 rintro⟨⟨k,p⟩,hk,hw⟩;simp only at hk hw ⊢
 by_cases hlt:k<way.length
 ·obtain⟨x,hx,hx',hxm⟩:=Aj_ hlt;rw[aR0 hlt,hx']at hw;simp only[Qa_]at hw;have h1:=JP_ g.edges x;simp only[Bl_]at h1
  by_cases c1:x.fr=p
  ·subst c1
   by_cases c2:0≤HS_ g.edges x
   ·rw[if_pos ⟨rfl,c2⟩]at hw;simp only[c2,decide_true]at h1
    (refine go1 (aj1 h1) aj0 (aj5 @dGr.eq_1 @Bl_.eq_1 hlt hx hx') ?_;intros;refine mk_i ?_)
    exact Ai_.mk ⟨(k+1,x.to),show k+1≤way.length∧Qa_ g.edges x.to (way.drop (k+1))=Qa_ g.edges a way from ⟨by omega,hw⟩⟩ (Sub.lit (by simp[dGr])) (by simp;omega)
    skip
   ·rw[if_neg (fun h=>c2 h.2)]at hw;simp only[c2,decide_false]at h1;rw[←hw]at hR;simp only at hR;subst hR;exact go0 (aj1 h1) aj0 (aj5 @dGr.eq_1 @Bl_.eq_1 hlt hx hx')
  ·rw[if_neg (fun h=>c1 h.1)]at hw;rw[←hw]at hR;simp only at hR;subst hR;have c1b:(x.fr==p)=false:=by simpa using c1
   exact go0 (aj1 h1) aj0 (aj6 @dGr.eq_1 @Bl_.eq_1 hlt hx hx' c1b)
 ·have hkk:k=way.length:=by omega
  subst hkk;rw[cB0]at hw;simp only[Qa_]at hw;rw[←hw]at hR;simp only at hR;subst hR;exact go0 aj0 aj0 (aj1 @dGr.eq_1)
def BX_ (way:List Edge):List ByteArray:=way.map (·.lb)
def anWB428 : Ann:=⟨[],[⟨4,[5],[],[]⟩]⟩
theorem Jj_ (way:List Edge):Ac_ Tryz.prog 28 [dEds way] (AP_ (BX_ way)):=by
 refine Aa_ [3] anWB428 Tryz.func28 Tryz.call28 Tryz.ntmps28 mxd (aj2 @anWB428.eq_1 Tryz.results28) rfl (by simp) (by simp[mx]) fun hwf B hnt hgAnn=> ?_
 have hlen:=IV_ hwf.1;have hsz:way.length*48≤150000000000000:=by have:=hwf.1;simp only[wfD,aK0]at this;exact this.1
 clear hwf;simp only[argS]
 (refine go1 aj0 aj0 aj0 ?_;intros;refine mk_i ?_)
 refine Bn_ 3 3 9 1 16 (by simp[hnt,Tryz.ntmps28]) (fun n3=> ?_);refine Ad_ (X:={k:Nat//k≤way.length}) (fun k=>⟨[(3,.osl 3 1),(6,dEds way),(7,.int .i64 way.length),(8,.int .i64 k.1)],[⟨3,1,.row 9 1 16 ((BX_ (way.take k.1)).map dStr)⟩]⟩) (fun k=>way.length-k.1) ⟨0,by omega⟩ (Sub.lit (by simp[BX_])) ?_;rintro⟨k,hk⟩
 by_cases hlt:k<way.length
 ·obtain⟨x,hx,hx',hxm⟩:=Aj_ hlt;have htk:BX_ (way.take (k+1))=BX_ (way.take k)++[x.lb]:=by unfold BX_;rw[cP0 hlt,hx',aZ0];rfl
  have hl1:(BX_ (way.take k)).length=k:=by simp[BX_];omega
  obtain⟨T,hT⟩:∃T,T=BX_ (way.take k):=⟨_,rfl⟩;rw[←hT]at htk hl1 ⊢;have z1:(k+1)*16≤150000000000000:=by omega
  have z2:k+1≤9223372036854775807:=by omega
  (refine go1 aj0 aj0 (aj7 @Bl_.eq_1 hlt hx hx' hl1 z1 z2) ?_;intros;refine mk_i ?_)
  refine Ai_.mk ⟨k+1,by omega⟩ (Sub.lit (by simp[htk,dStr])) (by simp;omega)
  skip
 ·have hkk:k=way.length:=by omega
  subst hkk;rw[aS0];exact go0 aj0 aj0 aj0
def risB {α:Type} (lt:α→α→Bool):List α→Bool
 | a::b::l=>lt a b&&risB lt (b::l)
 | _=>true
theorem QH_ {α:Type} {lt:α→α→Bool} {l:List α} {k:Nat} {x y:α} (hx:l[k]? =some x) (hy:l[k+1]? =some y):risB lt (l.drop k)=(lt x y&&risB lt (l.drop (k+1))):=by
 obtain⟨h1,rfl⟩:=aB0.1 hx;obtain⟨h2,rfl⟩:=aB0.1 hy;rw[aR0 h1,aR0 h2];rfl
theorem UI_ {α:Type} {lt:α→α→Bool} {l:List α} {k:Nat} (h:l.length≤k+1):risB lt (l.drop k)=true:=by
 have:(l.drop k).length≤1:=by rw[cA0];omega
 match hd:l.drop k,this with
 | [],_=>rfl
 | [a],_=>rfl
 | a::b::r,h=>simp at h
def Kn_ : Ann:=⟨[],[]⟩
theorem KP_ (l:List ByteArray):Ac_ Tryz.prog 242 [AP_ l,.fn (.func 243) [] []] (.bool (risB BD_ l)):=by
 refine Aa_ [] Kn_ Tryz.func242 Tryz.call242 Tryz.ntmps242 mxd (aj2 @Kn_.eq_1 Tryz.results242) rfl (by simp) (by simp[mx]) fun hwf B hnt hgAnn=> ?_
 have hlen:=Ib_ hwf.1;clear hwf;simp only[argS];obtain⟨R,hR⟩:∃R,R=risB BD_ l:=⟨_,rfl⟩;rw[←hR]
 (refine go1 aj0 aj0 aj0 ?_;intros;refine mk_i ?_)
 refine Ad_ (X:={k:Nat//k≤l.length∧R=risB BD_ (l.drop k)}) (fun k=>⟨[(0,AP_ l),(1,.fn (.func 243) [] []),(5,.int .i64 (k.1+1))],[]⟩) (fun k=>l.length-k.1) ⟨0,by simp[hR]⟩ (Sub.lit (by simp)) ?_;rintro⟨k,hk,hw⟩;clear hR
 by_cases hlt:k+1<l.length
 ·obtain⟨x,hx,hx',_⟩:=Aj_ (show k<l.length by omega);obtain⟨y,hy,hy',_⟩:=Aj_ hlt;rw[QH_ hx hy]at hw;have h1:=Ea_ x y;have hlt':(k:Int)+1<l.length:=by omega
  have q0:(k:Int)+1-1=k:=by omega
  have q1:((k:Int)+1).toNat=k+1:=by omega
  have q2:k<l.length:=by omega
  have q3:(0:Int)≤(k:Int)+1:=by omega
  cases hl:BD_ x y
  ·rw[hl]at hw;simp only[cL0]at hw;subst hw
   have hc:(0:Int)≤sCmp x y:=by
    have:=(Cg_ (a:=x) (b:=y)).1;rw[hl]at this;simp only[aP0,imp_false]at this;omega
   (refine go1 (aj1 h1) aj0 (aj12 @dStr.eq_1 hlt' hx hx' hy hy' q0 q1 q2 q3 hlt hc) ?_;intros;refine mk_i ?_)
   simp[hnt,Tryz.results242,Kn_,dStr,hlt',hx,hx',hy,hy',q0,q1,q2,q3,hlt,hc];exact go0 (aj1 h1) aj0 (aj12 @dStr.eq_1 hlt' hx hx' hy hy' q0 q1 q2 q3 hlt hc)
  ·rw[hl]at hw;simp only[cO0]at hw;have hc:¬(0:Int)≤sCmp x y:=by have:=Cg_.2 hl;omega
   (refine go1 (aj1 h1) aj0 (aj12 @dStr.eq_1 hlt' hx hx' hy hy' q0 q1 q2 q3 hlt hc) ?_;intros;refine mk_i ?_)
   simp[hnt,Tryz.results242,Kn_,dStr,hlt',hx,hx',hy,hy',q0,q1,q2,q3,hlt,hc]
   (refine go1 (aj1 h1) aj0 (aj12 @dStr.eq_1 hlt' hx hx' hy hy' q0 q1 q2 q3 hlt hc) ?_;intros;refine mk_i ?_)
   exact Ai_.mk ⟨k+1,by omega,hw⟩ (Sub.lit (by simp)) (by simp;omega)
   skip
 ·have hlt':¬(k:Int)+1<l.length:=by omega
  rw[UI_ (by omega)]at hw;subst hw;exact go0 aj0 aj0 (aj1 hlt')
def Km_ : Ann:=⟨[],[]⟩
theorem JH_ (l:List Edge):Ac_ Tryz.prog 244 [dEds l,.fn (.func 245) [] []] (.bool (risB RS_ l)):=by
 refine Aa_ [] Km_ Tryz.func244 Tryz.call244 Tryz.ntmps244 mxd (aj2 @Km_.eq_1 Tryz.results244) rfl (by simp) (by simp[mx]) fun hwf B hnt hgAnn=> ?_
 have hlen:=IV_ hwf.1;clear hwf;simp only[argS];obtain⟨R,hR⟩:∃R,R=risB RS_ l:=⟨_,rfl⟩;rw[←hR]
 (refine go1 aj0 aj0 aj0 ?_;intros;refine mk_i ?_)
 refine Ad_ (X:={k:Nat//k≤l.length∧R=risB RS_ (l.drop k)}) (fun k=>⟨[(0,dEds l),(1,.fn (.func 245) [] []),(5,.int .i64 (k.1+1))],[]⟩) (fun k=>l.length-k.1) ⟨0,by simp[hR]⟩ (Sub.lit (by simp)) ?_;rintro⟨k,hk,hw⟩;clear hR
 by_cases hlt:k+1<l.length
 ·obtain⟨x,hx,hx',_⟩:=Aj_ (show k<l.length by omega);obtain⟨y,hy,hy',_⟩:=Aj_ hlt;rw[QH_ hx hy]at hw;have h1:=Lc_ x y;simp only[Bl_]at h1;have hlt':(k:Int)+1<l.length:=by omega
  have q0:(k:Int)+1-1=k:=by omega
  have q1:((k:Int)+1).toNat=k+1:=by omega
  have q2:k<l.length:=by omega
  have q3:(0:Int)≤(k:Int)+1:=by omega
  cases hl:RS_ x y
  ·rw[hl]at hw;simp only[cL0]at hw;subst hw
   have hc:(0:Int)≤eCmp x y:=by
    have:=(VZ_ (a:=x) (b:=y)).1;rw[hl]at this;simp only[aP0,imp_false]at this;omega
   (refine go1 (aj1 h1) aj0 (aj12 @Bl_.eq_1 hlt' hx hx' hy hy' q0 q1 q2 q3 hlt hc) ?_;intros;refine mk_i ?_)
   simp[hnt,Tryz.results244,Km_,Bl_,hlt',hx,hx',hy,hy',q0,q1,q2,q3,hlt,hc];exact go0 (aj1 h1) aj0 (aj12 @Bl_.eq_1 hlt' hx hx' hy hy' q0 q1 q2 q3 hlt hc)
  ·rw[hl]at hw;simp only[cO0]at hw;have hc:¬(0:Int)≤eCmp x y:=by have:=VZ_.2 hl;omega
   (refine go1 (aj1 h1) aj0 (aj12 @Bl_.eq_1 hlt' hx hx' hy hy' q0 q1 q2 q3 hlt hc) ?_;intros;refine mk_i ?_)
   simp[hnt,Tryz.results244,Km_,Bl_,hlt',hx,hx',hy,hy',q0,q1,q2,q3,hlt,hc]
   (refine go1 (aj1 h1) aj0 (aj12 @Bl_.eq_1 hlt' hx hx' hy hy' q0 q1 q2 q3 hlt hc) ?_;intros;refine mk_i ?_)
   exact Ai_.mk ⟨k+1,by omega,hw⟩ (Sub.lit (by simp)) (by simp;omega)
   skip
 ·have hlt':¬(k:Int)+1<l.length:=by omega
  rw[UI_ (by omega)]at hw;subst hw;exact go0 aj0 aj0 (aj1 hlt')
def Fh_ (e:Edge):Bool:=AO_ e.fr&&(Lt_ e.lb&&AO_ e.to)
def Jp_ (g:Edges):Bool:=g.nodes.all AO_&&g.edges.all Fh_
theorem PR_ {α:Type} {q:α→Bool} {l:List α} {k:Nat} {x:α} (hx:l[k]? =some x):(l.drop k).all q=(q x&&(l.drop (k+1)).all q):=by
 obtain⟨h1,rfl⟩:=aB0.1 hx;rw[aR0 h1,cT0]
def WB_ : Ann:=⟨[],[⟨9,[6],[],[]⟩]⟩
set_option maxHeartbeats 1000000 in
theorem OB_ (g:Edges):Ac_ Tryz.prog 166 [.agg (dGr g)] (.bool (Jp_ g)):=by
 refine Aa_ [] WB_ Tryz.func166 Tryz.call166 Tryz.ntmps166 mxd (aj2 @WB_.eq_1 Tryz.results166) rfl (by simp) (by simp[mx]) fun hwf B hnt hgAnn=> ?_
 obtain⟨ns,es⟩:=g;have hw1:ns.length<9223372036854775807:=Ib_ (by have:=hwf.1;simp only[wfD,dGr,wfL]at this;exact this.1);have hw2:es.length<9223372036854775807:=IV_ (by have:=hwf.1;simp only[wfD,dGr,wfL]at this;exact this.2.1);clear hwf;simp only[argS];obtain⟨R,hR⟩:∃R,R=Jp_ ⟨ns,es⟩:=⟨_,rfl⟩;rw[←hR];unfold Jp_ at hR;simp only at hR
 (refine go1 aj0 aj0 (aj1 @dGr.eq_1) ?_;intros;refine mk_i ?_)
 refine Ad_ (X:={k:Nat//k≤ns.length∧R=((ns.drop k).all AO_&&es.all Fh_)}) (fun k=>⟨[(1,.ref [AP_ ns,dEds es]),(8,AP_ ns),(9,.int .i64 ns.length),(10,.int .i64 k.1)],[]⟩) (fun k=>ns.length-k.1) ⟨0,by simp[hR]⟩ (Sub.lit (by simp)) ?_;rintro⟨k,hk,hw⟩;clear hR
 by_cases hlt:k<ns.length
 ·obtain⟨x,hx,hx',_⟩:=Aj_ hlt;rw[PR_ hx]at hw;have h1:=HX_ x;cases hq:AO_ x
  ·rw[hq]at hw h1;simp only[cL0]at hw;subst hw;exact go0 (aj1 h1) aj0 (aj4 @dStr.eq_1 hlt hx hx')
  ·rw[hq]at hw h1;simp only[cO0]at hw
   (refine go1 (aj1 h1) aj0 (aj4 @dStr.eq_1 hlt hx hx') ?_;intros;refine mk_i ?_)
   exact Ai_.mk ⟨k+1,by omega,hw⟩ (Sub.lit (by simp)) (by simp;omega)
   skip
 ·have hkk:k=ns.length:=by omega
  subst hkk;rw[cB0]at hw;simp only[List.all_nil,cO0]at hw
  (refine go1 aj0 aj0 aj0 ?_;intros;refine mk_i ?_)
  refine Ad_ (X:={k:Nat//k≤es.length∧R=(es.drop k).all Fh_}) (fun k=>⟨[(19,dEds es),(20,.int .i64 es.length),(21,.int .i64 k.1)],[]⟩) (fun k=>es.length-k.1) ⟨0,by simp[hw]⟩ (Sub.lit (by simp)) ?_;rintro⟨k,hk,hw⟩
  by_cases hlt:k<es.length
  ·obtain⟨x,hx,hx',_⟩:=Aj_ hlt;rw[PR_ hx]at hw;have h1:=HX_ x.fr;have h2:=YY_ x.lb;have h3:=HX_ x.to;cases hq1:AO_ x.fr
   ·rw[hq1]at h1;have:Fh_ x=false:=by unfold Fh_;rw[hq1];rfl
    rw[this]at hw;simp only[cL0]at hw;subst hw;exact go0 (aj3 h1 h2 h3) aj0 (aj4 @Bl_.eq_1 hlt hx hx')
   ·rw[hq1]at h1;cases hq2:Lt_ x.lb
    ·rw[hq2]at h2;have:Fh_ x=false:=by unfold Fh_;rw[hq2];simp
     rw[this]at hw;simp only[cL0]at hw;subst hw;exact go0 (aj3 h1 h2 h3) aj0 (aj4 @Bl_.eq_1 hlt hx hx')
    ·rw[hq2]at h2;cases hq3:AO_ x.to
     ·rw[hq3]at h3;have:Fh_ x=false:=by unfold Fh_;rw[hq3];simp
      rw[this]at hw;simp only[cL0]at hw;subst hw;exact go0 (aj3 h1 h2 h3) aj0 (aj4 @Bl_.eq_1 hlt hx hx')
     ·rw[hq3]at h3;have:Fh_ x=true:=by unfold Fh_;rw[hq1,hq2,hq3];rfl
      rw[this]at hw;simp only[cO0]at hw
      (refine go1 (aj3 h1 h2 h3) aj0 (aj4 @Bl_.eq_1 hlt hx hx') ?_;intros;refine mk_i ?_)
      exact Ai_.mk ⟨k+1,by omega,hw⟩ (Sub.lit (by simp)) (by simp;omega)
      skip
  ·have hkk:k=es.length:=by omega
   subst hkk;rw[cB0]at hw;simp only[List.all_nil]at hw;subst hw;exact go0 aj0 aj0 aj0
theorem risB_pair {l:List ByteArray} (h:risB BD_ l=true):l.Pairwise fun a b=>BD_ a b=true:=by
 induction l with
 | nil=>exact .nil
 | cons a l ih =>
  cases l with
  | nil=>exact List.pairwise_singleton _ _
  | cons b l =>
   simp only[risB,aL0]at h;have ih:=ih h.2;refine bX0.2 ⟨fun x hx=> ?_,ih⟩
   rcases aJ0.1 hx with rfl | hx
   ·exact h.1
   ·exact EC_ h.1 ((bX0.1 ih).1 x hx)
theorem pair_at {l:List ByteArray} (h:l.Pairwise fun a b=>BD_ a b=true) {i j:Nat} {x y:ByteArray} (hij:i<j) (hx:l[i]? =some x) (hy:l[j]? =some y):BD_ x y=true:=by
 obtain⟨h1,rfl⟩:=aB0.1 hx;obtain⟨h2,rfl⟩:=aB0.1 hy;exact(eV0.1 h) i j h1 h2 hij
def inG (ns:List ByteArray) (e:Edge):Bool:=decide (e.fr∈ns)&&decide (e.to∈ns)
def formB (g:Edges):Bool:=risB BD_ g.nodes&&(risB RS_ g.edges&&g.edges.all (inG g.nodes))
def Ca_ (l:List ByteArray):List DVal:=l.map DVal.str
theorem Co_ (x:ByteArray) (l:List ByteArray):Ca_ (x::l)= .str x::Ca_ l:=rfl
theorem strsD_len (l:List ByteArray):(Ca_ l).length=l.length:=by simp[Ca_]
theorem BW_ : ∀{l:List ByteArray} {s:ByteArray},¬s∈l→AJ_ (Ca_ l) (.str s)=none
 | [],_,_=>rfl
 | x::l,s,h=>by
  have h1:(s==x)=false:=by simp;intro e;exact h (by simp[e])
  have h2:=BW_ (l:=l) (s:=s) fun hm=>h (aC0 _ hm)
  simp[Co_,AJ_,Bq_,eqCs,eqC,h1,h2]
theorem DB_ : ∀{l:List ByteArray} {s:ByteArray},s∈l→∃j,AJ_ (Ca_ l) (.str s)=some j∧j<l.length
 | [],_,h=>by simp at h
 | x::l,s,h=>by
  by_cases h1:s=x
  ·subst h1;exact⟨0,by simp[Co_,AJ_,Bq_,eqCs,eqC],by simp⟩
  ·obtain⟨j,h2,h3⟩:=DB_ (l:=l) (s:=s) (by simpa[h1]using h);have h1b:(s==x)=false:=by simpa using h1
   exact⟨j+1,by simp[Co_,AJ_,Bq_,eqCs,eqC,h1b,h2],by simp;omega⟩
theorem Hk_ (l:List ByteArray):(Ca_ l).all (Cd_ Tryz.prog 9)=true:=by
 induction l with
 | nil=>rfl
 | cons p l ih=>rw[Co_,cT0,ih];simp
@[simp] theorem mxL_strs (l:List ByteArray):mxL (Ca_ l)=0:=by
 induction l with
 | nil=>rfl
 | cons a l ih=>rw[Co_];simp[mxL,mx,ih]
def Mz_ (n:Nat):List DVal:=(List.range n).map fun i:Nat=>DVal.int .i64 ((i:Int)+1)
@[simp] theorem mxL_oneUp (n:Nat):mxL (Mz_ n)=0:=by
 unfold Mz_
 induction List.range n with
 | nil=>rfl
 | cons a l ih=>simp[mxL,mx,ih]
theorem YN_ (n:Nat):Mz_ (n+1)=Mz_ n++[.int .i64 ((n:Int)+1)]:=by simp[Mz_,dA0]
theorem Ot_ {n j:Nat} (h:j<n):(Mz_ n)[j]? =some (.int .i64 ((j:Int)+1)):=by simp[Mz_,h]
def WA_ : Ann:=⟨[],[⟨11,[7],[],[]⟩]⟩
set_option maxHeartbeats 2000000 in
theorem RH_ (g:Edges):Ac_ Tryz.prog 165 [.agg (dGr g)] (.bool (formB g)):=by
 refine Aa_ [] WA_ Tryz.func165 Tryz.call165 Tryz.ntmps165 mxd (aj2 @WA_.eq_1 Tryz.results165) rfl (by simp) (by simp[mx]) fun hwf B hnt hgAnn=> ?_
 obtain⟨ns,es⟩:=g;have hw1:ns.length<9223372036854775807:=Ib_ (by have:=hwf.1;simp only[wfD,dGr,wfL]at this;exact this.1);have hw2:es.length<9223372036854775807:=IV_ (by have:=hwf.1;simp only[wfD,dGr,wfL]at this;exact this.2.1);clear hwf;simp only[argS];obtain⟨R,hR⟩:∃R,R=formB ⟨ns,es⟩:=⟨_,rfl⟩;rw[←hR];unfold formB at hR;simp only at hR;have h1:=KP_ ns;have h2:=JH_ es;cases hr1:risB BD_ ns
 ·rw[hr1]at h1 hR;simp only[cL0]at hR;subst hR;exact go0 (aj2 h1 h2) aj0 (aj1 @dGr.eq_1)
 rw[hr1]at h1 hR;simp only[cO0]at hR;cases hr2:risB RS_ es
 ·rw[hr2]at h2 hR;simp only[cL0]at hR;subst hR;exact go0 (aj2 h1 h2) aj0 (aj1 @dGr.eq_1)
 rw[hr2]at h2 hR;simp only[cO0]at hR;have hp:=risB_pair hr1
 (refine go1 (aj2 h1 h2) aj0 (aj1 @dGr.eq_1) ?_;intros;refine mk_i ?_)
 refine Ad_ (X:={k:Nat//k≤ns.length}) (fun k=>⟨[(1,.ref [AP_ ns,dEds es]),(3,.omp 18 1),(20,AP_ ns),(21,.int .i64 ns.length),(22,.int .i64 k.1)],[⟨18,1,.map (Ca_ (ns.take k.1)) (Mz_ k.1)⟩]⟩) (fun k=>ns.length-k.1) ⟨0,by omega⟩ (Sub.lit (by simp[Mz_,Ca_])) ?_;rintro⟨k,hk⟩
 by_cases hlt:k<ns.length
 ·obtain⟨x,hx,hx',_⟩:=Aj_ hlt
  have hnew:AJ_ (Ca_ (ns.take k)) (.str x)=none:=by
   apply BW_
   intro hm;obtain⟨i,hi,hix⟩:=bJ0 hm;rw[bB0]at hi
   have h3:ns[i]? =some x:=by
    rw[←hix,List.getElem_take,aH0]
   have:=pair_at hp (by omega) h3 hx;rw[Db_]at this;simp at this
  have htk:Ca_ (ns.take (k+1))=Ca_ (ns.take k)++[.str x]:=by
   unfold Ca_;rw[cP0 hlt,hx',aZ0];rfl
  have hup:=YN_ k;have hks:=Hk_ (ns.take k);obtain⟨T,hT⟩:∃T,T=Ca_ (ns.take k):=⟨_,rfl⟩;have hTm:mxL T=0:=by rw[hT];simp
  rw[←hT]at hnew htk hks ⊢
  (refine go1 aj0 aj0 (aj7 @dStr.eq_1 hlt hx hx' hnew hks hTm) ?_;intros;refine mk_i ?_)
  exact Ai_.mk ⟨k+1,by omega⟩ (Sub.lit (by simp only[htk,hup];simp[hTm])) (by simp;omega)
  skip
 ·have hkk:k=ns.length:=by omega
  subst hkk;rw[aS0];have hks:=Hk_ ns
  (refine go1 aj0 aj0 aj0 ?_;intros;refine mk_i ?_)
  refine Ad_ (X:={k:Nat//k≤es.length∧R=(es.drop k).all (inG ns)}) (fun k=>⟨[(3,.omp 18 1),(33,dEds es),(34,.int .i64 es.length),(35,.int .i64 k.1)],[⟨18,1,.map (Ca_ ns) (Mz_ ns.length)⟩]⟩) (fun k=>es.length-k.1) ⟨0,by simp[hR]⟩ (Sub.lit (by simp)) ?_;rintro⟨k,hk,hw⟩;clear hR
  by_cases hlt:k<es.length
  ·obtain⟨x,hx,hx',_⟩:=Aj_ hlt;rw[PR_ hx]at hw
   by_cases c1:x.fr∈ns
   ·obtain⟨j1,l1,l2⟩:=DB_ c1;have v1:=Ot_ l2;have z1:((j1:Int)+1==0)=false:=by simp;omega
    by_cases c2:x.to∈ns
    ·obtain⟨j2,l3,l4⟩:=DB_ c2;have v2:=Ot_ l4;have z2:((j2:Int)+1==0)=false:=by simp;omega
     have hi:inG ns x=true:=by simp[inG,c1,c2]
     rw[hi]at hw;simp only[cO0]at hw
     (refine go1 aj0 aj0 (aj11 @Bl_.eq_1 hlt hx hx' hks l1 v1 z1 l3 v2 z2) ?_;intros;refine mk_i ?_)
     exact Ai_.mk ⟨k+1,by omega,hw⟩ (Sub.lit (by simp)) (by simp;omega)
     skip
    ·have l3:=BW_ c2;have hi:inG ns x=false:=by simp[inG,c2]
     rw[hi]at hw;simp only[cL0]at hw;subst hw;exact go0 aj0 aj0 (aj9 @Bl_.eq_1 hlt hx hx' hks l1 v1 z1 l3)
   ·have l1:=BW_ c1;have hi:inG ns x=false:=by simp[inG,c1]
    rw[hi]at hw;simp only[cL0]at hw;subst hw
    by_cases c2:x.to∈ns
    ·obtain⟨j2,l3,l4⟩:=DB_ c2;have v2:=Ot_ l4;exact go0 aj0 aj0 (aj8 @Bl_.eq_1 hlt hx hx' hks l1 l3 v2)
    ·have l3:=BW_ c2;exact go0 aj0 aj0 (aj7 @Bl_.eq_1 hlt hx hx' hks l1 l3)
  ·have hkk:k=es.length:=by omega
   subst hkk;rw[cB0]at hw;simp only[List.all_nil]at hw;subst hw;exact go0 aj0 aj0 aj0
end Go.Proofs.YtchgnpnbcjflcaaGreat
end
section
namespace Go.Proofs.YtchgnpnbcjflcaaGreat
open Go Go.Dm
variable [DMode]
def IZ_ (out:List ByteArray) (s:ByteArray):List ByteArray:=if s∈out then out else out++[s]
def As_ (g:List Rul):List ByteArray:=(g.map (·.h)).foldl IZ_ []
theorem hStep_mem {out:List ByteArray} {s x:ByteArray}:x∈IZ_ out s↔x∈out∨x=s:=by
 unfold IZ_
 split
 ·rename_i h;exact⟨.inl,fun hh=>by rcases hh with hh | rfl;exact hh;exact h⟩
 ·simp
theorem RA_ : ∀(l out:List ByteArray) (x:ByteArray),x∈l.foldl IZ_ out↔x∈out∨x∈l
 | [],out,x=>by simp
 | s::l,out,x=>by rw[cN0,RA_ l,hStep_mem];simp[or_assoc]
theorem LD_ : ∀(l out:List ByteArray),out.Nodup→(l.foldl IZ_ out).Nodup
 | [],out,h=>h
 | s::l,out,h=>by
  rw[cN0];refine LD_ l _ ?_;unfold IZ_
  split
  ·exact h
  ·rename_i hs;exact bU0.2 ⟨h,by simp,by rintro a ha b hb rfl;simp at hb;subst hb;exact hs ha⟩
theorem RB_ : ∀(l out:List ByteArray),(l.foldl IZ_ out).length≤out.length+l.length
 | [],out=>by simp
 | s::l,out=>by
  rw[cN0];have:=RB_ l (IZ_ out s);have:(IZ_ out s).length≤out.length+1:=by unfold IZ_;split<;>simp
  simp;omega
theorem Nn_ {g:List Rul} {x:ByteArray}:x∈As_ g↔∃r∈g,r.h=x:=by
 unfold As_;rw[RA_];simp
theorem Jt_ (g:List Rul):(As_ g).Nodup:=LD_ _ _ (by simp)
theorem Gi_ (g:List Rul):(As_ g).length≤g.length:=by have:=RB_ (g.map (·.h)) [];unfold As_;simpa using this
theorem LC_ {g:List Rul} {i:Nat} {r:Rul} (h:g[i]? =some r):As_ (g.take (i+1))=IZ_ (As_ (g.take i)) r.h:=by
 unfold As_;rw[bF0,h,aZ0,cH0];rfl
def BY_ (k:Int) (l:List Nd):List ByteArray:=(l.filter fun x=>decide (x.k=k)).map (·.s)
def AG_ (k:Int) (g:List Rul):List ByteArray:=g.flatMap fun r=>BY_ k r.b
theorem Lg_ {k:Int} {l:List Nd} {i:Nat} {x:Nd} (h:l[i]? =some x):BY_ k (l.take (i+1))=BY_ k (l.take i)++(if x.k=k then [x.s]else []):=by
 unfold BY_;rw[bF0,h,dN0,aZ0]
 by_cases hx:x.k=k<;>simp[hx]
theorem Li_ {k:Int} {g:List Rul} {i:Nat} {r:Rul} (h:g[i]? =some r):AG_ k (g.take (i+1))=AG_ k (g.take i)++BY_ k r.b:=by
 unfold AG_;rw[bF0,h,eP0];simp
theorem YT_ (k:Int) (l:List Nd):(BY_ k l).length≤l.length:=by
 unfold BY_;rw[aK0];exact cG0 _ _
def ixS (l:List ByteArray) (s:ByteArray):Nat:=l.findIdx fun x=>s==x
theorem Js_ {l:List ByteArray} {s:ByteArray} (h:s∈l):ixS l s<l.length:=List.findIdx_lt_length_of_exists ⟨s,h,by simp⟩
theorem OL_ : ∀{l:List ByteArray} {s:ByteArray},s∈l→AJ_ (Ca_ l) (.str s)=some (ixS l s)
 | [],_,h=>by simp at h
 | x::l,s,h=>by
  unfold ixS;rw[List.findIdx_cons]
  by_cases h1:s=x
  ·subst h1;simp[Co_,AJ_,Bq_,eqCs,eqC]
  ·have h2:=OL_ (l:=l) (s:=s) (by simpa[h1]using h);have h1b:(s==x)=false:=by simpa using h1
   simp[Co_,AJ_,Bq_,eqCs,eqC,h1b,h2,ixS]
structure CM where
 K:List ByteArray
 V:List Int
def Uc_ (m:CM) (s:ByteArray):CM:=if s∈m.K then ⟨m.K,m.V.set (ixS m.K s) (IntKind.i64.wrap (m.V.getD (ixS m.K s) 0+1))⟩else ⟨m.K++[s],m.V++[1]⟩
def cntL (es:List ByteArray):CM:=es.foldl Uc_ ⟨[],[]⟩
theorem cntL_snoc (es:List ByteArray) (s:ByteArray):cntL (es++[s])=Uc_ (cntL es) s:=by unfold cntL;rw[cH0];rfl
structure CMok (m:CM) (es:List ByteArray):Prop where
 len:m.K.length=m.V.length
 mem:∀s,s∈m.K↔s∈es
 nd:m.K.Nodup
 le:m.K.length≤es.length
theorem CMok.step {m:CM} {es:List ByteArray} (h:CMok m es) (s:ByteArray):CMok (Uc_ m s) (es++[s]):=by
 unfold Uc_
 split
 ·rename_i hs;refine⟨by simp[h.len],fun x=> ?_,h.nd,by have:=h.le;simp;omega⟩;rw[h.mem x,aI0];exact⟨.inl,fun hh=>by rcases hh with hh | hh;exact hh;simp at hh;subst hh;exact(h.mem x).1 hs⟩
 ·rename_i hs;refine⟨by simp[h.len],fun x=>by simp[h.mem x],?_,by have:=h.le;simp;omega⟩;exact bU0.2 ⟨h.nd,by simp,by rintro a ha b hb rfl;simp at hb;subst hb;exact hs ha⟩
theorem cnt_ok (es:List ByteArray):CMok (cntL es) es:=by
 have key:∀(l:List ByteArray) (m:CM) (es:List ByteArray),CMok m es→CMok (l.foldl Uc_ m) (es++l):=by
  intro l
  induction l with
  | nil=>intro m es h;simpa using h
  | cons s l ih =>
   intro m es h;have:=ih (Uc_ m s) (es++[s]) (h.step s);simpa using this
 have:=key es ⟨[],[]⟩ [] ⟨rfl,by simp,by simp,by simp⟩;simpa[cntL]using this
def Aw_ (g:List Rul):List ByteArray:=DP_ (AG_ 3 g)
def Dc_ (g:List Rul):List ByteArray:=(DP_ (AG_ 2 g)).filter fun s=> !decide (s∈As_ g)
theorem miss_len {g:List Rul} {K:List ByteArray} (hn:K.Nodup) (hm:∀s,s∈K↔s∈AG_ 2 g∧¬s∈As_ g):K.length=(Dc_ g).length:=by
 refine List.Perm.length_eq ((List.perm_ext_iff_of_nodup hn ?_).2 fun s=> ?_)
 ·unfold Dc_;exact List.Pairwise.filter _ ((FW_ _).1.imp fun {a b} h e=>by subst e;rw[Db_]at h;simp at h)
 ·unfold Dc_;rw[hm s,cI0,(FW_ _).2];simp
abbrev GT := List (ByteArray×RT)
def mkG (gt:GT):List Rul:=gt.map fun p=>⟨p.1,flat p.2⟩
def OkG (gt:GT):Prop:=∀p∈gt,DF_ 2 p.1=true∧okT p.2=true
def El_ (g:List Rul):Bool:=g.all fun r=>DF_ 2 r.h&&CK_ r.b
theorem Uv_ : ∀{g:List Rul},El_ g=true→∃gt,g=mkG gt∧OkG gt
 | [],_=>⟨[],rfl,by intro p hp;simp at hp⟩
 | r::g,h=>by
  unfold El_ at h;rw[cT0,aL0,aL0]at h;obtain⟨gt,rfl,hg⟩:=Uv_ (g:=g) h.2;obtain⟨t,ht,hb⟩:=IF_ h.1.2;refine⟨(r.h,t)::gt,by cases r;simp only at hb;subst hb;rfl,fun p hp=> ?_⟩
  rcases aJ0.1 hp with rfl | hp
  ·exact⟨h.1.1,ht⟩
  ·exact hg p hp
theorem VH_ {gt:GT} (h:OkG gt):El_ (mkG gt)=true:=by
 unfold El_ mkG;rw[List.all_map,aX0];intro p hp;obtain⟨h1,h2⟩:=h p hp;simp[h1,Dy_ h2]
def occG (g:List Rul):Nat:=(g.map fun r=>occN r.b).sum
def GI_ (gt:GT):Bool:=gt.any fun p=>decide (16<htT p.2)
def JF_ (p:ByteArray×RT):ByteArray:=p.1++⟨#[32,61,32]⟩++txtT p.2++⟨#[32,59,10]⟩
def BZ_ (gt:GT):ByteArray:=gt.foldl (fun s p=>s++JF_ p) ⟨#[]⟩
theorem Em_ {gt:GT} {i:Nat} {p:ByteArray×RT} (h:gt[i]? =some p):BZ_ (gt.take (i+1))=BZ_ (gt.take i)++JF_ p:=by
 unfold BZ_;rw[bF0,h,cH0];rfl
theorem HF_ (gt:GT) (i:Nat):(BZ_ (gt.take i)).size≤(BZ_ gt).size:=by
 have key:∀(l:GT) (s:ByteArray),s.size≤(l.foldl (fun s p=>s++JF_ p) s).size:=by
  intro l
  induction l with
  | nil=>intro s;simp
  | cons p l ih=>intro s;rw[cN0];have:=ih (s++JF_ p);rw[aN0]at this;omega
 unfold BZ_
 conv=>rhs;rw[←List.take_append_drop i gt,cH0]
 exact key _ _
def Ps_ (gt:GT):Int :=
 if 16<(As_ (mkG gt)).length+(Dc_ (mkG gt)).length then 181
 else if 16<(Aw_ (mkG gt)).length then 182
 else if 64<occG (mkG gt)then 183
 else if GI_ gt then 171
 else if 0<(Dc_ (mkG gt)).length then 184
 else if 2048<(BZ_ gt).size then 174
 else 0
mutual
theorem SF_ : ∀(t:RT),okT t=true→(flat t).length≤(txtT t).size
 | .mk x ks,h=>by
  obtain⟨h1,h2,h3⟩:=Bx_ h;rw[NS_,AF_,List.length_cons]
  by_cases k1:x.k=1
  ·rw[if_pos k1]
   have:x.n=0:=by
    unfold mayN at h1;rw[if_pos k1]at h1;simp only[aL0,decide_eq_true_eq]at h1;exact h1.2
   have hks:ks=[]:=bN0 (by omega);subst hks;rw[Ak_];decide
  ·rw[if_neg k1]
   by_cases k2:x.k=2∨x.k=3
   ·rw[if_pos k2];have:=Rg_ h1 k2
    have hn:x.n=0:=by
     unfold mayN at h1
     rcases k2 with k2 | k2
     ·rw[if_neg (by omega),if_pos k2]at h1;simp only[aL0,decide_eq_true_eq]at h1;exact h1.1
     ·rw[if_neg (by omega),if_neg (by omega),if_pos k2]at h1;simp only[aL0,decide_eq_true_eq]at h1;exact h1.1
    have hks:ks=[]:=bN0 (by omega);subst hks;rw[Ak_];simp;omega
   ·rw[if_neg k2,aN0];have hj:=txt_geL x.k ks h3;have hn:=Lm_ h1 k1 k2
    rcases Ln_ h1 with k | k | k | k | k | k | k | k
    ·exact absurd k k1
    ·exact absurd (.inl k) k2
    ·exact absurd (.inr k) k2
    ·have hb:1≤(btw x.k).size:=by unfold btw;rw[k];decide
     have h5:2≤x.n:=by unfold mayN at h1;simp[k]at h1;exact h1.2
     have:=TG_ (btw x.k) (txtL x.k ks) (by rw[Cw_,aK0];omega);rw[Cw_,aK0,←Cw_]at this;have h6:1*(ks.length-1)≤(btw x.k).size*(ks.length-1):=aV0 _ hb;omega
    ·have hb:1≤(btw x.k).size:=by unfold btw;rw[k];decide
     have h5:2≤x.n:=by unfold mayN at h1;simp[k]at h1;exact h1.2
     have:=TG_ (btw x.k) (txtL x.k ks) (by rw[Cw_,aK0];omega);rw[Cw_,aK0,←Cw_]at this;have h6:1*(ks.length-1)≤(btw x.k).size*(ks.length-1):=aV0 _ hb;omega
    all_goals
     have hs:(sgn x.k).size=1:=by unfold sgn;rw[k];decide
     have:=TG_ (btw x.k) (txtL x.k ks) (by rw[Cw_,aK0];omega);omega
theorem txt_geL : ∀(pk:Int) (ts:List RT),okL ts=true→(Ak_ ts).length≤((txtL pk ts).map (·.size)).sum
 | pk,[],_=>by simp[Ak_]
 | pk,t::ts,h=>by
  obtain⟨h1,h2⟩:=AX_ h;have a:=SF_ t h1;have b:=txt_geL pk ts h2;have c:=(HU_ pk t.x.k (txtT t)).1;rw[Ek_,Al_,List.map_cons,dJ0,aD0];omega
theorem TG_ (sep:ByteArray):∀(xs:List ByteArray),1≤xs.length→(xs.map (·.size)).sum+sep.size*(xs.length-1)≤(GE_ xs sep).size
 | [],h=>by simp at h
 | x::r,_=>by
  have key:∀(r:List ByteArray) (x:ByteArray),x.size+(r.map (·.size)).sum+sep.size*r.length≤(r.foldl (Du_ sep) x).size:=by
   intro r
   induction r with
   | nil=>intro x;simp
   | cons y r ih =>
    intro x;have:=ih (Du_ sep x y);rw[IX_]at this;rw[cN0,List.map_cons,dJ0,List.length_cons,Nat.mul_add];omega
  have:=key r x
  show _≤(r.foldl (Du_ sep) x).size
  simp only[List.map_cons,dJ0,List.length_cons,Nat.add_sub_cancel];omega
end
theorem UF_ {gt:GT} {p:ByteArray×RT} (h:p∈gt):(txtT p.2).size≤(BZ_ gt).size:=by
 obtain⟨i,hi,rfl⟩:=bJ0 h;have h1:=Em_ (aH0 hi);have h2:=HF_ gt (i+1);rw[h1,aN0]at h2;unfold JF_ at h2;simp only[aN0]at h2;omega
end Go.Proofs.YtchgnpnbcjflcaaGreat
end
section
namespace Go.Proofs.YtchgnpnbcjflcaaGreat
open Go Go.Dm
variable [DMode]
attribute [local irreducible] DW AV_ AZ_
set_option maxRecDepth 100000


def CA_ (es:List Edge):List ByteArray:=es.map (·.lb)
def GH_ (es:List Edge):List ByteArray:=es.flatMap fun e=>[e.fr,e.to]
def Rk_ (g:Edges):List ByteArray:=g.nodes.filter fun n=> !decide (n∈GH_ g.edges)
theorem Zk_ {es:List Edge} {k:Nat} {x:Edge} (hx:es[k]? =some x):GH_ (es.take (k+1))=GH_ (es.take k)++[x.fr,x.to]:=by
 obtain⟨h,rfl⟩:=aB0.1 hx;unfold GH_;rw[cP0 h,eP0];simp
theorem endsL_len (es:List Edge):(GH_ es).length=2*es.length:=by
 induction es with
 | nil=>rfl
 | cons x l ih =>
  have:GH_ (x::l)=x.fr::x.to::GH_ l:=rfl;rw[this];simp;omega
def IG_ (s n:ByteArray):ByteArray:=s++n++⟨#[32,59,10]⟩
def GD_ (s:ByteArray) (x:Edge):ByteArray:=s++x.fr++⟨#[32]⟩++x.lb++⟨#[32]⟩++x.to++⟨#[32,59,10]⟩
def textB (g:Edges):ByteArray:=g.edges.foldl GD_ ((Rk_ g).foldl IG_ ⟨#[]⟩)
theorem Mu_ : (⟨#[32,59,10]⟩:ByteArray).size=3:=rfl
theorem QB_ : (⟨#[32]⟩:ByteArray).size=1:=rfl
structure SmallG (g:Edges):Prop where
 n1:g.nodes.length≤32
 n2:∀n∈g.nodes,n.size≤16
 e1:g.edges.length≤256
 e2:∀e∈g.edges,e.fr.size≤16∧e.lb.size≤16∧e.to.size≤16
theorem YV_ {g:Edges} (h:SmallG g):(Rk_ g).length≤32∧∀n∈Rk_ g,n.size≤16:=by
 unfold Rk_;exact⟨Nat.le_trans (cG0 ..) h.n1,fun n hn=>h.n2 n (cI0.1 hn).1⟩
theorem Ja_ {α β:Type} {f:β→α→β} {b:β} {l:List α} {k:Nat} {x:α} (hx:l[k]? =some x):(l.take (k+1)).foldl f b=f ((l.take k).foldl f b) x:=by
 obtain⟨h,rfl⟩:=aB0.1 hx;rw[cP0 h,cH0];rfl
theorem MS_ (s n:ByteArray):(IG_ s n).size=s.size+n.size+3:=by simp[IG_,aN0];rfl
theorem II_ (s:ByteArray) (x:Edge):(GD_ s x).size=s.size+x.fr.size+x.lb.size+x.to.size+5:=by
 simp only[GD_,aN0,Mu_,QB_];omega
theorem Lr_ : ∀(l:List ByteArray) (s:ByteArray),(∀n∈l,n.size≤16)→(l.foldl IG_ s).size≤s.size+19*l.length
 | [],s,_=>by simp
 | n::l,s,h=>by
  have h1:=Lr_ l (IG_ s n) fun m hm=>h m (aC0 _ hm)
  have h2:=h n aE0;rw[MS_]at h1;simp only[cN0,List.length_cons];omega
theorem LR_ : ∀(l:List Edge) (s:ByteArray),(∀e∈l,e.fr.size≤16∧e.lb.size≤16∧e.to.size≤16)→(l.foldl GD_ s).size≤s.size+53*l.length
 | [],s,_=>by simp
 | n::l,s,h=>by
  have h1:=LR_ l (GD_ s n) fun m hm=>h m (aC0 _ hm)
  have h2:=h n aE0;rw[II_]at h1;simp only[cN0,List.length_cons];omega
def capsI (g:Edges):Int:=if 32<g.nodes.length then 260 else if 16<(DP_ (CA_ g.edges)).length then 261 else if 256<g.edges.length then 262 else if 2048<(textB g).size then 174 else 0
def Ev_ (g:Edges):Int:=if formB g then (if Jp_ g then capsI g else 173)else 2
theorem small_of {g:Edges} (h:Jp_ g=true) (h1:g.nodes.length≤32) (h2:g.edges.length≤256):SmallG g:=by
 unfold Jp_ at h;simp only[aL0,aX0]at h;have hn:∀s,AO_ s=true→s.size≤16:=fun s hs=>by unfold AO_ at hs;simp only[aL0,decide_eq_true_eq]at hs;exact hs.1.2
 refine⟨h1,fun n hm=>hn n (h.1 n hm),h2,fun e he=> ?_⟩;have:=h.2 e he;unfold Fh_ Lt_ at this;simp only[aL0]at this;exact⟨hn _ this.1,hn _ this.2.1.1,hn _ this.2.2⟩
def wayI (g:Edges) (a b:ByteArray) (way:List Edge):Int:=if Ev_ g=0 then (if Ip_ g a b=0 then (if 64<way.length then 3 else if Lx_ g a b way then 0 else 370)else Ip_ g a b)else Ev_ g
def Sr_ : Ann:=⟨[],[]⟩
set_option maxHeartbeats 4000000 in
theorem LY_ (l:List ByteArray) :
  AL_ Tryz.prog (.func 311) [.osl 0 0] [⟨0,0,.row 9 1 16 (l.map dStr)⟩] (AP_ (Bd_ eqT l)) []:=by
 refine Dj_ [0] [] Tryz.func311 rfl Tryz.call311 (by simp[Tryz.ntmps311]) (by simp) (by simp) ?_;intro hwf hwo B hnt;have hgAnn:=an_is Sr_ mxd (aj2 @Sr_.eq_1 Tryz.results311);simp only[argS]
 have hl:l.length≤9223372036854775807:=by
  simp only[SE_,maxLen,aK0]at hwo;omega
 clear hwo
 by_cases hl2:l.length<2
 ·have hcl:Bd_ eqT l=l:=by
   match l,hl2 with
   | [],_=>rfl
   | [x],_=>rfl
  exact go0 aj0 aj0 (aj2 hl2 hcl)
 have hl2':¬(l.length:Int)<2:=by omega
 obtain⟨R0,hR0⟩:∃R0,R0=Bd_ eqT l:=⟨_,rfl⟩;rw[←hR0]
 (refine go1 aj0 aj0 (aj2 hl2 hl2') ?_;intros;refine mk_i ?_)
 refine Ad_ (X:={k:Nat//1≤k∧k≤l.length∧Bd_ eqT (l.take k)=l.take k}) (fun k=>⟨[(0,.osl 0 0),(3,.int .i64 k.1)],[⟨0,0,.row 9 1 16 (l.map dStr)⟩]⟩) (fun k=>l.length-k.1) ⟨1,by
  obtain⟨x,t,rfl⟩:∃x t,l=x::t:=by
   cases l with
   | nil=>simp at hl2
   | cons x t=>exact⟨x,t,rfl⟩
  simp[Bd_,BC_]⟩ (Sub.lit (by simp)) ?_
 rintro⟨k,hk1,hk,hck⟩
 by_cases hlt:k<l.length
 ·obtain⟨q,hq,hq',hqm⟩:=Aj_ hlt;obtain⟨p,hp,hp',hpm⟩:=Aj_ (show k-1<l.length by omega);have hwr:IntKind.i64.wrap ((k:Int)-1)=(k:Int)-1:=wq;have hk0:((k:Int)-1).toNat=k-1:=by omega
  have hs:=DD_ (e:=eqT) (by omega) hp hq;have hb1:(0:Int)≤(k:Int)-1:=by omega
  have hb2:(k:Int)-1<l.length:=by omega
  cases hepq:eqT q p
  ·rw[hepq]at hs;simp only[aP0,if_false]at hs;have he2:(q==p)=false:=hepq
   (refine go1 aj0 aj0 (aj11 @dStr.eq_1 hlt hq' hp' hp hq hk0 hwr hb1 hb2 he2) ?_;intros;refine mk_i ?_)
   refine Ai_.mk ⟨k+1,by omega,by omega,by rw[hs,hck,bF0,hq];rfl⟩ (Sub.lit (by simp)) (by simp;omega)
   skip
  ·rw[hepq]at hs;simp only[if_true,bP0]at hs;have he2:(q==p)=true:=hepq
   (refine go1 aj0 aj0 (aj11 @dStr.eq_1 hlt hq' hp' hp hq hk0 hwr hb1 hb2 he2) ?_;intros;refine mk_i ?_)
   clear hwr hk0 hb1 hb2
   refine Ad_ (X:={x:Nat×Nat×List ByteArray//1≤x.1∧k+x.1≤l.length∧x.2.1<k+x.1∧k≤x.2.1∧x.2.2.length=l.length∧x.2.2.take x.2.1=Bd_ eqT (l.take (k+x.1))∧∀j,k+x.1≤j+1→x.2.2[j]? =l[j]?}) (fun x=>⟨[(0,.osl 0 0),(3,.int .i64 x.1.2.1),(4,.vw 0 0 1 16 k (l.length-k)),(5,.int .i64 x.1.1)],[⟨0,0,.row 9 1 16 (x.1.2.2.map dStr)⟩]⟩) (fun x=>l.length-x.1.1)
    ⟨(1,k,l),show 1≤1∧k+1≤l.length∧k<k+1∧k≤k∧l.length=l.length∧l.take k=Bd_ eqT (l.take (k+1))∧(∀j,k+1≤j+1→l[j]? =l[j]?) from ⟨by omega,by omega,by omega,by omega,rfl,by rw[hs,hck],fun _ _=>rfl⟩⟩ (Sub.lit (by simp)) ?_
   rintro⟨⟨m,kk,R⟩,x1,x2,x3,x4,x5,x6,x7⟩;simp only at x1 x2 x3 x4 x5 x6 x7 ⊢;have hv:k+(l.length-k)≤l.length:=by omega
   by_cases hm:m<l.length-k
   ·obtain⟨y,hy,hy',hym⟩:=Aj_ (show k+m<l.length by omega);obtain⟨z,hz,hz',hzm⟩:=Aj_ (show k+m-1<l.length by omega);obtain⟨c0,hc0,_,_⟩:=Aj_ (show kk<R.length by omega);have hRy:R[k+m]? =some y:=by rw[x7 _ (by omega)];exact hy
    have hRz:R[k+(m-1)]? =some z:=by rw[x7 _ (by omega),show k+(m-1)=k+m-1 by omega];exact hz
    have hRy':R[k+m]'(by omega)=y:=(aB0.1 hRy).2;have hRz':R[k+(m-1)]'(by omega)=z:=(aB0.1 hRz).2;have hwr:IntKind.i64.wrap ((m:Int)-1)=(m:Int)-1:=wq;have hk0:((m:Int)-1).toNat=m-1:=by omega
    have hb1:(0:Int)≤(m:Int)-1:=by omega
    have hb2:(m:Int)-1<((l.length-k:Nat):Int):=by omega
    have hs2:=DD_ (e:=eqT) (by omega) hz hy;rw[←x6]at hs2;have hkk:kk<l.length:=by omega
    cases heyz:eqT y z
    ·rw[heyz]at hs2;simp only[aP0,if_false]at hs2;have he3:(y==z)=false:=heyz
     (refine go1 aj0 aj0 (aj15 @dStr.eq_1 hm hRy hRz hRy' hRz' hk0 hwr hb1 hb2 x5 hv hc0 hkk he3) ?_;intros;refine mk_i ?_)
     refine Ai_.mk ⟨(m+1,kk+1,R.set kk y),show 1≤m+1∧k+(m+1)≤l.length∧kk+1<k+(m+1)∧k≤kk+1∧(R.set kk y).length=l.length∧(R.set kk y).take (kk+1)=Bd_ eqT (l.take (k+(m+1)))∧(∀j,k+(m+1)≤j+1→(R.set kk y)[j]? =l[j]?) from ⟨by omega,by omega,by omega,by omega,by simp[x5],?_,fun j hj=> ?_⟩⟩ (Sub.lit ?_) (by simp;omega)
     ·rw[show k+(m+1)=k+m+1 by omega,hs2,bF0,fF0 (by omega),List.take_set_of_le (by omega)];rfl
     ·rw[List.getElem?_set_ne (by omega)];exact x7 j (by omega)
     ·have hm0:mxR ((R.map dStr).set kk [.str y])=0:=by
       rw[show (R.map dStr).set kk [.str y]=(R.set kk y).map dStr by simp[eB0,dStr]];exact mx_dStrs _
      simp[eB0,dStr,hm0]
     skip
    ·rw[heyz]at hs2;simp only[if_true,bP0]at hs2;have he3:(y==z)=true:=heyz
     (refine go1 aj0 aj0 (aj15 @dStr.eq_1 hm hRy hRz hRy' hRz' hk0 hwr hb1 hb2 x5 hv hc0 hkk he3) ?_;intros;refine mk_i ?_)
     refine Ai_.mk ⟨(m+1,kk,R),show 1≤m+1∧k+(m+1)≤l.length∧kk<k+(m+1)∧k≤kk∧R.length=l.length∧R.take kk=Bd_ eqT (l.take (k+(m+1)))∧(∀j,k+(m+1)≤j+1→R[j]? =l[j]?) from ⟨by omega,by omega,by omega,by omega,x5,by rw[show k+(m+1)=k+m+1 by omega,hs2],fun j hj=>x7 j (by omega)⟩⟩ (Sub.lit (by simp)) (by simp;omega)
     skip
   ·have hkm:k+m=l.length:=by omega
    have hcl1:(BS_ (R.map dStr) kk (l.length-kk) [.str ⟨#[]⟩]).length=l.length:=by simp[BS_];omega
    have hcl2:(BS_ (R.map dStr) kk (l.length-kk) [.str ⟨#[]⟩]).take kk=R0.map dStr:=by
     have e1:l.take (k+m)=l:=by rw[hkm,aS0]
     rw[e1]at x6;rw[hR0,←x6];simp only[BS_];rw[aT0,dU0 (by simp;omega),eU0,Nat.min_self,List.map_take]
    have hkl:kk≤l.length:=by omega
    exact go0 aj0 aj0 (aj6 hm x5 hv hcl1 hcl2 hkl)
 ·have hkk:k=l.length:=by omega
  subst hkk;rw[aS0]at hck;rw[hck]at hR0;exact go0 aj0 aj0 (aj1 hR0)
def St_ : Ann:=⟨[],[]⟩
def EY_ : Ann:=⟨[5],[]⟩
theorem Ht_ (l:List ByteArray):Ac_ Tryz.prog 100 [AP_ l] (AP_ l):=by
 match l with
 | [] =>
  refine PW_ [] ?_ ?_
  ·refine Aa_ [7] St_ Tryz.func100 Tryz.call100 Tryz.ntmps100 mxd (aj2 @St_.eq_1 Tryz.results100) rfl (by simp) (by simp[mx,mxR]) fun hwf B hnt hgAnn=> ?_
   simp only[argS,List.nil_append,AP_,List.map_cons];exact go0 aj0 aj0 aj0
  ·refine Aa_ [7,5] EY_ Tryz.func100 Tryz.call100 Tryz.ntmps100 mxd (aj2 @EY_.eq_1 Tryz.results100) rfl (by simp) (by simp[mx,mxR]) fun hwf B hnt hgAnn=> ?_
   simp only[argS,List.nil_append,AP_,List.map_cons];exact go0 aj0 aj0 aj0
 | s::l =>
  refine Aa_ [7,5] EY_ Tryz.func100 Tryz.call100 Tryz.ntmps100 mxd (aj2 @EY_.eq_1 Tryz.results100) rfl (by simp) (by simp[mx,mxR]) fun hwf B hnt hgAnn=> ?_
  have hsz:(s::l).length*16≤150000000000000:=by have:=hwf.1;simp only[wfD,aK0]at this;exact this.1
  clear hwf;have z2:(s::l).length≤9223372036854775807:=by omega
  simp only[List.length_cons]at hsz z2;simp only[argS,List.nil_append,AP_,List.map_cons];exact go0 aj0 aj0 (aj2 hsz z2)
def Ss_ : Ann:=⟨[7],[]⟩
theorem tell_spec (x:Edge) (l:List ByteArray) (hz:(l.length+1)*16≤150000000000000) :
  AL_ Tryz.prog (.func 310) [.agg (Bl_ x),.bx 0 0 0] [⟨0,0,.box [.osl 1 0]⟩,⟨1,0,.row 9 1 16 (l.map dStr)⟩] (.tup []) [⟨0,0,.box [.osl 1 1]⟩,⟨1,1,.row 9 1 16 ((l++[x.lb]).map dStr)⟩]:=by
 refine AR_ [] [(0,0,0),(1,1,1)] Ss_ Tryz.func310 Tryz.call310 Tryz.ntmps310 mxd (aj2 @Ss_.eq_1 Tryz.results310) rfl (by simp) (by simp) (by simp) fun hwf B hnt hgAnn=> ?_
 simp only[argS];have z2:l.length+1≤9223372036854775807:=by omega
 exact go0 aj0 aj0 (aj4 @Bl_.eq_1 @dStr.eq_1 hz z2)
def Sq_ : Ann:=⟨[17,20,22],[⟨5,[6],[],[]⟩]⟩
set_option maxHeartbeats 1000000 in
theorem MB_ (g:Edges):Ac_ Tryz.prog 248 [.agg (dGr g)] (AP_ (DP_ (CA_ g.edges))):=by
 refine Aa_ [] Sq_ Tryz.func248 Tryz.call248 Tryz.ntmps248 mxd (aj2 @Sq_.eq_1 Tryz.results248) rfl (by simp) (by simp[mx]) fun hwf B hnt hgAnn=> ?_
 obtain⟨ns,es⟩:=g;have hs2:es.length*48≤150000000000000:=by have:=hwf.1;simp only[wfD,dGr,wfL,aK0]at this;exact this.2.1.1
 clear hwf;simp only[argS];obtain⟨R,hR⟩:∃R,R=DP_ (CA_ es):=⟨_,rfl⟩;rw[←hR]
 (refine go1 aj0 aj0 (aj1 @dGr.eq_1) ?_;intros;refine mk_i ?_)
 refine Cf_ 3 0 50 9 1 16 (by simp) (fun n=> ?_);refine Ad_ (X:={k:Nat//k≤es.length}) (fun k=>⟨[(3,.bx 3 1 0),(4,.fn (.func 310) [] [.bx 3 1 0]),(9,dEds es),(10,.int .i64 es.length),(11,.int .i64 k.1)],[⟨3,1,.box [.osl 50 1]⟩,⟨50,1,.row 9 1 16 ((CA_ (es.take k.1)).map dStr)⟩]⟩) (fun k=>es.length-k.1) ⟨0,by omega⟩ (Sub.lit (by simp[CA_])) ?_;rintro⟨k,hk⟩
 by_cases hlt:k<es.length
 ·obtain⟨x,hx,hx',hxm⟩:=Aj_ hlt;have htk:CA_ (es.take (k+1))=CA_ (es.take k)++[x.lb]:=by unfold CA_;rw[cP0 hlt,hx',aZ0];rfl
  have hl1:(CA_ (es.take k)).length=k:=by simp[CA_];omega
  obtain⟨T,hT⟩:∃T,T=CA_ (es.take k):=⟨_,rfl⟩;rw[←hT]at htk hl1 ⊢;have e1:=tell_spec x T (by omega);simp only[Bl_]at e1
  (refine go1 aj0 (aj1 (spc [(3,0),(50,1)] [] e1)) (aj4 @Bl_.eq_1 hlt hx hx') ?_;intros;refine mk_i ?_)
  refine Ai_.mk ⟨k+1,by omega⟩ (Sub.lit (by simp[htk,dStr])) (by simp;omega)
  skip
 ·have hkk:k=es.length:=by omega
  subst hkk;rw[aS0];have hR2:R=Bd_ eqT (Dr_ (CA_ es)):=hR;clear hR;obtain⟨T,hT⟩:∃T,T=CA_ es:=⟨_,rfl⟩;rw[←hT]at hR2 ⊢;have e1:=GO_ T;have e2:=LY_ (Dr_ T);rw[←hR2]at e2;have e3:=Ht_ R;exact go0 (aj1 e3) (aj2 (spc [(50,0)] [] e1) (spc [(50,0)] [] e2)) aj0
def DR_ (l:List Int):List DVal:=l.map fun n=> .int .i64 n
theorem Ii_ (l:List Int) (j:Nat) (n:Int):(DR_ l).set j (.int .i64 n)=DR_ (l.set j n):=by simp[DR_,eB0]
theorem Ij_ (l:List Int) (n:Int):DR_ l++[.int .i64 n]=DR_ (l++[n]):=by simp[DR_]
@[simp] theorem mxL_ints (l:List Int):mxL (DR_ l)=0:=by
 unfold DR_
 induction l with
 | nil=>rfl
 | cons a l ih=>simp[mxL,mx,ih]
structure Cnt (K:List ByteArray) (V:List Int) (es:List ByteArray):Prop where
 len:K.length=V.length
 mem:∀s,s∈K↔s∈es
 val:∀v∈V,1≤v∧v≤es.length
theorem HI_ (l:List ByteArray) (s:ByteArray):Ca_ l++[.str s]=Ca_ (l++[s]):=by simp[Ca_]
theorem Cnt.step {K:List ByteArray} {V:List Int} {es:List ByteArray} (h:Cnt K V es) (s:ByteArray) :
  (∃j d,AJ_ (Ca_ K) (.str s)=some j∧(DR_ V)[j]? =some (.int .i64 d)∧1≤d∧d≤es.length∧Cnt K (V.set j (d+1)) (es++[s])) ∨
  (AJ_ (Ca_ K) (.str s)=none∧Cnt (K++[s]) (V++[1]) (es++[s])):=by
 by_cases hs:s∈K
 ·obtain⟨j,h1,h2⟩:=DB_ hs;have h3:j<V.length:=by rw[←h.len];exact h2
  have hv:=h.val V[j] (cR0 h3);refine .inl ⟨j,V[j],h1,by simp[DR_,h3],hv.1,hv.2,by simp[h.len],fun x=> ?_,fun v hv'=> ?_⟩
  ·rw[h.mem x,aI0]
   constructor
   ·exact .inl
   ·rintro (hx | hx)
    ·exact hx
    ·simp only[aF0]at hx;subst hx;exact(h.mem x).1 hs
  ·rcases List.mem_or_eq_of_mem_set hv' with h4 | rfl
   ·have:=h.val v h4;simp;omega
   ·simp;omega
 ·refine .inr ⟨BW_ hs,by simp[h.len],fun x=>by simp[h.mem x],fun v hv=> ?_⟩
  rcases aI0.1 hv with h4 | h4
  ·have:=h.val v h4;simp;omega
  ·simp only[aF0]at h4;subst h4;simp;omega
def Sp_ : Ann:=⟨[],[⟨4,[5],[],[]⟩]⟩
set_option maxHeartbeats 4000000 in
theorem Rl_ (g:Edges):Ac_ Tryz.prog 312 [.agg (dGr g)] (AP_ (Rk_ g)):=by
 refine Aa_ [6] Sp_ Tryz.func312 Tryz.call312 Tryz.ntmps312 mxd (aj2 @Sp_.eq_1 Tryz.results312) rfl (by simp) (by simp[mx]) fun hwf B hnt hgAnn=> ?_
 obtain⟨ns,es⟩:=g;have hs1:ns.length*16≤150000000000000:=by have:=hwf.1;simp only[wfD,dGr,wfL,aK0]at this;exact this.1.1
 have hs2:es.length*48≤150000000000000:=by have:=hwf.1;simp only[wfD,dGr,wfL,aK0]at this;exact this.2.1.1
 clear hwf;simp only[argS];obtain⟨R,hR⟩:∃R,R=Rk_ ⟨ns,es⟩:=⟨_,rfl⟩;rw[←hR]
 (refine go1 aj0 aj0 (aj1 @dGr.eq_1) ?_;intros;refine mk_i ?_)
 refine Ad_ (X:={x:Nat×List ByteArray×List Int//x.1≤es.length∧Cnt x.2.1 x.2.2 (GH_ (es.take x.1))}) (fun x=>⟨[(1,.ref [AP_ ns,dEds es]),(3,.omp 9 1),(11,dEds es),(12,.int .i64 es.length),(13,.int .i64 x.1.1)],[⟨9,1,.map (Ca_ x.1.2.1) (DR_ x.1.2.2)⟩]⟩) (fun x=>es.length-x.1.1)
  ⟨(0,[],[]),by simp,by simp,by simp[GH_],by simp⟩ (Sub.lit (by simp[Ca_,DR_])) ?_
 rintro⟨⟨k,Ks,V⟩,hk,hC⟩;simp only at hk hC ⊢
 by_cases hlt:k<es.length
 ·obtain⟨x,hx,hx',hxm⟩:=Aj_ hlt;have htk:=Zk_ hx;have hel:(GH_ (es.take k)).length=2*k:=by rw[endsL_len,bB0];omega
  have hks:=Hk_ Ks;have happ:∀C:List ByteArray,GH_ (es.take k)++[x.fr]++[x.to]=GH_ (es.take (k+1)):=fun _=>by rw[htk];simp
  rcases hC.step x.fr with ⟨j,d,l1,v1,d1,d2,hC1⟩ | ⟨l1,hC1⟩
  ·rw[hel]at d2;have w1:IntKind.i64.wrap (d+1)=d+1:=wq;have st1:=Ii_ V j (d+1)
   rcases hC1.step x.to with ⟨j2,e,l2,v2,e1,e2,hC2⟩ | ⟨l2,hC2⟩
   ·simp only[aD0,List.length_cons,List.length_nil,hel]at e2;have w2:IntKind.i64.wrap (e+1)=e+1:=wq;have st2:=Ii_ (V.set j (d+1)) j2 (e+1);rw[happ Ks]at hC2
    (refine go1 aj0 aj0 (aj13 @Bl_.eq_1 hlt hx hx' hks l1 v1 w1 st1 l2 v2 w2 st2) ?_;intros;refine mk_i ?_)
    refine Ai_.mk ⟨(k+1,Ks,(V.set j (d+1)).set j2 (e+1)),show k+1≤es.length∧Cnt Ks ((V.set j (d+1)).set j2 (e+1)) (GH_ (es.take (k+1))) from ⟨by omega,hC2⟩⟩ (Sub.lit (by simp)) (by simp;omega)
    skip
   ·rw[happ Ks]at hC2;have st2:=Ij_ (V.set j (d+1)) 1;have sk2:=HI_ Ks x.to
    (refine go1 aj0 aj0 (aj12 @Bl_.eq_1 hlt hx hx' hks l1 v1 w1 st1 l2 st2 sk2) ?_;intros;refine mk_i ?_)
    refine Ai_.mk ⟨(k+1,Ks++[x.to],V.set j (d+1)++[1]),show k+1≤es.length∧Cnt (Ks++[x.to]) (V.set j (d+1)++[1]) (GH_ (es.take (k+1))) from ⟨by omega,hC2⟩⟩ (Sub.lit (by simp)) (by simp;omega)
    skip
  ·have st1:=Ij_ V 1;have sk1:=HI_ Ks x.fr;have hks1:=Hk_ (Ks++[x.fr])
   rcases hC1.step x.to with ⟨j2,e,l2,v2,e1,e2,hC2⟩ | ⟨l2,hC2⟩
   ·simp only[aD0,List.length_cons,List.length_nil,hel]at e2;have w2:IntKind.i64.wrap (e+1)=e+1:=wq;have st2:=Ii_ (V++[1]) j2 (e+1);rw[happ Ks]at hC2
    (refine go1 aj0 aj0 (aj13 @Bl_.eq_1 hlt hx hx' hks l1 st1 sk1 hks1 l2 v2 w2 st2) ?_;intros;refine mk_i ?_)
    refine Ai_.mk ⟨(k+1,Ks++[x.fr],(V++[1]).set j2 (e+1)),show k+1≤es.length∧Cnt (Ks++[x.fr]) ((V++[1]).set j2 (e+1)) (GH_ (es.take (k+1))) from ⟨by omega,hC2⟩⟩ (Sub.lit (by simp)) (by simp;omega)
    skip
   ·rw[happ Ks]at hC2;have st2:=Ij_ (V++[1]) 1;have sk2:=HI_ (Ks++[x.fr]) x.to
    (refine go1 aj0 aj0 (aj12 @Bl_.eq_1 hlt hx hx' hks l1 st1 sk1 hks1 l2 st2 sk2) ?_;intros;refine mk_i ?_)
    refine Ai_.mk ⟨(k+1,Ks++[x.fr]++[x.to],V++[1]++[1]),show k+1≤es.length∧Cnt (Ks++[x.fr]++[x.to]) (V++[1]++[1]) (GH_ (es.take (k+1))) from ⟨by omega,hC2⟩⟩ (Sub.lit (by simp)) (by simp;omega)
    skip
 ·have hkk:k=es.length:=by omega
  subst hkk;rw[aS0]at hC;have hks:=Hk_ Ks
  have hRd:R=ns.filter fun n=> !decide (n∈Ks):=by
   rw[hR];unfold Rk_
   congr 1
   funext n
   simp only[hC.mem n]
  clear hR
  (refine go1 aj0 aj0 aj0 ?_;intros;refine mk_i ?_)
  refine Bn_ 6 6 9 1 16 (by simp[hnt,Tryz.ntmps312]) (fun n6=> ?_);refine Ad_ (X:={k:Nat//k≤ns.length}) (fun k=>⟨[(3,.omp 9 1),(6,.osl 6 1),(29,AP_ ns),(30,.int .i64 ns.length),(31,.int .i64 k.1)],[⟨9,1,.map (Ca_ Ks) (DR_ V)⟩,⟨6,1,.row 9 1 16 (((ns.take k.1).filter fun n=> !decide (n∈Ks)).map dStr)⟩]⟩) (fun k=>ns.length-k.1) ⟨0,by omega⟩ (Sub.lit (by simp)) ?_;rintro⟨k,hk⟩
  by_cases hlt:k<ns.length
  ·obtain⟨x,hx,hx',hxm⟩:=Aj_ hlt
   have htk:(ns.take (k+1)).filter (fun n=> !decide (n∈Ks))=(ns.take k).filter (fun n=> !decide (n∈Ks))++(if x∈Ks then []else [x]):=by
    rw[cP0 hlt,hx',dN0]
    by_cases hxu:x∈Ks<;>simp[hxu]
   have hl1:((ns.take k).filter fun n=> !decide (n∈Ks)).length≤k:=Nat.le_trans (cG0 ..) (List.length_take_le k ns);obtain⟨W,hW⟩:∃W,W=(ns.take k).filter fun n=> !decide (n∈Ks):=⟨_,rfl⟩
   rw[←hW]at htk hl1 ⊢;have z1:(W.length+1)*16≤150000000000000:=by omega
   have z2:W.length+1≤9223372036854775807:=by omega
   by_cases hxu:x∈Ks
   ·obtain⟨j,l1,l2⟩:=DB_ hxu;have l3:j<V.length:=by rw[←hC.len];exact l2
    have hv:=(hC.val V[j] (cR0 l3)).1;have v1:(DR_ V)[j]? =some (.int .i64 V[j]):=by simp[DR_,l3]
    have hv0:(V[j]==0)=false:=by simp;omega
    rw[if_pos hxu,bP0]at htk
    (refine go1 aj0 aj0 (aj8 @dStr.eq_1 hlt hx hx' hks l1 v1 hv0) ?_;intros;refine mk_i ?_)
    refine Ai_.mk ⟨k+1,by omega⟩ (Sub.lit (by simp only[htk];simp)) (by simp;omega)
    skip
   ·have l1:=BW_ hxu;rw[if_neg hxu]at htk
    (refine go1 aj0 aj0 (aj8 @dStr.eq_1 hlt hx hx' hks l1 z1 z2) ?_;intros;refine mk_i ?_)
    refine Ai_.mk ⟨k+1,by omega⟩ (Sub.lit (by simp only[htk];simp[dStr])) (by simp;omega)
    skip
  ·have hkk:k=ns.length:=by omega
   subst hkk;rw[aS0,←hRd];exact go0 aj0 aj0 aj0
end Go.Proofs.YtchgnpnbcjflcaaGreat
end
section
namespace Go.Dm
variable [DMode]
def Yz_ : DVal→Bool
 | .bool _=>true
 | .int _ _=>true
 | .str _=>true
 | .nilp=>true
 | .nilsl=>true
 | .any=>true
 | _=>false
theorem rd_simp {d:DVal} (hd:Yz_ d=true) {cur cur':Cur} {M M':List Nat} {h h':Array Obj} {v:Value} (hr:rd cur M h d v):rd cur' M' h' d v:=by
 cases d<;>simp only[Yz_,aP0]at hd<;>simp only[rd]at hr ⊢ <;>exact hr
theorem Ok_ : ∀{ds:List DVal} (hd:ds.all Yz_=true) {cur cur':Cur} {M M':List Nat} {h h':Array Obj} {vs:List Value} (_:rdV cur M h ds vs),rdV cur' M' h' ds vs
 | [],_,_,_,_,_,_,_,vs,hr=>by simpa only[rdV]using hr
 | d::ds,hd,_,_,_,_,_,_,vs,hr=>by
  rw[cT0,aL0]at hd;simp only[rdV]at hr ⊢;obtain⟨v,r,rfl,h1,h2⟩:=hr;exact⟨v,r,rfl,rd_simp hd.1 h1,Ok_ hd.2 h2⟩
def simpT : DVal→Bool
 | .tup ds=>ds.all Yz_
 | .agg ds=>ds.all Yz_
 | d=>Yz_ d
theorem rd_simpT {d:DVal} (hd:simpT d=true) {cur cur':Cur} {M M':List Nat} {h h':Array Obj} {v:Value} (hr:rd cur M h d v):rd cur' M' h' d v:=by
 cases d
 case tup ds =>
  simp only[simpT]at hd;simp only[rd]at hr ⊢;obtain⟨us,rfl,h1⟩:=hr;exact⟨us,rfl,Ok_ hd h1⟩
 case agg ds =>
  simp only[simpT]at hd;simp only[rd]at hr ⊢;obtain⟨us,rfl,h1⟩:=hr;exact⟨us,rfl,Ok_ hd h1⟩
 all_goals exact rd_simp (by simpa only[simpT]using hd) hr
theorem NM_ {P:Program} {f:FuncId} {k bs:Nat} {et:TypeId} {es:List (List DVal)} {rest:List DVal} {d:DVal} (hd:simpT d=true) (hp:Ac_ P f (.sl k bs es::rest) d) :
  AL_ P (.func f) (.osl 0 0::rest) [⟨0,0,.row et k bs es⟩] d [⟨0,0,.row et k bs es⟩]:=by
 obtain⟨hen,_,hc⟩:=hp;refine⟨by simp,hen,fun M w loc vs S hr=>⟨hen,?_⟩⟩;simp only[rdV]at hr;obtain⟨v0,r0,hvs,h0,hrest⟩:=hr;simp only[rd]at h0;have hv0:=h0 (loc 0) rfl;have hk:=S.ok ⟨0,0,.row et k bs es⟩ (by simp);have hap:=S.ap
 have W:Weak (Ae_ [(⟨0,0,.row et k bs es⟩:Ent)] loc) (Ae_ [(⟨0,0,.row et k bs es⟩:Ent)] loc) (Ab_ [(⟨0,0,.row et k bs es⟩:Ent)] loc++M) M w.heap w.heap (max (mxR es) (mxL rest)) :=
  ⟨fun _ _ _ _ h=>h,fun _ _ _ _ h=>h,fun b _ hb _ _ hm=>hb (aO0 _ hm)⟩
 refine(hc (Ae_ [(⟨0,0,.row et k bs es⟩:Ent)] loc) M w vs (fun b hb=>S.lt b (aO0 _ hb)) ?_).mono ?_
 ·rw[hvs];simp only[rdV];refine⟨v0,r0,rfl,?_,AE_ W _ _ (by omega) hrest⟩;simp only[rd];obtain⟨hz,h⟩:=hk
  rcases h with ⟨he,_,h2⟩ | ⟨b,arr,cap,h1,h2,h3,h4,h5,h6,h7⟩
  ·subst he;rw[hv0,h2];exact⟨none,0,by simp,by simp,by simp,hz,.inl ⟨rfl,fun _=>rfl⟩⟩
  ·rw[hv0,h2];refine⟨some ⟨b,0,none⟩,cap,rfl,h4,h5,hz,.inr ⟨b,0,arr,et,(0,0),rfl,hap b ?_,h3,BI_ W k es arr 0 (by omega) h7⟩⟩;simp[Ab_,h1]
 ·rintro e w' ⟨v,rfl,hu,hrd⟩;exact⟨v,rfl,loc,S.keep hu,hu.nil,fun b hb=> .inl hb,fun e he _=>Az_ S.nd he,rd_simpT hd hrd⟩
theorem DW_nilS {P:Program} {B:Base} {Q:Exit→DS→Prop} {s:DS} {x:Code} (i k bs:Nat) (h:getS s.slots i= .nilsl) (hw:DW P B x Q ⟨(i,.sl k bs [])::s.slots,s.own⟩):DW P B x Q s:=by
 refine FT_ (s':=⟨(i,.sl k bs [])::s.slots,s.own⟩) (fun a w loc R=>⟨loc,R.st,R.upd,R.new,R.ver,fun j=> ?_,R.nt,R.df⟩) hw;simp only[getS]
 split
 ·rename_i hj;subst hj;have:=R.sl j;rw[h]at this;simp only[rd]at this ⊢;rw[this];exact⟨none,0,by simp,by simp,by simp,by simp,.inl ⟨by simp,fun _=>rfl⟩⟩
 ·exact R.sl j
end Go.Dm
end
section
namespace Go.Proofs.YtchgnpnbcjflcaaGreat
open Go Go.Dm
variable [DMode]
attribute [local irreducible] DW AV_ AZ_
set_option maxRecDepth 100000
theorem YI_ {l:List ByteArray} {s:ByteArray}:decide (0≤Eq_ l s)=decide (s∈l):=by
 refine decide_eq_decide.2 ?_;unfold Eq_
 by_cases h:s∈l
 ·rw[if_pos (cF0.2 ⟨s,h,by simp⟩)];simp only[h,iff_true];omega
 ·rw[if_neg (fun hh=>h (by obtain⟨x,hx,hs⟩:=cF0.1 hh;simp at hs;subst hs;exact hx))];simp[h]
theorem Fi_ (l:List ByteArray) (s:ByteArray):Ac_ Tryz.prog 154 [AP_ l,.str s] (.bool (decide (s∈l))):=by
 rw[←YI_];exact Do_ l s
theorem MF_ (l:List ByteArray) (s:ByteArray):AL_ Tryz.prog (.func 154) [.osl 0 0,.str s] [⟨0,0,.row 9 1 16 (l.map dStr)⟩] (.bool (decide (s∈l))) [⟨0,0,.row 9 1 16 (l.map dStr)⟩] :=
 NM_ rfl (Fi_ l s)
def Uk_ : Ann:=⟨[15],[⟨4,[5],[],[]⟩]⟩
set_option maxHeartbeats 1000000 in
theorem FJ_ (g:List Rul):Ac_ Tryz.prog 91 [Av_ g] (AP_ (As_ g)):=by
 refine Aa_ [3] Uk_ Tryz.func91 Tryz.call91 Tryz.ntmps91 mxd (aj2 @Uk_.eq_1 Tryz.results91) rfl (by simp) (by simp[mx]) fun hwf B hnt hgAnn=> ?_
 have hs:g.length*40≤150000000000000:=by have:=hwf.1;simp only[wfD,aK0]at this;exact this.1
 clear hwf;simp only[argS]
 (refine go1 aj0 aj0 aj0 ?_;intros;refine mk_i ?_)
 refine Bn_ 3 3 9 1 16 (by simp[hnt,Tryz.results91,Uk_]) (fun n=> ?_);refine Ad_ (X:={i:Nat//i≤g.length}) (fun i=>⟨[(0,Av_ g),(3,.osl 3 1),(6,Av_ g),(7,.int .i64 g.length),(8,.int .i64 i.1)],[⟨3,1,.row 9 1 16 ((As_ (g.take i.1)).map dStr)⟩]⟩) (fun i=>g.length-i.1) ⟨0,by omega⟩ (Sub.lit (by simp[As_])) ?_;rintro⟨i,hi⟩;simp only
 by_cases hlt:i<g.length
 ·obtain⟨r,hr,hr',hrm⟩:=Aj_ hlt;have htk:=LC_ hr;have hl:=Gi_ (g.take i);rw[bB0]at hl;obtain⟨T,hT⟩:∃T,T=As_ (g.take i):=⟨_,rfl⟩;rw[←hT]at htk hl ⊢;have e1:=MF_ T r.h;have z1:(T.length+1)*16≤150000000000000:=by omega
  have z2:T.length+1≤9223372036854775807:=by omega
  unfold IZ_ at htk
  by_cases hm:r.h∈T
  ·rw[if_pos hm]at htk;rw[decide_eq_true hm]at e1
   (refine go1 aj0 (aj1 (spc [(3,0)] [] e1)) (aj4 @dRul.eq_1 hlt hr hr') ?_;intros;refine mk_i ?_)
   refine Ai_.mk ⟨i+1,by omega⟩ (Sub.lit (by simp[htk])) (by simp;omega)
   skip
  ·rw[if_neg hm]at htk;rw[decide_eq_false hm]at e1
   (refine go1 aj0 (aj1 (spc [(3,0)] [] e1)) (aj6 @dRul.eq_1 hlt hr hr' z1 z2) ?_;intros;refine mk_i ?_)
   refine Ai_.mk ⟨i+1,by omega⟩ (Sub.lit (by simp[htk,dStr])) (by simp;omega)
   skip
 ·have hkk:i=g.length:=by omega
  subst hkk;rw[aS0];exact go0 aj0 aj0 aj0
abbrev dCM (m:CM):DObj:= .map (Ca_ m.K) (DR_ m.V)
def Yf_ : Ann:=⟨[],[⟨4,[7],[],[]⟩,⟨7,[9],[],[]⟩]⟩
set_option maxHeartbeats 2000000 in
theorem HW_ (g:List Rul) (k:Int):AL_ Tryz.prog (.func 176) [Av_ g,.int .i64 k] [] (.omp 0 1) [⟨0,1,dCM (cntL (AG_ k g))⟩]:=by
 refine AR_ [] [(10,0,1)] Yf_ Tryz.func176 Tryz.call176 Tryz.ntmps176 mxd (aj2 @Yf_.eq_1 Tryz.results176) rfl (by simp) (by simp) (by simp) fun hwf B hnt hgAnn=> ?_
 have hwl:=Ic_ hwf.1
 have hwb:∀r∈g,r.b.length<9223372036854775807:=fun r hr=>by
  have h1:=hwf.1;obtain⟨i,hi,rfl⟩:=bJ0 hr;have h2:wfR (g.map dRul):=by simp only[wfD]at h1;exact h1.2.2
  have h3:=Us_ h2 (aH0 hi);simp only[dRul,wfL]at h3;exact OM_ h3.2.1
 clear hwf;simp only[argS,List.nil_append]
 (refine go1 aj0 aj0 aj0 ?_;intros;refine mk_i ?_)
 refine Ad_ (X:={i:Nat//i≤g.length}) (fun i=>⟨[(0,Av_ g),(1,.int .i64 k),(5,.omp 10 1),(11,Av_ g),(12,.int .i64 g.length),(13,.int .i64 i.1)],[⟨10,1,dCM (cntL (AG_ k (g.take i.1)))⟩]⟩) (fun i=>g.length-i.1) ⟨0,by omega⟩ (Sub.lit (by simp[AG_,cntL,Ca_,DR_])) ?_;rintro⟨i,hi⟩;simp only
 by_cases hlt:i<g.length
 ·obtain⟨r,hr,hr',hrm⟩:=Aj_ hlt;have htk:=Li_ (k:=k) hr;have hrl:=hwb r hrm;obtain⟨N,hN⟩:∃N,N=AG_ k (g.take i):=⟨_,rfl⟩;rw[←hN]at htk ⊢
  (refine go1 aj0 aj0 (aj4 @dRul.eq_1 hlt hr hr') ?_;intros;refine mk_i ?_)
  refine Ad_ (X:={j:Nat//j≤r.b.length}) (fun j=>⟨[(0,Av_ g),(1,.int .i64 k),(5,.omp 10 1),(11,Av_ g),(12,.int .i64 g.length),(13,.int .i64 i),(18,dNds r.b),(19,.int .i64 r.b.length),(20,.int .i64 j.1)],[⟨10,1,dCM (cntL (N++BY_ k (r.b.take j.1)))⟩]⟩) (fun j=>r.b.length-j.1) ⟨0,by omega⟩ (Sub.lit (by simp[BY_])) ?_;rintro⟨j,hj⟩;simp only
  by_cases hlt2:j<r.b.length
  ·obtain⟨x,hx,hx',hxm⟩:=Aj_ hlt2;have htj:=Lg_ (k:=k) hx;obtain⟨E,hE⟩:∃E,E=N++BY_ k (r.b.take j):=⟨_,rfl⟩;have hE2:N++BY_ k (r.b.take (j+1))=E++(if x.k=k then [x.s]else []):=by rw[htj,hE,aT0]
   rw[←hE]
   by_cases hk:x.k=k
   ·rw[if_pos hk]at hE2;have hst:=cntL_snoc E x.s;have hok:=cnt_ok E;obtain⟨⟨Ks,V⟩,hm⟩:∃m,m=cntL E:=⟨_,rfl⟩;rw[←hm]at hst hok ⊢;have hks:=Hk_ Ks;unfold Uc_ at hst;simp only at hst
    by_cases hs:x.s∈Ks
    ·rw[if_pos hs]at hst;have l1:=OL_ hs;have l3:ixS Ks x.s<V.length:=by have:=Js_ hs;have:=hok.len;simp only at this;omega
     have v1:(DR_ V)[ixS Ks x.s]? =some (.int .i64 (V.getD (ixS Ks x.s) 0)):=by simp[DR_,l3]
     obtain⟨q,hq⟩:∃q,q=IntKind.i64.wrap (V.getD (ixS Ks x.s) 0+1):=⟨_,rfl⟩;have hq2:IntKind.i64.wrap (V.getD (ixS Ks x.s) 0+1)=q:=hq.symm;rw[hq2]at hst;obtain⟨c,hcc⟩:∃c,c=V.getD (ixS Ks x.s) 0:=⟨_,rfl⟩;rw[←hcc]at v1 hq2;have st1:=Ii_ V (ixS Ks x.s) q;obtain⟨ix,hix⟩:∃ix,ix=ixS Ks x.s:=⟨_,rfl⟩;rw[←hix]at l1 v1 st1 hst
     (refine go1 aj0 aj0 (aj10 @dNd.eq_1 hlt2 hx hx' hk hks l1 v1 hq2 st1) ?_;intros;refine mk_i ?_)
     refine Ai_.mk ⟨j+1,by omega⟩ (Sub.lit (by simp only[hE2,hst];simp)) (by simp;omega)
     skip
    ·rw[if_neg hs]at hst;have l1:=BW_ hs;have st1:=Ij_ V 1;have sk1:=HI_ Ks x.s
     (refine go1 aj0 aj0 (aj9 @dNd.eq_1 hlt2 hx hx' hk hks l1 st1 sk1) ?_;intros;refine mk_i ?_)
     refine Ai_.mk ⟨j+1,by omega⟩ (Sub.lit (by simp only[hE2,hst];simp)) (by simp;omega)
     skip
   ·have hk':(x.k==k)=false:=by simpa using hk
    rw[if_neg hk,bP0]at hE2
    (refine go1 aj0 aj0 (aj6 @dNd.eq_1 hlt2 hx hx' hk hk') ?_;intros;refine mk_i ?_)
    refine Ai_.mk ⟨j+1,by omega⟩ (Sub.lit (by simp only[hE2];simp)) (by simp;omega)
    skip
  ·have hkk:j=r.b.length:=by omega
   subst hkk;rw[aS0]
   (refine go1 aj0 aj0 aj0 ?_;intros;refine mk_i ?_)
   refine Ai_.mk ⟨i+1,by omega⟩ (Sub.lit (by simp only[htk];simp)) (by simp;omega)
   skip
 ·have hkk:i=g.length:=by omega
  subst hkk;rw[aS0];exact go0 aj0 aj0 aj0
def delCM (m:CM) (s:ByteArray):CM:=if s∈m.K then ⟨m.K.eraseIdx (ixS m.K s),m.V.eraseIdx (ixS m.K s)⟩else m
structure DelOk (m0 m:CM) (hs:List ByteArray):Prop where
 len:m.K.length=m.V.length
 mem:∀s,s∈m.K↔s∈m0.K∧¬s∈hs
 nd:m.K.Nodup
theorem erase_mem {l:List ByteArray} (hn:l.Nodup) {s x:ByteArray} (hs:s∈l):x∈l.eraseIdx (ixS l s)↔x∈l∧x≠s:=by
 have hi:=Js_ hs
 have hv:l[ixS l s]=s:=by
  have:=List.findIdx_getElem (xs:=l) (p:=fun x=>s==x) (w:=hi);simp at this;exact this.symm
 rw[List.mem_eraseIdx_iff_getElem]
 constructor
 ·rintro⟨i,hil,hne,rfl⟩;refine⟨cR0 hil,fun e=>hne ?_⟩;exact(List.getElem_inj hn).1 (e.trans hv.symm)
 ·rintro⟨hx,hne⟩;obtain⟨i,hil,rfl⟩:=bJ0 hx;refine⟨i,hil,fun e=>hne ?_,rfl⟩;subst e;exact hv
theorem DelOk.step {m0 m:CM} {hs:List ByteArray} (h:DelOk m0 m hs) (s:ByteArray):DelOk m0 (delCM m s) (hs++[s]):=by
 unfold delCM
 split
 ·rename_i hm;refine⟨?_,fun x=> ?_,h.nd.sublist (List.eraseIdx_sublist _ _)⟩
  ·have:=Js_ hm;rw[List.length_eraseIdx_of_lt this,List.length_eraseIdx_of_lt (by have:=h.len;omega),h.len]
  ·simp only;rw[erase_mem h.nd hm,h.mem x,aI0,aF0]
   constructor
   ·rintro⟨⟨a,b⟩,c⟩;exact⟨a,fun hh=>by rcases hh with hh | hh;exact b hh;exact c hh⟩
   ·rintro⟨a,b⟩;exact⟨⟨a,fun hh=>b (.inl hh)⟩,fun hh=>b (.inr hh)⟩
 ·rename_i hm;refine⟨h.len,fun x=> ?_,h.nd⟩;rw[h.mem x,aI0,aF0]
  constructor
  ·rintro⟨a,b⟩;exact⟨a,fun hh=>by rcases hh with hh | hh;exact b hh;subst hh;exact hm ((h.mem x).2 ⟨a,b⟩)⟩
  ·rintro⟨a,b⟩;exact⟨a,fun hh=>b (.inl hh)⟩
theorem TH_ (V:List Int) (j:Nat):(DR_ V).eraseIdx j=DR_ (V.eraseIdx j):=by unfold DR_;rw[FC_]
theorem SQ_ (V:List ByteArray) (j:Nat):(Ca_ V).eraseIdx j=Ca_ (V.eraseIdx j):=by unfold Ca_;rw[FC_]
def Ye_ : Ann:=⟨[7],[⟨4,[5],[],[]⟩]⟩
set_option maxHeartbeats 2000000 in
theorem Fz_ (g:List Rul) (hn:(AG_ 2 g).length≤9223372036854775807):Ac_ Tryz.prog 234 [Av_ g] (.int .i64 (Dc_ g).length):=by
 refine Aa_ [] Ye_ Tryz.func234 Tryz.call234 Tryz.ntmps234 mxd (aj2 @Ye_.eq_1 Tryz.results234) rfl (by simp) (by simp[mx]) fun hwf B hnt hgAnn=> ?_
 have hwl:=Ic_ hwf.1;clear hwf;simp only[argS];have e1:=HW_ g 2;have hok:=cnt_ok (AG_ 2 g);obtain⟨m0,hm0⟩:∃m,m=cntL (AG_ 2 g):=⟨_,rfl⟩;rw[←hm0]at e1 hok
 (refine go1 aj0 (aj1 (spc [] [(7,0)] e1)) aj0 ?_;intros;refine mk_i ?_)
 refine Ad_ (X:={x:Nat×CM//x.1≤g.length∧DelOk m0 x.2 ((g.take x.1).map (·.h))}) (fun x=>⟨[(0,Av_ g),(3,.omp 7 1),(8,Av_ g),(9,.int .i64 g.length),(10,.int .i64 x.1.1)],[⟨7,1,dCM x.1.2⟩]⟩) (fun x=>g.length-x.1.1) ⟨(0,m0),by simp,by simpa using hok.len,by simp,hok.nd⟩ (Sub.lit (by simp)) ?_;rintro⟨⟨i,m⟩,hi,hD⟩;simp only at hi hD ⊢
 by_cases hlt:i<g.length
 ·obtain⟨r,hr,hr',hrm⟩:=Aj_ hlt
  have hD2:DelOk m0 (delCM m r.h) ((g.take (i+1)).map (·.h)):=by
   have:=hD.step r.h;rw[bF0,hr,aZ0];exact this
  obtain⟨Ks,V⟩:=m;have hks:=Hk_ Ks;unfold delCM at hD2;simp only at hD2
  by_cases hs:r.h∈Ks
  ·rw[if_pos hs]at hD2;have l1:=OL_ hs;have s1:=SQ_ Ks (ixS Ks r.h);have s2:=TH_ V (ixS Ks r.h)
   (refine go1 aj0 aj0 (aj10 @dRul.eq_1 hlt hr hr' hks l1 @delK.eq_1 @delV.eq_1 s1 s2) ?_;intros;refine mk_i ?_)
   refine Ai_.mk ⟨(i+1,_),show i+1≤g.length∧_ from ⟨by omega,hD2⟩⟩ (Sub.lit (by simp)) (by simp;omega)
   skip
  ·rw[if_neg hs]at hD2;have l1:=BW_ hs
   (refine go1 aj0 aj0 (aj8 @dRul.eq_1 hlt hr hr' hks l1 @delK.eq_1 @delV.eq_1) ?_;intros;refine mk_i ?_)
   refine Ai_.mk ⟨(i+1,_),show i+1≤g.length∧_ from ⟨by omega,hD2⟩⟩ (Sub.lit (by simp)) (by simp;omega)
   skip
 ·have hkk:i=g.length:=by omega
  subst hkk;rw[aS0]at hD
  have hml:m.K.length=(Dc_ g).length:=miss_len hD.nd fun s=>by
   rw[hD.mem s,hok.mem s,Nn_];simp
  have hsl:=strsD_len m.K;rw[hml]at hsl;have hle:(Dc_ g).length≤9223372036854775807:=Nat.le_trans (Nat.le_trans (cG0 _ _) (Fo_ _)) hn;obtain⟨Ks,V⟩:=m;exact go0 aj0 aj0 (aj2 hsl hle)
def Wl_ : Ann:=⟨[],[]⟩
theorem EE_ (k c:Int) (hk:k=2∧c=85∨k=3∧c=76) (s:ByteArray):Ac_ Tryz.prog 129 [.str s,.int .u8 c] (.bool (DF_ k s)):=by
 refine Aa_ [] Wl_ Tryz.func129 Tryz.call129 Tryz.ntmps129 mxd (aj2 @Wl_.eq_1 Tryz.results129) rfl (by simp) (by simp[mx]) fun hwf B hnt hgAnn=> ?_
 have hsz:s.size≤9223372036854775807:=by have:=hwf.1;simp only[wfD,maxLen]at this;omega
 clear hwf;simp only[argS];obtain⟨R,hR⟩:∃R,R=DF_ k s:=⟨_,rfl⟩;rw[←hR];unfold DF_ at hR
 by_cases h1:1≤s.size
 ·by_cases h2:s.size≤16
  ·have g1:¬(s.size:Int)<1:=by omega
   have g2:¬(16:Int)<s.size:=by omega
   have g0:0<s.size:=by omega
   obtain⟨b0,hb0,hb0',_⟩:=Aj_ (show 0<s.data.toList.length by rw[Bj_];omega)
   (refine go1 aj0 aj0 (aj5 g0 g1 g2 h1 h2) ?_;intros;refine mk_i ?_)
   refine Ad_ (X:={k:Nat//k≤s.size∧letS s=((s.data.toList.drop k).all fun b=>letB (b.toNat:Int))}) (fun k=>⟨[(0,.str s),(1,.int .u8 c),(5,.int .i64 k.1)],[]⟩) (fun k=>s.size-k.1) ⟨0,by simp[letS]⟩ (Sub.lit (by simp)) ?_;rintro⟨j,hj,hl⟩
   by_cases hlt:j<s.size
   ·obtain⟨b,hb,hb',_⟩:=Aj_ (show j<s.data.toList.length by rw[Bj_];exact hlt);rw[aR0 (by rw[Bj_];exact hlt),hb',cT0]at hl;have e1:=OX_ (b.toNat:Int);cases hL:letB (b.toNat:Int)
    ·rw[hL]at e1 hl;have hR2:R=false:=by rw[hR];unfold AO_;rw[hl];simp
     subst hR2;exact go0 (aj1 e1) aj0 (aj3 hlt hb hb')
    ·rw[hL]at e1 hl;simp only[cO0]at hl
     (refine go1 (aj1 e1) aj0 (aj3 hlt hb hb') ?_;intros;refine mk_i ?_)
     refine Ai_.mk ⟨j+1,by omega,hl⟩ (Sub.lit (by simp)) (by simp;omega)
     skip
   ·have hkk:j=s.size:=by omega
    subst hkk;rw[←Bj_,cB0]at hl;have hN:AO_ s=true:=by unfold AO_;rw[hl];simp[h1,h2]
    rw[hN]at hR;simp only[VG_ hb0,cO0]at hR;have e1:=GP_ (b0.toNat:Int);have e2:=GS_ (b0.toNat:Int)
    rcases hk with ⟨rfl,rfl⟩ | ⟨rfl,rfl⟩
    ·simp only[if_true]at hR;rw[←hR]at e1;cases R
     ·exact go0 (aj2 e1 e2) aj0 (aj3 g0 hb0 hb0')
     ·exact go0 (aj2 e1 e2) aj0 (aj3 g0 hb0 hb0')
    ·simp only[show ¬(3:Int)=2 by omega,if_false]at hR;rw[←hR]at e2;cases R
     ·exact go0 (aj2 e1 e2) aj0 (aj3 g0 hb0 hb0')
     ·exact go0 (aj2 e1 e2) aj0 (aj3 g0 hb0 hb0')
  ·have g1:¬(s.size:Int)<1:=by omega
   have g2:(16:Int)<s.size:=by omega
   have hR2:R=false:=by rw[hR];unfold AO_;simp[h2]
   subst hR2;exact go0 aj0 aj0 (aj4 g1 g2 h1 h2)
 ·have g1:(s.size:Int)<1:=by omega
  have hR2:R=false:=by rw[hR];unfold AO_;simp[h1]
  subst hR2;exact go0 aj0 aj0 (aj2 g1 h1)
def Xl_ : Ann:=⟨[],[]⟩
set_option maxHeartbeats 4000000 in
theorem mayR_pure (x:Nd):Ac_ Tryz.prog 294 [.agg (dNd x)] (.bool (mayN x)):=by
 refine Aa_ [] Xl_ Tryz.func294 Tryz.call294 Tryz.ntmps294 mxd (aj2 @Xl_.eq_1 Tryz.results294) rfl (by simp) (by simp[mx]) fun hwf B hnt hgAnn=> ?_
 simp only[argS];have e1:=EE_ 2 85 (.inl ⟨rfl,rfl⟩) x.s;have e2:=EE_ 3 76 (.inr ⟨rfl,rfl⟩) x.s;rw[show DF_ 2 x.s=(AO_ x.s&&JM_ upI x.s) from rfl]at e1;rw[show DF_ 3 x.s=(AO_ x.s&&JM_ loI x.s) from rfl]at e2;unfold mayN emp
 by_cases k1:x.k=1
 ·exact go0 aj0 aj0 (aj3 @dNd.eq_1 @AI_ k1)
 by_cases k2:x.k=2
 ·obtain⟨b,hb⟩:∃b,b=(AO_ x.s&&JM_ upI x.s):=⟨_,rfl⟩;rw[←hb]at e1 ⊢;clear hb;cases b<;>exact go0 (aj1 e1) aj0 (aj4 @dNd.eq_1 @AI_ k1 k2)
 by_cases k3:x.k=3
 ·obtain⟨b,hb⟩:∃b,b=(AO_ x.s&&JM_ loI x.s):=⟨_,rfl⟩;rw[←hb]at e2 ⊢;clear hb;cases b<;>exact go0 (aj1 e2) aj0 (aj5 @dNd.eq_1 @AI_ k1 k2 k3)
 by_cases k4:x.k=4
 ·exact go0 aj0 aj0 (aj6 @dNd.eq_1 @AI_ k1 k2 k3 k4)
 by_cases k5:x.k=5
 ·exact go0 aj0 aj0 (aj7 @dNd.eq_1 @AI_ k1 k2 k3 k4 k5)
 by_cases k6:x.k=6
 ·exact go0 aj0 aj0 (aj8 @dNd.eq_1 @AI_ k1 k2 k3 k4 k5 k6)
 by_cases k7:x.k=7
 ·exact go0 aj0 aj0 (aj9 @dNd.eq_1 @AI_ k1 k2 k3 k4 k5 k6 k7)
 by_cases k8:x.k=8
 ·exact go0 aj0 aj0 (aj10 @dNd.eq_1 @AI_ k1 k2 k3 k4 k5 k6 k7 k8)
 exact go0 aj0 aj0 (aj10 @dNd.eq_1 @AI_ k1 k2 k3 k4 k5 k6 k7 k8)
def endI (l:List Nd) (p:Nat):Int:=match endN (l.drop p) 1 with
 | some r=>(l.length:Int)-r.length
 | none=> -1
def Xm_ : Ann:=⟨[],[]⟩
set_option maxHeartbeats 4000000 in
theorem LQ_ (l:List Nd) (p:Nat) (hs:l.length≤1572864) (hp:p≤l.length):Ac_ Tryz.prog 202 [dNds l,.int .i64 p] (.int .i64 (endI l p)):=by
 refine Aa_ [] Xm_ Tryz.func202 Tryz.call202 Tryz.ntmps202 mxd (aj2 @Xm_.eq_1 Tryz.results202) rfl (by simp) (by simp[mx]) fun hwf B hnt hgAnn=> ?_
 clear hwf;simp only[argS];obtain⟨R,hR⟩:∃R,R=endI l p:=⟨_,rfl⟩;rw[←hR];unfold endI at hR;obtain⟨E,hE⟩:∃E,E=endN (l.drop p) 1:=⟨_,rfl⟩;rw[←hE]at hR
 (refine go1 aj0 aj0 aj0 ?_;intros;refine mk_i ?_)
 refine Ad_ (X:={q:Nat×Nat//q.1≤l.length∧endN (l.drop q.1) q.2=E∧q.2≤1+q.1*1572864}) (fun q=>⟨[(0,dNds l),(1,.int .i64 q.1.1),(5,.int .i64 q.1.2)],[]⟩) (fun q=>l.length+1-q.1.1) ⟨(p,1),hp,hE.symm,by simp only;omega⟩ (Sub.lit (by simp)) ?_;clear hE;rintro⟨⟨k,w⟩,hk,hw,hwb⟩;simp only at hk hw hwb ⊢
 cases w with
 | zero =>
  rw[BG_]at hw;rw[←hw]at hR;simp only[cA0]at hR;have hRk:R=k:=by omega
  subst hRk;exact go0 aj0 aj0 aj0
 | succ v =>
  have hv:(0:Int)<(v:Int)+1:=by omega
  by_cases hlt:k<l.length
  ·obtain⟨x,hx,hx',_⟩:=Aj_ hlt;rw[aR0 hlt,hx']at hw;have e1:=mayR_pure x;simp only[dNd]at e1;have hge:¬l.length≤k:=by omega
   cases hm:mayN x
   ·rw[hm]at e1;rw[CF_,hm]at hw;simp only[aP0,if_false]at hw;rw[←hw]at hR;simp only at hR;subst hR;exact go0 (aj1 e1) aj0 (aj6 @dNd.eq_1 hlt hge hx hx' hv)
   ·rw[hm]at e1;have hk0:=FB_ hm;obtain⟨c,hcn⟩:∃c:Nat,x.n=(c:Int):=⟨x.n.toNat,by omega⟩;rw[hcn]at e1;rw[CF_,if_pos hm,hcn,dI0]at hw
    by_cases hbig:l.length<c
    ·have hbig':(l.length:Int)<(c:Int):=by omega
     rw[Po_ _ _ (by rw[cA0];omega)]at hw;rw[←hw]at hR;simp only at hR;subst hR;exact go0 (aj1 e1) aj0 (aj9 @dNd.eq_1 hlt hge hx hx' hv hcn hbig hbig')
    ·have hbig':¬(l.length:Int)<(c:Int):=by omega
     have q1:IntKind.i64.wrap ((v:Int))=(v:Int):=wq;have q2:IntKind.i64.wrap ((v:Int)+(c:Int))=(v:Int)+(c:Int):=wq
     (refine go1 (aj1 e1) aj0 (aj11 @dNd.eq_1 hlt hge hx hx' hv hcn hbig hbig' q1 q2) ?_;intros;refine mk_i ?_)
     refine Ai_.mk ⟨(k+1,v+c),show k+1≤l.length∧endN (l.drop (k+1)) (v+c)=E∧v+c≤1+(k+1)*1572864 from ⟨by omega,hw,by omega⟩⟩ (Sub.lit (by simp)) (by simp;omega)
     skip
  ·have hge:l.length≤k:=by omega
   rw[cZ0 hge,Gj_]at hw;rw[←hw]at hR;simp only at hR;subst hR;exact go0 aj0 aj0 (aj2 hv hge)
def Xn_ : Ann:=⟨[],[]⟩
theorem CV_ (l:List Nd) (hs:l.length≤1572864):Ac_ Tryz.prog 130 [dNds l] (.bool (CK_ l)):=by
 refine Aa_ [] Xn_ Tryz.func130 Tryz.call130 Tryz.ntmps130 mxd (aj2 @Xn_.eq_1 Tryz.results130) rfl (by simp) (by simp[mx]) fun hwf B hnt hgAnn=> ?_
 clear hwf;simp only[argS];have e1:=LQ_ l 0 hs (by omega);unfold endI at e1;unfold CK_;rw[List.drop_zero]at e1
 by_cases h0:0<l.length
 ·cases hE:endN l 1 with
  | none =>
   rw[hE]at e1;have hne:((-1:Int)==(l.length:Int))=false:=by simp
   exact go0 (aj1 e1) aj0 (aj2 h0 hne)
  | some r =>
   rw[hE]at e1
   cases r with
   | nil =>
    simp only[List.length_nil,Int.natCast_zero,Int.sub_zero]at e1;exact go0 (aj1 e1) aj0 (aj1 h0)
   | cons y r =>
    have hne:(((l.length:Int)-((y::r).length:Int))==(l.length:Int))=false:=by simp;omega
    obtain⟨e,he⟩:∃e:Int,e=(l.length:Int)-((y::r).length:Int):=⟨_,rfl⟩;rw[←he]at hne;have e3:Ac_ Tryz.prog 202 [dNds l,.int .i64 0] (.int .i64 e):=by rw[he];exact e1
    exact go0 (aj1 e3) aj0 (aj2 h0 hne)
 ·have hl:l=[]:=bN0 (by omega);subst hl;rw[Gj_];exact go0 aj0 aj0 aj0
def EZ_ : Ann:=⟨[],[⟨5,[6],[],[]⟩]⟩
set_option maxHeartbeats 4000000 in
theorem GW_ (t:RT) (ht:okT t=true) (hs:(flat t).length≤1572864):Ac_ Tryz.prog 262 [dNds (flat t)] (.int .i64 (htT t)):=by
 refine Aa_ [] EZ_ Tryz.func262 Tryz.call262 Tryz.ntmps262 mxd (aj2 @EZ_.eq_1 Tryz.results262) rfl (by simp) (by simp[mx]) fun hwf B hnt hgAnn=> ?_
 clear hwf;simp only[argS];have hR:=Hm_ ht;have hmay:=okT_all ht;have hkle:∀x∈flat t,x.n≤1572864:=fun x hx=>by have:=OU_ t ht x hx;omega
 obtain⟨l,hl⟩:∃l,l=flat t:=⟨_,rfl⟩;rw[←hl]at hR hmay hkle hs ⊢;clear hl;obtain⟨R,hRR⟩:∃R,R=htT t:=⟨_,rfl⟩;rw[←hRR]at hR ⊢;clear hRR ht
 (refine go1 aj0 aj0 aj0 ?_;intros;refine mk_i ?_)
 refine Bn_ 4 50 3 1 8 (by simp[hnt,Tryz.results262,EZ_]) (fun n=> ?_);refine Ad_ (X:={p:Nat×List Nat×Nat//p.1≤l.length∧(l.drop p.1).foldl GG_ (p.2.1,p.2.2)=([],R)∧p.2.1.length≤p.1∧p.2.2≤p.1∧pos p.2.1}) (fun p=>⟨[(3,.int .i64 p.1.2.2),(4,.osl 50 1),(7,dNds l),(8,.int .i64 l.length),(9,.int .i64 p.1.1)],[⟨50,1,.row 3 1 8 (dstk p.1.2.1)⟩]⟩) (fun p=>l.length-p.1.1) ⟨(0,[],0),by simp[hR,pos]⟩ (Sub.lit (by simp[Ci_])) ?_
 rintro⟨⟨k,s,m⟩,hk,hw,hsl,hmb,hpos⟩;simp only at hk hw hsl hmb hpos ⊢;clear hR
 by_cases hlt:k<l.length
 ·obtain⟨x,hx,hx',hxm⟩:=Aj_ hlt;rw[aR0 hlt,hx',cN0]at hw;have hk0:=FB_ (hmay x hxm);obtain⟨c,hcn⟩:∃c:Nat,x.n=(c:Int):=⟨x.n.toNat,by omega⟩;have hsp:=hstep_pos (p:=(s,m)) x (by have:=hkle x hxm;omega) hpos;have hslen:=hstep_len (s,m) x;unfold GG_ at hw hsp hslen;rw[hcn,dI0]at hw hsp hslen;simp only at hw hsp hslen;obtain⟨P,hP⟩:∃P,P=(if c=0 then fin s else c::s):=⟨_,rfl⟩;rw[←hP]at hw hsp hslen;have hmx:(if (m:Int)<(s.length:Int)+1 then (s.length:Int)+1 else (m:Int))=((max m (s.length+1):Nat):Int):=by split<;>omega
  obtain⟨m2,hm2⟩:∃m2,m2=max m (s.length+1):=⟨_,rfl⟩;rw[←hm2]at hw hmx;have hm2b:m2≤k+1:=by omega
  have z1:(s.length+1)*8≤150000000000000:=by omega
  have z2:s.length+1≤9223372036854775807:=by omega
  have q1:IntKind.i64.wrap ((s.length:Int)+1)=(s.length:Int)+1:=wq
  (refine go1 aj0 aj0 (aj10 @dNd.eq_1 hlt hx hx' hcn @Dw_ hmx z1 z2 q1) ?_;intros;refine mk_i ?_)
  refine Ad_ (X:={q:List Nat//popR q=P∧q.length≤k+1∧pos q.tail}) (fun q=>⟨[(3,.int .i64 m2),(4,.osl 50 1),(7,dNds l),(8,.int .i64 l.length),(9,.int .i64 k)],[⟨50,1,.row 3 1 8 (dstk q.1)⟩]⟩) (fun q=>q.1.length) ⟨c::s,by rw[hP,popR_push],by simp;omega,hpos⟩ (Sub.lit (by simp[hmx,FL_,AY_])) ?_;rintro⟨q,hq1,hq2,hq3⟩;simp only
  match q,hq1,hq2,hq3 with
  | [],hq1,hq2,hq3 =>
   have hP2:P=[]:=by rw[←hq1];rfl
   (refine go1 aj0 aj0 (aj1 @Ci_) ?_;intros;refine mk_i ?_)
   refine Ai_.mk ⟨(k+1,P,m2),show k+1≤l.length∧(l.drop (k+1)).foldl GG_ (P,m2)=([],R)∧P.length≤k+1∧m2≤k+1∧pos P from ⟨by omega,hw,by omega,hm2b,hsp⟩⟩ (Sub.lit (by simp[hP2,Ci_])) (by simp;omega)
   skip
  | d::q,hq1,hq2,hq3 =>
   have hql:q.length≤k:=by simpa using hq2
   have hlen:(dstk (d::q)).length=q.length+1:=by rw[Dw_];rfl
   have htop:=Wa_ d q;have htk:=dstk_take d q;have q2:IntKind.i64.wrap ((q.length:Int))=(q.length:Int):=wq;obtain⟨D,hD⟩:∃D,D=dstk (d::q):=⟨_,rfl⟩;rw[←hD]at hlen htop htk ⊢;have hltD:q.length<D.length:=by omega
   have htop':D[q.length]'hltD=[.int .i64 (d:Int)]:=(aB0.1 htop).2;have hp0:(0:Int)<(q.length:Int)+1:=by omega
   cases d with
   | zero =>
    cases q with
    | nil =>
     have hP2:P=[]:=by rw[←hq1];rfl
     have q0:IntKind.i64.wrap 0=0:=by decide
     simp only[List.length_nil,bQ0]at hlen htop htop' htk hltD
     (repeat (first | (refine Sx_ 4 ?_ (fun _=> ?_);(· (simp[hnt,hlen,htop,htop',hltD,hp0,htk,Ci_,q0];done));(try simp[hnt,hlen,htop,htop',hltD,hp0,htk,Ci_,q0])) | refine Ax_ fun K hK=> ?_ | (refine DW_r EZ_ mxd (by kernel_rfl) ?_;simp[EZ_,hnt,hlen,htop,htop',hltD,hp0,htk,Ci_,q0];try simp (disch:=omega) only[Ah_]) | refine An_ ?_ | (refine AW_ ?_ ?_ ?_;(· (simp[hnt,hlen,htop,htop',hltD,hp0,htk,Ci_,q0];done));(try (rotate_left;(· (intro hc;(try simp[hnt,hlen,htop,htop',hltD,hp0,htk,Ci_,q0]at hc);done))))) | (refine AC_ ?_;simp[Tryz.results262,hnt,hlen,htop,htop',hltD,hp0,htk,Ci_,q0]) | ((first | refine Ar_ ?_ | refine Aq_ ?_);simp[hnt,hlen,htop,htop',hltD,hp0,htk,Ci_,q0]) | (intro hc;(try simp[hnt,hlen,htop,htop',hltD,hp0,htk,Ci_,q0]at hc);(try (exfalso;omega))) | (refine⟨?_,?_⟩; · omega) | omega | apply_assumption -exfalso -symm | (exfalso;omega)))
     refine Ai_.mk ⟨[],hP2.symm,by simp,by simp[pos]⟩ (Sub.lit (by simp[Ci_])) (by simp)
     skip
    | cons e q =>
     obtain⟨he1,he9⟩:=hq3 e (by simp);have q5:IntKind.i64.wrap ((e-1:Nat):Int)=((e-1:Nat):Int):=wq;have hP2:popR ((e-1)::q)=P:=by rw[popR_step he1,←hq1];rfl
     have hpq:pos q:=fun c hc=>hq3 c (by simp[hc])
     simp only[List.length_cons]at hlen htop htop' htk hltD q2 hp0 hql;have hlen2:(dstk (e::q)).length=q.length+1:=by rw[Dw_];rfl
     have htop2:=Wa_ e q;have hset:=dstk_set e (e-1) q;obtain⟨E,hE⟩:∃E,E=dstk (e::q):=⟨_,rfl⟩;rw[←hE]at hlen2 htop2 hset htk;have hltE:q.length<E.length:=by omega
     have htop2':E[q.length]'hltE=[.int .i64 (e:Int)]:=(aB0.1 htop2).2;have q3:IntKind.i64.wrap ((q.length:Int)+1)=(q.length:Int)+1:=wq;have q4:IntKind.i64.wrap ((q.length:Int))=(q.length:Int):=wq;have he2:(e:Int)-1=((e-1:Nat):Int):=by omega
     have hp1:(0:Int)<(q.length:Int)+1:=by omega
     have hp2:(0:Int)<(q.length:Int)+1+1:=by omega
     (repeat (first | (refine Sx_ 4 ?_ (fun _=> ?_);(· (simp[hnt,hlen,htop,htop',hltD,hp0,hp1,hp2,htk,q3,q4,hlen2,htop2,htop2',hltE,he2,hset,q5];done));(try simp[hnt,hlen,htop,htop',hltD,hp0,hp1,hp2,htk,q3,q4,hlen2,htop2,htop2',hltE,he2,hset,q5])) | refine Ax_ fun K hK=> ?_ | (refine DW_r EZ_ mxd (by kernel_rfl) ?_;simp[EZ_,hnt,hlen,htop,htop',hltD,hp0,hp1,hp2,htk,q3,q4,hlen2,htop2,htop2',hltE,he2,hset,q5];try simp (disch:=omega) only[Ah_]) | refine An_ ?_ | (refine AW_ ?_ ?_ ?_;(· (simp[hnt,hlen,htop,htop',hltD,hp0,hp1,hp2,htk,q3,q4,hlen2,htop2,htop2',hltE,he2,hset,q5];done));(try (rotate_left;(· (intro hc;(try simp[hnt,hlen,htop,htop',hltD,hp0,hp1,hp2,htk,q3,q4,hlen2,htop2,htop2',hltE,he2,hset,q5]at hc);done))))) | (refine AC_ ?_;simp[Tryz.results262,hnt,hlen,htop,htop',hltD,hp0,hp1,hp2,htk,q3,q4,hlen2,htop2,htop2',hltE,he2,hset,q5]) | ((first | refine Ar_ ?_ | refine Aq_ ?_);simp[hnt,hlen,htop,htop',hltD,hp0,hp1,hp2,htk,q3,q4,hlen2,htop2,htop2',hltE,he2,hset,q5]) | (intro hc;(try simp[hnt,hlen,htop,htop',hltD,hp0,hp1,hp2,htk,q3,q4,hlen2,htop2,htop2',hltE,he2,hset,q5]at hc);(try (exfalso;omega))) | (refine⟨?_,?_⟩; · omega) | omega | apply_assumption -exfalso -symm | (exfalso;omega)))
     refine Ai_.mk ⟨(e-1)::q,hP2,by simp;omega,hpq⟩ (Sub.lit (by simp)) (by simp)
     skip
   | succ d =>
    have hP2:P=(d+1)::q:=by rw[←hq1];rfl
    have hd0:¬(d:Int)+1=0:=by omega
    have hd0':(((d:Int)+1)==0)=false:=by simpa using hd0
    (refine go1 aj0 aj0 (aj8 hlen htop htop' hltD q2 hp0 hd0 hd0') ?_;intros;refine mk_i ?_)
    refine Ai_.mk ⟨(k+1,P,m2),show k+1≤l.length∧(l.drop (k+1)).foldl GG_ (P,m2)=([],R)∧P.length≤k+1∧m2≤k+1∧pos P from ⟨by omega,hw,by omega,hm2b,hsp⟩⟩ (Sub.lit (by simp[hP2,hD])) (by simp;omega)
    skip
 ·have hkk:k=l.length:=by omega
  subst hkk;rw[cB0]at hw;simp only[List.foldl_nil,_root_.Prod.mk.injEq]at hw;obtain⟨rfl,rfl⟩:=hw;exact go0 aj0 aj0 aj0
def dT (t:RT):List DVal:=[dNds (flat t)]
abbrev dTs (ts:List RT):DVal:= .sl 1 24 (ts.map dT)
@[simp] theorem mx_dT (t:RT):mxL (dT t)=0:=by simp[dT,mxL,mx]
@[simp] theorem mx_dTs (l:List RT):mxR (l.map dT)=0:=mxR0 _ mx_dT l
theorem Nq_ {ks:List RT} {i:Nat} {t:RT} (h:ks[i]? =some t):(Ak_ (ks.take (i+1))).length=(Ak_ (ks.take i)).length+(flat t).length:=by
 rw[bF0,h,DM_,aD0];simp[Ak_]
theorem Hn_ (ks:List RT) (i:Nat):Ak_ ks=Ak_ (ks.take i)++Ak_ (ks.drop i):=by rw[←DM_,List.take_append_drop]
def Dx_ : Ann:=⟨[],[]⟩
set_option maxHeartbeats 4000000 in
theorem TD_ (x:Nd) (ks:List RT) (ht:okT (.mk x ks)=true) (hs:(flat (.mk x ks)).length≤1572864):Ac_ Tryz.prog 321 [dNds (flat (.mk x ks))] (dTs ks):=by
 refine Aa_ [60] Dx_ Tryz.func321 Tryz.call321 Tryz.ntmps321 mxd (aj2 @Dx_.eq_1 Tryz.results321) rfl (by simp) (by simp[mx]) fun hwf B hnt hgAnn=> ?_
 clear hwf;simp only[argS];obtain⟨hm,hn,hok⟩:=Bx_ ht;have hmay:=okT_all ht;have hkle:=OU_ _ ht;obtain⟨l,hl⟩:∃l,l=flat (.mk x ks):=⟨_,rfl⟩;have hl2:l=x::Ak_ ks:=by rw[hl,AF_]
 rw[←hl]at hmay hkle hs ⊢;have h0:l[0]? =some x:=by rw[hl2];rfl
 have hlen:l.length=(Ak_ ks).length+1:=by rw[hl2];simp
 have hlt0:0<l.length:=by omega
 have h0':l[0]'hlt0=x:=(aB0.1 h0).2;have hks:ks.length≤1572864:=by have:=DL_ ks;omega
 (refine go1 aj0 aj0 (aj5 @dNd.eq_1 h0 h0' hlt0 hn) ?_;intros;refine mk_i ?_)
 refine Bn_ 3 60 153 1 24 (by simp[hnt,Tryz.results321,Dx_]) (fun n=> ?_);refine Ad_ (X:={i:Nat//i≤ks.length}) (fun i=>⟨[(0,dNds l),(3,.osl 60 1),(4,.int .i64 (1+(Ak_ (ks.take i.1)).length:Nat)),(10,.int .i64 ks.length),(11,.int .i64 i.1)],[⟨60,1,.row 153 1 24 ((ks.take i.1).map dT)⟩]⟩) (fun i=>ks.length-i.1) ⟨0,by omega⟩ (Sub.lit (by simp[Ak_])) ?_;rintro⟨i,hi⟩;simp only
 by_cases hlt:i<ks.length
 ·obtain⟨t,htk,ht',_⟩:=Aj_ hlt;have hsp:=Hn_ ks i;have hdr:=aR0 hlt;rw[ht']at hdr
  have hokd:okL (ks.drop i)=true:=by
   have:=Oz_ (ks.take i) (ks.drop i);rw[List.take_append_drop,hok]at this;simpa using (by simpa using this.symm:okL (ks.take i)=true∧okL (ks.drop i)=true).2
  rw[hdr]at hokd;obtain⟨hokt,hokr⟩:=AX_ hokd;obtain⟨A,hA⟩:∃A,A=1+(Ak_ (ks.take i)).length:=⟨_,rfl⟩;obtain⟨r,hr⟩:∃r,r=Ak_ (ks.drop (i+1)):=⟨_,rfl⟩
  have hdrop:l.drop A=flat t++r:=by
   rw[hl2,hA,Nat.add_comm,dT0,hsp,eL0 (Nat.le_refl _),cB0,List.nil_append,hdr,Al_,hr]
  have hend:endN (l.drop A) 1=some r:=by rw[hdrop,Eu_ t r 0 hokt,BG_]
  have hA2:A+(flat t).length+r.length=l.length:=by
   have:=congrArg List.length hdrop;rw[cA0,aD0]at this;have:=EU_ t;omega
  have hnext:=Nq_ htk;rw[←hA];clear hsp hdr hokd hokr
  (repeat (first | refine Ax_ fun K hK=> ?_ | (refine DW_r Dx_ mxd (by kernel_rfl) ?_;simp[Dx_,hnt,hlt];try simp (disch:=omega) only[Ah_]) | refine An_ ?_ | (refine AW_ ?_ ?_ ?_;(· (simp[hnt,hlt];done));(try (rotate_left;(· (intro hc;(try simp[hnt,hlt]at hc);done))))) | (refine AC_ ?_;simp[Tryz.results321,hnt,hlt]) | ((first | refine Ar_ ?_ | refine Aq_ ?_);simp[hnt,hlt]) | (intro hc;(try simp[hnt,hlt]at hc);(try (exfalso;omega))) | (refine⟨?_,?_⟩; · omega) | omega | apply_assumption -exfalso -symm | (exfalso;omega)))
  refine Ad_ (X:={p:Nat×Nat//p.1≤l.length∧endN (l.drop p.1) p.2=some r∧p.2≤1+p.1*1572864∧A≤p.1}) (fun p=>⟨[(0,dNds l),(3,.osl 60 1),(4,.int .i64 p.1.1),(5,.int .i64 A),(6,.int .i64 p.1.2),(10,.int .i64 ks.length),(11,.int .i64 i)],[⟨60,1,.row 153 1 24 ((ks.take i).map dT)⟩]⟩) (fun p=>l.length-p.1.1) ⟨(A,1),show A≤l.length∧endN (l.drop A) 1=some r∧1≤1+A*1572864∧A≤A from ⟨by omega,hend,by omega,Nat.le_refl _⟩⟩ (Sub.lit (by simp)) ?_
  rintro⟨⟨k,w⟩,hk,hw,hwb,hAk⟩;simp only at hk hw hwb hAk ⊢
  cases w with
  | zero =>
   rw[BG_]at hw;simp only[aA0]at hw
   have hkl:k=A+(flat t).length:=by
    have:=congrArg List.length hw;rw[cA0]at this;omega
   have z1:((ks.take i).length+1)*24≤150000000000000:=by rw[bB0];omega
   have z2:(ks.take i).length+1≤9223372036854775807:=by rw[bB0];omega
   have hpiece:(l.drop A).take (k-A)=flat t:=by rw[hkl,Nat.add_sub_cancel_left,hdrop];simp
   have hkk:A≤l.length:=by omega
   (repeat (first | refine Ax_ fun K hK=> ?_ | (refine DW_r Dx_ mxd (by kernel_rfl) ?_;simp[Dx_,hnt,hlt,hk,hAk,hkk];try simp (disch:=omega) only[Ah_]) | refine An_ ?_ | (refine AW_ ?_ ?_ ?_;(· (simp[hnt,hlt,hk,hAk,hkk];done));(try (rotate_left;(· (intro hc;(try simp[hnt,hlt,hk,hAk,hkk]at hc);done))))) | (refine AC_ ?_;simp[Tryz.results321,hnt,hlt,hk,hAk,hkk]) | ((first | refine Ar_ ?_ | refine Aq_ ?_);simp[hnt,hlt,hk,hAk,hkk]) | (intro hc;(try simp[hnt,hlt,hk,hAk,hkk]at hc);(try (exfalso;omega))) | (refine⟨?_,?_⟩; · omega) | omega | apply_assumption -exfalso -symm | (exfalso;omega)))
   have hpD:List.take (k-A) (List.drop A (List.map dNd l))=(flat t).map dNd:=by rw[←List.map_drop,←List.map_take,hpiece]
   have htm:List.take (i+1) (List.map dT ks)=List.take i (List.map dT ks)++[dT t]:=by rw[bF0,bM0,htk];rfl
   have hat:(1:Int)+((Ak_ (List.take (i+1) ks)).length:Int)=(k:Int):=by omega
   refine Ai_.mk ⟨i+1,by omega⟩ (Sub.lit (by simp[hpD,htm,hat,dT,AY_])) (by simp;omega)
   skip
  | succ v =>
   have hlt2:k<l.length:=by
    rcases Nat.lt_or_ge k l.length with h | h
    ·exact h
    ·rw[cZ0 h,Gj_]at hw;simp at hw
   obtain⟨y,hy,hy',hym⟩:=Aj_ hlt2;rw[aR0 hlt2,hy',CF_,if_pos (hmay y hym)]at hw;have hk0:=FB_ (hmay y hym);have hk9:=hkle y hym;obtain⟨c,hcn⟩:∃c:Nat,y.n=(c:Int):=⟨y.n.toNat,by omega⟩;rw[hcn,dI0]at hw;have q1:IntKind.i64.wrap ((c:Int)-1)=(c:Int)-1:=wq;have q2:IntKind.i64.wrap ((v:Int)+1+((c:Int)-1))=(v:Int)+(c:Int):=by rw[wq];omega
   have q3:(0:Int)<(v:Int)+1:=by omega
   (repeat (first | refine Ax_ fun K hK=> ?_ | (refine DW_r Dx_ mxd (by kernel_rfl) ?_;simp[Dx_,hnt,dNd,hlt2,hy,hy',hcn,q1,q2,q3];try simp (disch:=omega) only[Ah_]) | refine An_ ?_ | (refine AW_ ?_ ?_ ?_;(· (simp[hnt,dNd,hlt2,hy,hy',hcn,q1,q2,q3];done));(try (rotate_left;(· (intro hc;(try simp[hnt,dNd,hlt2,hy,hy',hcn,q1,q2,q3]at hc);done))))) | (refine AC_ ?_;simp[Tryz.results321,hnt,dNd,hlt2,hy,hy',hcn,q1,q2,q3]) | ((first | refine Ar_ ?_ | refine Aq_ ?_);simp[hnt,dNd,hlt2,hy,hy',hcn,q1,q2,q3]) | (intro hc;(try simp[hnt,dNd,hlt2,hy,hy',hcn,q1,q2,q3]at hc);(try (exfalso;omega))) | (refine⟨?_,?_⟩; · omega) | omega | apply_assumption -exfalso -symm | (exfalso;omega)))
   refine Ai_.mk ⟨(k+1,v+c),show k+1≤l.length∧endN (l.drop (k+1)) (v+c)=some r∧v+c≤1+(k+1)*1572864∧A≤k+1 from ⟨by omega,hw,by omega,by omega⟩⟩ (Sub.lit (by simp)) (by simp;omega)
   skip
 ·have hkk:i=ks.length:=by omega
  subst hkk;exact go0 aj0 aj0 (aj1 (@aS0.{0}))
def Xr_ : Ann:=⟨[],[]⟩
theorem QC_ (k:Int):Ac_ Tryz.prog 323 [.int .i64 k] (.str (sgn k)):=by
 refine Aa_ [] Xr_ Tryz.func323 Tryz.call323 Tryz.ntmps323 mxd (aj2 @Xr_.eq_1 Tryz.results323) rfl (by simp) (by simp[mx]) fun hwf B hnt hgAnn=> ?_
 simp only[argS];have z0:(⟨#[]⟩:ByteArray).size=0:=rfl;have z1:(⟨#[42]⟩:ByteArray).size=1:=rfl;have z2:(⟨#[43]⟩:ByteArray).size=1:=rfl;have z3:(⟨#[63]⟩:ByteArray).size=1:=rfl;have m1:1≤maxLen:=by decide
 unfold sgn
 by_cases k6:k=6
 ·exact go0 aj0 aj0 (aj6 z0 z1 z2 z3 m1 k6)
 by_cases k7:k=7
 ·exact go0 aj0 aj0 (aj7 z0 z1 z2 z3 m1 k6 k7)
 by_cases k8:k=8
 ·exact go0 aj0 aj0 (aj8 z0 z1 z2 z3 m1 k6 k7 k8)
 exact go0 aj0 aj0 (aj8 z0 z1 z2 z3 m1 k6 k7 k8)
theorem le_sum {l:List Nat} {a:Nat} (h:a∈l):a≤l.sum:=by
 induction l with
 | nil=>simp at h
 | cons b l ih =>
  rw[dJ0]
  rcases aJ0.1 h with rfl | h
  ·omega
  ·have:=ih h;omega
theorem Qf_ {pk:Int} {ks:List RT} {i:Nat} {t:RT} (h:ks[i]? =some t):txtL pk (ks.take (i+1))=txtL pk (ks.take i)++[parT pk t.x.k (txtT t)]:=by
 rw[Cw_,Cw_,bF0,h,aZ0];rfl
theorem NT_ (pk:Int) (ks:List RT):(txtL pk ks).length=ks.length:=by rw[Cw_,aK0]
theorem LH_ (t:RT):(flat t)[0]? =some t.x:=by cases t;rfl
theorem In_ {ks:List RT} {t:RT} (h:t∈ks):(flat t).length≤(Ak_ ks).length:=by
 induction ks with
 | nil=>simp at h
 | cons u ks ih =>
  rw[Al_,aD0]
  rcases aJ0.1 h with rfl | h
  ·omega
  ·have:=ih h;omega
def Ku_ : Ann:=⟨[],[⟨1,[3],[],[]⟩]⟩
set_option maxHeartbeats 8000000 in
theorem Jh_ : ∀(n:Nat) (t:RT),(flat t).length=n→okT t=true→(flat t).length≤1572864→Ac_ Tryz.prog 263 [dNds (flat t)] (.str (txtT t)):=by
 intro n
 induction n using Nat.strongRecOn with
 | ind n ih =>
 intro t hn ht hs;obtain⟨x,ks⟩:=t;have kk:=TD_ x ks ht hs;obtain⟨hm,hkn,hok⟩:=Bx_ ht;have hsz:=(Fp_ _ ht);have h0:=LH_ (.mk x ks);have hlt0:0<(flat (.mk x ks)).length:=EU_ _;have hfl:(flat (.mk x ks)).length=(Ak_ ks).length+1:=by rw[AF_,List.length_cons]
 have hkl:=DL_ ks
 have hch:∀u∈ks,Ac_ Tryz.prog 263 [dNds (flat u)] (.str (txtT u)):=fun u hu=>by
  have:=In_ hu;exact ih (flat u).length (by omega) u rfl (Oy_ hok u hu) (by omega)
 have hsj:=HB_ x.k ks hok
 have hparts:∀y∈txtL x.k ks,1≤y.size∧y.size≤67108864:=fun y hy=>by
  refine⟨hsj.2 y hy,?_⟩;have:y.size+3≤((txtL x.k ks).map fun y=>y.size+3).sum:=le_sum (aU0.2 ⟨y,hy,rfl⟩);omega
 have kj:=join_pure (txtL x.k ks) (btw x.k) (Gm_ _) (by rw[NT_];omega) hparts;have kg:=QC_ x.k;have hjs:=Gg_ (txtL x.k ks) (btw x.k) (Gm_ _);have hgs:=UB_ x.k;rw[NS_];have hbig:((txtL x.k ks).map fun y=>y.size+3).sum≤37748736:=by omega
 clear ih hn hsz;obtain⟨l,hl⟩:∃l,l=flat (.mk x ks):=⟨_,rfl⟩;rw[←hl]at kk h0 hlt0 ⊢;have h0':l[0]'hlt0=x:=(aB0.1 h0).2;have z0:(⟨#[]⟩:ByteArray).size=0:=rfl;have z1:(⟨#[37]⟩:ByteArray).size=1:=rfl;have z2:(⟨#[32]⟩:ByteArray).size=1:=rfl;have z3:(⟨#[32,124,32]⟩:ByteArray).size=3:=rfl;have z4:(⟨#[40]⟩:ByteArray).size=1:=rfl;have z5:(⟨#[41]⟩:ByteArray).size=1:=rfl;have m1:1≤maxLen:=by decide
 have m3:3≤maxLen:=by decide
 refine Aa_ [] Ku_ Tryz.func263 Tryz.call263 Tryz.ntmps263 mxd (aj2 @Ku_.eq_1 Tryz.results263) rfl (by simp) (by simp[mx]) fun hwf B hnt hgAnn=> ?_
 clear hwf;simp only[argS];obtain⟨b,hb⟩:∃b,b=btw x.k:=⟨_,rfl⟩;have hbz:b=btw x.k:=hb;rw[←hb]at kj ⊢;unfold btw at hb
 rcases Ln_ hm with k | k | k | k | k | k | k | k
 ·exact go0 (aj1 kk) aj0 (aj8 @dNd.eq_1 h0 h0' hlt0 z0 z1 m1 k)
 ·exact go0 (aj1 kk) aj0 (aj8 @dNd.eq_1 h0 h0' hlt0 z0 z1 m1 k)
 ·exact go0 (aj1 kk) aj0 (aj8 @dNd.eq_1 h0 h0' hlt0 z0 z1 m1 k)
 all_goals
  have k1:¬x.k=1:=by omega
  have k2:¬(x.k=2∨x.k=3):=by omega
  rw[if_neg k1,if_neg k2];have hb2:=hb;simp only[k]at hb2
  try simp at hb2
  (refine go1 (aj1 kk) aj0 (aj11 @dNd.eq_1 h0 h0' hlt0 z0 z1 z2 z3 m1 m3 k) ?_;intros;refine mk_i ?_)
  refine Bn_ 5 50 9 1 16 (by simp[hnt,Tryz.results263,Ku_]) (fun n=> ?_);refine Ad_ (X:={i:Nat//i≤ks.length}) (fun i=>⟨[(3,.ref [.int .i64 x.k,.str x.s,.int .i64 x.n]),(4,.str b),(5,.osl 50 1),(26,dTs ks),(27,.int .i64 ks.length),(28,.int .i64 i.1)],[⟨50,1,.row 9 1 16 ((txtL x.k (ks.take i.1)).map dStr)⟩]⟩) (fun i=>ks.length-i.1) ⟨0,by omega⟩ (Sub.lit (by simp[k,hb2,JR_])) ?_;clear hb hb2 k kk;rintro⟨i,hi⟩
  simp only
  by_cases hlt:i<ks.length
  ·obtain⟨u,hu,hu',hum⟩:=Aj_ hlt;have ku:=hch u hum;have g0:=LH_ u;have gl:0<(flat u).length:=EU_ u;have hus:=Fp_ u (Oy_ hok u hum);have hul:=In_ hum;have htk:=Qf_ (pk:=x.k) hu;have hpt:parT x.k u.x.k (txtT u)=if parB x.k u.x.k then ⟨#[40]⟩++txtT u++⟨#[41]⟩else txtT u:=rfl
   unfold parB at hpt;obtain⟨m,hm2⟩:∃m,m=flat u:=⟨_,rfl⟩;have hfm:flat u=m:=hm2.symm;rw[←hm2]at ku g0 gl hus hul;obtain⟨s,hs2⟩:∃s,s=txtT u:=⟨_,rfl⟩;rw[←hs2]at ku hus hpt htk;have g0':m[0]'gl=u.x:=(aB0.1 g0).2;obtain⟨P,hP⟩:∃P,P=parT x.k u.x.k s:=⟨_,rfl⟩;rw[←hP]at hpt htk;have hl1:(txtL x.k (ks.take i)).length=i:=by rw[NT_,bB0];omega
   obtain⟨T,hT⟩:∃T,T=txtL x.k (ks.take i):=⟨_,rfl⟩;rw[←hT]at htk hl1 ⊢;have y1:(i+1)*16≤150000000000000:=by omega
   have y2:i+1≤9223372036854775807:=by omega
   have y3:1+s.size≤maxLen:=by unfold maxLen;omega
   have y4:1+s.size+1≤maxLen:=by unfold maxLen;omega
   by_cases p5:u.x.k=5
   ·simp[p5]at hpt
    (refine go1 (aj1 ku) aj0 (aj2 (aj16 @dT.eq_1 @dNd.eq_1 hfm hlt hu hu' g0 g0' gl p5 y1 y2 y3 y4 z4 z5) (aj3 m1 hl1 @aN0)) ?_;intros;refine mk_i ?_)
    refine Ai_.mk ⟨i+1,by omega⟩ (Sub.lit (by simp[htk,hpt,dStr])) (by simp;omega)
    skip
   ·have p5':(u.x.k==5)=false:=by simpa using p5
    by_cases p4:u.x.k=4
    ·by_cases q5:x.k=5
     ·simp[p4,q5]at hpt
      (refine go1 (aj1 ku) aj0 (aj2 (aj16 @dT.eq_1 @dNd.eq_1 hfm hlt hu hu' g0 g0' gl p4 p5 p5' q5 y1 y2 y3) (aj6 y4 z4 z5 m1 hl1 @aN0)) ?_;intros;refine mk_i ?_)
      have htk5:=htk;rw[q5]at htk5;refine Ai_.mk ⟨i+1,by omega⟩ (Sub.lit (by simp[htk5,hpt,dStr,q5])) (by simp;omega)
      skip
     ·have q5':(x.k==5)=false:=by simpa using q5
      simp[p4,q5]at hpt
      (refine go1 (aj1 ku) aj0 (aj2 (aj16 @dT.eq_1 @dNd.eq_1 hfm hlt hu hu' g0 g0' gl p4 p5 p5' q5 q5' y1 y2) (aj7 y3 y4 z4 z5 m1 hl1 @aN0)) ?_;intros;refine mk_i ?_)
      refine Ai_.mk ⟨i+1,by omega⟩ (Sub.lit (by simp[htk,hpt,dStr])) (by simp;omega)
      skip
    ·have p4':(u.x.k==4)=false:=by simpa using p4
     simp[p4,p5]at hpt
     (refine go1 (aj1 ku) aj0 (aj2 (aj16 @dT.eq_1 @dNd.eq_1 hfm hlt hu hu' g0 g0' gl p4 p4' p5 p5' y1 y2 y3) (aj6 y4 z4 z5 m1 hl1 @aN0)) ?_;intros;refine mk_i ?_)
     refine Ai_.mk ⟨i+1,by omega⟩ (Sub.lit (by simp[htk,hpt,dStr])) (by simp;omega)
     skip
  ·have hkk:i=ks.length:=by omega
   subst hkk;rw[aS0];obtain⟨J,hJ⟩:∃J,J=GE_ (txtL x.k ks) b:=⟨_,rfl⟩;have hJs:J.size≤37748736:=by rw[hJ];exact Nat.le_trans (Gg_ _ _ (by rw[hbz];exact Gm_ _)) hbig
   rw[←hJ]at kj ⊢;have y5:J.size+(sgn x.k).size≤maxLen:=by unfold maxLen;omega
   refine FT_ (Sub.freezeL [50] _) ?_;simp[hnt,Tryz.results263,Ku_];exact go0 (aj2 kj kg) aj0 (aj1 y5)
def CM_ (t:RT):Int:=if 16<htT t then 171 else if 2048<(txtT t).size then 174 else 0
def Xs_ : Ann:=⟨[],[]⟩
theorem MK_ (t:RT) (ht:okT t=true) (hs:(flat t).length≤1572864):Ac_ Tryz.prog 182 [dNds (flat t)] (.int .i64 (CM_ t)):=by
 refine Aa_ [] Xs_ Tryz.func182 Tryz.call182 Tryz.ntmps182 mxd (aj2 @Xs_.eq_1 Tryz.results182) rfl (by simp) (by simp[mx]) fun hwf B hnt hgAnn=> ?_
 clear hwf;simp only[argS];have k1:=GW_ t ht hs;have k2:=Jh_ _ t rfl ht hs;unfold CM_;obtain⟨T,hT⟩:∃T,T=txtT t:=⟨_,rfl⟩;rw[←hT]at k2 ⊢
 by_cases c1:16<htT t
 ·have d1:(16:Int)<(htT t:Int):=by omega
  exact go0 (aj2 k1 k2) aj0 (aj2 c1 d1)
 ·have d1:¬(16:Int)<(htT t:Int):=by omega
  by_cases c2:2048<T.size
  ·have d2:(2048:Int)<(T.size:Int):=by omega
   exact go0 (aj2 k1 k2) aj0 (aj4 c1 d1 c2 d2)
  ·have d2:¬(2048:Int)<(T.size:Int):=by omega
   exact go0 (aj2 k1 k2) aj0 (aj4 c1 d1 c2 d2)
def Gy_ : Ann:=⟨[],[]⟩
theorem JA_ (t:RT) (ht:okT t=true) (h:(flat t).length≤2048):Ac_ Tryz.prog 101 [dNds (flat t)] (.int .i64 (CM_ t)):=by
 refine Aa_ [] Gy_ Tryz.func101 Tryz.call101 Tryz.ntmps101 mxd (aj2 @Gy_.eq_1 Tryz.results101) rfl (by simp) (by simp[mx]) fun hwf B hnt hgAnn=> ?_
 clear hwf;simp only[argS];have k1:=DS_ (flat t) (by omega);rw[Dy_ ht]at k1;have k2:=MK_ t ht (by omega);have d1:¬(2048:Int)<((flat t).length:Int):=by omega
 have d2:¬2048<(flat t).length:=by omega
 exact go0 (aj2 k1 k2) aj0 (aj2 d1 d2)
theorem JB_ (l:List Nd) (h:2048<l.length):Ac_ Tryz.prog 101 [dNds l] (.int .i64 3):=by
 refine Aa_ [] Gy_ Tryz.func101 Tryz.call101 Tryz.ntmps101 mxd (aj2 @Gy_.eq_1 Tryz.results101) rfl (by simp) (by simp[mx]) fun hwf B hnt hgAnn=> ?_
 clear hwf;simp only[argS];have d1:(2048:Int)<(l.length:Int):=by omega
 exact go0 aj0 aj0 (aj2 d1 h)
theorem Ua_ (l:List Nd) (h:l.length≤2048) (hw:CK_ l=false):Ac_ Tryz.prog 101 [dNds l] (.int .i64 170):=by
 refine Aa_ [] Gy_ Tryz.func101 Tryz.call101 Tryz.ntmps101 mxd (aj2 @Gy_.eq_1 Tryz.results101) rfl (by simp) (by simp[mx]) fun hwf B hnt hgAnn=> ?_
 clear hwf;simp only[argS];have k1:=DS_ l (by omega);rw[hw]at k1;have d1:¬(2048:Int)<(l.length:Int):=by omega
 have d2:¬2048<l.length:=by omega
 exact go0 (aj1 k1) aj0 (aj2 d1 d2)
def Kv_ : Ann:=⟨[],[]⟩
theorem Im_ (t:RT) (ht:okT t=true) (hs:(flat t).length≤1572864):Ac_ Tryz.prog 232 [dNds (flat t)] (.int .i64 (htT t)):=by
 refine Aa_ [] Kv_ Tryz.func232 Tryz.call232 Tryz.ntmps232 mxd (aj2 @Kv_.eq_1 Tryz.results232) rfl (by simp) (by simp[mx]) fun hwf B hnt hgAnn=> ?_
 clear hwf;simp only[argS];have k1:=DS_ (flat t) hs;rw[Dy_ ht]at k1;have k2:=GW_ t ht hs;exact go0 (aj2 k1 k2) aj0 aj0
theorem Ry_ (l:List Nd) (hs:l.length≤1572864) (hw:CK_ l=false):Ac_ Tryz.prog 232 [dNds l] (.int .i64 0):=by
 refine Aa_ [] Kv_ Tryz.func232 Tryz.call232 Tryz.ntmps232 mxd (aj2 @Kv_.eq_1 Tryz.results232) rfl (by simp) (by simp[mx]) fun hwf B hnt hgAnn=> ?_
 clear hwf;simp only[argS];have k1:=DS_ l hs;rw[hw]at k1;exact go0 (aj1 k1) aj0 aj0
structure At (l:List Nd) (p:Nat) (t:RT):Prop where
 ok:okT t=true
 le:p≤l.length
 eq:∃r,l.drop p=flat t++r
def kidP (p:Nat) (ks:List RT) (i:Nat):Nat:=p+1+(Ak_ (ks.take i)).length
def kidD (n:Nat):List DVal:=[.int .i64 (n:Int)]
def kidsD (p:Nat) (ks:List RT):DVal:= .sl 1 8 ((List.range ks.length).map fun i=>kidD (kidP p ks i))
@[simp] theorem mx_kidD (n:Nat):mxL (kidD n)=0:=by simp[kidD,mxL,mx]
@[simp] theorem Tr_ (p:Nat) (ks:List RT) (n:Nat):mxR ((List.range n).map fun i=>kidD (kidP p ks i))=0:=mxR0 (fun i=>kidD (kidP p ks i)) (fun i=>mx_kidD _) _
theorem At.top {t:RT} (h:okT t=true):At (flat t) 0 t:=⟨h,by omega,[],by simp⟩
theorem At.kid {l:List Nd} {p:Nat} {x:Nd} {ks:List RT} (h:At l p (.mk x ks)) {i:Nat} {u:RT} (hu:ks[i]? =some u):At l (kidP p ks i) u∧endN (l.drop (kidP p ks i)) 1=some (l.drop (kidP p ks (i+1)))∧kidP p ks (i+1)≤l.length:=by
 obtain⟨hok,hle,r,hr⟩:=h;obtain⟨_,_,h3⟩:=Bx_ hok;obtain⟨hi,rfl⟩:=aB0.1 hu;have hlen:(l.drop p).length=1+(Ak_ ks).length+r.length:=by rw[hr,AF_,aD0,List.length_cons];omega
 rw[cA0]at hlen;have hsp:=Hn_ ks i;have hdr:=aR0 hi;have hnx:=Nq_ (ks:=ks) hu;have hfl:(Ak_ ks).length=(Ak_ (ks.take i)).length+((flat ks[i]).length+(Ak_ (ks.drop (i+1))).length):=by rw[hsp,aD0,hdr,Al_,aD0]
 have hdrop:l.drop (kidP p ks i)=flat ks[i]++(Ak_ (ks.drop (i+1))++r):=by
  unfold kidP;rw[dE0,←List.drop_drop,hr,AF_,Nat.add_comm 1,List.cons_append,dT0,hsp,aT0,eL0 (Nat.le_refl _),cB0,List.nil_append,hdr,Al_,aT0]
 have hoku:okT ks[i]=true:=Oy_ h3 _ (cR0 hi);refine⟨⟨hoku,by unfold kidP;omega,_,hdrop⟩,?_,by unfold kidP;omega⟩;rw[hdrop,Eu_ _ _ 0 hoku,BG_]
 congr 1
 have h5:kidP p ks (i+1)=kidP p ks i+(flat ks[i]).length:=by unfold kidP;omega
 have h6:l.drop (kidP p ks i+(flat ks[i]).length)=(l.drop (kidP p ks i)).drop (flat ks[i]).length:=by rw[List.drop_drop]
 rw[h5,h6,hdrop,eL0 (Nat.le_refl _),cB0,List.nil_append]
theorem At.head {l:List Nd} {p:Nat} {t:RT} (h:At l p t):l[p]? =some t.x∧p<l.length∧p+(flat t).length≤l.length:=by
 obtain⟨hok,hle,r,hr⟩:=h;have h1:=EU_ t;have h2:=congrArg List.length hr;rw[cA0,aD0]at h2;refine⟨?_,by omega,by omega⟩;have h3:(l.drop p)[0]? =some t.x:=by rw[hr,bA0 (by omega)];exact LH_ t
 rw[cX0]at h3;simpa using h3
def PM_ : Ann:=⟨[],[]⟩
set_option maxHeartbeats 4000000 in
theorem Lu_ (l:List Nd) (p:Nat) (x:Nd) (ks:List RT) (h:At l p (.mk x ks)) (hs:l.length≤1572864):Ac_ Tryz.prog 205 [dNds l,.int .i64 p] (kidsD p ks):=by
 refine Aa_ [50] PM_ Tryz.func205 Tryz.call205 Tryz.ntmps205 mxd (aj2 @PM_.eq_1 Tryz.results205) rfl (by simp) (by simp[mx,kidsD]) fun hwf B hnt hgAnn=> ?_
 clear hwf;simp only[argS];obtain⟨hm,hn,hok⟩:=Bx_ h.ok;obtain⟨g0,gl,ge⟩:=h.head;have g0':l[p]'gl=x:=(aB0.1 g0).2;have hkl:ks.length≤1572864:=by have:=DL_ ks;rw[AF_,List.length_cons]at ge;omega
 simp only[RT.x]at g0;unfold kidsD
 (refine go1 aj0 aj0 aj0 ?_;intros;refine mk_i ?_)
 refine Bn_ 5 50 3 1 8 (by simp[hnt,Tryz.results205,PM_]) (fun n=> ?_);refine Ad_ (X:={i:Nat//i≤ks.length}) (fun i=>⟨[(0,dNds l),(1,.int .i64 p),(5,.osl 50 1),(6,.int .i64 (kidP p ks i.1)),(7,.int .i64 i.1)],[⟨50,1,.row 3 1 8 ((List.range i.1).map fun i=>kidD (kidP p ks i))⟩]⟩) (fun i=>ks.length-i.1) ⟨0,by omega⟩ (Sub.lit (by simp[kidP,Ak_])) ?_;rintro⟨i,hi⟩;simp only
 by_cases hlt:i<ks.length
 ·obtain⟨u,hu,hu',_⟩:=Aj_ hlt;obtain⟨a1,a2,a3⟩:=h.kid hu;have e1:=LQ_ l (kidP p ks i) hs a1.le;unfold endI at e1;rw[a2]at e1;simp only[cA0]at e1;have hq:(l.length:Int)-((l.length-kidP p ks (i+1):Nat):Int)=(kidP p ks (i+1):Int):=by omega
  rw[hq]at e1;have hr:(List.range (i+1)).map (fun i=>kidD (kidP p ks i))=(List.range i).map (fun i=>kidD (kidP p ks i))++[kidD (kidP p ks i)]:=by rw[dA0,aZ0];rfl
  have z1:(i+1)*8≤150000000000000:=by omega
  have z2:i+1≤9223372036854775807:=by omega
  obtain⟨q,hqq⟩:∃q,q=kidP p ks i:=⟨_,rfl⟩;obtain⟨q',hqq'⟩:∃q',q'=kidP p ks (i+1):=⟨_,rfl⟩;rw[←hqq,←hqq']at e1;rw[←hqq]at hr ⊢;have hDm:=Tr_ p ks i;have hDl:((List.range i).map fun i=>kidD (kidP p ks i)).length=i:=by simp
  obtain⟨D,hD⟩:∃D,D=(List.range i).map fun i=>kidD (kidP p ks i):=⟨_,rfl⟩
  rw[←hD]at hr hDm hDl ⊢;have hr2:(List.range (i+1)).map (fun i=>kidD (kidP p ks i))=D++[[.int .i64 (q:Int)]]:=hr;clear hD hr
  (refine go1 (aj1 e1) aj0 (aj9 @dNd.eq_1 g0 g0' gl hn hlt z1 z2 hDl) ?_;intros;refine mk_i ?_)
  refine Ai_.mk ⟨i+1,by omega⟩ (Sub.lit (by simp only[←hqq',hr2];simp[hDm,AY_])) (by simp;omega)
  skip
 ·have hkk:i=ks.length:=by omega
  subst hkk;exact go0 aj0 aj0 (aj5 @dNd.eq_1 g0 g0' gl hn)
theorem VF_ : ∀(a:List RT) (u:RT),htL (a++[u])=max (htL a) (htT u)
 | [],u=>by rw[List.nil_append,Gh_,LA_];omega
 | t::a,u=>by rw[List.cons_append,Gh_,VF_ a u,Gh_];omega
theorem htL_take {ks:List RT} {i:Nat} {u:RT} (h:ks[i]? =some u):htL (ks.take (i+1))=max (htL (ks.take i)) (htT u):=by
 rw[bF0,h];exact VF_ _ _
mutual
theorem ht_leT : ∀t:RT,htT t≤(flat t).length
 | .mk x ks=>by rw[VE_,AF_,List.length_cons];have:=ht_leL ks;omega
theorem ht_leL : ∀ts:List RT,htL ts≤(Ak_ ts).length
 | []=>by rw[LA_];omega
 | t::ts=>by rw[Gh_,Al_,aD0];have:=ht_leT t;have:=ht_leL ts;omega
end
theorem Pf_ (ks:List RT) (i:Nat):(Ak_ (ks.take i)).length≤(Ak_ ks).length:=by
 have:=congrArg List.length (Hn_ ks i);rw[aD0]at this;omega
theorem Vz_ {p:Nat} {ks:List RT} {i:Nat} (h:i<ks.length):((List.range ks.length).map fun i=>kidD (kidP p ks i))[i]? =some [.int .i64 (kidP p ks i:Int)]:=by
 rw[bM0,eO0 h];rfl
def Xk_ : Ann:=⟨[],[]⟩
set_option maxHeartbeats 4000000 in
theorem GV_ : ∀(n:Nat) (t:RT) (l:List Nd) (p:Nat),(flat t).length=n→At l p t→l.length≤1572864→Ac_ Tryz.prog 204 [dNds l,.int .i64 p] (.int .i64 (htT t)):=by
 intro n
 induction n using Nat.strongRecOn with
 | ind n ih =>
 intro t l p hn ht hs;obtain⟨x,ks⟩:=t;have kk:=Lu_ l p x ks ht hs;obtain⟨g0,gl,ge⟩:=ht.head;have hfl:(flat (.mk x ks)).length=(Ak_ ks).length+1:=by rw[AF_,List.length_cons]
 have hkl:=DL_ ks;have hk9:ks.length≤1572864:=by omega
 have hch:∀i u,ks[i]? =some u→Ac_ Tryz.prog 204 [dNds l,.int .i64 (kidP p ks i)] (.int .i64 (htT u)):=fun i u hu=>by
  have hm:=In_ (bL0 hu);exact ih (flat u).length (by omega) u l _ rfl (ht.kid hu).1 hs
 have hrow:∀i,i<ks.length→_:=fun i h=>Vz_ (p:=p) (ks:=ks) (i:=i) h
 have hht:htL ks≤1572864:=by have:=ht_leL ks;omega
 rw[VE_];unfold kidsD at kk;obtain⟨D,hD⟩:∃D,D=(List.range ks.length).map fun i=>kidD (kidP p ks i):=⟨_,rfl⟩
 have hDl:D.length=ks.length:=by rw[hD];simp
 have hDm:mxR D=0:=by rw[hD];exact Tr_ p ks _
 rw[←hD]at kk hrow;clear hD ih ht g0 gl ge hn;refine Aa_ [] Xk_ Tryz.func204 Tryz.call204 Tryz.ntmps204 mxd (aj2 @Xk_.eq_1 Tryz.results204) rfl (by simp) (by simp[mx]) fun hwf B hnt hgAnn=> ?_
 clear hwf;simp only[argS]
 (refine go1 (aj1 kk) aj0 aj0 ?_;intros;refine mk_i ?_)
 refine Ad_ (X:={i:Nat//i≤ks.length}) (fun i=>⟨[(0,dNds l),(5,.int .i64 (htL (ks.take i.1))),(6,.sl 1 8 D),(7,.int .i64 i.1)],[]⟩) (fun i=>ks.length-i.1) ⟨0,by omega⟩ (Sub.lit (by simp[LA_,hDm])) ?_;rintro⟨i,hi⟩;simp only
 by_cases hlt:i<ks.length
 ·obtain⟨u,hu,hu',_⟩:=Aj_ hlt;have e1:=hch i u hu;have hr:=hrow i hlt;have hltD:i<D.length:=by omega
  have hwi:IntKind.i64.wrap ((i:Int)+1)=(i:Int)+1:=wq;have hr':D[i]'hltD=[.int .i64 (kidP p ks i:Int)]:=(aB0.1 hr).2;have htk:=htL_take hu;obtain⟨a,ha⟩:∃a,a=htL (ks.take i):=⟨_,rfl⟩;obtain⟨c,hcc⟩:∃c,c=htT u:=⟨_,rfl⟩;rw[←ha,←hcc]at htk;rw[←hcc]at e1;rw[←ha];obtain⟨q,hq⟩:∃q,q=kidP p ks i:=⟨_,rfl⟩;rw[←hq]at e1 hr hr'
  by_cases hgt:a<c
  ·have hgt':(a:Int)<(c:Int):=by omega
   have hmx:((htL (ks.take (i+1)):Nat):Int)=(c:Int):=by omega
   (refine go1 (aj1 e1) aj0 (aj8 hDl hltD hwi hr hr' hgt hgt' hlt) ?_;intros;refine mk_i ?_)
   refine Ai_.mk ⟨i+1,by omega⟩ (Sub.lit (by simp only[hmx];simp[hDm])) (by simp;omega)
   skip
  ·have hgt':¬(a:Int)<(c:Int):=by omega
   have hmx:((htL (ks.take (i+1)):Nat):Int)=(a:Int):=by omega
   (refine go1 (aj1 e1) aj0 (aj8 hDl hltD hwi hr hr' hgt hgt' hlt) ?_;intros;refine mk_i ?_)
   refine Ai_.mk ⟨i+1,by omega⟩ (Sub.lit (by simp only[hmx];simp[hDm])) (by simp;omega)
   skip
 ·have hkk:i=ks.length:=by omega
  subst hkk;rw[aS0];have q1:IntKind.i64.wrap ((htL ks:Int)+1)=(htL ks:Int)+1:=wq;exact go0 aj0 aj0 (aj2 hDl q1)
end Go.Proofs.YtchgnpnbcjflcaaGreat
end
