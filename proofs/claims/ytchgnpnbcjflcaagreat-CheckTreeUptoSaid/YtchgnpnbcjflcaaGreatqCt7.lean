/- Parts of a proof, laid together: BN0, WB8, WB9, WB10, WB11, WB12, WB13, EnBo, BN1, WRn, RY1, RX2, RX3, RX4, RY2, RY3, RY4, WE0, WR2, WR3, BN3. -/
import Derived.Test.YtchgnpnbcjflcaaGreatqCt4
import Derived.Test.YtchgnpnbcjflcaaGreatqCt5
import Derived.Test.YtchgnpnbcjflcaaGreatqCt6
set_option linter.unusedSimpArgs false
set_option linter.unusedVariables false
set_option linter.unusedSectionVars false
section
namespace Go.Proofs.YtchgnpnbcjflcaaGreat
open Go Go.Dm
variable [DMode]
def Jy_ (out:List ByteArray) (s:ByteArray):List ByteArray:=if s∈out then out else out++[s]
def Ar_ (g:List Rul):List ByteArray:=(g.map (·.h)).foldl Jy_ []
theorem hStep_mem {out:List ByteArray} {s x:ByteArray}:x∈Jy_ out s↔x∈out∨x=s:=by
 unfold Jy_
 split
 ·rename_i h;exact⟨.inl,fun hh=>by rcases hh with hh | rfl;exact hh;exact h⟩
 ·simp
theorem RW_ : ∀(l out:List ByteArray) (x:ByteArray),x∈l.foldl Jy_ out↔x∈out∨x∈l
 | [],out,x=>by simp
 | s::l,out,x=>by rw[cO0,RW_ l,hStep_mem];simp[or_assoc]
theorem Me_ : ∀(l out:List ByteArray),out.Nodup→(l.foldl Jy_ out).Nodup
 | [],out,h=>h
 | s::l,out,h=>by
  rw[cO0];refine Me_ l _ ?_;unfold Jy_
  split
  ·exact h
  ·rename_i hs;exact cA0.2 ⟨h,by simp,by rintro a ha b hb rfl;simp at hb;subst hb;exact hs ha⟩
theorem RX_ : ∀(l out:List ByteArray),(l.foldl Jy_ out).length≤out.length+l.length
 | [],out=>by simp
 | s::l,out=>by
  rw[cO0];have:=RX_ l (Jy_ out s);have:(Jy_ out s).length≤out.length+1:=by unfold Jy_;split<;>simp
  simp;omega
theorem NM_ {g:List Rul} {x:ByteArray}:x∈Ar_ g↔∃r∈g,r.h=x:=by
 unfold Ar_;rw[RW_];simp
theorem JV_ (g:List Rul):(Ar_ g).Nodup:=Me_ _ _ (by simp)
theorem GN_ (g:List Rul):(Ar_ g).length≤g.length:=by have:=RX_ (g.map (·.h)) [];unfold Ar_;simpa using this
theorem Mc_ {g:List Rul} {i:Nat} {r:Rul} (h:g[i]? =some r):Ar_ (g.take (i+1))=Jy_ (Ar_ (g.take i)) r.h:=by
 unfold Ar_;rw[bF0,h,aX0,cR0];rfl
def Ch_ (k:Int) (l:List Nd):List ByteArray:=(l.filter fun x=>decide (x.k=k)).map (·.s)
def AE_ (k:Int) (g:List Rul):List ByteArray:=g.flatMap fun r=>Ch_ k r.b
theorem LK_ {k:Int} {l:List Nd} {i:Nat} {x:Nd} (h:l[i]? =some x):Ch_ k (l.take (i+1))=Ch_ k (l.take i)++(if x.k=k then [x.s]else []):=by
 unfold Ch_;rw[bF0,h,dB0,aX0]
 by_cases hx:x.k=k<;>simp[hx]
theorem LM_ {k:Int} {g:List Rul} {i:Nat} {r:Rul} (h:g[i]? =some r):AE_ k (g.take (i+1))=AE_ k (g.take i)++Ch_ k r.b:=by
 unfold AE_;rw[bF0,h,dV0];simp
theorem Zp_ (k:Int) (l:List Nd):(Ch_ k l).length≤l.length:=by
 unfold Ch_;rw[aJ0];exact cI0 _ _
def ixS (l:List ByteArray) (s:ByteArray):Nat:=l.findIdx fun x=>s==x
theorem JT_ {l:List ByteArray} {s:ByteArray} (h:s∈l):ixS l s<l.length:=List.findIdx_lt_length_of_exists ⟨s,h,by simp⟩
theorem Pl_ : ∀{l:List ByteArray} {s:ByteArray},s∈l→AQ_ (Er_ l) (.str s)=some (ixS l s)
 | [],_,h=>by simp at h
 | x::l,s,h=>by
  unfold ixS;rw[List.findIdx_cons]
  by_cases h1:s=x
  ·subst h1;simp[Cu_,AQ_,By_,eqCs,eqC]
  ·have h2:=Pl_ (l:=l) (s:=s) (by simpa[h1]using h);have h1b:(s==x)=false:=by simpa using h1
   simp[Cu_,AQ_,By_,eqCs,eqC,h1b,h2,ixS]
structure CM where
 K:List ByteArray
 V:List Int
def Up_ (m:CM) (s:ByteArray):CM:=if s∈m.K then ⟨m.K,m.V.set (ixS m.K s) (IntKind.i64.wrap (m.V.getD (ixS m.K s) 0+1))⟩else ⟨m.K++[s],m.V++[1]⟩
def cntL (es:List ByteArray):CM:=es.foldl Up_ ⟨[],[]⟩
theorem cntL_snoc (es:List ByteArray) (s:ByteArray):cntL (es++[s])=Up_ (cntL es) s:=by unfold cntL;rw[cR0];rfl
structure CMok (m:CM) (es:List ByteArray):Prop where
 len:m.K.length=m.V.length
 mem:∀s,s∈m.K↔s∈es
 nd:m.K.Nodup
 le:m.K.length≤es.length
theorem CMok.step {m:CM} {es:List ByteArray} (h:CMok m es) (s:ByteArray):CMok (Up_ m s) (es++[s]):=by
 unfold Up_
 split
 ·rename_i hs;refine⟨by simp[h.len],fun x=> ?_,h.nd,by have:=h.le;simp;omega⟩;rw[h.mem x,aI0];exact⟨.inl,fun hh=>by rcases hh with hh | hh;exact hh;simp at hh;subst hh;exact(h.mem x).1 hs⟩
 ·rename_i hs;refine⟨by simp[h.len],fun x=>by simp[h.mem x],?_,by have:=h.le;simp;omega⟩;exact cA0.2 ⟨h.nd,by simp,by rintro a ha b hb rfl;simp at hb;subst hb;exact hs ha⟩
theorem cnt_ok (es:List ByteArray):CMok (cntL es) es:=by
 have key:∀(l:List ByteArray) (m:CM) (es:List ByteArray),CMok m es→CMok (l.foldl Up_ m) (es++l):=by
  intro l
  induction l with
  | nil=>intro m es h;simpa using h
  | cons s l ih =>
   intro m es h;have:=ih (Up_ m s) (es++[s]) (h.step s);simpa using this
 have:=key es ⟨[],[]⟩ [] ⟨rfl,by simp,by simp,by simp⟩;simpa[cntL]using this
def Ao_ (g:List Rul):List ByteArray:=FH_ (AE_ 3 g)
def Do_ (g:List Rul):List ByteArray:=(FH_ (AE_ 2 g)).filter fun s=> !decide (s∈Ar_ g)
theorem miss_len {g:List Rul} {K:List ByteArray} (hn:K.Nodup) (hm:∀s,s∈K↔s∈AE_ 2 g∧¬s∈Ar_ g):K.length=(Do_ g).length:=by
 refine List.Perm.length_eq ((List.perm_ext_iff_of_nodup hn ?_).2 fun s=> ?_)
 ·unfold Do_;exact List.Pairwise.filter _ ((GA_ _).1.imp fun {a b} h e=>by subst e;rw[DS_]at h;simp at h)
 ·unfold Do_;rw[hm s,cN0,(GA_ _).2];simp
abbrev GT := List (ByteArray×RT)
def mkG (gt:GT):List Rul:=gt.map fun p=>⟨p.1,flat p.2⟩
def OkG (gt:GT):Prop:=∀p∈gt,DQ_ 2 p.1=true∧okT p.2=true
def EB_ (g:List Rul):Bool:=g.all fun r=>DQ_ 2 r.h&&CO_ r.b
theorem UK_ : ∀{g:List Rul},EB_ g=true→∃gt,g=mkG gt∧OkG gt
 | [],_=>⟨[],rfl,by intro p hp;simp at hp⟩
 | r::g,h=>by
  unfold EB_ at h;rw[dC0,aN0,aN0]at h;obtain⟨gt,rfl,hg⟩:=UK_ (g:=g) h.2;obtain⟨t,ht,hb⟩:=Jj_ h.1.2;refine⟨(r.h,t)::gt,by cases r;simp only at hb;subst hb;rfl,fun p hp=> ?_⟩
  rcases aK0.1 hp with rfl | hp
  ·exact⟨h.1.1,ht⟩
  ·exact hg p hp
theorem VR_ {gt:GT} (h:OkG gt):EB_ (mkG gt)=true:=by
 unfold EB_ mkG;rw[List.all_map,bA0];intro p hp;obtain⟨h1,h2⟩:=h p hp;simp[h1,DL_ h2]
def occG (g:List Rul):Nat:=(g.map fun r=>occN r.b).sum
def Hl_ (gt:GT):Bool:=gt.any fun p=>decide (16<htT p.2)
def Kf_ (p:ByteArray×RT):ByteArray:=p.1++⟨#[32,61,32]⟩++txtT p.2++⟨#[32,59,10]⟩
def Cj_ (gt:GT):ByteArray:=gt.foldl (fun s p=>s++Kf_ p) ⟨#[]⟩
theorem EC_ {gt:GT} {i:Nat} {p:ByteArray×RT} (h:gt[i]? =some p):Cj_ (gt.take (i+1))=Cj_ (gt.take i)++Kf_ p:=by
 unfold Cj_;rw[bF0,h,cR0];rfl
theorem Ij_ (gt:GT) (i:Nat):(Cj_ (gt.take i)).size≤(Cj_ gt).size:=by
 have key:∀(l:GT) (s:ByteArray),s.size≤(l.foldl (fun s p=>s++Kf_ p) s).size:=by
  intro l
  induction l with
  | nil=>intro s;simp
  | cons p l ih=>intro s;rw[cO0];have:=ih (s++Kf_ p);rw[aS0]at this;omega
 unfold Cj_
 conv=>rhs;rw[←List.take_append_drop i gt,cR0]
 exact key _ _
def PV_ (gt:GT):Int :=
 if 16<(Ar_ (mkG gt)).length+(Do_ (mkG gt)).length then 181
 else if 16<(Ao_ (mkG gt)).length then 182
 else if 64<occG (mkG gt)then 183
 else if Hl_ gt then 171
 else if 0<(Do_ (mkG gt)).length then 184
 else if 2048<(Cj_ gt).size then 174
 else 0
mutual
theorem SZ_ : ∀(t:RT),okT t=true→(flat t).length≤(txtT t).size
 | .mk x ks,h=>by
  obtain⟨h1,h2,h3⟩:=Bx_ h;rw[Or_,AB_,List.length_cons]
  by_cases k1:x.k=1
  ·rw[if_pos k1]
   have:x.n=0:=by
    unfold mayN at h1;rw[if_pos k1]at h1;simp only[aN0,decide_eq_true_eq]at h1;exact h1.2
   have hks:ks=[]:=bO0 (by omega);subst hks;rw[Am_];decide
  ·rw[if_neg k1]
   by_cases k2:x.k=2∨x.k=3
   ·rw[if_pos k2];have:=RE_ h1 k2
    have hn:x.n=0:=by
     unfold mayN at h1
     rcases k2 with k2 | k2
     ·rw[if_neg (by omega),if_pos k2]at h1;simp only[aN0,decide_eq_true_eq]at h1;exact h1.1
     ·rw[if_neg (by omega),if_neg (by omega),if_pos k2]at h1;simp only[aN0,decide_eq_true_eq]at h1;exact h1.1
    have hks:ks=[]:=bO0 (by omega);subst hks;rw[Am_];simp;omega
   ·rw[if_neg k2,aS0];have hj:=txt_geL x.k ks h3;have hn:=LQ_ h1 k1 k2
    rcases ID_ h1 with k | k | k | k | k | k | k | k
    ·exact absurd k k1
    ·exact absurd (.inl k) k2
    ·exact absurd (.inr k) k2
    ·have hb:1≤(btw x.k).size:=by unfold btw;rw[k];decide
     have h5:2≤x.n:=by unfold mayN at h1;simp[k]at h1;exact h1.2
     have:=TR_ (btw x.k) (txtL x.k ks) (by rw[CC_,aJ0];omega);rw[CC_,aJ0,←CC_]at this;have h6:1*(ks.length-1)≤(btw x.k).size*(ks.length-1):=aO0 _ hb;omega
    ·have hb:1≤(btw x.k).size:=by unfold btw;rw[k];decide
     have h5:2≤x.n:=by unfold mayN at h1;simp[k]at h1;exact h1.2
     have:=TR_ (btw x.k) (txtL x.k ks) (by rw[CC_,aJ0];omega);rw[CC_,aJ0,←CC_]at this;have h6:1*(ks.length-1)≤(btw x.k).size*(ks.length-1):=aO0 _ hb;omega
    all_goals
     have hs:(sgn x.k).size=1:=by unfold sgn;rw[k];decide
     have:=TR_ (btw x.k) (txtL x.k ks) (by rw[CC_,aJ0];omega);omega
theorem txt_geL : ∀(pk:Int) (ts:List RT),okL ts=true→(Am_ ts).length≤((txtL pk ts).map (·.size)).sum
 | pk,[],_=>by simp[Am_]
 | pk,t::ts,h=>by
  obtain⟨h1,h2⟩:=AZ_ h;have a:=SZ_ t h1;have b:=txt_geL pk ts h2;have c:=(IA_ pk t.x.k (txtT t)).1;rw[EA_,An_,List.map_cons,dH0,aC0];omega
theorem TR_ (sep:ByteArray):∀(xs:List ByteArray),1≤xs.length→(xs.map (·.size)).sum+sep.size*(xs.length-1)≤(Hj_ xs sep).size
 | [],h=>by simp at h
 | x::r,_=>by
  have key:∀(r:List ByteArray) (x:ByteArray),x.size+(r.map (·.size)).sum+sep.size*r.length≤(r.foldl (DF_ sep) x).size:=by
   intro r
   induction r with
   | nil=>intro x;simp
   | cons y r ih =>
    intro x;have:=ih (DF_ sep x y);rw[Jw_]at this;rw[cO0,List.map_cons,dH0,List.length_cons,Nat.mul_add];omega
  have:=key r x
  show _≤(r.foldl (DF_ sep) x).size
  simp only[List.map_cons,dH0,List.length_cons,Nat.add_sub_cancel];omega
end
theorem US_ {gt:GT} {p:ByteArray×RT} (h:p∈gt):(txtT p.2).size≤(Cj_ gt).size:=by
 obtain⟨i,hi,rfl⟩:=bN0 h;have h1:=EC_ (aH0 hi);have h2:=Ij_ gt (i+1);rw[h1,aS0]at h2;unfold Kf_ at h2;simp only[aS0]at h2;omega
end Go.Proofs.YtchgnpnbcjflcaaGreat
end
section
namespace Go.Proofs.YtchgnpnbcjflcaaGreat
open Go Go.Dm
variable [DMode]
attribute [local irreducible] DW Bj_ Bp_
set_option maxRecDepth 100000


theorem size3 : (⟨#[32,59,10]⟩:ByteArray).size=3:=rfl
theorem size1 : (⟨#[32]⟩:ByteArray).size=1:=rfl
structure SmallG (g:Edges):Prop where
 n1:g.nodes.length≤32
 n2:∀n∈g.nodes,n.size≤16
 e1:g.edges.length≤256
 e2:∀e∈g.edges,e.fr.size≤16∧e.lb.size≤16∧e.to.size≤16

def SM_ : Ann:=⟨[],[]⟩
def Fv_ : Ann:=⟨[5],[]⟩
theorem Mx_ (l:List ByteArray):Ac_ Tryz.prog 100 [AS_ l] (AS_ l):=by
 match l with
 | [] =>
  refine Qv_ [] ?_ ?_
  ·refine Aa_ [7] SM_ Tryz.func100 Tryz.call100 Tryz.ntmps100 mxd (aj2 @SM_.eq_1 Tryz.results100) rfl (by simp) (by simp[mx,mxR]) fun hwf B hnt hgAnn=> ?_
   simp only[argS,List.nil_append,AS_,List.map_cons];exact go0 aj0 aj0 aj0
  ·refine Aa_ [7,5] Fv_ Tryz.func100 Tryz.call100 Tryz.ntmps100 mxd (aj2 @Fv_.eq_1 Tryz.results100) rfl (by simp) (by simp[mx,mxR]) fun hwf B hnt hgAnn=> ?_
   simp only[argS,List.nil_append,AS_,List.map_cons];exact go0 aj0 aj0 aj0
 | s::l =>
  refine Aa_ [7,5] Fv_ Tryz.func100 Tryz.call100 Tryz.ntmps100 mxd (aj2 @Fv_.eq_1 Tryz.results100) rfl (by simp) (by simp[mx,mxR]) fun hwf B hnt hgAnn=> ?_
  have hsz:(s::l).length*16≤150000000000000:=by have:=hwf.1;simp only[wfD,aJ0]at this;exact this.1
  clear hwf;have z2:(s::l).length≤9223372036854775807:=by omega
  simp only[List.length_cons]at hsz z2;simp only[argS,List.nil_append,AS_,List.map_cons];exact go0 aj0 aj0 (aj2 hsz z2)
def Gi_ (l:List Int):List DVal:=l.map fun n=> .int .i64 n
theorem intsV_set (l:List Int) (j:Nat) (n:Int):(Gi_ l).set j (.int .i64 n)=Gi_ (l.set j n):=by simp[Gi_,eI0]
theorem intsV_app (l:List Int) (n:Int):Gi_ l++[.int .i64 n]=Gi_ (l++[n]):=by simp[Gi_]
@[simp] theorem mxL_ints (l:List Int):mxL (Gi_ l)=0:=by
 unfold Gi_
 induction l with
 | nil=>rfl
 | cons a l ih=>simp[mxL,mx,ih]
structure Cnt (K:List ByteArray) (V:List Int) (es:List ByteArray):Prop where
 len:K.length=V.length
 mem:∀s,s∈K↔s∈es
 val:∀v∈V,1≤v∧v≤es.length
theorem strsD_app (l:List ByteArray) (s:ByteArray):Er_ l++[.str s]=Er_ (l++[s]):=by simp[Er_]
theorem Cnt.step {K:List ByteArray} {V:List Int} {es:List ByteArray} (h:Cnt K V es) (s:ByteArray) :
  (∃j d,AQ_ (Er_ K) (.str s)=some j∧(Gi_ V)[j]? =some (.int .i64 d)∧1≤d∧d≤es.length∧Cnt K (V.set j (d+1)) (es++[s])) ∨
  (AQ_ (Er_ K) (.str s)=none∧Cnt (K++[s]) (V++[1]) (es++[s])):=by
 by_cases hs:s∈K
 ·obtain⟨j,h1,h2⟩:=NJ_ hs;have h3:j<V.length:=by rw[←h.len];exact h2
  have hv:=h.val V[j] (cY0 h3);refine .inl ⟨j,V[j],h1,by simp[Gi_,h3],hv.1,hv.2,by simp[h.len],fun x=> ?_,fun v hv'=> ?_⟩
  ·rw[h.mem x,aI0]
   constructor
   ·exact .inl
   ·rintro (hx | hx)
    ·exact hx
    ·simp only[aE0]at hx;subst hx;exact(h.mem x).1 hs
  ·rcases List.mem_or_eq_of_mem_set hv' with h4 | rfl
   ·have:=h.val v h4;simp;omega
   ·simp;omega
 ·refine .inr ⟨GI_ hs,by simp[h.len],fun x=>by simp[h.mem x],fun v hv=> ?_⟩
  rcases aI0.1 hv with h4 | h4
  ·have:=h.val v h4;simp;omega
  ·simp only[aE0]at h4;subst h4;simp;omega
end Go.Proofs.YtchgnpnbcjflcaaGreat
end
section
namespace Go.Dm
variable [DMode]
def YQ_ : DVal→Bool
 | .bool _=>true
 | .int _ _=>true
 | .str _=>true
 | .nilp=>true
 | .nilsl=>true
 | .any=>true
 | _=>false
theorem rd_simp {d:DVal} (hd:YQ_ d=true) {cur cur':Cur} {M M':List Nat} {h h':Array Obj} {v:Value} (hr:rd cur M h d v):rd cur' M' h' d v:=by
 cases d<;>simp only[YQ_,aL0]at hd<;>simp only[rd]at hr ⊢ <;>exact hr
theorem OJ_ : ∀{ds:List DVal} (hd:ds.all YQ_=true) {cur cur':Cur} {M M':List Nat} {h h':Array Obj} {vs:List Value} (_:rdV cur M h ds vs),rdV cur' M' h' ds vs
 | [],_,_,_,_,_,_,_,vs,hr=>by simpa only[rdV]using hr
 | d::ds,hd,_,_,_,_,_,_,vs,hr=>by
  rw[dC0,aN0]at hd;simp only[rdV]at hr ⊢;obtain⟨v,r,rfl,h1,h2⟩:=hr;exact⟨v,r,rfl,rd_simp hd.1 h1,OJ_ hd.2 h2⟩
def simpT : DVal→Bool
 | .tup ds=>ds.all YQ_
 | .agg ds=>ds.all YQ_
 | d=>YQ_ d
theorem rd_simpT {d:DVal} (hd:simpT d=true) {cur cur':Cur} {M M':List Nat} {h h':Array Obj} {v:Value} (hr:rd cur M h d v):rd cur' M' h' d v:=by
 cases d
 case tup ds =>
  simp only[simpT]at hd;simp only[rd]at hr ⊢;obtain⟨us,rfl,h1⟩:=hr;exact⟨us,rfl,OJ_ hd h1⟩
 case agg ds =>
  simp only[simpT]at hd;simp only[rd]at hr ⊢;obtain⟨us,rfl,h1⟩:=hr;exact⟨us,rfl,OJ_ hd h1⟩
 all_goals exact rd_simp (by simpa only[simpT]using hd) hr
theorem On_ {P:Program} {f:FuncId} {k bs:Nat} {et:TypeId} {es:List (List DVal)} {rest:List DVal} {d:DVal} (hd:simpT d=true) (hp:Ac_ P f (.sl k bs es::rest) d) :
  AM_ P (.func f) (.osl 0 0::rest) [⟨0,0,.row et k bs es⟩] d [⟨0,0,.row et k bs es⟩]:=by
 obtain⟨hen,_,hc⟩:=hp;refine⟨by simp,hen,fun M w loc vs S hr=>⟨hen,?_⟩⟩;simp only[rdV]at hr;obtain⟨v0,r0,hvs,h0,hrest⟩:=hr;simp only[rd]at h0;have hv0:=h0 (loc 0) rfl;have hk:=S.ok ⟨0,0,.row et k bs es⟩ (by simp);have hap:=S.ap
 have W:Weak (Ai_ [(⟨0,0,.row et k bs es⟩:Ent)] loc) (Ai_ [(⟨0,0,.row et k bs es⟩:Ent)] loc) (Ab_ [(⟨0,0,.row et k bs es⟩:Ent)] loc++M) M w.heap w.heap (max (mxR es) (mxL rest)) :=
  ⟨fun _ _ _ _ h=>h,fun _ _ _ _ h=>h,fun b _ hb _ _ hm=>hb (aP0 _ hm)⟩
 refine(hc (Ai_ [(⟨0,0,.row et k bs es⟩:Ent)] loc) M w vs (fun b hb=>S.lt b (aP0 _ hb)) ?_).mono ?_
 ·rw[hvs];simp only[rdV];refine⟨v0,r0,rfl,?_,AG_ W _ _ (by omega) hrest⟩;simp only[rd];obtain⟨hz,h⟩:=hk
  rcases h with ⟨he,_,h2⟩ | ⟨b,arr,cap,h1,h2,h3,h4,h5,h6,h7⟩
  ·subst he;rw[hv0,h2];exact⟨none,0,by simp,by simp,by simp,hz,.inl ⟨rfl,fun _=>rfl⟩⟩
  ·rw[hv0,h2];refine⟨some ⟨b,0,none⟩,cap,rfl,h4,h5,hz,.inr ⟨b,0,arr,et,(0,0),rfl,hap b ?_,h3,BT_ W k es arr 0 (by omega) h7⟩⟩;simp[Ab_,h1]
 ·rintro e w' ⟨v,rfl,hu,hrd⟩;exact⟨v,rfl,loc,S.keep hu,hu.nil,fun b hb=> .inl hb,fun e he _=>AA_ S.nd he,rd_simpT hd hrd⟩
theorem DW_nilS {P:Program} {B:Base} {Q:Exit→DS→Prop} {s:DS} {x:Code} (i k bs:Nat) (h:getS s.slots i= .nilsl) (hw:DW P B x Q ⟨(i,.sl k bs [])::s.slots,s.own⟩):DW P B x Q s:=by
 refine EP_ (s':=⟨(i,.sl k bs [])::s.slots,s.own⟩) (fun a w loc R=>⟨loc,R.st,R.upd,R.new,R.ver,fun j=> ?_,R.nt,R.df⟩) hw;simp only[getS]
 split
 ·rename_i hj;subst hj;have:=R.sl j;rw[h]at this;simp only[rd]at this ⊢;rw[this];exact⟨none,0,by simp,by simp,by simp,by simp,.inl ⟨by simp,fun _=>rfl⟩⟩
 ·exact R.sl j
end Go.Dm
end
section
namespace Go.Proofs.YtchgnpnbcjflcaaGreat
open Go Go.Dm
variable [DMode]
attribute [local irreducible] DW Bj_ Bp_
set_option maxRecDepth 100000
theorem Zf_ {l:List ByteArray} {s:ByteArray}:decide (0≤Cl_ l s)=decide (s∈l):=by
 refine decide_eq_decide.2 ?_;unfold Cl_
 by_cases h:s∈l
 ·rw[if_pos (bZ0.2 ⟨s,h,by simp⟩)];simp only[h,iff_true];omega
 ·rw[if_neg (fun hh=>h (by obtain⟨x,hx,hs⟩:=bZ0.1 hh;simp at hs;subst hs;exact hx))];simp[h]
theorem FE_ (l:List ByteArray) (s:ByteArray):Ac_ Tryz.prog 154 [AS_ l,.str s] (.bool (decide (s∈l))):=by
 rw[←Zf_];exact Dz_ l s
theorem Ne_ (l:List ByteArray) (s:ByteArray):AM_ Tryz.prog (.func 154) [.osl 0 0,.str s] [⟨0,0,.row 9 1 16 (l.map dStr)⟩] (.bool (decide (s∈l))) [⟨0,0,.row 9 1 16 (l.map dStr)⟩] :=
 On_ rfl (FE_ l s)
def Uy_ : Ann:=⟨[15],[⟨4,[5],[],[]⟩]⟩
set_option maxHeartbeats 1000000 in
theorem Gm_ (g:List Rul):Ac_ Tryz.prog 91 [Av_ g] (AS_ (Ar_ g)):=by
 refine Aa_ [3] Uy_ Tryz.func91 Tryz.call91 Tryz.ntmps91 mxd (aj2 @Uy_.eq_1 Tryz.results91) rfl (by simp) (by simp[mx]) fun hwf B hnt hgAnn=> ?_
 have hs:g.length*40≤150000000000000:=by have:=hwf.1;simp only[wfD,aJ0]at this;exact this.1
 clear hwf;simp only[argS]
 (refine go1 aj0 aj0 aj0 ?_;intros;refine mk_i ?_)
 refine AV_ 3 3 9 1 16 (by simp[hnt,Tryz.results91,Uy_]) (fun n=> ?_);refine Ae_ (X:={i:Nat//i≤g.length}) (fun i=>⟨[(0,Av_ g),(3,.osl 3 1),(6,Av_ g),(7,.int .i64 g.length),(8,.int .i64 i.1)],[⟨3,1,.row 9 1 16 ((Ar_ (g.take i.1)).map dStr)⟩]⟩) (fun i=>g.length-i.1) ⟨0,by omega⟩ (Sub.lit (by simp[Ar_])) ?_;rintro⟨i,hi⟩;simp only
 by_cases hlt:i<g.length
 ·obtain⟨r,hr,hr',hrm⟩:=Ak_ hlt;have htk:=Mc_ hr;have hl:=GN_ (g.take i);rw[aY0]at hl;obtain⟨T,hT⟩:∃T,T=Ar_ (g.take i):=⟨_,rfl⟩;rw[←hT]at htk hl ⊢;have e1:=Ne_ T r.h;have z1:(T.length+1)*16≤150000000000000:=by omega
  have z2:T.length+1≤9223372036854775807:=by omega
  unfold Jy_ at htk
  by_cases hm:r.h∈T
  ·rw[if_pos hm]at htk;rw[decide_eq_true hm]at e1
   (refine go1 aj0 (aj1 (spc [(3,0)] [] e1)) (aj4 @dRul.eq_1 hlt hr hr') ?_;intros;refine mk_i ?_)
   refine Aj_.mk ⟨i+1,by omega⟩ (Sub.lit (by simp[htk])) (by simp;omega)
   skip
  ·rw[if_neg hm]at htk;rw[decide_eq_false hm]at e1
   (refine go1 aj0 (aj1 (spc [(3,0)] [] e1)) (aj6 @dRul.eq_1 hlt hr hr' z1 z2) ?_;intros;refine mk_i ?_)
   refine Aj_.mk ⟨i+1,by omega⟩ (Sub.lit (by simp[htk,dStr])) (by simp;omega)
   skip
 ·have hkk:i=g.length:=by omega
  subst hkk;rw[aQ0];exact go0 aj0 aj0 aj0
abbrev dCM (m:CM):DObj:= .map (Er_ m.K) (Gi_ m.V)
def Yw_ : Ann:=⟨[],[⟨4,[7],[],[]⟩,⟨7,[9],[],[]⟩]⟩
set_option maxHeartbeats 2000000 in
theorem IC_ (g:List Rul) (k:Int):AM_ Tryz.prog (.func 176) [Av_ g,.int .i64 k] [] (.omp 0 1) [⟨0,1,dCM (cntL (AE_ k g))⟩]:=by
 refine AP_ [] [(10,0,1)] Yw_ Tryz.func176 Tryz.call176 Tryz.ntmps176 mxd (aj2 @Yw_.eq_1 Tryz.results176) rfl (by simp) (by simp) (by simp) fun hwf B hnt hgAnn=> ?_
 have hwl:=IH_ hwf.1
 have hwb:∀r∈g,r.b.length<9223372036854775807:=fun r hr=>by
  have h1:=hwf.1;obtain⟨i,hi,rfl⟩:=bN0 hr;have h2:wfR (g.map dRul):=by simp only[wfD]at h1;exact h1.2.2
  have h3:=UE_ h2 (aH0 hi);simp only[dRul,wfL]at h3;exact Pm_ h3.2.1
 clear hwf;simp only[argS,List.nil_append]
 (refine go1 aj0 aj0 aj0 ?_;intros;refine mk_i ?_)
 refine Ae_ (X:={i:Nat//i≤g.length}) (fun i=>⟨[(0,Av_ g),(1,.int .i64 k),(5,.omp 10 1),(11,Av_ g),(12,.int .i64 g.length),(13,.int .i64 i.1)],[⟨10,1,dCM (cntL (AE_ k (g.take i.1)))⟩]⟩) (fun i=>g.length-i.1) ⟨0,by omega⟩ (Sub.lit (by simp[AE_,cntL,Er_,Gi_])) ?_;rintro⟨i,hi⟩;simp only
 by_cases hlt:i<g.length
 ·obtain⟨r,hr,hr',hrm⟩:=Ak_ hlt;have htk:=LM_ (k:=k) hr;have hrl:=hwb r hrm;obtain⟨N,hN⟩:∃N,N=AE_ k (g.take i):=⟨_,rfl⟩;rw[←hN]at htk ⊢
  (refine go1 aj0 aj0 (aj4 @dRul.eq_1 hlt hr hr') ?_;intros;refine mk_i ?_)
  refine Ae_ (X:={j:Nat//j≤r.b.length}) (fun j=>⟨[(0,Av_ g),(1,.int .i64 k),(5,.omp 10 1),(11,Av_ g),(12,.int .i64 g.length),(13,.int .i64 i),(18,dNds r.b),(19,.int .i64 r.b.length),(20,.int .i64 j.1)],[⟨10,1,dCM (cntL (N++Ch_ k (r.b.take j.1)))⟩]⟩) (fun j=>r.b.length-j.1) ⟨0,by omega⟩ (Sub.lit (by simp[Ch_])) ?_;rintro⟨j,hj⟩;simp only
  by_cases hlt2:j<r.b.length
  ·obtain⟨x,hx,hx',hxm⟩:=Ak_ hlt2;have htj:=LK_ (k:=k) hx;obtain⟨E,hE⟩:∃E,E=N++Ch_ k (r.b.take j):=⟨_,rfl⟩;have hE2:N++Ch_ k (r.b.take (j+1))=E++(if x.k=k then [x.s]else []):=by rw[htj,hE,aU0]
   rw[←hE]
   by_cases hk:x.k=k
   ·rw[if_pos hk]at hE2;have hst:=cntL_snoc E x.s;have hok:=cnt_ok E;obtain⟨⟨Ks,V⟩,hm⟩:∃m,m=cntL E:=⟨_,rfl⟩;rw[←hm]at hst hok ⊢;have hks:=keyStrs Ks;unfold Up_ at hst;simp only at hst
    by_cases hs:x.s∈Ks
    ·rw[if_pos hs]at hst;have l1:=Pl_ hs;have l3:ixS Ks x.s<V.length:=by have:=JT_ hs;have:=hok.len;simp only at this;omega
     have v1:(Gi_ V)[ixS Ks x.s]? =some (.int .i64 (V.getD (ixS Ks x.s) 0)):=by simp[Gi_,l3]
     obtain⟨q,hq⟩:∃q,q=IntKind.i64.wrap (V.getD (ixS Ks x.s) 0+1):=⟨_,rfl⟩;have hq2:IntKind.i64.wrap (V.getD (ixS Ks x.s) 0+1)=q:=hq.symm;rw[hq2]at hst;obtain⟨c,hcc⟩:∃c,c=V.getD (ixS Ks x.s) 0:=⟨_,rfl⟩;rw[←hcc]at v1 hq2;have st1:=intsV_set V (ixS Ks x.s) q;obtain⟨ix,hix⟩:∃ix,ix=ixS Ks x.s:=⟨_,rfl⟩;rw[←hix]at l1 v1 st1 hst
     (refine go1 aj0 aj0 (aj10 @dNd.eq_1 hlt2 hx hx' hk hks l1 v1 hq2 st1) ?_;intros;refine mk_i ?_)
     refine Aj_.mk ⟨j+1,by omega⟩ (Sub.lit (by simp only[hE2,hst];simp)) (by simp;omega)
     skip
    ·rw[if_neg hs]at hst;have l1:=GI_ hs;have st1:=intsV_app V 1;have sk1:=strsD_app Ks x.s
     (refine go1 aj0 aj0 (aj9 @dNd.eq_1 hlt2 hx hx' hk hks l1 st1 sk1) ?_;intros;refine mk_i ?_)
     refine Aj_.mk ⟨j+1,by omega⟩ (Sub.lit (by simp only[hE2,hst];simp)) (by simp;omega)
     skip
   ·have hk':(x.k==k)=false:=by simpa using hk
    rw[if_neg hk,bM0]at hE2
    (refine go1 aj0 aj0 (aj6 @dNd.eq_1 hlt2 hx hx' hk hk') ?_;intros;refine mk_i ?_)
    refine Aj_.mk ⟨j+1,by omega⟩ (Sub.lit (by simp only[hE2];simp)) (by simp;omega)
    skip
  ·have hkk:j=r.b.length:=by omega
   subst hkk;rw[aQ0]
   (refine go1 aj0 aj0 aj0 ?_;intros;refine mk_i ?_)
   refine Aj_.mk ⟨i+1,by omega⟩ (Sub.lit (by simp only[htk];simp)) (by simp;omega)
   skip
 ·have hkk:i=g.length:=by omega
  subst hkk;rw[aQ0];exact go0 aj0 aj0 aj0
def delCM (m:CM) (s:ByteArray):CM:=if s∈m.K then ⟨m.K.eraseIdx (ixS m.K s),m.V.eraseIdx (ixS m.K s)⟩else m
structure DelOk (m0 m:CM) (hs:List ByteArray):Prop where
 len:m.K.length=m.V.length
 mem:∀s,s∈m.K↔s∈m0.K∧¬s∈hs
 nd:m.K.Nodup
theorem erase_mem {l:List ByteArray} (hn:l.Nodup) {s x:ByteArray} (hs:s∈l):x∈l.eraseIdx (ixS l s)↔x∈l∧x≠s:=by
 have hi:=JT_ hs
 have hv:l[ixS l s]=s:=by
  have:=List.findIdx_getElem (xs:=l) (p:=fun x=>s==x) (w:=hi);simp at this;exact this.symm
 rw[List.mem_eraseIdx_iff_getElem]
 constructor
 ·rintro⟨i,hil,hne,rfl⟩;refine⟨cY0 hil,fun e=>hne ?_⟩;exact(List.getElem_inj hn).1 (e.trans hv.symm)
 ·rintro⟨hx,hne⟩;obtain⟨i,hil,rfl⟩:=bN0 hx;refine⟨i,hil,fun e=>hne ?_,rfl⟩;subst e;exact hv
theorem DelOk.step {m0 m:CM} {hs:List ByteArray} (h:DelOk m0 m hs) (s:ByteArray):DelOk m0 (delCM m s) (hs++[s]):=by
 unfold delCM
 split
 ·rename_i hm;refine⟨?_,fun x=> ?_,h.nd.sublist (List.eraseIdx_sublist _ _)⟩
  ·have:=JT_ hm;rw[List.length_eraseIdx_of_lt this,List.length_eraseIdx_of_lt (by have:=h.len;omega),h.len]
  ·simp only;rw[erase_mem h.nd hm,h.mem x,aI0,aE0]
   constructor
   ·rintro⟨⟨a,b⟩,c⟩;exact⟨a,fun hh=>by rcases hh with hh | hh;exact b hh;exact c hh⟩
   ·rintro⟨a,b⟩;exact⟨⟨a,fun hh=>b (.inl hh)⟩,fun hh=>b (.inr hh)⟩
 ·rename_i hm;refine⟨h.len,fun x=> ?_,h.nd⟩;rw[h.mem x,aI0,aE0]
  constructor
  ·rintro⟨a,b⟩;exact⟨a,fun hh=>by rcases hh with hh | hh;exact b hh;subst hh;exact hm ((h.mem x).2 ⟨a,b⟩)⟩
  ·rintro⟨a,b⟩;exact⟨a,fun hh=>b (.inl hh)⟩
theorem TS_ (V:List Int) (j:Nat):(Gi_ V).eraseIdx j=Gi_ (V.eraseIdx j):=by unfold Gi_;rw[Gd_]
theorem Tk_ (V:List ByteArray) (j:Nat):(Er_ V).eraseIdx j=Er_ (V.eraseIdx j):=by unfold Er_;rw[Gd_]
def Yv_ : Ann:=⟨[7],[⟨4,[5],[],[]⟩]⟩
set_option maxHeartbeats 2000000 in
theorem Ga_ (g:List Rul) (hn:(AE_ 2 g).length≤9223372036854775807):Ac_ Tryz.prog 234 [Av_ g] (.int .i64 (Do_ g).length):=by
 refine Aa_ [] Yv_ Tryz.func234 Tryz.call234 Tryz.ntmps234 mxd (aj2 @Yv_.eq_1 Tryz.results234) rfl (by simp) (by simp[mx]) fun hwf B hnt hgAnn=> ?_
 have hwl:=IH_ hwf.1;clear hwf;simp only[argS];have e1:=IC_ g 2;have hok:=cnt_ok (AE_ 2 g);obtain⟨m0,hm0⟩:∃m,m=cntL (AE_ 2 g):=⟨_,rfl⟩;rw[←hm0]at e1 hok
 (refine go1 aj0 (aj1 (spc [] [(7,0)] e1)) aj0 ?_;intros;refine mk_i ?_)
 refine Ae_ (X:={x:Nat×CM//x.1≤g.length∧DelOk m0 x.2 ((g.take x.1).map (·.h))}) (fun x=>⟨[(0,Av_ g),(3,.omp 7 1),(8,Av_ g),(9,.int .i64 g.length),(10,.int .i64 x.1.1)],[⟨7,1,dCM x.1.2⟩]⟩) (fun x=>g.length-x.1.1) ⟨(0,m0),by simp,by simpa using hok.len,by simp,hok.nd⟩ (Sub.lit (by simp)) ?_;rintro⟨⟨i,m⟩,hi,hD⟩;simp only at hi hD ⊢
 by_cases hlt:i<g.length
 ·obtain⟨r,hr,hr',hrm⟩:=Ak_ hlt
  have hD2:DelOk m0 (delCM m r.h) ((g.take (i+1)).map (·.h)):=by
   have:=hD.step r.h;rw[bF0,hr,aX0];exact this
  obtain⟨Ks,V⟩:=m;have hks:=keyStrs Ks;unfold delCM at hD2;simp only at hD2
  by_cases hs:r.h∈Ks
  ·rw[if_pos hs]at hD2;have l1:=Pl_ hs;have s1:=Tk_ Ks (ixS Ks r.h);have s2:=TS_ V (ixS Ks r.h)
   (refine go1 aj0 aj0 (aj10 @dRul.eq_1 hlt hr hr' hks l1 @delK.eq_1 @delV.eq_1 s1 s2) ?_;intros;refine mk_i ?_)
   refine Aj_.mk ⟨(i+1,_),show i+1≤g.length∧_ from ⟨by omega,hD2⟩⟩ (Sub.lit (by simp)) (by simp;omega)
   skip
  ·rw[if_neg hs]at hD2;have l1:=GI_ hs
   (refine go1 aj0 aj0 (aj8 @dRul.eq_1 hlt hr hr' hks l1 @delK.eq_1 @delV.eq_1) ?_;intros;refine mk_i ?_)
   refine Aj_.mk ⟨(i+1,_),show i+1≤g.length∧_ from ⟨by omega,hD2⟩⟩ (Sub.lit (by simp)) (by simp;omega)
   skip
 ·have hkk:i=g.length:=by omega
  subst hkk;rw[aQ0]at hD
  have hml:m.K.length=(Do_ g).length:=miss_len hD.nd fun s=>by
   rw[hD.mem s,hok.mem s,NM_];simp
  have hsl:=strsD_len m.K;rw[hml]at hsl;have hle:(Do_ g).length≤9223372036854775807:=Nat.le_trans (Nat.le_trans (cI0 _ _) (FM_ _)) hn;obtain⟨Ks,V⟩:=m;exact go0 aj0 aj0 (aj2 hsl hle)
def Wx_ : Ann:=⟨[],[]⟩
theorem EU_ (k c:Int) (hk:k=2∧c=85∨k=3∧c=76) (s:ByteArray):Ac_ Tryz.prog 129 [.str s,.int .u8 c] (.bool (DQ_ k s)):=by
 refine Aa_ [] Wx_ Tryz.func129 Tryz.call129 Tryz.ntmps129 mxd (aj2 @Wx_.eq_1 Tryz.results129) rfl (by simp) (by simp[mx]) fun hwf B hnt hgAnn=> ?_
 have hsz:s.size≤9223372036854775807:=by have:=hwf.1;simp only[wfD,maxLen]at this;omega
 clear hwf;simp only[argS];obtain⟨R,hR⟩:∃R,R=DQ_ k s:=⟨_,rfl⟩;rw[←hR];unfold DQ_ at hR
 by_cases h1:1≤s.size
 ·by_cases h2:s.size≤16
  ·have g1:¬(s.size:Int)<1:=by omega
   have g2:¬(16:Int)<s.size:=by omega
   have g0:0<s.size:=by omega
   obtain⟨b0,hb0,hb0',_⟩:=Ak_ (show 0<s.data.toList.length by rw[BV_];omega)
   (refine go1 aj0 aj0 (aj5 g0 g1 g2 h1 h2) ?_;intros;refine mk_i ?_)
   refine Ae_ (X:={k:Nat//k≤s.size∧letS s=((s.data.toList.drop k).all fun b=>letB (b.toNat:Int))}) (fun k=>⟨[(0,.str s),(1,.int .u8 c),(5,.int .i64 k.1)],[]⟩) (fun k=>s.size-k.1) ⟨0,by simp[letS]⟩ (Sub.lit (by simp)) ?_;rintro⟨j,hj,hl⟩
   by_cases hlt:j<s.size
   ·obtain⟨b,hb,hb',_⟩:=Ak_ (show j<s.data.toList.length by rw[BV_];exact hlt);rw[aR0 (by rw[BV_];exact hlt),hb',dC0]at hl;have e1:=Pz_ (b.toNat:Int);cases hL:letB (b.toNat:Int)
    ·rw[hL]at e1 hl;have hR2:R=false:=by rw[hR];unfold BD_;rw[hl];simp
     subst hR2;exact go0 (aj1 e1) aj0 (aj3 hlt hb hb')
    ·rw[hL]at e1 hl;simp only[cE0]at hl
     (refine go1 (aj1 e1) aj0 (aj3 hlt hb hb') ?_;intros;refine mk_i ?_)
     refine Aj_.mk ⟨j+1,by omega,hl⟩ (Sub.lit (by simp)) (by simp;omega)
     skip
   ·have hkk:j=s.size:=by omega
    subst hkk;rw[←BV_,bQ0]at hl;have hN:BD_ s=true:=by unfold BD_;rw[hl];simp[h1,h2]
    rw[hN]at hR;simp only[VP_ hb0,cE0]at hR;have e1:=Hs_ (b0.toNat:Int);have e2:=Hv_ (b0.toNat:Int)
    rcases hk with ⟨rfl,rfl⟩ | ⟨rfl,rfl⟩
    ·simp only[if_true]at hR;rw[←hR]at e1;cases R
     ·exact go0 (aj2 e1 e2) aj0 (aj3 g0 hb0 hb0')
     ·exact go0 (aj2 e1 e2) aj0 (aj3 g0 hb0 hb0')
    ·simp only[show ¬(3:Int)=2 by omega,if_false]at hR;rw[←hR]at e2;cases R
     ·exact go0 (aj2 e1 e2) aj0 (aj3 g0 hb0 hb0')
     ·exact go0 (aj2 e1 e2) aj0 (aj3 g0 hb0 hb0')
  ·have g1:¬(s.size:Int)<1:=by omega
   have g2:(16:Int)<s.size:=by omega
   have hR2:R=false:=by rw[hR];unfold BD_;simp[h2]
   subst hR2;exact go0 aj0 aj0 (aj4 g1 g2 h1 h2)
 ·have g1:(s.size:Int)<1:=by omega
  have hR2:R=false:=by rw[hR];unfold BD_;simp[h1]
  subst hR2;exact go0 aj0 aj0 (aj2 g1 h1)
def Xv_ : Ann:=⟨[],[]⟩
set_option maxHeartbeats 4000000 in
theorem mayR_pure (x:Nd):Ac_ Tryz.prog 294 [.agg (dNd x)] (.bool (mayN x)):=by
 refine Aa_ [] Xv_ Tryz.func294 Tryz.call294 Tryz.ntmps294 mxd (aj2 @Xv_.eq_1 Tryz.results294) rfl (by simp) (by simp[mx]) fun hwf B hnt hgAnn=> ?_
 simp only[argS];have e1:=EU_ 2 85 (.inl ⟨rfl,rfl⟩) x.s;have e2:=EU_ 3 76 (.inr ⟨rfl,rfl⟩) x.s;rw[show DQ_ 2 x.s=(BD_ x.s&&Kl_ upI x.s) from rfl]at e1;rw[show DQ_ 3 x.s=(BD_ x.s&&Kl_ loI x.s) from rfl]at e2;unfold mayN emp
 by_cases k1:x.k=1
 ·exact go0 aj0 aj0 (aj3 @dNd.eq_1 @AI_ k1)
 by_cases k2:x.k=2
 ·obtain⟨b,hb⟩:∃b,b=(BD_ x.s&&Kl_ upI x.s):=⟨_,rfl⟩;rw[←hb]at e1 ⊢;clear hb;cases b<;>exact go0 (aj1 e1) aj0 (aj4 @dNd.eq_1 @AI_ k1 k2)
 by_cases k3:x.k=3
 ·obtain⟨b,hb⟩:∃b,b=(BD_ x.s&&Kl_ loI x.s):=⟨_,rfl⟩;rw[←hb]at e2 ⊢;clear hb;cases b<;>exact go0 (aj1 e2) aj0 (aj5 @dNd.eq_1 @AI_ k1 k2 k3)
 by_cases k4:x.k=4
 ·exact go0 aj0 aj0 (aj6 @dNd.eq_1 @AI_ k1 k2 k3 k4)
 by_cases k5:x.k=5
 ·exact go0 aj0 aj0 (aj7 @dNd.eq_1 @AI_ k1 k2 k3 k4 k5)
 by_cases k6:x.k=6
 ·exact go0 aj0 aj0 (aj8 @dNd.eq_1 @AI_ k1 k2 k3 k4 k5 k6)
 by_cases k7:x.k=7
 ·exact go0 aj0 aj0 (aj9 @dNd.eq_1 @AI_ k1 k2 k3 k4 k5 k6 k7)
 by_cases k8:x.k=8
 ·exact go0 aj0 aj0 (aj10 @dNd.eq_1 @AI_ k1 k2 k3 k4 k5 k6 k7 k8)
 exact go0 aj0 aj0 (aj10 @dNd.eq_1 @AI_ k1 k2 k3 k4 k5 k6 k7 k8)
def endI (l:List Nd) (p:Nat):Int:=match endN (l.drop p) 1 with
 | some r=>(l.length:Int)-r.length
 | none=> -1
def Xw_ : Ann:=⟨[],[]⟩
set_option maxHeartbeats 4000000 in
theorem HW_ (l:List Nd) (p:Nat) (hs:l.length≤1572864) (hp:p≤l.length):Ac_ Tryz.prog 202 [dNds l,.int .i64 p] (.int .i64 (endI l p)):=by
 refine Aa_ [] Xw_ Tryz.func202 Tryz.call202 Tryz.ntmps202 mxd (aj2 @Xw_.eq_1 Tryz.results202) rfl (by simp) (by simp[mx]) fun hwf B hnt hgAnn=> ?_
 clear hwf;simp only[argS];obtain⟨R,hR⟩:∃R,R=endI l p:=⟨_,rfl⟩;rw[←hR];unfold endI at hR;obtain⟨E,hE⟩:∃E,E=endN (l.drop p) 1:=⟨_,rfl⟩;rw[←hE]at hR
 (refine go1 aj0 aj0 aj0 ?_;intros;refine mk_i ?_)
 refine Ae_ (X:={q:Nat×Nat//q.1≤l.length∧endN (l.drop q.1) q.2=E∧q.2≤1+q.1*1572864}) (fun q=>⟨[(0,dNds l),(1,.int .i64 q.1.1),(5,.int .i64 q.1.2)],[]⟩) (fun q=>l.length+1-q.1.1) ⟨(p,1),hp,hE.symm,by simp only;omega⟩ (Sub.lit (by simp)) ?_;clear hE;rintro⟨⟨k,w⟩,hk,hw,hwb⟩;simp only at hk hw hwb ⊢
 cases w with
 | zero =>
  rw[BL_]at hw;rw[←hw]at hR;simp only[bS0]at hR;have hRk:R=k:=by omega
  subst hRk;exact go0 aj0 aj0 aj0
 | succ v =>
  have hv:(0:Int)<(v:Int)+1:=by omega
  by_cases hlt:k<l.length
  ·obtain⟨x,hx,hx',_⟩:=Ak_ hlt;rw[aR0 hlt,hx']at hw;have e1:=mayR_pure x;simp only[dNd]at e1;have hge:¬l.length≤k:=by omega
   cases hm:mayN x
   ·rw[hm]at e1;rw[CJ_,hm]at hw;simp only[aL0,if_false]at hw;rw[←hw]at hR;simp only at hR;subst hR;exact go0 (aj1 e1) aj0 (aj6 @dNd.eq_1 hlt hge hx hx' hv)
   ·rw[hm]at e1;have hk0:=Gc_ hm;obtain⟨c,hcn⟩:∃c:Nat,x.n=(c:Int):=⟨x.n.toNat,by omega⟩;rw[hcn]at e1;rw[CJ_,if_pos hm,hcn,cX0]at hw
    by_cases hbig:l.length<c
    ·have hbig':(l.length:Int)<(c:Int):=by omega
     rw[PS_ _ _ (by rw[bS0];omega)]at hw;rw[←hw]at hR;simp only at hR;subst hR;exact go0 (aj1 e1) aj0 (aj9 @dNd.eq_1 hlt hge hx hx' hv hcn hbig hbig')
    ·have hbig':¬(l.length:Int)<(c:Int):=by omega
     have q1:IntKind.i64.wrap ((v:Int))=(v:Int):=wq;have q2:IntKind.i64.wrap ((v:Int)+(c:Int))=(v:Int)+(c:Int):=wq
     (refine go1 (aj1 e1) aj0 (aj11 @dNd.eq_1 hlt hge hx hx' hv hcn hbig hbig' q1 q2) ?_;intros;refine mk_i ?_)
     refine Aj_.mk ⟨(k+1,v+c),show k+1≤l.length∧endN (l.drop (k+1)) (v+c)=E∧v+c≤1+(k+1)*1572864 from ⟨by omega,hw,by omega⟩⟩ (Sub.lit (by simp)) (by simp;omega)
     skip
  ·have hge:l.length≤k:=by omega
   rw[cP0 hge,GP_]at hw;rw[←hw]at hR;simp only at hR;subst hR;exact go0 aj0 aj0 (aj2 hv hge)
def Xx_ : Ann:=⟨[],[]⟩
theorem Dg_ (l:List Nd) (hs:l.length≤1572864):Ac_ Tryz.prog 130 [dNds l] (.bool (CO_ l)):=by
 refine Aa_ [] Xx_ Tryz.func130 Tryz.call130 Tryz.ntmps130 mxd (aj2 @Xx_.eq_1 Tryz.results130) rfl (by simp) (by simp[mx]) fun hwf B hnt hgAnn=> ?_
 clear hwf;simp only[argS];have e1:=HW_ l 0 hs (by omega);unfold endI at e1;unfold CO_;rw[eF0]at e1
 by_cases h0:0<l.length
 ·cases hE:endN l 1 with
  | none =>
   rw[hE]at e1;have hne:((-1:Int)==(l.length:Int))=false:=by simp
   exact go0 (aj1 e1) aj0 (aj2 h0 hne)
  | some r =>
   rw[hE]at e1
   cases r with
   | nil =>
    simp only[List.length_nil,Int.natCast_zero,Int.sub_zero]at e1;exact go0 (aj1 e1) aj0 (aj1 h0)
   | cons y r =>
    have hne:(((l.length:Int)-((y::r).length:Int))==(l.length:Int))=false:=by simp;omega
    obtain⟨e,he⟩:∃e:Int,e=(l.length:Int)-((y::r).length:Int):=⟨_,rfl⟩;rw[←he]at hne;have e3:Ac_ Tryz.prog 202 [dNds l,.int .i64 0] (.int .i64 e):=by rw[he];exact e1
    exact go0 (aj1 e3) aj0 (aj2 h0 hne)
 ·have hl:l=[]:=bO0 (by omega);subst hl;rw[GP_];exact go0 aj0 aj0 aj0
def Fw_ : Ann:=⟨[],[⟨5,[6],[],[]⟩]⟩
set_option maxHeartbeats 4000000 in
theorem Hy_ (t:RT) (ht:okT t=true) (hs:(flat t).length≤1572864):Ac_ Tryz.prog 262 [dNds (flat t)] (.int .i64 (htT t)):=by
 refine Aa_ [] Fw_ Tryz.func262 Tryz.call262 Tryz.ntmps262 mxd (aj2 @Fw_.eq_1 Tryz.results262) rfl (by simp) (by simp[mx]) fun hwf B hnt hgAnn=> ?_
 clear hwf;simp only[argS];have hR:=HQ_ ht;have hmay:=okT_all ht;have hkle:∀x∈flat t,x.n≤1572864:=fun x hx=>by have:=Pt_ t ht x hx;omega
 obtain⟨l,hl⟩:∃l,l=flat t:=⟨_,rfl⟩;rw[←hl]at hR hmay hkle hs ⊢;clear hl;obtain⟨R,hRR⟩:∃R,R=htT t:=⟨_,rfl⟩;rw[←hRR]at hR ⊢;clear hRR ht
 (refine go1 aj0 aj0 aj0 ?_;intros;refine mk_i ?_)
 refine AV_ 4 50 3 1 8 (by simp[hnt,Tryz.results262,Fw_]) (fun n=> ?_);refine Ae_ (X:={p:Nat×List Nat×Nat//p.1≤l.length∧(l.drop p.1).foldl FI_ (p.2.1,p.2.2)=([],R)∧p.2.1.length≤p.1∧p.2.2≤p.1∧pos p.2.1}) (fun p=>⟨[(3,.int .i64 p.1.2.2),(4,.osl 50 1),(7,dNds l),(8,.int .i64 l.length),(9,.int .i64 p.1.1)],[⟨50,1,.row 3 1 8 (dstk p.1.2.1)⟩]⟩) (fun p=>l.length-p.1.1) ⟨(0,[],0),by simp[hR,pos]⟩ (Sub.lit (by simp[Co_])) ?_
 rintro⟨⟨k,s,m⟩,hk,hw,hsl,hmb,hpos⟩;simp only at hk hw hsl hmb hpos ⊢;clear hR
 by_cases hlt:k<l.length
 ·obtain⟨x,hx,hx',hxm⟩:=Ak_ hlt;rw[aR0 hlt,hx',cO0]at hw;have hk0:=Gc_ (hmay x hxm);obtain⟨c,hcn⟩:∃c:Nat,x.n=(c:Int):=⟨x.n.toNat,by omega⟩;have hsp:=hstep_pos (p:=(s,m)) x (by have:=hkle x hxm;omega) hpos;have hslen:=hstep_len (s,m) x;unfold FI_ at hw hsp hslen;rw[hcn,cX0]at hw hsp hslen;simp only at hw hsp hslen;obtain⟨P,hP⟩:∃P,P=(if c=0 then fin s else c::s):=⟨_,rfl⟩;rw[←hP]at hw hsp hslen;have hmx:(if (m:Int)<(s.length:Int)+1 then (s.length:Int)+1 else (m:Int))=((max m (s.length+1):Nat):Int):=by split<;>omega
  obtain⟨m2,hm2⟩:∃m2,m2=max m (s.length+1):=⟨_,rfl⟩;rw[←hm2]at hw hmx;have hm2b:m2≤k+1:=by omega
  have z1:(s.length+1)*8≤150000000000000:=by omega
  have z2:s.length+1≤9223372036854775807:=by omega
  have q1:IntKind.i64.wrap ((s.length:Int)+1)=(s.length:Int)+1:=wq
  (refine go1 aj0 aj0 (aj10 @dNd.eq_1 hlt hx hx' hcn @DH_ hmx z1 z2 q1) ?_;intros;refine mk_i ?_)
  refine Ae_ (X:={q:List Nat//popR q=P∧q.length≤k+1∧pos q.tail}) (fun q=>⟨[(3,.int .i64 m2),(4,.osl 50 1),(7,dNds l),(8,.int .i64 l.length),(9,.int .i64 k)],[⟨50,1,.row 3 1 8 (dstk q.1)⟩]⟩) (fun q=>q.1.length) ⟨c::s,by rw[hP,popR_push],by simp;omega,hpos⟩ (Sub.lit (by simp[hmx,Go_,Ba_])) ?_;rintro⟨q,hq1,hq2,hq3⟩;simp only
  match q,hq1,hq2,hq3 with
  | [],hq1,hq2,hq3 =>
   have hP2:P=[]:=by rw[←hq1];rfl
   (refine go1 aj0 aj0 (aj1 @Co_) ?_;intros;refine mk_i ?_)
   refine Aj_.mk ⟨(k+1,P,m2),show k+1≤l.length∧(l.drop (k+1)).foldl FI_ (P,m2)=([],R)∧P.length≤k+1∧m2≤k+1∧pos P from ⟨by omega,hw,by omega,hm2b,hsp⟩⟩ (Sub.lit (by simp[hP2,Co_])) (by simp;omega)
   skip
  | d::q,hq1,hq2,hq3 =>
   have hql:q.length≤k:=by simpa using hq2
   have hlen:(dstk (d::q)).length=q.length+1:=by rw[DH_];rfl
   have htop:=Wj_ d q;have htk:=dstk_take d q;have q2:IntKind.i64.wrap ((q.length:Int))=(q.length:Int):=wq;obtain⟨D,hD⟩:∃D,D=dstk (d::q):=⟨_,rfl⟩;rw[←hD]at hlen htop htk ⊢;have hltD:q.length<D.length:=by omega
   have htop':D[q.length]'hltD=[.int .i64 (d:Int)]:=(aB0.1 htop).2;have hp0:(0:Int)<(q.length:Int)+1:=by omega
   cases d with
   | zero =>
    cases q with
    | nil =>
     have hP2:P=[]:=by rw[←hq1];rfl
     have q0:IntKind.i64.wrap 0=0:=by decide
     simp only[List.length_nil,bT0]at hlen htop htop' htk hltD
     (repeat (first | (refine SQ_ 4 ?_ (fun _=> ?_);(· (simp[hnt,hlen,htop,htop',hltD,hp0,htk,Co_,q0];done));(try simp[hnt,hlen,htop,htop',hltD,hp0,htk,Co_,q0])) | refine Aw_ fun K hK=> ?_ | (refine DW_r Fw_ mxd (by kernel_rfl) ?_;simp[Fw_,hnt,hlen,htop,htop',hltD,hp0,htk,Co_,q0];try simp (disch:=omega) only[Ah_]) | refine Al_ ?_ | (refine AJ_ ?_ ?_ ?_;(· (simp[hnt,hlen,htop,htop',hltD,hp0,htk,Co_,q0];done));(try (rotate_left;(· (intro hc;(try simp[hnt,hlen,htop,htop',hltD,hp0,htk,Co_,q0]at hc);done))))) | (refine Ay_ ?_;simp[Tryz.results262,hnt,hlen,htop,htop',hltD,hp0,htk,Co_,q0]) | ((first | refine Aq_ ?_ | refine Ap_ ?_);simp[hnt,hlen,htop,htop',hltD,hp0,htk,Co_,q0]) | (intro hc;(try simp[hnt,hlen,htop,htop',hltD,hp0,htk,Co_,q0]at hc);(try (exfalso;omega))) | (refine⟨?_,?_⟩; · omega) | omega | apply_assumption -exfalso -symm | (exfalso;omega)))
     refine Aj_.mk ⟨[],hP2.symm,by simp,by simp[pos]⟩ (Sub.lit (by simp[Co_])) (by simp)
     skip
    | cons e q =>
     obtain⟨he1,he9⟩:=hq3 e (by simp);have q5:IntKind.i64.wrap ((e-1:Nat):Int)=((e-1:Nat):Int):=wq;have hP2:popR ((e-1)::q)=P:=by rw[popR_step he1,←hq1];rfl
     have hpq:pos q:=fun c hc=>hq3 c (by simp[hc])
     simp only[List.length_cons]at hlen htop htop' htk hltD q2 hp0 hql;have hlen2:(dstk (e::q)).length=q.length+1:=by rw[DH_];rfl
     have htop2:=Wj_ e q;have hset:=dstk_set e (e-1) q;obtain⟨E,hE⟩:∃E,E=dstk (e::q):=⟨_,rfl⟩;rw[←hE]at hlen2 htop2 hset htk;have hltE:q.length<E.length:=by omega
     have htop2':E[q.length]'hltE=[.int .i64 (e:Int)]:=(aB0.1 htop2).2;have q3:IntKind.i64.wrap ((q.length:Int)+1)=(q.length:Int)+1:=wq;have q4:IntKind.i64.wrap ((q.length:Int))=(q.length:Int):=wq;have he2:(e:Int)-1=((e-1:Nat):Int):=by omega
     have hp1:(0:Int)<(q.length:Int)+1:=by omega
     have hp2:(0:Int)<(q.length:Int)+1+1:=by omega
     (repeat (first | (refine SQ_ 4 ?_ (fun _=> ?_);(· (simp[hnt,hlen,htop,htop',hltD,hp0,hp1,hp2,htk,q3,q4,hlen2,htop2,htop2',hltE,he2,hset,q5];done));(try simp[hnt,hlen,htop,htop',hltD,hp0,hp1,hp2,htk,q3,q4,hlen2,htop2,htop2',hltE,he2,hset,q5])) | refine Aw_ fun K hK=> ?_ | (refine DW_r Fw_ mxd (by kernel_rfl) ?_;simp[Fw_,hnt,hlen,htop,htop',hltD,hp0,hp1,hp2,htk,q3,q4,hlen2,htop2,htop2',hltE,he2,hset,q5];try simp (disch:=omega) only[Ah_]) | refine Al_ ?_ | (refine AJ_ ?_ ?_ ?_;(· (simp[hnt,hlen,htop,htop',hltD,hp0,hp1,hp2,htk,q3,q4,hlen2,htop2,htop2',hltE,he2,hset,q5];done));(try (rotate_left;(· (intro hc;(try simp[hnt,hlen,htop,htop',hltD,hp0,hp1,hp2,htk,q3,q4,hlen2,htop2,htop2',hltE,he2,hset,q5]at hc);done))))) | (refine Ay_ ?_;simp[Tryz.results262,hnt,hlen,htop,htop',hltD,hp0,hp1,hp2,htk,q3,q4,hlen2,htop2,htop2',hltE,he2,hset,q5]) | ((first | refine Aq_ ?_ | refine Ap_ ?_);simp[hnt,hlen,htop,htop',hltD,hp0,hp1,hp2,htk,q3,q4,hlen2,htop2,htop2',hltE,he2,hset,q5]) | (intro hc;(try simp[hnt,hlen,htop,htop',hltD,hp0,hp1,hp2,htk,q3,q4,hlen2,htop2,htop2',hltE,he2,hset,q5]at hc);(try (exfalso;omega))) | (refine⟨?_,?_⟩; · omega) | omega | apply_assumption -exfalso -symm | (exfalso;omega)))
     refine Aj_.mk ⟨(e-1)::q,hP2,by simp;omega,hpq⟩ (Sub.lit (by simp)) (by simp)
     skip
   | succ d =>
    have hP2:P=(d+1)::q:=by rw[←hq1];rfl
    have hd0:¬(d:Int)+1=0:=by omega
    have hd0':(((d:Int)+1)==0)=false:=by simpa using hd0
    (refine go1 aj0 aj0 (aj8 hlen htop htop' hltD q2 hp0 hd0 hd0') ?_;intros;refine mk_i ?_)
    refine Aj_.mk ⟨(k+1,P,m2),show k+1≤l.length∧(l.drop (k+1)).foldl FI_ (P,m2)=([],R)∧P.length≤k+1∧m2≤k+1∧pos P from ⟨by omega,hw,by omega,hm2b,hsp⟩⟩ (Sub.lit (by simp[hP2,hD])) (by simp;omega)
    skip
 ·have hkk:k=l.length:=by omega
  subst hkk;rw[bQ0]at hw;simp only[List.foldl_nil,_root_.Prod.mk.injEq]at hw;obtain⟨rfl,rfl⟩:=hw;exact go0 aj0 aj0 aj0
def dT (t:RT):List DVal:=[dNds (flat t)]
abbrev dTs (ts:List RT):DVal:= .sl 1 24 (ts.map dT)
@[simp] theorem mx_dT (t:RT):mxL (dT t)=0:=by simp[dT,mxL,mx]
@[simp] theorem mx_dTs (l:List RT):mxR (l.map dT)=0:=mxR0 _ mx_dT l
theorem Jz_ {ks:List RT} {i:Nat} {t:RT} (h:ks[i]? =some t):(Am_ (ks.take (i+1))).length=(Am_ (ks.take i)).length+(flat t).length:=by
 rw[bF0,h,DY_,aC0];simp[Am_]
theorem HS_ (ks:List RT) (i:Nat):Am_ ks=Am_ (ks.take i)++Am_ (ks.drop i):=by rw[←DY_,List.take_append_drop]
def DI_ : Ann:=⟨[],[]⟩
set_option maxHeartbeats 4000000 in
theorem TP_ (x:Nd) (ks:List RT) (ht:okT (.mk x ks)=true) (hs:(flat (.mk x ks)).length≤1572864):Ac_ Tryz.prog 321 [dNds (flat (.mk x ks))] (dTs ks):=by
 refine Aa_ [60] DI_ Tryz.func321 Tryz.call321 Tryz.ntmps321 mxd (aj2 @DI_.eq_1 Tryz.results321) rfl (by simp) (by simp[mx]) fun hwf B hnt hgAnn=> ?_
 clear hwf;simp only[argS];obtain⟨hm,hn,hok⟩:=Bx_ ht;have hmay:=okT_all ht;have hkle:=Pt_ _ ht;obtain⟨l,hl⟩:∃l,l=flat (.mk x ks):=⟨_,rfl⟩;have hl2:l=x::Am_ ks:=by rw[hl,AB_]
 rw[←hl]at hmay hkle hs ⊢;have h0:l[0]? =some x:=by rw[hl2];rfl
 have hlen:l.length=(Am_ ks).length+1:=by rw[hl2];simp
 have hlt0:0<l.length:=by omega
 have h0':l[0]'hlt0=x:=(aB0.1 h0).2;have hks:ks.length≤1572864:=by have:=BK_ ks;omega
 (refine go1 aj0 aj0 (aj5 @dNd.eq_1 h0 h0' hlt0 hn) ?_;intros;refine mk_i ?_)
 refine AV_ 3 60 153 1 24 (by simp[hnt,Tryz.results321,DI_]) (fun n=> ?_);refine Ae_ (X:={i:Nat//i≤ks.length}) (fun i=>⟨[(0,dNds l),(3,.osl 60 1),(4,.int .i64 (1+(Am_ (ks.take i.1)).length:Nat)),(10,.int .i64 ks.length),(11,.int .i64 i.1)],[⟨60,1,.row 153 1 24 ((ks.take i.1).map dT)⟩]⟩) (fun i=>ks.length-i.1) ⟨0,by omega⟩ (Sub.lit (by simp[Am_])) ?_;rintro⟨i,hi⟩;simp only
 by_cases hlt:i<ks.length
 ·obtain⟨t,htk,ht',_⟩:=Ak_ hlt;have hsp:=HS_ ks i;have hdr:=aR0 hlt;rw[ht']at hdr
  have hokd:okL (ks.drop i)=true:=by
   have:=OY_ (ks.take i) (ks.drop i);rw[List.take_append_drop,hok]at this;simpa using (by simpa using this.symm:okL (ks.take i)=true∧okL (ks.drop i)=true).2
  rw[hdr]at hokd;obtain⟨hokt,hokr⟩:=AZ_ hokd;obtain⟨A,hA⟩:∃A,A=1+(Am_ (ks.take i)).length:=⟨_,rfl⟩;obtain⟨r,hr⟩:∃r,r=Am_ (ks.drop (i+1)):=⟨_,rfl⟩
  have hdrop:l.drop A=flat t++r:=by
   rw[hl2,hA,Nat.add_comm,dW0,hsp,dY0 (Nat.le_refl _),bQ0,List.nil_append,hdr,An_,hr]
  have hend:endN (l.drop A) 1=some r:=by rw[hdrop,EJ_ t r 0 hokt,BL_]
  have hA2:A+(flat t).length+r.length=l.length:=by
   have:=congrArg List.length hdrop;rw[bS0,aC0]at this;have:=Fr_ t;omega
  have hnext:=Jz_ htk;rw[←hA];clear hsp hdr hokd hokr
  (repeat (first | refine Aw_ fun K hK=> ?_ | (refine DW_r DI_ mxd (by kernel_rfl) ?_;simp[DI_,hnt,hlt];try simp (disch:=omega) only[Ah_]) | refine Al_ ?_ | (refine AJ_ ?_ ?_ ?_;(· (simp[hnt,hlt];done));(try (rotate_left;(· (intro hc;(try simp[hnt,hlt]at hc);done))))) | (refine Ay_ ?_;simp[Tryz.results321,hnt,hlt]) | ((first | refine Aq_ ?_ | refine Ap_ ?_);simp[hnt,hlt]) | (intro hc;(try simp[hnt,hlt]at hc);(try (exfalso;omega))) | (refine⟨?_,?_⟩; · omega) | omega | apply_assumption -exfalso -symm | (exfalso;omega)))
  refine Ae_ (X:={p:Nat×Nat//p.1≤l.length∧endN (l.drop p.1) p.2=some r∧p.2≤1+p.1*1572864∧A≤p.1}) (fun p=>⟨[(0,dNds l),(3,.osl 60 1),(4,.int .i64 p.1.1),(5,.int .i64 A),(6,.int .i64 p.1.2),(10,.int .i64 ks.length),(11,.int .i64 i)],[⟨60,1,.row 153 1 24 ((ks.take i).map dT)⟩]⟩) (fun p=>l.length-p.1.1) ⟨(A,1),show A≤l.length∧endN (l.drop A) 1=some r∧1≤1+A*1572864∧A≤A from ⟨by omega,hend,by omega,Nat.le_refl _⟩⟩ (Sub.lit (by simp)) ?_
  rintro⟨⟨k,w⟩,hk,hw,hwb,hAk⟩;simp only at hk hw hwb hAk ⊢
  cases w with
  | zero =>
   rw[BL_]at hw;simp only[aA0]at hw
   have hkl:k=A+(flat t).length:=by
    have:=congrArg List.length hw;rw[bS0]at this;omega
   have z1:((ks.take i).length+1)*24≤150000000000000:=by rw[aY0];omega
   have z2:(ks.take i).length+1≤9223372036854775807:=by rw[aY0];omega
   have hpiece:(l.drop A).take (k-A)=flat t:=by rw[hkl,Nat.add_sub_cancel_left,hdrop];simp
   have hkk:A≤l.length:=by omega
   (repeat (first | refine Aw_ fun K hK=> ?_ | (refine DW_r DI_ mxd (by kernel_rfl) ?_;simp[DI_,hnt,hlt,hk,hAk,hkk];try simp (disch:=omega) only[Ah_]) | refine Al_ ?_ | (refine AJ_ ?_ ?_ ?_;(· (simp[hnt,hlt,hk,hAk,hkk];done));(try (rotate_left;(· (intro hc;(try simp[hnt,hlt,hk,hAk,hkk]at hc);done))))) | (refine Ay_ ?_;simp[Tryz.results321,hnt,hlt,hk,hAk,hkk]) | ((first | refine Aq_ ?_ | refine Ap_ ?_);simp[hnt,hlt,hk,hAk,hkk]) | (intro hc;(try simp[hnt,hlt,hk,hAk,hkk]at hc);(try (exfalso;omega))) | (refine⟨?_,?_⟩; · omega) | omega | apply_assumption -exfalso -symm | (exfalso;omega)))
   have hpD:List.take (k-A) (List.drop A (List.map dNd l))=(flat t).map dNd:=by rw[←List.map_drop,←eR0,hpiece]
   have htm:List.take (i+1) (List.map dT ks)=List.take i (List.map dT ks)++[dT t]:=by rw[bF0,bI0,htk];rfl
   have hat:(1:Int)+((Am_ (List.take (i+1) ks)).length:Int)=(k:Int):=by omega
   refine Aj_.mk ⟨i+1,by omega⟩ (Sub.lit (by simp[hpD,htm,hat,dT,Ba_])) (by simp;omega)
   skip
  | succ v =>
   have hlt2:k<l.length:=by
    rcases Nat.lt_or_ge k l.length with h | h
    ·exact h
    ·rw[cP0 h,GP_]at hw;simp at hw
   obtain⟨y,hy,hy',hym⟩:=Ak_ hlt2;rw[aR0 hlt2,hy',CJ_,if_pos (hmay y hym)]at hw;have hk0:=Gc_ (hmay y hym);have hk9:=hkle y hym;obtain⟨c,hcn⟩:∃c:Nat,y.n=(c:Int):=⟨y.n.toNat,by omega⟩;rw[hcn,cX0]at hw;have q1:IntKind.i64.wrap ((c:Int)-1)=(c:Int)-1:=wq;have q2:IntKind.i64.wrap ((v:Int)+1+((c:Int)-1))=(v:Int)+(c:Int):=by rw[wq];omega
   have q3:(0:Int)<(v:Int)+1:=by omega
   (repeat (first | refine Aw_ fun K hK=> ?_ | (refine DW_r DI_ mxd (by kernel_rfl) ?_;simp[DI_,hnt,dNd,hlt2,hy,hy',hcn,q1,q2,q3];try simp (disch:=omega) only[Ah_]) | refine Al_ ?_ | (refine AJ_ ?_ ?_ ?_;(· (simp[hnt,dNd,hlt2,hy,hy',hcn,q1,q2,q3];done));(try (rotate_left;(· (intro hc;(try simp[hnt,dNd,hlt2,hy,hy',hcn,q1,q2,q3]at hc);done))))) | (refine Ay_ ?_;simp[Tryz.results321,hnt,dNd,hlt2,hy,hy',hcn,q1,q2,q3]) | ((first | refine Aq_ ?_ | refine Ap_ ?_);simp[hnt,dNd,hlt2,hy,hy',hcn,q1,q2,q3]) | (intro hc;(try simp[hnt,dNd,hlt2,hy,hy',hcn,q1,q2,q3]at hc);(try (exfalso;omega))) | (refine⟨?_,?_⟩; · omega) | omega | apply_assumption -exfalso -symm | (exfalso;omega)))
   refine Aj_.mk ⟨(k+1,v+c),show k+1≤l.length∧endN (l.drop (k+1)) (v+c)=some r∧v+c≤1+(k+1)*1572864∧A≤k+1 from ⟨by omega,hw,by omega,by omega⟩⟩ (Sub.lit (by simp)) (by simp;omega)
   skip
 ·have hkk:i=ks.length:=by omega
  subst hkk;exact go0 aj0 aj0 (aj1 (@aQ0.{0}))
def XB_ : Ann:=⟨[],[]⟩
theorem QY_ (k:Int):Ac_ Tryz.prog 323 [.int .i64 k] (.str (sgn k)):=by
 refine Aa_ [] XB_ Tryz.func323 Tryz.call323 Tryz.ntmps323 mxd (aj2 @XB_.eq_1 Tryz.results323) rfl (by simp) (by simp[mx]) fun hwf B hnt hgAnn=> ?_
 simp only[argS];have z0:(⟨#[]⟩:ByteArray).size=0:=rfl;have z1:(⟨#[42]⟩:ByteArray).size=1:=rfl;have z2:(⟨#[43]⟩:ByteArray).size=1:=rfl;have z3:(⟨#[63]⟩:ByteArray).size=1:=rfl;have m1:1≤maxLen:=by decide
 unfold sgn
 by_cases k6:k=6
 ·exact go0 aj0 aj0 (aj6 z0 z1 z2 z3 m1 k6)
 by_cases k7:k=7
 ·exact go0 aj0 aj0 (aj7 z0 z1 z2 z3 m1 k6 k7)
 by_cases k8:k=8
 ·exact go0 aj0 aj0 (aj8 z0 z1 z2 z3 m1 k6 k7 k8)
 exact go0 aj0 aj0 (aj8 z0 z1 z2 z3 m1 k6 k7 k8)
theorem le_sum {l:List Nat} {a:Nat} (h:a∈l):a≤l.sum:=by
 induction l with
 | nil=>simp at h
 | cons b l ih =>
  rw[dH0]
  rcases aK0.1 h with rfl | h
  ·omega
  ·have:=ih h;omega
theorem QD_ {pk:Int} {ks:List RT} {i:Nat} {t:RT} (h:ks[i]? =some t):txtL pk (ks.take (i+1))=txtL pk (ks.take i)++[parT pk t.x.k (txtT t)]:=by
 rw[CC_,CC_,bF0,h,aX0];rfl
theorem Os_ (pk:Int) (ks:List RT):(txtL pk ks).length=ks.length:=by rw[CC_,aJ0]
theorem Mi_ (t:RT):(flat t)[0]? =some t.x:=by cases t;rfl
theorem Dr_ {ks:List RT} {t:RT} (h:t∈ks):(flat t).length≤(Am_ ks).length:=by
 induction ks with
 | nil=>simp at h
 | cons u ks ih =>
  rw[An_,aC0]
  rcases aK0.1 h with rfl | h
  ·omega
  ·have:=ih h;omega
def KX_ : Ann:=⟨[],[⟨1,[3],[],[]⟩]⟩
set_option maxHeartbeats 8000000 in
theorem JH_ : ∀(n:Nat) (t:RT),(flat t).length=n→okT t=true→(flat t).length≤1572864→Ac_ Tryz.prog 263 [dNds (flat t)] (.str (txtT t)):=by
 intro n
 induction n using Nat.strongRecOn with
 | ind n ih =>
 intro t hn ht hs;obtain⟨x,ks⟩:=t;have kk:=TP_ x ks ht hs;obtain⟨hm,hkn,hok⟩:=Bx_ ht;have hsz:=(FN_ _ ht);have h0:=Mi_ (.mk x ks);have hlt0:0<(flat (.mk x ks)).length:=Fr_ _;have hfl:(flat (.mk x ks)).length=(Am_ ks).length+1:=by rw[AB_,List.length_cons]
 have hkl:=BK_ ks
 have hch:∀u∈ks,Ac_ Tryz.prog 263 [dNds (flat u)] (.str (txtT u)):=fun u hu=>by
  have:=Dr_ hu;exact ih (flat u).length (by omega) u rfl (OX_ hok u hu) (by omega)
 have hsj:=If_ x.k ks hok
 have hparts:∀y∈txtL x.k ks,1≤y.size∧y.size≤67108864:=fun y hy=>by
  refine⟨hsj.2 y hy,?_⟩;have:y.size+3≤((txtL x.k ks).map fun y=>y.size+3).sum:=le_sum (aV0.2 ⟨y,hy,rfl⟩);omega
 have kj:=join_pure (txtL x.k ks) (btw x.k) (GT_ _) (by rw[Os_];omega) hparts;have kg:=QY_ x.k;have hjs:=GK_ (txtL x.k ks) (btw x.k) (GT_ _);have hgs:=UO_ x.k;rw[Or_];have hbig:((txtL x.k ks).map fun y=>y.size+3).sum≤37748736:=by omega
 clear ih hn hsz;obtain⟨l,hl⟩:∃l,l=flat (.mk x ks):=⟨_,rfl⟩;rw[←hl]at kk h0 hlt0 ⊢;have h0':l[0]'hlt0=x:=(aB0.1 h0).2;have z0:(⟨#[]⟩:ByteArray).size=0:=rfl;have z1:(⟨#[37]⟩:ByteArray).size=1:=rfl;have z2:(⟨#[32]⟩:ByteArray).size=1:=rfl;have z3:(⟨#[32,124,32]⟩:ByteArray).size=3:=rfl;have z4:(⟨#[40]⟩:ByteArray).size=1:=rfl;have z5:(⟨#[41]⟩:ByteArray).size=1:=rfl;have m1:1≤maxLen:=by decide
 have m3:3≤maxLen:=by decide
 refine Aa_ [] KX_ Tryz.func263 Tryz.call263 Tryz.ntmps263 mxd (aj2 @KX_.eq_1 Tryz.results263) rfl (by simp) (by simp[mx]) fun hwf B hnt hgAnn=> ?_
 clear hwf;simp only[argS];obtain⟨b,hb⟩:∃b,b=btw x.k:=⟨_,rfl⟩;have hbz:b=btw x.k:=hb;rw[←hb]at kj ⊢;unfold btw at hb
 rcases ID_ hm with k | k | k | k | k | k | k | k
 ·exact go0 (aj1 kk) aj0 (aj8 @dNd.eq_1 h0 h0' hlt0 z0 z1 m1 k)
 ·exact go0 (aj1 kk) aj0 (aj8 @dNd.eq_1 h0 h0' hlt0 z0 z1 m1 k)
 ·exact go0 (aj1 kk) aj0 (aj8 @dNd.eq_1 h0 h0' hlt0 z0 z1 m1 k)
 all_goals
  have k1:¬x.k=1:=by omega
  have k2:¬(x.k=2∨x.k=3):=by omega
  rw[if_neg k1,if_neg k2];have hb2:=hb;simp only[k]at hb2
  try simp at hb2
  (refine go1 (aj1 kk) aj0 (aj11 @dNd.eq_1 h0 h0' hlt0 z0 z1 z2 z3 m1 m3 k) ?_;intros;refine mk_i ?_)
  refine AV_ 5 50 9 1 16 (by simp[hnt,Tryz.results263,KX_]) (fun n=> ?_);refine Ae_ (X:={i:Nat//i≤ks.length}) (fun i=>⟨[(3,.ref [.int .i64 x.k,.str x.s,.int .i64 x.n]),(4,.str b),(5,.osl 50 1),(26,dTs ks),(27,.int .i64 ks.length),(28,.int .i64 i.1)],[⟨50,1,.row 9 1 16 ((txtL x.k (ks.take i.1)).map dStr)⟩]⟩) (fun i=>ks.length-i.1) ⟨0,by omega⟩ (Sub.lit (by simp[k,hb2,Kq_])) ?_;clear hb hb2 k kk;rintro⟨i,hi⟩
  simp only
  by_cases hlt:i<ks.length
  ·obtain⟨u,hu,hu',hum⟩:=Ak_ hlt;have ku:=hch u hum;have g0:=Mi_ u;have gl:0<(flat u).length:=Fr_ u;have hus:=FN_ u (OX_ hok u hum);have hul:=Dr_ hum;have htk:=QD_ (pk:=x.k) hu;have hpt:parT x.k u.x.k (txtT u)=if parB x.k u.x.k then ⟨#[40]⟩++txtT u++⟨#[41]⟩else txtT u:=rfl
   unfold parB at hpt;obtain⟨m,hm2⟩:∃m,m=flat u:=⟨_,rfl⟩;have hfm:flat u=m:=hm2.symm;rw[←hm2]at ku g0 gl hus hul;obtain⟨s,hs2⟩:∃s,s=txtT u:=⟨_,rfl⟩;rw[←hs2]at ku hus hpt htk;have g0':m[0]'gl=u.x:=(aB0.1 g0).2;obtain⟨P,hP⟩:∃P,P=parT x.k u.x.k s:=⟨_,rfl⟩;rw[←hP]at hpt htk;have hl1:(txtL x.k (ks.take i)).length=i:=by rw[Os_,aY0];omega
   obtain⟨T,hT⟩:∃T,T=txtL x.k (ks.take i):=⟨_,rfl⟩;rw[←hT]at htk hl1 ⊢;have y1:(i+1)*16≤150000000000000:=by omega
   have y2:i+1≤9223372036854775807:=by omega
   have y3:1+s.size≤maxLen:=by unfold maxLen;omega
   have y4:1+s.size+1≤maxLen:=by unfold maxLen;omega
   by_cases p5:u.x.k=5
   ·simp[p5]at hpt
    (refine go1 (aj1 ku) aj0 (aj2 (aj16 @dT.eq_1 @dNd.eq_1 hfm hlt hu hu' g0 g0' gl p5 y1 y2 y3 y4 z4 z5) (aj3 m1 hl1 @aS0)) ?_;intros;refine mk_i ?_)
    refine Aj_.mk ⟨i+1,by omega⟩ (Sub.lit (by simp[htk,hpt,dStr])) (by simp;omega)
    skip
   ·have p5':(u.x.k==5)=false:=by simpa using p5
    by_cases p4:u.x.k=4
    ·by_cases q5:x.k=5
     ·simp[p4,q5]at hpt
      (refine go1 (aj1 ku) aj0 (aj2 (aj16 @dT.eq_1 @dNd.eq_1 hfm hlt hu hu' g0 g0' gl p4 p5 p5' q5 y1 y2 y3) (aj6 y4 z4 z5 m1 hl1 @aS0)) ?_;intros;refine mk_i ?_)
      have htk5:=htk;rw[q5]at htk5;refine Aj_.mk ⟨i+1,by omega⟩ (Sub.lit (by simp[htk5,hpt,dStr,q5])) (by simp;omega)
      skip
     ·have q5':(x.k==5)=false:=by simpa using q5
      simp[p4,q5]at hpt
      (refine go1 (aj1 ku) aj0 (aj2 (aj16 @dT.eq_1 @dNd.eq_1 hfm hlt hu hu' g0 g0' gl p4 p5 p5' q5 q5' y1 y2) (aj7 y3 y4 z4 z5 m1 hl1 @aS0)) ?_;intros;refine mk_i ?_)
      refine Aj_.mk ⟨i+1,by omega⟩ (Sub.lit (by simp[htk,hpt,dStr])) (by simp;omega)
      skip
    ·have p4':(u.x.k==4)=false:=by simpa using p4
     simp[p4,p5]at hpt
     (refine go1 (aj1 ku) aj0 (aj2 (aj16 @dT.eq_1 @dNd.eq_1 hfm hlt hu hu' g0 g0' gl p4 p4' p5 p5' y1 y2 y3) (aj6 y4 z4 z5 m1 hl1 @aS0)) ?_;intros;refine mk_i ?_)
     refine Aj_.mk ⟨i+1,by omega⟩ (Sub.lit (by simp[htk,hpt,dStr])) (by simp;omega)
     skip
  ·have hkk:i=ks.length:=by omega
   subst hkk;rw[aQ0];obtain⟨J,hJ⟩:∃J,J=Hj_ (txtL x.k ks) b:=⟨_,rfl⟩;have hJs:J.size≤37748736:=by rw[hJ];exact Nat.le_trans (GK_ _ _ (by rw[hbz];exact GT_ _)) hbig
   rw[←hJ]at kj ⊢;have y5:J.size+(sgn x.k).size≤maxLen:=by unfold maxLen;omega
   refine EP_ (Sub.freezeL [50] _) ?_;simp[hnt,Tryz.results263,KX_];exact go0 (aj2 kj kg) aj0 (aj1 y5)
def CR_ (t:RT):Int:=if 16<htT t then 171 else if 2048<(txtT t).size then 174 else 0
def XC_ : Ann:=⟨[],[]⟩
theorem Nk_ (t:RT) (ht:okT t=true) (hs:(flat t).length≤1572864):Ac_ Tryz.prog 182 [dNds (flat t)] (.int .i64 (CR_ t)):=by
 refine Aa_ [] XC_ Tryz.func182 Tryz.call182 Tryz.ntmps182 mxd (aj2 @XC_.eq_1 Tryz.results182) rfl (by simp) (by simp[mx]) fun hwf B hnt hgAnn=> ?_
 clear hwf;simp only[argS];have k1:=Hy_ t ht hs;have k2:=JH_ _ t rfl ht hs;unfold CR_;obtain⟨T,hT⟩:∃T,T=txtT t:=⟨_,rfl⟩;rw[←hT]at k2 ⊢
 by_cases c1:16<htT t
 ·have d1:(16:Int)<(htT t:Int):=by omega
  exact go0 (aj2 k1 k2) aj0 (aj2 c1 d1)
 ·have d1:¬(16:Int)<(htT t:Int):=by omega
  by_cases c2:2048<T.size
  ·have d2:(2048:Int)<(T.size:Int):=by omega
   exact go0 (aj2 k1 k2) aj0 (aj4 c1 d1 c2 d2)
  ·have d2:¬(2048:Int)<(T.size:Int):=by omega
   exact go0 (aj2 k1 k2) aj0 (aj4 c1 d1 c2 d2)
def He_ : Ann:=⟨[],[]⟩
theorem Kb_ (t:RT) (ht:okT t=true) (h:(flat t).length≤2048):Ac_ Tryz.prog 101 [dNds (flat t)] (.int .i64 (CR_ t)):=by
 refine Aa_ [] He_ Tryz.func101 Tryz.call101 Tryz.ntmps101 mxd (aj2 @He_.eq_1 Tryz.results101) rfl (by simp) (by simp[mx]) fun hwf B hnt hgAnn=> ?_
 clear hwf;simp only[argS];have k1:=Ed_ (flat t) (by omega);rw[DL_ ht]at k1;have k2:=Nk_ t ht (by omega);have d1:¬(2048:Int)<((flat t).length:Int):=by omega
 have d2:¬2048<(flat t).length:=by omega
 exact go0 (aj2 k1 k2) aj0 (aj2 d1 d2)
theorem Kc_ (l:List Nd) (h:2048<l.length):Ac_ Tryz.prog 101 [dNds l] (.int .i64 3):=by
 refine Aa_ [] He_ Tryz.func101 Tryz.call101 Tryz.ntmps101 mxd (aj2 @He_.eq_1 Tryz.results101) rfl (by simp) (by simp[mx]) fun hwf B hnt hgAnn=> ?_
 clear hwf;simp only[argS];have d1:(2048:Int)<(l.length:Int):=by omega
 exact go0 aj0 aj0 (aj2 d1 h)
theorem Un_ (l:List Nd) (h:l.length≤2048) (hw:CO_ l=false):Ac_ Tryz.prog 101 [dNds l] (.int .i64 170):=by
 refine Aa_ [] He_ Tryz.func101 Tryz.call101 Tryz.ntmps101 mxd (aj2 @He_.eq_1 Tryz.results101) rfl (by simp) (by simp[mx]) fun hwf B hnt hgAnn=> ?_
 clear hwf;simp only[argS];have k1:=Ed_ l (by omega);rw[hw]at k1;have d1:¬(2048:Int)<(l.length:Int):=by omega
 have d2:¬2048<l.length:=by omega
 exact go0 (aj1 k1) aj0 (aj2 d1 d2)
def KY_ : Ann:=⟨[],[]⟩
theorem IO_ (t:RT) (ht:okT t=true) (hs:(flat t).length≤1572864):Ac_ Tryz.prog 232 [dNds (flat t)] (.int .i64 (htT t)):=by
 refine Aa_ [] KY_ Tryz.func232 Tryz.call232 Tryz.ntmps232 mxd (aj2 @KY_.eq_1 Tryz.results232) rfl (by simp) (by simp[mx]) fun hwf B hnt hgAnn=> ?_
 clear hwf;simp only[argS];have k1:=Ed_ (flat t) hs;rw[DL_ ht]at k1;have k2:=Hy_ t ht hs;exact go0 (aj2 k1 k2) aj0 aj0
theorem RV_ (l:List Nd) (hs:l.length≤1572864) (hw:CO_ l=false):Ac_ Tryz.prog 232 [dNds l] (.int .i64 0):=by
 refine Aa_ [] KY_ Tryz.func232 Tryz.call232 Tryz.ntmps232 mxd (aj2 @KY_.eq_1 Tryz.results232) rfl (by simp) (by simp[mx]) fun hwf B hnt hgAnn=> ?_
 clear hwf;simp only[argS];have k1:=Ed_ l hs;rw[hw]at k1;exact go0 (aj1 k1) aj0 aj0
structure At (l:List Nd) (p:Nat) (t:RT):Prop where
 ok:okT t=true
 le:p≤l.length
 eq:∃r,l.drop p=flat t++r
def kidP (p:Nat) (ks:List RT) (i:Nat):Nat:=p+1+(Am_ (ks.take i)).length
def kidD (n:Nat):List DVal:=[.int .i64 (n:Int)]
def LV_ (p:Nat) (ks:List RT):DVal:= .sl 1 8 ((List.range ks.length).map fun i=>kidD (kidP p ks i))
@[simp] theorem mx_kidD (n:Nat):mxL (kidD n)=0:=by simp[kidD,mxL,mx]
@[simp] theorem FZ_ (p:Nat) (ks:List RT) (n:Nat):mxR ((List.range n).map fun i=>kidD (kidP p ks i))=0:=mxR0 (fun i=>kidD (kidP p ks i)) (fun i=>mx_kidD _) _
theorem At.top {t:RT} (h:okT t=true):At (flat t) 0 t:=⟨h,by omega,[],by simp⟩
theorem At.kid {l:List Nd} {p:Nat} {x:Nd} {ks:List RT} (h:At l p (.mk x ks)) {i:Nat} {u:RT} (hu:ks[i]? =some u):At l (kidP p ks i) u∧endN (l.drop (kidP p ks i)) 1=some (l.drop (kidP p ks (i+1)))∧kidP p ks (i+1)≤l.length:=by
 obtain⟨hok,hle,r,hr⟩:=h;obtain⟨_,_,h3⟩:=Bx_ hok;obtain⟨hi,rfl⟩:=aB0.1 hu;have hlen:(l.drop p).length=1+(Am_ ks).length+r.length:=by rw[hr,AB_,aC0,List.length_cons];omega
 rw[bS0]at hlen;have hsp:=HS_ ks i;have hdr:=aR0 hi;have hnx:=Jz_ (ks:=ks) hu;have hfl:(Am_ ks).length=(Am_ (ks.take i)).length+((flat ks[i]).length+(Am_ (ks.drop (i+1))).length):=by rw[hsp,aC0,hdr,An_,aC0]
 have hdrop:l.drop (kidP p ks i)=flat ks[i]++(Am_ (ks.drop (i+1))++r):=by
  unfold kidP;rw[cS0,←eX0,hr,AB_,Nat.add_comm 1,List.cons_append,dW0,hsp,aU0,dY0 (Nat.le_refl _),bQ0,List.nil_append,hdr,An_,aU0]
 have hoku:okT ks[i]=true:=OX_ h3 _ (cY0 hi);refine⟨⟨hoku,by unfold kidP;omega,_,hdrop⟩,?_,by unfold kidP;omega⟩;rw[hdrop,EJ_ _ _ 0 hoku,BL_]
 congr 1
 have h5:kidP p ks (i+1)=kidP p ks i+(flat ks[i]).length:=by unfold kidP;omega
 have h6:l.drop (kidP p ks i+(flat ks[i]).length)=(l.drop (kidP p ks i)).drop (flat ks[i]).length:=by rw[eX0]
 rw[h5,h6,hdrop,dY0 (Nat.le_refl _),bQ0,List.nil_append]
theorem At.head {l:List Nd} {p:Nat} {t:RT} (h:At l p t):l[p]? =some t.x∧p<l.length∧p+(flat t).length≤l.length:=by
 obtain⟨hok,hle,r,hr⟩:=h;have h1:=Fr_ t;have h2:=congrArg List.length hr;rw[bS0,aC0]at h2;refine⟨?_,by omega,by omega⟩;have h3:(l.drop p)[0]? =some t.x:=by rw[hr,bB0 (by omega)];exact Mi_ t
 rw[cT0]at h3;simpa using h3
def Qm_ : Ann:=⟨[],[]⟩
set_option maxHeartbeats 4000000 in
theorem CW_ (l:List Nd) (p:Nat) (x:Nd) (ks:List RT) (h:At l p (.mk x ks)) (hs:l.length≤1572864):Ac_ Tryz.prog 205 [dNds l,.int .i64 p] (LV_ p ks):=by
 refine Aa_ [50] Qm_ Tryz.func205 Tryz.call205 Tryz.ntmps205 mxd (aj2 @Qm_.eq_1 Tryz.results205) rfl (by simp) (by simp[mx,LV_]) fun hwf B hnt hgAnn=> ?_
 clear hwf;simp only[argS];obtain⟨hm,hn,hok⟩:=Bx_ h.ok;obtain⟨g0,gl,ge⟩:=h.head;have g0':l[p]'gl=x:=(aB0.1 g0).2;have hkl:ks.length≤1572864:=by have:=BK_ ks;rw[AB_,List.length_cons]at ge;omega
 simp only[RT.x]at g0;unfold LV_
 (refine go1 aj0 aj0 aj0 ?_;intros;refine mk_i ?_)
 refine AV_ 5 50 3 1 8 (by simp[hnt,Tryz.results205,Qm_]) (fun n=> ?_);refine Ae_ (X:={i:Nat//i≤ks.length}) (fun i=>⟨[(0,dNds l),(1,.int .i64 p),(5,.osl 50 1),(6,.int .i64 (kidP p ks i.1)),(7,.int .i64 i.1)],[⟨50,1,.row 3 1 8 ((List.range i.1).map fun i=>kidD (kidP p ks i))⟩]⟩) (fun i=>ks.length-i.1) ⟨0,by omega⟩ (Sub.lit (by simp[kidP,Am_])) ?_;rintro⟨i,hi⟩;simp only
 by_cases hlt:i<ks.length
 ·obtain⟨u,hu,hu',_⟩:=Ak_ hlt;obtain⟨a1,a2,a3⟩:=h.kid hu;have e1:=HW_ l (kidP p ks i) hs a1.le;unfold endI at e1;rw[a2]at e1;simp only[bS0]at e1;have hq:(l.length:Int)-((l.length-kidP p ks (i+1):Nat):Int)=(kidP p ks (i+1):Int):=by omega
  rw[hq]at e1;have hr:(List.range (i+1)).map (fun i=>kidD (kidP p ks i))=(List.range i).map (fun i=>kidD (kidP p ks i))++[kidD (kidP p ks i)]:=by rw[eA0,aX0];rfl
  have z1:(i+1)*8≤150000000000000:=by omega
  have z2:i+1≤9223372036854775807:=by omega
  obtain⟨q,hqq⟩:∃q,q=kidP p ks i:=⟨_,rfl⟩;obtain⟨q',hqq'⟩:∃q',q'=kidP p ks (i+1):=⟨_,rfl⟩;rw[←hqq,←hqq']at e1;rw[←hqq]at hr ⊢;have hDm:=FZ_ p ks i;have hDl:((List.range i).map fun i=>kidD (kidP p ks i)).length=i:=by simp
  obtain⟨D,hD⟩:∃D,D=(List.range i).map fun i=>kidD (kidP p ks i):=⟨_,rfl⟩
  rw[←hD]at hr hDm hDl ⊢;have hr2:(List.range (i+1)).map (fun i=>kidD (kidP p ks i))=D++[[.int .i64 (q:Int)]]:=hr;clear hD hr
  (refine go1 (aj1 e1) aj0 (aj9 @dNd.eq_1 g0 g0' gl hn hlt z1 z2 hDl) ?_;intros;refine mk_i ?_)
  refine Aj_.mk ⟨i+1,by omega⟩ (Sub.lit (by simp only[←hqq',hr2];simp[hDm,Ba_])) (by simp;omega)
  skip
 ·have hkk:i=ks.length:=by omega
  subst hkk;exact go0 aj0 aj0 (aj5 @dNd.eq_1 g0 g0' gl hn)
theorem VO_ : ∀(a:List RT) (u:RT),htL (a++[u])=max (htL a) (htT u)
 | [],u=>by rw[List.nil_append,GM_,Ma_];omega
 | t::a,u=>by rw[List.cons_append,GM_,VO_ a u,GM_];omega
theorem htL_take {ks:List RT} {i:Nat} {u:RT} (h:ks[i]? =some u):htL (ks.take (i+1))=max (htL (ks.take i)) (htT u):=by
 rw[bF0,h];exact VO_ _ _
mutual
theorem ht_leT : ∀t:RT,htT t≤(flat t).length
 | .mk x ks=>by rw[VN_,AB_,List.length_cons];have:=ht_leL ks;omega
theorem ht_leL : ∀ts:List RT,htL ts≤(Am_ ts).length
 | []=>by rw[Ma_];omega
 | t::ts=>by rw[GM_,An_,aC0];have:=ht_leT t;have:=ht_leL ts;omega
end
theorem PK_ (ks:List RT) (i:Nat):(Am_ (ks.take i)).length≤(Am_ ks).length:=by
 have:=congrArg List.length (HS_ ks i);rw[aC0]at this;omega
theorem Fm_ {p:Nat} {ks:List RT} {i:Nat} (h:i<ks.length):((List.range ks.length).map fun i=>kidD (kidP p ks i))[i]? =some [.int .i64 (kidP p ks i:Int)]:=by
 rw[bI0,eT0 h];rfl
def Xt_ : Ann:=⟨[],[]⟩
set_option maxHeartbeats 4000000 in
theorem Hx_ : ∀(n:Nat) (t:RT) (l:List Nd) (p:Nat),(flat t).length=n→At l p t→l.length≤1572864→Ac_ Tryz.prog 204 [dNds l,.int .i64 p] (.int .i64 (htT t)):=by
 intro n
 induction n using Nat.strongRecOn with
 | ind n ih =>
 intro t l p hn ht hs;obtain⟨x,ks⟩:=t;have kk:=CW_ l p x ks ht hs;obtain⟨g0,gl,ge⟩:=ht.head;have hfl:(flat (.mk x ks)).length=(Am_ ks).length+1:=by rw[AB_,List.length_cons]
 have hkl:=BK_ ks;have hk9:ks.length≤1572864:=by omega
 have hch:∀i u,ks[i]? =some u→Ac_ Tryz.prog 204 [dNds l,.int .i64 (kidP p ks i)] (.int .i64 (htT u)):=fun i u hu=>by
  have hm:=Dr_ (bL0 hu);exact ih (flat u).length (by omega) u l _ rfl (ht.kid hu).1 hs
 have hrow:∀i,i<ks.length→_:=fun i h=>Fm_ (p:=p) (ks:=ks) (i:=i) h
 have hht:htL ks≤1572864:=by have:=ht_leL ks;omega
 rw[VN_];unfold LV_ at kk;obtain⟨D,hD⟩:∃D,D=(List.range ks.length).map fun i=>kidD (kidP p ks i):=⟨_,rfl⟩
 have hDl:D.length=ks.length:=by rw[hD];simp
 have hDm:mxR D=0:=by rw[hD];exact FZ_ p ks _
 rw[←hD]at kk hrow;clear hD ih ht g0 gl ge hn;refine Aa_ [] Xt_ Tryz.func204 Tryz.call204 Tryz.ntmps204 mxd (aj2 @Xt_.eq_1 Tryz.results204) rfl (by simp) (by simp[mx]) fun hwf B hnt hgAnn=> ?_
 clear hwf;simp only[argS]
 (refine go1 (aj1 kk) aj0 aj0 ?_;intros;refine mk_i ?_)
 refine Ae_ (X:={i:Nat//i≤ks.length}) (fun i=>⟨[(0,dNds l),(5,.int .i64 (htL (ks.take i.1))),(6,.sl 1 8 D),(7,.int .i64 i.1)],[]⟩) (fun i=>ks.length-i.1) ⟨0,by omega⟩ (Sub.lit (by simp[Ma_,hDm])) ?_;rintro⟨i,hi⟩;simp only
 by_cases hlt:i<ks.length
 ·obtain⟨u,hu,hu',_⟩:=Ak_ hlt;have e1:=hch i u hu;have hr:=hrow i hlt;have hltD:i<D.length:=by omega
  have hwi:IntKind.i64.wrap ((i:Int)+1)=(i:Int)+1:=wq;have hr':D[i]'hltD=[.int .i64 (kidP p ks i:Int)]:=(aB0.1 hr).2;have htk:=htL_take hu;obtain⟨a,ha⟩:∃a,a=htL (ks.take i):=⟨_,rfl⟩;obtain⟨c,hcc⟩:∃c,c=htT u:=⟨_,rfl⟩;rw[←ha,←hcc]at htk;rw[←hcc]at e1;rw[←ha];obtain⟨q,hq⟩:∃q,q=kidP p ks i:=⟨_,rfl⟩;rw[←hq]at e1 hr hr'
  by_cases hgt:a<c
  ·have hgt':(a:Int)<(c:Int):=by omega
   have hmx:((htL (ks.take (i+1)):Nat):Int)=(c:Int):=by omega
   (refine go1 (aj1 e1) aj0 (aj8 hDl hltD hwi hr hr' hgt hgt' hlt) ?_;intros;refine mk_i ?_)
   refine Aj_.mk ⟨i+1,by omega⟩ (Sub.lit (by simp only[hmx];simp[hDm])) (by simp;omega)
   skip
  ·have hgt':¬(a:Int)<(c:Int):=by omega
   have hmx:((htL (ks.take (i+1)):Nat):Int)=(a:Int):=by omega
   (refine go1 (aj1 e1) aj0 (aj8 hDl hltD hwi hr hr' hgt hgt' hlt) ?_;intros;refine mk_i ?_)
   refine Aj_.mk ⟨i+1,by omega⟩ (Sub.lit (by simp only[hmx];simp[hDm])) (by simp;omega)
   skip
 ·have hkk:i=ks.length:=by omega
  subst hkk;rw[aQ0];have q1:IntKind.i64.wrap ((htL ks:Int)+1)=(htL ks:Int)+1:=wq;exact go0 aj0 aj0 (aj2 hDl q1)
theorem any_take {α:Type} {f:α→Bool} {l:List α} {i:Nat} {u:α} (h:l[i]? =some u):(l.take (i+1)).any f=((l.take i).any f||f u):=by
 rw[bF0,h,eB0];simp
theorem all_take {α:Type} {f:α→Bool} {l:List α} {i:Nat} {u:α} (h:l[i]? =some u):(l.take (i+1)).all f=((l.take i).all f&&f u):=by
 rw[bF0,h,eU0];simp
def Xu_ : Ann:=⟨[],[]⟩
set_option maxHeartbeats 4000000 in
theorem Em_ : ∀(n:Nat) (t:RT) (l:List Nd) (p:Nat),(flat t).length=n→At l p t→l.length≤1572864→Ac_ Tryz.prog 142 [dNds l,.int .i64 p] (.bool (empT t)):=by
 intro n
 induction n using Nat.strongRecOn with
 | ind n ih =>
 intro t l p hn ht hs;obtain⟨x,ks⟩:=t;have kk:=CW_ l p x ks ht hs;have hm:=(Bx_ ht.ok).1;obtain⟨g0,gl,ge⟩:=ht.head;simp only[RT.x]at g0;have g0':l[p]'gl=x:=(aB0.1 g0).2;have hfl:(flat (.mk x ks)).length=(Am_ ks).length+1:=by rw[AB_,List.length_cons]
 have hkl:=BK_ ks;have hk9:ks.length≤1572864:=by omega
 have hch:∀i u,ks[i]? =some u→Ac_ Tryz.prog 142 [dNds l,.int .i64 (kidP p ks i)] (.bool (empT u)):=fun i u hu=>by
  have hm:=Dr_ (bL0 hu);exact ih (flat u).length (by omega) u l _ rfl (ht.kid hu).1 hs
 have hrow:∀i,i<ks.length→_:=fun i h=>Fm_ (p:=p) (ks:=ks) (i:=i) h
 rw[Mo_,KO_,Le_];unfold LV_ at kk;obtain⟨D,hD⟩:∃D,D=(List.range ks.length).map fun i=>kidD (kidP p ks i):=⟨_,rfl⟩
 have hDl:D.length=ks.length:=by rw[hD];simp
 have hDm:mxR D=0:=by rw[hD];exact FZ_ p ks _
 rw[←hD]at kk hrow;clear hD ih ht ge hn;refine Aa_ [] Xu_ Tryz.func142 Tryz.call142 Tryz.ntmps142 mxd (aj2 @Xu_.eq_1 Tryz.results142) rfl (by simp) (by simp[mx]) fun hwf B hnt hgAnn=> ?_
 clear hwf;simp only[argS]
 (refine go1 (aj1 kk) aj0 (aj4 @dNd.eq_1 g0 g0' gl) ?_;intros;refine mk_i ?_)
 refine Ae_ (X:={i:Nat//i≤ks.length}) (fun i=>⟨[(0,dNds l),(5,.int .i64 x.k),(6,.sl 1 8 D),(7,.bool ((ks.take i.1).any empT)),(8,.bool ((ks.take i.1).all empT)),(9,.int .i64 i.1)],[]⟩) (fun i=>ks.length-i.1) ⟨0,by omega⟩ (Sub.lit (by simp[hDm])) ?_;rintro⟨i,hi⟩;simp only
 by_cases hlt:i<ks.length
 ·obtain⟨u,hu,hu',_⟩:=Ak_ hlt;have e1:=hch i u hu;have hr:=hrow i hlt;have hltD:i<D.length:=by omega
  have hwi:IntKind.i64.wrap ((i:Int)+1)=(i:Int)+1:=wq;have hr':D[i]'hltD=[.int .i64 (kidP p ks i:Int)]:=(aB0.1 hr).2;have h1:=any_take (f:=empT) hu;have h2:=all_take (f:=empT) hu;obtain⟨a,ha⟩:∃a,a=(ks.take i).any empT:=⟨_,rfl⟩;obtain⟨b,hb⟩:∃b,b=(ks.take i).all empT:=⟨_,rfl⟩;rw[←ha]at h1;rw[←hb]at h2;rw[←ha,←hb];obtain⟨q,hq⟩:∃q,q=kidP p ks i:=⟨_,rfl⟩;rw[←hq]at e1 hr hr'
  (refine go1 (aj1 e1) aj0 (aj6 hDl hltD hwi hr hr' hlt) ?_;intros;refine mk_i ?_)
  refine Aj_.mk ⟨i+1,by omega⟩ (Sub.lit (by simp only[h1,h2];simp[hDm])) (by simp;omega)
  skip
 ·have hkk:i=ks.length:=by omega
  subst hkk;rw[aQ0]
  rcases ID_ hm with k | k | k | k | k | k | k | k<;>exact go0 aj0 aj0 (aj2 hDl k)
theorem okL_take {ks:List RT} (h:okL ks=true) (i:Nat):okL (ks.take i)=true:=by
 have:=OY_ (ks.take i) (ks.drop i);rw[List.take_append_drop,h]at this;simpa using (by simpa using this.symm:okL (ks.take i)=true∧okL (ks.drop i)=true).1
def accT (x:Nd) (ks:List RT) (i:Nat):ByteArray:=if i=0 then x.s else Hj_ (txtL x.k (ks.take i)) (btw x.k)
theorem MM_ (x:Nd) (ks:List RT):accT x ks 0=x.s:=rfl
theorem accT_one {x:Nd} {ks:List RT} {u:RT} (h:ks[0]? =some u):accT x ks 1=parT x.k u.x.k (txtT u):=by
 unfold accT;rw[if_neg (by omega),show ks.take 1=[u] by rw[bF0,h];simp,EA_,Kq_];rfl
theorem accT_succ {x:Nd} {ks:List RT} {i:Nat} {u:RT} (hi:0<i) (h:ks[i]? =some u):accT x ks (i+1)=accT x ks i++btw x.k++parT x.k u.x.k (txtT u):=by
 unfold accT;rw[if_neg (by omega),if_neg (by omega),QD_ h];obtain⟨hl,_⟩:=aB0.1 h
 have hne:txtL x.k (ks.take i)≠[]:=fun e=>by
  have:=congrArg List.length e;rw[Os_,aY0]at this;simp only[List.length_nil]at this;omega
 cases hx:txtL x.k (ks.take i)with
 | nil=>exact absurd hx hne
 | cons y r =>
  show (r++[_]).foldl (DF_ (btw x.k)) y=_
  rw[cR0];rfl
theorem accT_size {x:Nd} {ks:List RT} (hok:okL ks=true) (hs:x.s.size≤16) (i:Nat):(accT x ks i).size≤16+24*(Am_ ks).length:=by
 unfold accT
 split
 ·omega
 ·have h1:=GK_ (txtL x.k (ks.take i)) (btw x.k) (GT_ _);have h2:=(If_ x.k (ks.take i) (okL_take hok i)).1;have h3:=PK_ ks i;omega
theorem empty_s {x:Nd} (h:mayN x=true) (h2:¬(x.k=2∨x.k=3)):x.s=⟨#[]⟩:=by
 unfold mayN emp at h;rw[if_neg (fun e=>h2 (.inl e)),if_neg (fun e=>h2 (.inr e))]at h
 repeat' split at h
 all_goals simp only[aN0,decide_eq_true_eq,aL0]at h
 all_goals first | exact h.1 | (exact absurd h (by simp))
theorem QO_ (x:ByteArray):x++(⟨#[]⟩:ByteArray)=x:=by
 apply Gs_
 simp[ByteArray.data_append]
def Xq_ : Ann:=⟨[],[]⟩
set_option maxHeartbeats 8000000 in
theorem Li_ : ∀(n:Nat) (t:RT) (l:List Nd) (p:Nat),(flat t).length=n→At l p t→l.length≤1572864→Ac_ Tryz.prog 135 [dNds l,.int .i64 p] (.str (txtT t)):=by
 intro n
 induction n using Nat.strongRecOn with
 | ind n ih =>
 intro t l p hn ht hs;obtain⟨x,ks⟩:=t;have kk:=CW_ l p x ks ht hs;obtain⟨hm,hkn,hok⟩:=Bx_ ht.ok;obtain⟨g0,gl,ge⟩:=ht.head;simp only[RT.x]at g0;have g0':l[p]'gl=x:=(aB0.1 g0).2;have hfl:(flat (.mk x ks)).length=(Am_ ks).length+1:=by rw[AB_,List.length_cons]
 have hkl:=BK_ ks;have hk9:ks.length≤1572864:=by omega
 have hch:∀i u,ks[i]? =some u→Ac_ Tryz.prog 135 [dNds l,.int .i64 (kidP p ks i)] (.str (txtT u))∧l[kidP p ks i]? =some u.x∧(txtT u).size≤37748736:=fun i u hu=>by
  have hm:=Dr_ (bL0 hu);have hu2:=(ht.kid hu).1;have h3:=(FN_ u hu2.ok).2;exact⟨ih (flat u).length (by omega) u l _ rfl hu2 hs,hu2.head.1,by omega⟩
 have hrow:∀i,i<ks.length→_:=fun i h=>Fm_ (p:=p) (ks:=ks) (i:=i) h
 have hacs:=accT_size (x:=x) hok (LP_ hm);have hxs:=LP_ hm;have hbig:16+24*(Am_ ks).length≤37748756:=by omega
 rw[Or_];unfold LV_ at kk;obtain⟨D,hD⟩:∃D,D=(List.range ks.length).map fun i=>kidD (kidP p ks i):=⟨_,rfl⟩
 have hDl:D.length=ks.length:=by rw[hD];simp
 have hDm:mxR D=0:=by rw[hD];exact FZ_ p ks _
 rw[←hD]at kk hrow;have h6:x.k=6∨x.k=7∨x.k=8→ks.length=1:=fun h=>by obtain⟨u,rfl⟩:=OT_ ht.ok h;rfl
 have h8:¬x.k=1→¬(x.k=2∨x.k=3)→¬x.k=5→x.k=4∨x.k=6∨x.k=7∨x.k=8:=fun a b c=>by have:=ID_ hm;omega
 have hlf:x.k=2∨x.k=3→ks.length=0:=fun h=>by rw[Fl_ ht.ok h];rfl
 have hpos:¬x.k=1→¬(x.k=2∨x.k=3)→1≤ks.length:=fun a b=>by have:=LQ_ hm a b;omega
 have hemp:¬(x.k=2∨x.k=3)→x.s=⟨#[]⟩:=empty_s hm;clear hD ih ht ge hn hok hm;have z0:(⟨#[]⟩:ByteArray).size=0:=rfl;have z1:(⟨#[37]⟩:ByteArray).size=1:=rfl;have z2:(⟨#[32]⟩:ByteArray).size=1:=rfl;have z3:(⟨#[32,124,32]⟩:ByteArray).size=3:=rfl;have z4:(⟨#[40]⟩:ByteArray).size=1:=rfl;have z5:(⟨#[41]⟩:ByteArray).size=1:=rfl;have z6:(⟨#[42]⟩:ByteArray).size=1:=rfl;have z7:(⟨#[43]⟩:ByteArray).size=1:=rfl
 have z8:(⟨#[63]⟩:ByteArray).size=1:=rfl;have m1:1≤maxLen:=by decide
 have m3:3≤maxLen:=by decide
 have mbig:100000000≤maxLen:=by decide
 refine Aa_ [] Xq_ Tryz.func135 Tryz.call135 Tryz.ntmps135 mxd (aj2 @Xq_.eq_1 Tryz.results135) rfl (by simp) (by simp[mx]) fun hwf B hnt hgAnn=> ?_
 clear hwf;simp only[argS]
 by_cases k1:x.k=1
 ·rw[if_pos k1];exact go0 aj0 aj0 (aj7 @dNd.eq_1 g0 g0' gl z1 m1 k1)
 rw[if_neg k1];obtain⟨R,hR⟩:∃R,R=(if x.k=2∨x.k=3 then x.s else Hj_ (txtL x.k ks) (btw x.k)++sgn x.k):=⟨_,rfl⟩;rw[←hR];have k1':(x.k==1)=false:=by simpa using k1
 (refine go1 (aj1 kk) aj0 (aj6 @dNd.eq_1 g0 g0' gl k1 k1') ?_;intros;refine mk_i ?_)
 refine Ae_ (X:={i:Nat//i≤ks.length}) (fun i=>⟨[(0,dNds l),(5,.int .i64 x.k),(6,.str (accT x ks i.1)),(7,.sl 1 8 D),(8,.int .i64 i.1)],[]⟩) (fun i=>ks.length-i.1) ⟨0,by omega⟩ (Sub.lit (by simp[MM_,hDm])) ?_;rintro⟨i,hi⟩;simp only
 by_cases hlt:i<ks.length
 ·have k2:¬(x.k=2∨x.k=3):=fun h=>by have:=hlf h;omega
  have hx0:=hemp k2;obtain⟨u,hu,hu',_⟩:=Ak_ hlt;obtain⟨e1,gu,hus⟩:=hch i u hu;have hr:=hrow i hlt;have hltD:i<D.length:=by omega
  have hwi:IntKind.i64.wrap ((i:Int)+1)=(i:Int)+1:=wq;have hr':D[i]'hltD=[.int .i64 (kidP p ks i:Int)]:=(aB0.1 hr).2;have hac:=hacs i;obtain⟨q,hq⟩:∃q,q=kidP p ks i:=⟨_,rfl⟩;rw[←hq]at e1 hr hr' gu;have gq:q<l.length:=(aB0.1 gu).1;have gu':l[q]'gq=u.x:=(aB0.1 gu).2;have hpt:parT x.k u.x.k (txtT u)=if parB x.k u.x.k then ⟨#[40]⟩++txtT u++⟨#[41]⟩else txtT u:=rfl
  have hnx:accT x ks (i+1)=(if i=0 then ⟨#[]⟩else accT x ks i++btw x.k)++parT x.k u.x.k (txtT u):=by
   by_cases h0:i=0
   ·subst h0;rw[if_pos rfl,Kt_];exact accT_one hu
   ·rw[if_neg h0];exact accT_succ (by omega) hu
  have hz:i=0→accT x ks i=⟨#[]⟩:=fun h=>by rw[h,MM_,hx0]
  obtain⟨s,hs2⟩:∃s,s=txtT u:=⟨_,rfl⟩;rw[←hs2]at e1 hus hpt hnx;obtain⟨P,hP⟩:∃P,P=parT x.k u.x.k s:=⟨_,rfl⟩;rw[←hP]at hpt hnx;obtain⟨a,ha⟩:∃a,a=accT x ks i:=⟨_,rfl⟩;rw[←ha]at hac hnx hz ⊢;have y3:1+s.size≤maxLen:=by omega
  have y4:1+s.size+1≤maxLen:=by omega
  have y5:a.size+3≤maxLen:=by omega
  have y6:a.size+1≤maxLen:=by omega
  have y7:a.size+P.size≤maxLen:=by
   have:=(IA_ x.k u.x.k s).2;rw[←hP]at this;omega
  have y8:a.size+3+P.size≤maxLen:=by
   have:=(IA_ x.k u.x.k s).2;rw[←hP]at this;omega
  have y9:a.size+1+P.size≤maxLen:=by omega
  unfold parB at hpt;clear hs2 ha hP;unfold btw at hnx
  by_cases h0:i=0
  ·have hp0:¬(0:Int)<(i:Int):=by omega
   rw[if_pos h0,Kt_]at hnx;have ha0:=hz h0;subst ha0;have w1:⟨#[]⟩++P=P:=Kt_ P;have y7':P.size≤maxLen:=by omega
   by_cases p5:u.x.k=5
   ·simp[p5]at hpt;subst hpt;simp only[aS0,z4,z5]at y7'
    (refine go1 (aj1 e1) aj0 (aj2 (aj16 @dNd.eq_1 gu gu' gq hltD hDl hwi hr hr' hlt hp0 p5 z0 z4 z5 m1) (aj5 y3 y4 y7' w1 @aS0)) ?_;intros;refine mk_i ?_)
    refine Aj_.mk ⟨i+1,by omega⟩ (Sub.lit (by simp[hnx,hDm])) (by simp;omega)
    skip
   ·have p5':(u.x.k==5)=false:=by simpa using p5
    by_cases p4:u.x.k=4
    ·by_cases q5:x.k=5
     ·simp[p4,q5]at hpt;subst hpt
      (refine go1 (aj1 e1) aj0 (aj2 (aj16 @dNd.eq_1 gu gu' gq hltD hDl hwi hr hr' hlt hp0 p4 p5 p5' q5 z0) (aj8 z4 z5 m1 y3 y4 y7' w1 @aS0)) ?_;intros;refine mk_i ?_)
      refine Aj_.mk ⟨i+1,by omega⟩ (Sub.lit (by simp[hnx,hDm,q5])) (by simp;omega)
      skip
     ·have q5':(x.k==5)=false:=by simpa using q5
      simp[p4,q5]at hpt;subst hpt;simp only[aS0,z4,z5]at y7'
      (refine go1 (aj1 e1) aj0 (aj2 (aj16 @dNd.eq_1 gu gu' gq hltD hDl hwi hr hr' hlt hp0 p4 p5 p5' q5 q5') (aj9 z0 z4 z5 m1 y3 y4 y7' w1 @aS0)) ?_;intros;refine mk_i ?_)
      refine Aj_.mk ⟨i+1,by omega⟩ (Sub.lit (by simp[hnx,hDm])) (by simp;omega)
      skip
    ·have p4':(u.x.k==4)=false:=by simpa using p4
     simp[p4,p5]at hpt;subst hpt
     (refine go1 (aj1 e1) aj0 (aj2 (aj16 @dNd.eq_1 gu gu' gq hltD hDl hwi hr hr' hlt hp0 p4 p4' p5 p5' z0) (aj8 z4 z5 m1 y3 y4 y7' w1 @aS0)) ?_;intros;refine mk_i ?_)
     refine Aj_.mk ⟨i+1,by omega⟩ (Sub.lit (by simp[hnx,hDm])) (by simp;omega)
     skip
  ·have hp0:(0:Int)<(i:Int):=by omega
   rw[if_neg h0]at hnx;clear hz
   by_cases q5:x.k=5
   ·rw[if_pos q5]at hnx;have q4':(x.k==4)=false:=by simp[q5]
    by_cases p5:u.x.k=5
    ·simp[p5]at hpt;subst hpt;simp only[aS0,z4,z5]at y8
     (refine go2 (aj1 e1) aj0 (aj2 (aj16 @dNd.eq_1 gu gu' gq hltD hDl hwi hr hr' hlt hp0 p5 q5 q4' z0 z3) (aj9 z4 z5 m1 m3 y3 y4 y5 y8 @aS0)) ?_ ?_<;>(intros;refine mk_i ?_))
     refine Aj_.mk ⟨i+1,by omega⟩ (Sub.lit (by simp[hnx,hDm,q5])) (by simp;omega);exact go0 (aj1 e1) aj0 aj0
    ·have p5':(u.x.k==5)=false:=by simpa using p5
     simp[p5,q5]at hpt;subst hpt
     by_cases p4:u.x.k=4
     ·(refine go2 (aj1 e1) aj0 (aj2 (aj16 @dNd.eq_1 gu gu' gq hltD hDl hwi hr hr' hlt hp0 p5 p5' p4 q5 q4') (aj11 z0 z3 z4 z5 m1 m3 y3 y4 y5 y8 @aS0)) ?_ ?_<;>(intros;refine mk_i ?_))
      refine Aj_.mk ⟨i+1,by omega⟩ (Sub.lit (by simp[hnx,hDm,q5])) (by simp;omega);exact go0 (aj1 e1) aj0 aj0
     ·have p4':(u.x.k==4)=false:=by simpa using p4
      (refine go2 (aj1 e1) aj0 (aj2 (aj16 @dNd.eq_1 gu gu' gq hltD hDl hwi hr hr' hlt hp0 p5 p5' p4 p4' q5) (aj12 q4' z0 z3 z4 z5 m1 m3 y3 y4 y5 y8 @aS0)) ?_ ?_<;>(intros;refine mk_i ?_))
      refine Aj_.mk ⟨i+1,by omega⟩ (Sub.lit (by simp[hnx,hDm,q5])) (by simp;omega);exact go0 (aj1 e1) aj0 aj0
   ·have q5':(x.k==5)=false:=by simpa using q5
    have q4:x.k=4:=by
     rcases (show x.k=4∨x.k=6∨x.k=7∨x.k=8 from h8 k1 k2 q5)with h | h
     ·exact h
     ·have:=h6 h;omega
    rw[if_neg q5,if_pos q4]at hnx
    by_cases p5:u.x.k=5
    ·simp[p5]at hpt;subst hpt;simp only[aS0,z4,z5]at y9
     (refine go2 (aj1 e1) aj0 (aj2 (aj16 @dNd.eq_1 gu gu' gq hltD hDl hwi hr hr' hlt hp0 p5 q5 q5' q4 z0) (aj9 z2 z4 z5 m1 y3 y4 y6 y9 @aS0)) ?_ ?_<;>(intros;refine mk_i ?_))
     refine Aj_.mk ⟨i+1,by omega⟩ (Sub.lit (by simp[hnx,hDm,q4])) (by simp;omega);exact go0 (aj1 e1) aj0 aj0
    ·have p5':(u.x.k==5)=false:=by simpa using p5
     by_cases p4:u.x.k=4
     ·simp[p4,q5]at hpt;subst hpt;simp only[aS0,z4,z5]at y9
      (refine go2 (aj1 e1) aj0 (aj2 (aj16 @dNd.eq_1 gu gu' gq hltD hDl hwi hr hr' hlt hp0 p4 p5 p5' q5 q5') (aj11 q4 z0 z2 z4 z5 m1 y3 y4 y6 y9 @aS0)) ?_ ?_<;>(intros;refine mk_i ?_))
      refine Aj_.mk ⟨i+1,by omega⟩ (Sub.lit (by simp[hnx,hDm,q4])) (by simp;omega);exact go0 (aj1 e1) aj0 aj0
     ·have p4':(u.x.k==4)=false:=by simpa using p4
      simp[p4,p5]at hpt;subst hpt
      (refine go2 (aj1 e1) aj0 (aj2 (aj16 @dNd.eq_1 gu gu' gq hltD hDl hwi hr hr' hlt hp0 p4 p4' p5 p5' q5) (aj12 q5' q4 z0 z2 z4 z5 m1 y3 y4 y6 y9 @aS0)) ?_ ?_<;>(intros;refine mk_i ?_))
      refine Aj_.mk ⟨i+1,by omega⟩ (Sub.lit (by simp[hnx,hDm,q4])) (by simp;omega);exact go0 (aj1 e1) aj0 aj0
 ·have hkk:i=ks.length:=by omega
  subst hkk;have hac:=hacs ks.length
  have hfin:(if x.k=2∨x.k=3 then x.s else Hj_ (txtL x.k ks) (btw x.k)++sgn x.k)=accT x ks ks.length++sgn x.k:=by
   by_cases k2:x.k=2∨x.k=3
   ·rw[if_pos k2,hlf k2,MM_];have:sgn x.k=⟨#[]⟩:=by unfold sgn;rw[if_neg (by omega),if_neg (by omega),if_neg (by omega)]
    rw[this,QO_]
   ·rw[if_neg k2];unfold accT;rw[if_neg (by have:=hpos k1 k2;omega),aQ0]
  rw[hfin]at hR;clear hfin;obtain⟨a,ha⟩:∃a,a=accT x ks ks.length:=⟨_,rfl⟩;rw[←ha]at hac hR ⊢;have y6:a.size+1≤maxLen:=by omega
  have y0:a.size≤maxLen:=by omega
  unfold sgn at hR
  by_cases j6:x.k=6
  ·rw[if_pos j6]at hR;subst hR;exact go0 aj0 aj0 (aj7 hDl j6 z6 y6 y0 m1 @aS0)
  ·have j6':(x.k==6)=false:=by simpa using j6
   by_cases j7:x.k=7
   ·rw[if_neg j6,if_pos j7]at hR;subst hR;exact go0 aj0 aj0 (aj9 hDl j6 j6' j7 z7 y6 y0 m1 @aS0)
   ·have j7':(x.k==7)=false:=by simpa using j7
    by_cases j8:x.k=8
    ·rw[if_neg j6,if_neg j7,if_pos j8]at hR;subst hR;exact go0 aj0 aj0 (aj11 hDl j6 j6' j7 j7' j8 z8 y6 y0 m1 @aS0)
    ·have j8':(x.k==8)=false:=by simpa using j8
     rw[if_neg j6,if_neg j7,if_neg j8,QO_]at hR;subst hR;exact go0 aj0 aj0 (aj10 hDl j6 j6' j7 j7' j8 j8' y6 y0 m1)
def Xp_ : Ann:=⟨[],[]⟩
theorem Nj_ (t:RT) (ht:okT t=true) (hs:(flat t).length≤1572864):Ac_ Tryz.prog 295 [dNds (flat t)] (.int .i64 (CR_ t)):=by
 refine Aa_ [] Xp_ Tryz.func295 Tryz.call295 Tryz.ntmps295 mxd (aj2 @Xp_.eq_1 Tryz.results295) rfl (by simp) (by simp[mx]) fun hwf B hnt hgAnn=> ?_
 clear hwf;simp only[argS];have k1:=Hx_ _ t (flat t) 0 rfl (At.top ht) hs;have k2:=Li_ _ t (flat t) 0 rfl (At.top ht) hs;unfold CR_;obtain⟨T,hT⟩:∃T,T=txtT t:=⟨_,rfl⟩;rw[←hT]at k2 ⊢
 by_cases c1:16<htT t
 ·have d1:(16:Int)<(htT t:Int):=by omega
  exact go0 (aj2 k1 k2) aj0 (aj2 c1 d1)
 ·have d1:¬(16:Int)<(htT t:Int):=by omega
  by_cases c2:2048<T.size
  ·have d2:(2048:Int)<(T.size:Int):=by omega
   exact go0 (aj2 k1 k2) aj0 (aj4 c1 d1 c2 d2)
  ·have d2:¬(2048:Int)<(T.size:Int):=by omega
   exact go0 (aj2 k1 k2) aj0 (aj4 c1 d1 c2 d2)
def Hb_ : Ann:=⟨[],[]⟩
theorem MX_ (t:RT) (ht:okT t=true) (h:(flat t).length≤2048):Ac_ Tryz.prog 207 [dNds (flat t)] (.int .i64 (CR_ t)):=by
 refine Aa_ [] Hb_ Tryz.func207 Tryz.call207 Tryz.ntmps207 mxd (aj2 @Hb_.eq_1 Tryz.results207) rfl (by simp) (by simp[mx]) fun hwf B hnt hgAnn=> ?_
 clear hwf;simp only[argS];have k1:=Dg_ (flat t) (by omega);rw[DL_ ht]at k1;have k2:=Nj_ t ht (by omega);have d1:¬(2048:Int)<((flat t).length:Int):=by omega
 have d2:¬2048<(flat t).length:=by omega
 exact go0 (aj2 k1 k2) aj0 (aj2 d1 d2)
theorem MY_ (l:List Nd) (h:2048<l.length):Ac_ Tryz.prog 207 [dNds l] (.int .i64 3):=by
 refine Aa_ [] Hb_ Tryz.func207 Tryz.call207 Tryz.ntmps207 mxd (aj2 @Hb_.eq_1 Tryz.results207) rfl (by simp) (by simp[mx]) fun hwf B hnt hgAnn=> ?_
 clear hwf;simp only[argS];have d1:(2048:Int)<(l.length:Int):=by omega
 exact go0 aj0 aj0 (aj2 d1 h)
theorem OM_ (l:List Nd) (h:l.length≤2048) (hw:CO_ l=false):Ac_ Tryz.prog 207 [dNds l] (.int .i64 170):=by
 refine Aa_ [] Hb_ Tryz.func207 Tryz.call207 Tryz.ntmps207 mxd (aj2 @Hb_.eq_1 Tryz.results207) rfl (by simp) (by simp[mx]) fun hwf B hnt hgAnn=> ?_
 clear hwf;simp only[argS];have k1:=Dg_ l (by omega);rw[hw]at k1;have d1:¬(2048:Int)<(l.length:Int):=by omega
 have d2:¬2048<l.length:=by omega
 exact go0 (aj1 k1) aj0 (aj2 d1 d2)
def Xr_ : Ann:=⟨[],[]⟩
theorem Ly_ (t:RT) (ht:okT t=true) (hs:(flat t).length≤1572864):Ac_ Tryz.prog 134 [dNds (flat t)] (.int .i64 (htT t)):=by
 refine Aa_ [] Xr_ Tryz.func134 Tryz.call134 Tryz.ntmps134 mxd (aj2 @Xr_.eq_1 Tryz.results134) rfl (by simp) (by simp[mx]) fun hwf B hnt hgAnn=> ?_
 clear hwf;simp only[argS];have k1:=Dg_ (flat t) hs;rw[DL_ ht]at k1;have k2:=Hx_ _ t (flat t) 0 rfl (At.top ht) hs;exact go0 (aj2 k1 k2) aj0 aj0
def natD (n:Nat):List DVal:=[.int .i64 (n:Int)]
@[simp] theorem mx_natD (n:Nat):mxL (natD n)=0:=by simp[natD,mxL,mx]
abbrev BM_ (l:List Nat):DVal:= .sl 1 8 (l.map natD)
@[simp] theorem mx_nats (l:List Nat):mxR (l.map natD)=0:=mxR0 _ mx_natD l
theorem plN_le (l:List Nd) (n:Nat):(plN l n).length≤n:=by unfold plN;exact Nat.le_trans (cI0 _ _) (by simp)
def Ql_ : Ann:=⟨[],[]⟩
set_option maxHeartbeats 1000000 in
theorem EX_ (l:List Nd):Ac_ Tryz.prog 140 [dNds l] (BM_ (plN l l.length)):=by
 refine Aa_ [50] Ql_ Tryz.func140 Tryz.call140 Tryz.ntmps140 mxd (aj2 @Ql_.eq_1 Tryz.results140) rfl (by simp) (by simp[mx]) fun hwf B hnt hgAnn=> ?_
 have hs:l.length*32≤150000000000000:=by have:=hwf.1;simp only[wfD,aJ0]at this;exact this.1
 clear hwf;simp only[argS]
 (refine go1 aj0 aj0 aj0 ?_;intros;refine mk_i ?_)
 refine AV_ 3 50 3 1 8 (by simp[hnt,Tryz.results140,Ql_]) (fun n=> ?_);refine Ae_ (X:={i:Nat//i≤l.length}) (fun i=>⟨[(0,dNds l),(3,.osl 50 1),(4,.int .i64 i.1)],[⟨50,1,.row 3 1 8 ((plN l i.1).map natD)⟩]⟩) (fun i=>l.length-i.1) ⟨0,by omega⟩ (Sub.lit (by simp[plN_zero])) ?_;rintro⟨i,hi⟩;simp only
 by_cases hlt:i<l.length
 ·obtain⟨x,hx,hx',_⟩:=Ak_ hlt;have hsc:=OO_ hx;have hle:=plN_le l i;obtain⟨T,hT⟩:∃T,T=plN l i:=⟨_,rfl⟩;rw[←hT]at hsc hle ⊢;have z1:(T.length+1)*8≤150000000000000:=by omega
  have z2:T.length+1≤9223372036854775807:=by omega
  by_cases ho:BZ_ x=true
  ·rw[if_pos ho]at hsc;have hd:(T.map natD)++[[.int .i64 (i:Int)]]=(plN l (i+1)).map natD:=by rw[hsc,aX0];rfl
   rcases Bf_.1 ho with k | k
   ·(refine go1 aj0 aj0 (aj7 @dNd.eq_1 hlt hx hx' k z1 z2) ?_;intros;refine mk_i ?_)
    refine Aj_.mk ⟨i+1,by omega⟩ (Sub.lit (by simp[hd])) (by simp;omega)
    skip
   ·(refine go1 aj0 aj0 (aj7 @dNd.eq_1 hlt hx hx' k z1 z2) ?_;intros;refine mk_i ?_)
    refine Aj_.mk ⟨i+1,by omega⟩ (Sub.lit (by simp[hd])) (by simp;omega)
    skip
  ·rw[if_neg ho,bM0]at hsc;have k2:¬x.k=2:=fun e=>ho (Bf_.2 (.inl e))
   have k3:¬x.k=3:=fun e=>ho (Bf_.2 (.inr e))
   have k2':(x.k==2)=false:=by simpa using k2
   have k3':(x.k==3)=false:=by simpa using k3
   (refine go1 aj0 aj0 (aj8 @dNd.eq_1 hlt hx hx' k2 k2' k3 k3') ?_;intros;refine mk_i ?_)
   refine Aj_.mk ⟨i+1,by omega⟩ (Sub.lit (by simp[hsc])) (by simp;omega)
   skip
 ·have hkk:i=l.length:=by omega
  subst hkk;exact go0 aj0 aj0 aj0
def Xs_ : Ann:=⟨[],[]⟩
theorem JN_ (l:List Nd):Ac_ Tryz.prog 133 [dNds l] (.int .i64 (occN l)):=by
 refine Aa_ [] Xs_ Tryz.func133 Tryz.call133 Tryz.ntmps133 mxd (aj2 @Xs_.eq_1 Tryz.results133) rfl (by simp) (by simp[mx]) fun hwf B hnt hgAnn=> ?_
 clear hwf;simp only[argS];have k1:=EX_ l;have h1:(plN l l.length).length=occN l:=by rw[Jr_ (Nat.le_refl _),Kz_,FU_]
 exact go0 (aj1 k1) aj0 (aj1 h1)
end Go.Proofs.YtchgnpnbcjflcaaGreat
end
section
namespace Go.Proofs.YtchgnpnbcjflcaaGreat
open Go Go.Dm
variable [DMode]
theorem ordS : OrdC sCmp:=by
 refine⟨fun _ _=>sCmp_zero,fun x y=> ?_,fun x y z h1 h2=> ?_⟩
 ·rw[ES_];unfold sCmp;cases h1:Dn_ x y
  ·cases h2:Dn_ y x<;>simp
  ·rw[Nw_ h1];simp
 ·rw[ES_]at *;exact HH_ h1 h2
end Go.Proofs.YtchgnpnbcjflcaaGreat
end
section
namespace Go.Proofs.YtchgnpnbcjflcaaGreat
open Go Go.Dm
variable [DMode]
attribute [local irreducible] DW Bj_ Bp_
set_option maxRecDepth 100000
def Qi_ : Ann:=⟨[],[⟨5,[6],[],[]⟩,⟨7,[22],[],[]⟩]⟩
theorem Nb_ (k:Int) (s:ByteArray):Ac_ Tryz.prog 262 [.sl 3 32 [Ca_ k s 0]] (.int .i64 1):=by
 refine Aa_ [] Qi_ Tryz.func262 Tryz.call262 Tryz.ntmps262 mxd (aj2 @Qi_.eq_1 Tryz.results262) rfl (by simp) (by simp[mx]) fun hwf B hnt hgAnn=> ?_
 clear hwf;simp only[argS]
 (refine go1 aj0 aj0 (aj1 @Ca_.eq_1) ?_;intros;refine mk_i ?_)
 refine Ae_ (X:=Bool) (fun x=>⟨[(0,.sl 3 32 [Ca_ k s 0]),(3,.int .i64 (if x then 1 else 0)),(4,if x then .sl 1 8 []else .nilsl),(7,.sl 3 32 [Ca_ k s 0]),(8,.int .i64 1),(9,.int .i64 (if x then 1 else 0))],[]⟩) (fun x=>if x then 0 else 1) false (Sub.lit (by simp[Ca_])) ?_;rintro (_ | _)
 ·(refine go1 aj0 aj0 (aj1 @Ca_.eq_1) ?_;intros;refine mk_i ?_)
  refine Ae_ (X:=Bool) (fun x=>⟨[(0,.sl 3 32 [Ca_ k s 0]),(3,.int .i64 1),(4,if x then .sl 1 8 []else .sl 1 8 [[.int .i64 0]]),(7,.sl 3 32 [Ca_ k s 0]),(8,.int .i64 1),(9,.int .i64 0)],[]⟩) (fun x=>if x then 0 else 1) false (Sub.lit (by simp[Ca_])) ?_;rintro (_ | _)
  ·(refine go1 aj0 aj0 (aj1 @Ca_.eq_1) ?_;intros;refine mk_i ?_)
   simp[hnt,Tryz.results262,Qi_,Ca_]
   (refine go1 aj0 aj0 (aj1 @Ca_.eq_1) ?_;intros;refine mk_i ?_)
   refine Aj_.mk true (Sub.lit (by simp[Ca_])) (by simp)
   skip
  ·(refine go1 aj0 aj0 (aj1 @Ca_.eq_1) ?_;intros;refine mk_i ?_)
   refine Aj_.mk true (Sub.lit (by simp[Ca_])) (by simp)
   skip
 ·exact go0 aj0 aj0 (aj1 @Ca_.eq_1)
def Wz_ : Ann:=⟨[],[⟨1,[3],[],[]⟩]⟩
theorem QI_ (k:Int) (hk:k=2∨k=3) (s:ByteArray):Ac_ Tryz.prog 263 [.sl 3 32 [Ca_ k s 0]] (.str s):=by
 refine Aa_ [] Wz_ Tryz.func263 Tryz.call263 Tryz.ntmps263 mxd (aj2 @Wz_.eq_1 Tryz.results263) rfl (by simp) (by simp[mx]) fun hwf B hnt hgAnn=> ?_
 clear hwf;simp only[argS]
 rcases hk with rfl | rfl
 ·exact go0 aj0 aj0 (aj1 @Ca_.eq_1)
 ·exact go0 aj0 aj0 (aj1 @Ca_.eq_1)
def WA_ : Ann:=⟨[],[]⟩
theorem MC_ (k:Int) (hk:k=2∨k=3) (s:ByteArray) (hs:s.size≤16):Ac_ Tryz.prog 182 [.sl 3 32 [Ca_ k s 0]] (.int .i64 0):=by
 refine Aa_ [] WA_ Tryz.func182 Tryz.call182 Tryz.ntmps182 mxd (aj2 @WA_.eq_1 Tryz.results182) rfl (by simp) (by simp[mx]) fun hwf B hnt hgAnn=> ?_
 clear hwf;simp only[argS];have e1:=Nb_ k s;have e2:=QI_ k hk s;have g1:¬(2048:Int)<s.size:=by omega
 exact go0 (aj2 e1 e2) aj0 (aj1 g1)
theorem txt_size {k:Int} {s:ByteArray} (h:DQ_ k s=true):s.size≤16:=by
 unfold DQ_ at h
 split at h<;>(simp only[BD_,aN0,decide_eq_true_eq]at h;exact h.1.1.2)
def WB_ : Ann:=⟨[],[]⟩
theorem PZ_ (k:Int) (hk:k=2∨k=3) (s:ByteArray):Ac_ Tryz.prog 101 [.sl 3 32 [Ca_ k s 0]] (.int .i64 (if DQ_ k s then 0 else 170)):=by
 refine Aa_ [] WB_ Tryz.func101 Tryz.call101 Tryz.ntmps101 mxd (aj2 @WB_.eq_1 Tryz.results101) rfl (by simp) (by simp[mx]) fun hwf B hnt hgAnn=> ?_
 clear hwf;simp only[argS];have e1:=Op_ k hk s;cases hT:DQ_ k s
 ·rw[hT]at e1;exact go0 (aj1 e1) aj0 aj0
 ·rw[hT]at e1;have e2:=MC_ k hk s (txt_size hT);exact go0 (aj2 e1 e2) aj0 aj0
def Wy_ : Ann:=⟨[],[]⟩
theorem Ix_ (l:List ByteArray) (s:ByteArray):Ac_ Tryz.prog 158 [AS_ l,.str s] (.int .i64 (Cl_ l s)):=by
 refine Aa_ [] Wy_ Tryz.func158 Tryz.call158 Tryz.ntmps158 mxd (aj2 @Wy_.eq_1 Tryz.results158) rfl (by simp) (by simp[mx]) fun hwf B hnt hgAnn=> ?_
 have hlen:=KF_ hwf.1;clear hwf;simp only[argS];obtain⟨R,hR⟩:∃R,R=Cl_ l s:=⟨_,rfl⟩;rw[←hR]
 (refine go1 aj0 aj0 aj0 ?_;intros;refine mk_i ?_)
 refine Ae_ (X:={k:Nat//k≤l.length∧∀i x,i<k→l[i]? =some x→(s==x)=false}) (fun x=>⟨[(0,AS_ l),(1,.str s),(5,.int .i64 x.1)],[]⟩) (fun x=>l.length-x.1) ⟨0,by simp⟩ (Sub.lit (by simp)) ?_;rintro⟨k,hk,hno⟩
 by_cases hlt:k<l.length
 ·obtain⟨x,hx,hx',hxm⟩:=Ak_ hlt;cases hb:s==x
  ·have hb':(x==s)=false:=by rw[eE0]at hb ⊢;simp at hb ⊢;exact fun h=>hb h.symm
   (refine go1 aj0 aj0 (aj5 @dStr.eq_1 hlt hx' hx hb') ?_;intros;refine mk_i ?_)
   exact Aj_.mk ⟨k+1,by omega,PD_ hx hb hno⟩ (Sub.lit (by simp[])) (by simp;omega)
   skip
  ·have hb':(x==s)=true:=by simp at hb ⊢;exact hb.symm
   have hRk:R=k:=by rw[hR];exact HK_ hlt (by rw[hx'];exact(by simpa using hb:s=x).symm) hno
   subst hRk;exact go0 aj0 aj0 (aj5 @dStr.eq_1 hlt hx' hx hb')
 ·have hkk:k=l.length:=by omega
  subst hkk;have hRk:R= -1:=by rw[hR];exact HL_ hno
  subst hRk;exact go0 aj0 aj0 aj0
def Yk_ : Ann:=⟨[],[]⟩
theorem NL_ (l:List ByteArray) (s:ByteArray):Ac_ Tryz.prog 131 [AS_ l,.str s] (.bool (decide (s∈l))):=by
 refine Aa_ [] Yk_ Tryz.func131 Tryz.call131 Tryz.ntmps131 mxd (aj2 @Yk_.eq_1 Tryz.results131) rfl (by simp) (by simp[mx]) fun hwf B hnt hgAnn=> ?_
 have hlen:=KF_ hwf.1;clear hwf;simp only[argS];obtain⟨R,hR⟩:∃R,R=decide (s∈l):=⟨_,rfl⟩;rw[←hR]
 (refine go1 aj0 aj0 aj0 ?_;intros;refine mk_i ?_)
 refine Ae_ (X:={k:Nat//k≤l.length∧R=decide (s∈l.drop k)}) (fun x=>⟨[(0,AS_ l),(1,.str s),(5,.int .i64 x.1)],[]⟩) (fun x=>l.length-x.1) ⟨0,by simp[hR]⟩ (Sub.lit (by simp)) ?_;clear hR;rintro⟨k,hk,hR⟩
 by_cases hlt:k<l.length
 ·obtain⟨x,hx,hx',hxm⟩:=Ak_ hlt;rw[aR0 hlt,hx']at hR;cases hb:x==s
  ·have hne:¬s=x:=fun e=>by subst e;simp at hb
   have hR2:R=decide (s∈l.drop (k+1)):=by rw[hR];simp[hne]
   (refine go1 aj0 aj0 (aj5 @dStr.eq_1 hlt hx' hx hb) ?_;intros;refine mk_i ?_)
   exact Aj_.mk ⟨k+1,by omega,hR2⟩ (Sub.lit (by simp[])) (by simp;omega)
   skip
  ·have he:s=x:=by simp at hb;exact hb.symm
   have hR2:R=true:=by rw[hR,he];simp
   subst hR2;exact go0 aj0 aj0 (aj5 @dStr.eq_1 hlt hx' hx hb)
 ·have hkk:k=l.length:=by omega
  subst hkk;rw[bQ0]at hR;have hR2:R=false:=by rw[hR];simp
  subst hR2;exact go0 aj0 aj0 aj0
theorem inO_spec (l:List ByteArray) (s:ByteArray):AM_ Tryz.prog (.func 131) [.osl 0 0,.str s] [⟨0,0,.row 9 1 16 (l.map dStr)⟩] (.bool (decide (s∈l))) [⟨0,0,.row 9 1 16 (l.map dStr)⟩] :=
 On_ rfl (NL_ l s)
def Ux_ : Ann:=⟨[17],[]⟩
set_option maxHeartbeats 1000000 in
theorem Ce_ (g:List Rul):Ac_ Tryz.prog 45 [Av_ g] (AS_ (Ar_ g)):=by
 refine Aa_ [3] Ux_ Tryz.func45 Tryz.call45 Tryz.ntmps45 mxd (aj2 @Ux_.eq_1 Tryz.results45) rfl (by simp) (by simp[mx]) fun hwf B hnt hgAnn=> ?_
 have hs:g.length*40≤150000000000000:=by have:=hwf.1;simp only[wfD,aJ0]at this;exact this.1
 clear hwf;simp only[argS]
 (refine go1 aj0 aj0 aj0 ?_;intros;refine mk_i ?_)
 refine AV_ 3 3 9 1 16 (by simp[hnt,Tryz.results45,Ux_]) (fun n=> ?_);refine Ae_ (X:={i:Nat//i≤g.length}) (fun i=>⟨[(0,Av_ g),(3,.osl 3 1),(4,.int .i64 i.1)],[⟨3,1,.row 9 1 16 ((Ar_ (g.take i.1)).map dStr)⟩]⟩) (fun i=>g.length-i.1) ⟨0,by omega⟩ (Sub.lit (by simp[Ar_])) ?_;rintro⟨i,hi⟩;simp only
 by_cases hlt:i<g.length
 ·obtain⟨r,hr,hr',hrm⟩:=Ak_ hlt;have htk:=Mc_ hr;have hl:=GN_ (g.take i);rw[aY0]at hl;obtain⟨T,hT⟩:∃T,T=Ar_ (g.take i):=⟨_,rfl⟩;rw[←hT]at htk hl ⊢;have e1:=inO_spec T r.h;have z1:(T.length+1)*16≤150000000000000:=by omega
  have z2:T.length+1≤9223372036854775807:=by omega
  unfold Jy_ at htk
  by_cases hm:r.h∈T
  ·rw[if_pos hm]at htk;rw[decide_eq_true hm]at e1
   (refine go1 aj0 (aj1 (spc [(3,0)] [] e1)) (aj4 @dRul.eq_1 hlt hr hr') ?_;intros;refine mk_i ?_)
   refine Aj_.mk ⟨i+1,by omega⟩ (Sub.lit (by simp[htk])) (by simp;omega)
   skip
  ·rw[if_neg hm]at htk;rw[decide_eq_false hm]at e1
   (refine go1 aj0 (aj1 (spc [(3,0)] [] e1)) (aj6 @dRul.eq_1 hlt hr hr' z1 z2) ?_;intros;refine mk_i ?_)
   refine Aj_.mk ⟨i+1,by omega⟩ (Sub.lit (by simp[htk,dStr])) (by simp;omega)
   skip
 ·have hkk:i=g.length:=by omega
  subst hkk;rw[aQ0];exact go0 aj0 aj0 aj0
def Qp_ : Ann:=⟨[],[]⟩
set_option maxHeartbeats 4000000 in
theorem RR_ (l:List ByteArray) (p:ByteArray) (hsz:(l.length+1)*16≤150000000000000):Ac_ Tryz.prog 203 [AS_ l,.str p] (AS_ (insC sCmp l p)):=by
 refine Aa_ [50] Qp_ Tryz.func203 Tryz.call203 Tryz.ntmps203 mxd (aj2 @Qp_.eq_1 Tryz.results203) rfl (by simp) (by simp[mx]) fun hwf B hnt hgAnn=> ?_
 clear hwf;simp only[argS];obtain⟨r,hr⟩:∃r,r=insC sCmp l p:=⟨_,rfl⟩;rw[←hr]
 (refine go1 aj0 aj0 aj0 ?_;intros;refine mk_i ?_)
 refine AV_ 5 50 9 1 16 (by simp[hnt,Tryz.results203,Qp_]) (fun n=> ?_);refine Ae_ (X:={x:Nat×Bool×List ByteArray//x.1≤l.length∧x.2.2.length≤x.1+(if x.2.1 then 1 else 0)∧x.2.2++(if x.2.1 then l.drop x.1 else insC sCmp (l.drop x.1) p)=r}) (fun x=>⟨[(0,AS_ l),(1,.str p),(5,.osl 50 1),(6,.bool x.1.2.1),(7,.int .i64 x.1.1)],[⟨50,1,.row 9 1 16 (x.1.2.2.map dStr)⟩]⟩) (fun x=>l.length-x.1.1) ⟨(0,false,[]),by simp[hr]⟩ (Sub.lit (by simp)) ?_
 rintro⟨⟨k,b,R⟩,hk,hR,hcc⟩;simp only at hk hR hcc ⊢;clear hr
 by_cases hlt:k<l.length
 ·obtain⟨q,hq,hq',hqm⟩:=Ak_ hlt;rw[aR0 hlt,hq']at hcc;cases b
  ·simp only[aL0,if_false,insC,cV0]at hR hcc;have hz1:(R.length+1)*16≤150000000000000:=Nat.le_trans (aO0 16 (by omega)) hsz;have hz2:R.length≤9223372036854775806:=by omega
   have hz3:(R.length+1+1)*16≤150000000000000:=Nat.le_trans (aO0 16 (by omega)) hsz;have hz4:R.length+1≤9223372036854775806:=by omega
   cases hc:Dn_ q p
   ·have hc2:Op.bytesLess q.data.toList p.data.toList=false:=hc;rw[if_neg (show ¬sCmp q p<0 by rw[ES_,hc];simp)]at hcc
    by_cases he:q=p
    ·subst he;rw[if_neg (show ¬sCmp q q<0 by rw[ES_,DS_];simp)]at hcc
     (refine go1 aj0 aj0 (aj8 @dStr.eq_1 hlt hq' hc2 hz1 hz2 hz3 hz4) ?_;intros;refine mk_i ?_)
     refine Aj_.mk ⟨(k+1,true,R++[q]),show k+1≤l.length∧(R++[q]).length≤k+1+_∧_ from ⟨by omega,by simp;omega,by simpa using hcc⟩⟩ (Sub.lit (by simp[dStr])) (by simp;omega)
     skip
    ·have he2:(q==p)=false:=by simpa using he
     have hlp:Dn_ p q=true:=by
      cases h2:Dn_ p q
      ·exact absurd (Ir_ hc h2) he
      ·rfl
     rw[if_pos (ES_.2 hlp)]at hcc
     (refine go1 aj0 aj0 (aj9 @dStr.eq_1 hlt hq' hc2 he2 hz1 hz2 hz3 hz4) ?_;intros;refine mk_i ?_)
     refine Aj_.mk ⟨(k+1,true,R++[p,q]),show k+1≤l.length∧(R++[p,q]).length≤k+1+_∧_ from ⟨by omega,by simp;omega,by simpa using hcc⟩⟩ (Sub.lit (by simp[dStr])) (by simp;omega)
     skip
   ·have hc2:Op.bytesLess q.data.toList p.data.toList=true:=hc;rw[if_pos (ES_.2 hc)]at hcc
    (refine go1 aj0 aj0 (aj8 @dStr.eq_1 hlt hq' hc2 hz1 hz2 hz3 hz4) ?_;intros;refine mk_i ?_)
    refine Aj_.mk ⟨(k+1,false,R++[q]),show k+1≤l.length∧(R++[q]).length≤k+1+_∧_ from ⟨by omega,by simp;omega,by simpa using hcc⟩⟩ (Sub.lit (by simp[dStr])) (by simp;omega)
    skip
  ·simp only[if_true]at hR hcc;have hz1:(R.length+1)*16≤150000000000000:=Nat.le_trans (aO0 16 (by omega)) hsz;have hz2:R.length≤9223372036854775806:=by omega
   (refine go1 aj0 aj0 (aj5 @dStr.eq_1 hlt hq' hz1 hz2) ?_;intros;refine mk_i ?_)
   refine Aj_.mk ⟨(k+1,true,R++[q]),show k+1≤l.length∧(R++[q]).length≤k+1+_∧_ from ⟨by omega,by simp;omega,by simpa using hcc⟩⟩ (Sub.lit (by simp[dStr])) (by simp;omega)
   skip
 ·have hk':k=l.length:=by omega
  subst hk';rw[bQ0]at hcc;cases b
  ·simp only[aL0,if_false,insC,cV0]at hR hcc;subst hcc;have hz1:(R.length+1)*16≤150000000000000:=Nat.le_trans (aO0 16 (by omega)) hsz;have hz2:R.length≤9223372036854775806:=by omega
   exact go0 aj0 aj0 (aj3 @dStr.eq_1 hz1 hz2)
  ·simp only[if_true,bM0]at hR hcc;subst hcc;exact go0 aj0 aj0 (aj1 @dStr.eq_1)
def insF (es:List ByteArray):List ByteArray:=es.foldl (insC sCmp) []
theorem RS_ (es:List ByteArray):insF es=FH_ es:=by
 obtain⟨h1,h2⟩:=HR_ ordS es [] List.Pairwise.nil;refine uniq_of (h1.imp fun {a b} h=>ES_.1 h) fun x=> ?_
 unfold insF;rw[h2];simp
theorem insF_snoc (es:List ByteArray) (s:ByteArray):insF (es++[s])=insC sCmp (insF es) s:=by unfold insF;rw[cR0];rfl
theorem LL_ (k:Int) (g:List Rul) (i:Nat):(AE_ k (g.take i)).length≤(AE_ k g).length:=by
 have h:AE_ k g=AE_ k (g.take i)++AE_ k (g.drop i):=by
  unfold AE_;rw[←dV0,List.take_append_drop]
 rw[h,aC0];omega
def Qq_ : Ann:=⟨[],[]⟩
set_option maxHeartbeats 2000000 in
theorem JG_ (g:List Rul) (k:Int) (hn:((AE_ k g).length+1)*16≤150000000000000):Ac_ Tryz.prog 132 [Av_ g,.int .i64 k] (AS_ (FH_ (AE_ k g))):=by
 rw[←RS_];refine Aa_ [] Qq_ Tryz.func132 Tryz.call132 Tryz.ntmps132 mxd (aj2 @Qq_.eq_1 Tryz.results132) rfl (by simp) (by simp[mx]) fun hwf B hnt hgAnn=> ?_
 have hwl:=IH_ hwf.1
 have hwb:∀r∈g,r.b.length<9223372036854775807:=fun r hr=>by
  have h1:=hwf.1;obtain⟨i,hi,rfl⟩:=bN0 hr;have h2:wfR (g.map dRul):=by simp only[wfD]at h1;exact h1.2.2
  have h3:=UE_ h2 (aH0 hi);simp only[dRul,wfL]at h3;exact Pm_ h3.2.1
 clear hwf;simp only[argS]
 (refine go1 aj0 aj0 aj0 ?_;intros;refine mk_i ?_)
 refine DW_nilS 5 1 16 (by simp[hnt,Tryz.results132,Qq_]) ?_;refine Ae_ (X:={i:Nat//i≤g.length}) (fun i=>⟨[(0,Av_ g),(1,.int .i64 k),(5,AS_ (insF (AE_ k (g.take i.1)))),(6,.int .i64 i.1)],[]⟩) (fun i=>g.length-i.1) ⟨0,by omega⟩ (Sub.lit (by simp[AE_,insF])) ?_;rintro⟨i,hi⟩;simp only
 by_cases hlt:i<g.length
 ·obtain⟨r,hr,hr',hrm⟩:=Ak_ hlt;have htk:=LM_ (k:=k) hr;have hrl:=hwb r hrm;have hnl:=LL_ k g (i+1);rw[htk,aC0]at hnl;obtain⟨N,hN⟩:∃N,N=AE_ k (g.take i):=⟨_,rfl⟩;rw[←hN]at htk hnl ⊢
  (refine go1 aj0 aj0 (aj4 @dRul.eq_1 hlt hr hr') ?_;intros;refine mk_i ?_)
  refine Ae_ (X:={j:Nat//j≤r.b.length}) (fun j=>⟨[(0,Av_ g),(1,.int .i64 k),(5,AS_ (insF (N++Ch_ k (r.b.take j.1)))),(6,.int .i64 i),(7,.int .i64 j.1)],[]⟩) (fun j=>r.b.length-j.1) ⟨0,by omega⟩ (Sub.lit (by simp[Ch_])) ?_;rintro⟨j,hj⟩;simp only
  by_cases hlt2:j<r.b.length
  ·obtain⟨x,hx,hx',hxm⟩:=Ak_ hlt2;have htj:=LK_ (k:=k) hx
   have hjl:(Ch_ k (r.b.take j)).length≤(Ch_ k r.b).length:=by
    unfold Ch_;rw[aJ0,aJ0];exact((List.take_sublist j r.b).filter _).length_le
   obtain⟨E,hE⟩:∃E,E=N++Ch_ k (r.b.take j):=⟨_,rfl⟩;have hE2:N++Ch_ k (r.b.take (j+1))=E++(if x.k=k then [x.s]else []):=by rw[htj,hE,aU0]
   have hEl:(insF E).length≤(AE_ k g).length:=by
    rw[RS_];have:=FM_ E;rw[hE,aC0]at this;rw[←hE]at this;omega
   rw[←hE]
   by_cases hk:x.k=k
   ·rw[if_pos hk]at hE2;have hst:=insF_snoc E x.s;rw[←hE2]at hst;have e1:=RR_ (insF E) x.s (Nat.le_trans (aO0 16 (by omega)) hn);rw[←hst]at e1;obtain⟨W,hW⟩:∃W,W=insF E:=⟨_,rfl⟩;obtain⟨W2,hW2⟩:∃W2,W2=insF (N++Ch_ k (r.b.take (j+1))):=⟨_,rfl⟩;rw[←hW,←hW2]at e1;rw[←hW]
    (refine go1 (aj1 e1) aj0 (aj9 @dRul.eq_1 @dNd.eq_1 hlt hr hr' hlt2 hx hx' hk) ?_;intros;refine mk_i ?_)
    refine Aj_.mk ⟨j+1,by omega⟩ (Sub.lit (by simp only[←hW2];simp)) (by simp;omega)
    skip
   ·have hk':(x.k==k)=false:=by simpa using hk
    rw[if_neg hk,bM0]at hE2
    (refine go1 aj0 aj0 (aj10 @dRul.eq_1 @dNd.eq_1 hlt hr hr' hlt2 hx hx' hk hk') ?_;intros;refine mk_i ?_)
    refine Aj_.mk ⟨j+1,by omega⟩ (Sub.lit (by simp only[hE2];simp)) (by simp;omega)
    skip
  ·have hkk:j=r.b.length:=by omega
   subst hkk;rw[aQ0]
   (refine go1 aj0 aj0 (aj4 @dRul.eq_1 hlt hr hr') ?_;intros;refine mk_i ?_)
   refine Aj_.mk ⟨i+1,by omega⟩ (Sub.lit (by simp only[htk];simp)) (by simp;omega)
   skip
 ·have hkk:i=g.length:=by omega
  subst hkk;rw[aQ0];exact go0 aj0 aj0 aj0
def anBN347 : Ann:=⟨[],[]⟩
theorem Et_ (g:List Rul) (hn:((AE_ 3 g).length+1)*16≤150000000000000):Ac_ Tryz.prog 47 [Av_ g] (AS_ (Ao_ g)):=by
 refine Aa_ [] anBN347 Tryz.func47 Tryz.call47 Tryz.ntmps47 mxd (aj2 @anBN347.eq_1 Tryz.results47) rfl (by simp) (by simp[mx]) fun hwf B hnt hgAnn=> ?_
 clear hwf;simp only[argS];have e1:=JG_ g 3 hn;unfold Ao_;exact go0 (aj1 e1) aj0 aj0
def Gb_ (g:List Rul) (j:Nat):Nat:=(((FH_ (AE_ 2 g)).take j).filter fun s=> !decide (s∈Ar_ g)).length
theorem Zq_ (g:List Rul):Gb_ g (FH_ (AE_ 2 g)).length=(Do_ g).length:=by unfold Gb_ Do_;rw[aQ0]
theorem missTo_le (g:List Rul) (j:Nat):Gb_ g j≤j:=by
 unfold Gb_;exact Nat.le_trans (cI0 _ _) (List.length_take_le _ _)
theorem TJ_ {g:List Rul} {j:Nat} {s:ByteArray} (h:(FH_ (AE_ 2 g))[j]? =some s):Gb_ g (j+1)=Gb_ g j+(if s∈Ar_ g then 0 else 1):=by
 unfold Gb_;rw[bF0,h,dB0,aC0]
 by_cases hs:s∈Ar_ g<;>simp[hs]
def anBN346 : Ann:=⟨[],[]⟩
set_option maxHeartbeats 1000000 in
theorem Kg_ (g:List Rul) (hn:((AE_ 2 g).length+1)*16≤150000000000000):Ac_ Tryz.prog 46 [Av_ g] (.int .i64 (Do_ g).length):=by
 refine Aa_ [] anBN346 Tryz.func46 Tryz.call46 Tryz.ntmps46 mxd (aj2 @anBN346.eq_1 Tryz.results46) rfl (by simp) (by simp[mx]) fun hwf B hnt hgAnn=> ?_
 clear hwf;simp only[argS];have e1:=Ce_ g;have e2:=JG_ g 2 hn;have hall:=Zq_ g;have hul:=FM_ (AE_ 2 g);have hsucc:=fun j s=>TJ_ (g:=g) (j:=j) (s:=s)
 have hle:=missTo_le g;obtain⟨U,hU⟩:∃U,U=FH_ (AE_ 2 g):=⟨_,rfl⟩;obtain⟨Hh,hH⟩:∃Hh,Hh=Ar_ g:=⟨_,rfl⟩;rw[←hU]at e2 hall hul hsucc;rw[←hH]at e1 hsucc;rw[←hall]
 (refine go1 (aj2 e1 e2) aj0 aj0 ?_;intros;refine mk_i ?_)
 refine Ae_ (X:={j:Nat//j≤U.length}) (fun j=>⟨[(3,AS_ Hh),(4,AS_ U),(5,.int .i64 (Gb_ g j.1)),(6,.int .i64 j.1)],[]⟩) (fun j=>U.length-j.1) ⟨0,by omega⟩ (Sub.lit (by simp[Gb_])) ?_;rintro⟨j,hj⟩;simp only
 by_cases hlt:j<U.length
 ·obtain⟨s,hs,hs',_⟩:=Ak_ hlt;have h1:=hsucc j s hs;have h2:=hle j;have e3:=NL_ Hh s;have w1:IntKind.i64.wrap ((Gb_ g j:Int)+1)=(Gb_ g j:Int)+1:=wq;have w2:IntKind.i64.wrap ((j:Int)+1)=(j:Int)+1:=wq
  by_cases hm:s∈Hh
  ·rw[if_pos hm,cV0]at h1;rw[decide_eq_true hm]at e3
   (refine go1 (aj1 e3) aj0 (aj5 @dStr.eq_1 hlt hs hs' w2) ?_;intros;refine mk_i ?_)
   refine Aj_.mk ⟨j+1,by omega⟩ (Sub.lit (by simp[h1])) (by simp;omega)
   skip
  ·rw[if_neg hm]at h1;rw[decide_eq_false hm]at e3
   (refine go1 (aj1 e3) aj0 (aj6 @dStr.eq_1 hlt hs hs' w1 w2) ?_;intros;refine mk_i ?_)
   refine Aj_.mk ⟨j+1,by omega⟩ (Sub.lit (by simp[h1])) (by simp;omega)
   skip
 ·have hkk:j=U.length:=by omega
  subst hkk;exact go0 aj0 aj0 aj0
end Go.Proofs.YtchgnpnbcjflcaaGreat
end
