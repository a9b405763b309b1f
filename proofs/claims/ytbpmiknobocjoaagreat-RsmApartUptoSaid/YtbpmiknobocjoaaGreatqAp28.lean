/- Parts of a proof, laid together: BN0, WB8, WB9, WB10, WB11, WB12, WB13, BN1, WRn, RY1. -/
import Derived.Test.YtbpmiknobocjoaaGreatqAp17
import Derived.Test.YtbpmiknobocjoaaGreatqAp18
import Derived.Test.YtbpmiknobocjoaaGreatqAp20
import Derived.Test.YtbpmiknobocjoaaGreatqAp21
import Derived.Test.YtbpmiknobocjoaaGreatqAp22
import Derived.Test.YtbpmiknobocjoaaGreatqAp24
import Derived.Test.YtbpmiknobocjoaaGreatqAp27
set_option linter.unusedSimpArgs false
set_option maxHeartbeats 8000000
set_option linter.unusedVariables false
set_option linter.unusedSectionVars false
section
namespace Go.Proofs.Wy
open Go Go.Dm Tryz
variable [DMode]
def Io (out:List ByteArray) (s:ByteArray):List ByteArray:=if s∈out then out else out++[s]
def AD (g:List Rul):List ByteArray:=(g.map (·.h)).foldl Io []
theorem Bl_ {out:List ByteArray} {s x:ByteArray}:x∈Io out s↔x∈out\/x=s:=by
 unfold Io
 split
 ·rename_i h;exact⟨.inl,fun hh=>by rcases hh with hh | rfl;exact hh;exact h⟩
 ·simp
theorem Ui : ∀(l out:List ByteArray) (x:ByteArray),x∈l.foldl Io out↔x∈out\/x∈l
 | [],out,x=>by simp
 | s::l,out,x=>by rw[cY0,Ui l,Bl_];simp[or_assoc]
theorem OY : ∀(l out:List ByteArray),out.Nodup->(l.foldl Io out).Nodup
 | [],out,h=>h
 | s::l,out,h=>by
  rw[cY0];refine OY l _ ?_;unfold Io
  split
  ·exact h
  ·rename_i hs;exact bX0.2 ⟨h,by simp,by rintro a ha b hb rfl;simp at hb;subst hb;exact hs ha⟩
theorem Uj : ∀(l out:List ByteArray),(l.foldl Io out).length<=out.length+l.length
 | [],out=>by simp
 | s::l,out=>by
  rw[cY0];have:=Uj l (Io out s);have:(Io out s).length<=out.length+1:=by unfold Io;split<;>simp
  simp;omega
theorem RC {g:List Rul} {x:ByteArray}:x∈AD g↔∃r∈g,r.h=x:=by
 unfold AD;rw[Ui];simp
theorem VV (g:List Rul):(AD g).Nodup:=OY _ _ (by simp)
theorem Je (g:List Rul):(AD g).length<=g.length:=by have:=Uj (g.map (·.h)) [];unfold AD;simpa using this
theorem OX {g:List Rul} {i:Nat} {r:Rul} (h:g[i]? =some r):AD (g.take (i+1))=Io (AD (g.take i)) r.h:=by
 unfold AD;rw[bM0,h,bD0,dF0];rfl
def Cp (k:Int) (l:List Nd):List ByteArray:=(l.filter fun x=>decide (x.k=k)).map (·.s)
def AK (k:Int) (g:List Rul):List ByteArray:=g.flatMap fun r=>Cp k r.b
theorem OR {k:Int} {l:List Nd} {i:Nat} {x:Nd} (h:l[i]? =some x):Cp k (l.take (i+1))=Cp k (l.take i)++(if x.k=k then [x.s]else []):=by
 unfold Cp;rw[bM0,h,dI0,bD0]
 by_cases hx:x.k=k<;>simp[hx]
theorem OS {k:Int} {g:List Rul} {i:Nat} {r:Rul} (h:g[i]? =some r):AK k (g.take (i+1))=AK k (g.take i)++Cp k r.b:=by
 unfold AK;rw[bM0,h,dO0];simp
theorem iN (k:Int) (l:List Nd):(Cp k l).length<=l.length:=by
 unfold Cp;rw[aJ0];exact cM0 _ _
def LF (l:List ByteArray) (s:ByteArray):Nat:=l.findIdx fun x=>s==x
theorem Rt {l:List ByteArray} {s:ByteArray} (h:s∈l):LF l s<l.length:=List.findIdx_lt_length_of_exists ⟨s,h,by simp⟩
theorem Rm : ∀{l:List ByteArray} {s:ByteArray},s∈l->Bc (DP l) (.str s)=some (LF l s)
 | [],_,h=>by simp at h
 | x::l,s,h=>by
  unfold LF;rw[List.findIdx_cons]
  by_cases h1:s=x
  ·subst h1;simp[Dw,Bc,BX,CA,Wg]
  ·have h2:=Rm (l:=l) (s:=s) (by simpa[h1]using h);have mF:(s==x)=false:=by simpa using h1
   simp[Dw,Bc,BX,CA,Wg,mF,h2,LF]
structure CM where
 K:List ByteArray
 V:List Int
def So (m:CM) (s:ByteArray):CM:=if s∈m.K then ⟨m.K,m.V.set (LF m.K s) (IntKind.i64.wrap (m.V.getD (LF m.K s) 0+1))⟩else ⟨m.K++[s],m.V++[1]⟩
def Pz (es:List ByteArray):CM:=es.foldl So ⟨[],[]⟩
theorem BD_ (es:List ByteArray) (s:ByteArray):Pz (es++[s])=So (Pz es) s:=by unfold Pz;rw[dF0];rfl
structure CMok (m:CM) (es:List ByteArray):Prop where
 len:m.K.length=m.V.length
 mem:∀s,s∈m.K↔s∈es
 nd:m.K.Nodup
 le:m.K.length<=es.length
theorem CMok.step {m:CM} {es:List ByteArray} (h:CMok m es) (s:ByteArray):CMok (So m s) (es++[s]):=by
 unfold So
 split
 ·rename_i hs;refine⟨by simp[h.len],fun x=> ?_,h.nd,by have:=h.le;simp;omega⟩;rw[h.mem x,aG0];exact⟨.inl,fun hh=>by rcases hh with hh | hh;exact hh;simp at hh;subst hh;exact(h.mem x).1 hs⟩
 ·rename_i hs;refine⟨by simp[h.len],fun x=>by simp[h.mem x],?_,by have:=h.le;simp;omega⟩;exact bX0.2 ⟨h.nd,by simp,by rintro a ha b hb rfl;simp at hb;subst hb;exact hs ha⟩
theorem lS (es:List ByteArray):CMok (Pz es) es:=by
 have key:∀(l:List ByteArray) (m:CM) (es:List ByteArray),CMok m es->CMok (l.foldl So m) (es++l):=by
  intro l
  induction l with
  | nil=>intro m es h;simpa using h
  | cons s l ih =>
   intro m es h;have:=ih (So m s) (es++[s]) (h.step s);simpa using this
 have:=key es ⟨[],[]⟩ [] ⟨rfl,by simp,by simp,by simp⟩;simpa[Pz]using this
def AG (g:List Rul):List ByteArray:=EW (AK 3 g)
def CP (g:List Rul):List ByteArray:=(EW (AK 2 g)).filter fun s=> !decide (s∈AD g)
theorem Dm_ {g:List Rul} {K:List ByteArray} (hn:K.Nodup) (hm:∀s,s∈K↔s∈AK 2 g/\¬s∈AD g):K.length=(CP g).length:=by
 refine List.Perm.length_eq ((List.perm_ext_iff_of_nodup hn ?_).2 fun s=> ?_)
 ·unfold CP;exact List.Pairwise.filter _ ((HQ _).1.imp fun {a b} h e=>by subst e;rw[Fe]at h;simp at h)
 ·unfold CP;rw[hm s,cG0,(HQ _).2];simp
abbrev GT := List (ByteArray×RT)
def Bu (gt:GT):List Rul:=gt.map fun p=>⟨p.1,Ad p.2⟩
def OkG (gt:GT):Prop:=∀p∈gt,Du 2 p.1=true/\ED p.2=true
def Fa (g:List Rul):Bool:=g.all fun r=>Du 2 r.h&&Dg r.b
theorem WZ : ∀{g:List Rul},Fa g=true->∃gt,g=Bu gt/\OkG gt
 | [],_=>⟨[],rfl,by intro p hp;simp at hp⟩
 | r::g,h=>by
  unfold Fa at h;rw[cT0,aL0,aL0]at h;obtain⟨gt,rfl,hg⟩:=WZ (g:=g) h.2;obtain⟨t,ht,hb⟩:=LQ h.1.2;refine⟨(r.h,t)::gt,by cases r;simp only at hb;subst hb;rfl,fun p hp=> ?_⟩
  rcases aK0.1 hp with rfl | hp
  ·exact⟨h.1.1,ht⟩
  ·exact hg p hp
theorem YB {gt:GT} (h:OkG gt):Fa (Bu gt)=true:=by
 unfold Fa Bu;rw[List.all_map,aZ0];intro p hp;obtain⟨h1,h2⟩:=h p hp;simp[h1,Fb h2]
def Ds (g:List Rul):Nat:=(g.map fun r=>HC r.b).sum
def FU (gt:GT):Bool:=gt.any fun p=>decide (16<JC p.2)
def Jq (p:ByteArray×RT):ByteArray:=p.1++⟨#[32,61,32]⟩++CT p.2++⟨#[32,59,10]⟩
def Ca (gt:GT):ByteArray:=gt.foldl (fun s p=>s++Jq p) ⟨#[]⟩
theorem Gq {gt:GT} {i:Nat} {p:ByteArray×RT} (h:gt[i]? =some p):Ca (gt.take (i+1))=Ca (gt.take i)++Jq p:=by
 unfold Ca;rw[bM0,h,dF0];rfl
theorem Lx (gt:GT) (i:Nat):(Ca (gt.take i)).size<=(Ca gt).size:=by
 have key:∀(l:GT) (s:ByteArray),s.size<=(l.foldl (fun s p=>s++Jq p) s).size:=by
  intro l
  induction l with
  | nil=>intro s;simp
  | cons p l ih=>intro s;rw[cY0];have:=ih (s++Jq p);rw[aP0]at this;omega
 unfold Ca
 conv=>rhs;rw[<-List.take_append_drop i gt,dF0]
 exact key _ _
def Nk (gt:GT):Int :=
 if 16<(AD (Bu gt)).length+(CP (Bu gt)).length then 181
 else if 16<(AG (Bu gt)).length then 182
 else if 64<Ds (Bu gt)then 183
 else if FU gt then 171
 else if 0<(CP (Bu gt)).length then 184
 else if 2048<(Ca gt).size then 174
 else 0
mutual
theorem US : ∀(t:RT),ED t=true->(Ad t).length<=(CT t).size
 | .mk x ks,h=>by
  obtain⟨h1,h2,h3⟩:=Cg h;rw[PK,AQ,List.length_cons]
  by_cases k1:x.k=1
  ·rw[if_pos k1]
   have:x.n=0:=by
    unfold DZ at h1;rw[if_pos k1]at h1;simp only[aL0,decide_eq_true_eq]at h1;exact h1.2
   have zE:ks=[]:=bN0 (by omega);subst zE;rw[An];decide
  ·rw[if_neg k1]
   by_cases k2:x.k=2\/x.k=3
   ·rw[if_pos k2];have:=TX h1 k2
    have hn:x.n=0:=by
     unfold DZ at h1
     rcases k2 with k2 | k2
     ·rw[if_neg (by omega),if_pos k2]at h1;simp only[aL0,decide_eq_true_eq]at h1;exact h1.1
     ·rw[if_neg (by omega),if_neg (by omega),if_pos k2]at h1;simp only[aL0,decide_eq_true_eq]at h1;exact h1.1
    have zE:ks=[]:=bN0 (by omega);subst zE;rw[An];simp;omega
   ·rw[if_neg k2,aP0];have hj:=oU x.k ks h3;have hn:=Om h1 k1 k2
    rcases KT h1 with k | k | k | k | k | k | k | k
    ·exact absurd k k1
    ·exact absurd (.inl k) k2
    ·exact absurd (.inr k) k2
    ·have hb:1<=(Ns x.k).size:=by unfold Ns;rw[k];decide
     have h5:2<=x.n:=by unfold DZ at h1;simp[k]at h1;exact h1.2
     have:=VP (Ns x.k) (Dr x.k ks) (by rw[Dv,aJ0];omega);rw[Dv,aJ0,<-Dv]at this;have h6:1*(ks.length-1)<=(Ns x.k).size*(ks.length-1):=aW0 _ hb;omega
    ·have hb:1<=(Ns x.k).size:=by unfold Ns;rw[k];decide
     have h5:2<=x.n:=by unfold DZ at h1;simp[k]at h1;exact h1.2
     have:=VP (Ns x.k) (Dr x.k ks) (by rw[Dv,aJ0];omega);rw[Dv,aJ0,<-Dv]at this;have h6:1*(ks.length-1)<=(Ns x.k).size*(ks.length-1):=aW0 _ hb;omega
    all_goals
     have hs:(eG x.k).size=1:=by unfold eG;rw[k];decide
     have:=VP (Ns x.k) (Dr x.k ks) (by rw[Dv,aJ0];omega);omega
theorem oU : ∀(pk:Int) (ts:List RT),FQ ts=true->(An ts).length<=((Dr pk ts).map (·.size)).sum
 | pk,[],_=>by simp[An]
 | pk,t::ts,h=>by
  obtain⟨h1,h2⟩:=BQ h;have a:=US t h1;have b:=oU pk ts h2;have c:=(KP pk t.x.k (CT t)).1;rw[Gh,Ax,List.map_cons,eK0,aD0];omega
theorem VP (sep:ByteArray):∀(xs:List ByteArray),1<=xs.length->(xs.map (·.size)).sum+sep.size*(xs.length-1)<=(FS xs sep).size
 | [],h=>by simp at h
 | x::r,_=>by
  have key:∀(r:List ByteArray) (x:ByteArray),x.size+(r.map (·.size)).sum+sep.size*r.length<=(r.foldl (Dn sep) x).size:=by
   intro r
   induction r with
   | nil=>intro x;simp
   | cons y r ih =>
    intro x;have:=ih (Dn sep x y);rw[Mc]at this;rw[cY0,List.map_cons,eK0,List.length_cons,Nat.mul_add];omega
  have:=key r x
  show _<=(r.foldl (Dn sep) x).size
  simp only[List.map_cons,eK0,List.length_cons,Nat.add_sub_cancel];omega
end
theorem Xq {gt:GT} {p:ByteArray×RT} (h:p∈gt):(CT p.2).size<=(Ca gt).size:=by
 obtain⟨i,hi,rfl⟩:=bW0 h;have h1:=Gq (aI0 hi);have h2:=Lx gt (i+1);rw[h1,aP0]at h2;unfold Jq at h2;simp only[aP0]at h2;omega
end Go.Proofs.Wy
end
section
namespace Go.Proofs.Wy
open Go Go.Dm Tryz
variable [DMode]
attribute [local irreducible] DW BN BS
set_option maxRecDepth 100000


structure SmallG (g:Edges):Prop where
 n1:g.nodes.length<=32
 n2:∀n∈g.nodes,n.size<=16
 e1:g.edges.length<=256
 e2:∀e∈g.edges,e.fr.size<=16/\e.lb.size<=16/\e.to.size<=16

def ZC : Ann:=⟨[],[]⟩
def Jj : Ann:=⟨[5],[]⟩
theorem Za (l:List ByteArray):Af prog 43 [Bz l] (Bz l):=by
 match l with
 | [] =>
  refine aK [] ?_ ?_
  ·refine Ae [7] ZC func43 call43 ntmps43 mxd (AB @ZC.eq_1 results43) rfl (fun qJ B qX qQ=> ?_) (hd:=(by simp[mx,Br]));simp only[Aq,List.nil_append,Bz,List.map_cons];exact Az Ab Ab Ab
  ·refine Ae [7,5] Jj func43 call43 ntmps43 mxd (AB @Jj.eq_1 results43) rfl (fun qJ B qX qQ=> ?_) (hd:=(by simp[mx,Br]));simp only[Aq,List.nil_append,Bz,List.map_cons];exact Az Ab Ab Ab
 | s::l =>
  refine Ae [7,5] Jj func43 call43 ntmps43 mxd (AB @Jj.eq_1 results43) rfl (fun qJ B qX qQ=> ?_) (hd:=(by simp[mx,Br]));have qI:(s::l).length*16<=150000000000000:=by have:=qJ.1;simp only[Ev,aJ0]at this;exact this.1
  clear qJ;have z2:(s::l).length<=9223372036854775807:=by omega
  simp only[List.length_cons]at qI z2;simp only[Aq,List.nil_append,Bz,List.map_cons];exact Az Ab Ab (AB qI z2)
def FF (l:List Int):List DVal:=l.map fun n=> .int .i64 n
theorem Be_ (l:List Int) (j:Nat) (n:Int):(FF l).set j (.int .i64 n)=FF (l.set j n):=by simp[FF,List.map_set]
theorem Bf_ (l:List Int) (n:Int):FF l++[.int .i64 n]=FF (l++[n]):=by simp[FF]
@[simp] theorem Id_ (l:List Int):AJ (FF l)=0:=by
 unfold FF
 induction l with
 | nil=>rfl
 | cons a l ih=>simp[AJ,mx,ih]
structure Cnt (K:List ByteArray) (V:List Int) (es:List ByteArray):Prop where
 len:K.length=V.length
 mem:∀s,s∈K↔s∈es
 val:∀v∈V,1<=v/\v<=es.length
theorem Ai_ (l:List ByteArray) (s:ByteArray):DP l++[.str s]=DP (l++[s]):=by simp[DP]
theorem Cnt.step {K:List ByteArray} {V:List Int} {es:List ByteArray} (h:Cnt K V es) (s:ByteArray) :
  (∃j d,Bc (DP K) (.str s)=some j/\(FF V)[j]? =some (.int .i64 d)/\1<=d/\d<=es.length/\Cnt K (V.set j (d+1)) (es++[s])) \/
  (Bc (DP K) (.str s)=none/\Cnt (K++[s]) (V++[1]) (es++[s])):=by
 by_cases hs:s∈K
 ·obtain⟨j,h1,h2⟩:=Rl hs;have h3:j<V.length:=by rw[<-h.len];exact h2
  have hv:=h.val V[j] (dE0 h3);refine .inl ⟨j,V[j],h1,by simp[FF,h3],hv.1,hv.2,by simp[h.len],fun x=> ?_,fun v zB=> ?_⟩
  ·rw[h.mem x,aG0]
   constructor
   ·exact .inl
   ·rintro (hx | hx)
    ·exact hx
    ·simp only[aE0]at hx;subst hx;exact(h.mem x).1 hs
  ·rcases List.mem_or_eq_of_mem_set zB with h4 | rfl
   ·have:=h.val v h4;simp;omega
   ·simp;omega
 ·refine .inr ⟨IY hs,by simp[h.len],fun x=>by simp[h.mem x],fun v hv=> ?_⟩
  rcases aG0.1 hv with h4 | h4
  ·have:=h.val v h4;simp;omega
  ·simp only[aE0]at h4;subst h4;simp;omega
theorem eY {l:List ByteArray} {s:ByteArray}:decide (0<=El l s)=decide (s∈l):=by
 refine decide_eq_decide.2 ?_;unfold El
 by_cases h:s∈l
 ·rw[if_pos (cF0.2 ⟨s,h,by simp⟩)];simp only[h,iff_true];omega
 ·rw[if_neg (fun hh=>h (by obtain⟨x,hx,hs⟩:=cF0.1 hh;simp at hs;subst hs;exact hx))];simp[h]
theorem OB (l:List ByteArray) (s:ByteArray):Af prog 69 [Bz l,.str s] (.bool (decide (s∈l))):=by
 rw[<-eY];exact OC l s
theorem Se (l:List ByteArray) (s:ByteArray):Bj prog (.func 69) [.osl 0 0,.str s] [⟨0,0,.row 9 1 16 (l.map Be)⟩] (.bool (decide (s∈l))) [⟨0,0,.row 9 1 16 (l.map Be)⟩] :=
 SJ rfl (OB l s)
theorem Ap_ (l:List ByteArray):Vb (l.map Be)=true:=by
 unfold Vb;rw[List.all_map,aZ0];intro x _;rfl
def Gd : Ann:=⟨[15],[⟨4,[5],[],[]⟩]⟩
theorem LJ (g:List Rul):DO prog 40 [Au g] (Bz (AD g)):=by
 refine NM func40 rfl call40 (by simp[ntmps40]) (by simp[mx]) ?_;intro qJ B qX h0;have hs:g.length*40<=150000000000000:=by have:=qJ.1;simp only[Ev,aJ0]at this;exact this.1
 clear qJ;simp only[Aq]
 (repeat (first | refine AC fun K hK=> ?_ | (refine BA Gd mxd (by kernel_rfl) ?_;simp[Gd,qX];try simp (disch:=omega) only[Ag]) | refine Ao ?_ | (refine AX ?_ ?_ ?_;(· (simp[qX];done));(try (rotate_left;(· (intro hc;(try simp[qX]at hc);done))))) | (refine AE ?_;simp[results40,qX]) | ((first | refine Aw ?_ | refine Av ?_);simp[qX]) | (intro hc;(try simp[qX]at hc);(try (exfalso;omega))) | (refine⟨?_,?_⟩; · omega) | omega | apply_assumption -exfalso -symm | (exfalso;omega)))
 refine BM 3 3 9 1 16 (by simp[qX,results40,Gd]) (fun n=> ?_);refine Ai (X:={i:Nat//i<=g.length}) (fun i=>⟨[(0,Au g),(3,.osl 3 1),(6,Au g),(7,.int .i64 g.length),(8,.int .i64 i.1)],[⟨3,1,.row 9 1 16 ((AD (g.take i.1)).map Be)⟩]⟩) (fun i=>g.length-i.1) ⟨0,by omega⟩ (Sub.lit (by simp[AD])) ?_;rintro⟨i,hi⟩;simp only
 by_cases qV:i<g.length
 ·obtain⟨r,hr,qW,bL⟩:=Ap qV;have wK:=OX hr;have hl:=Je (g.take i);rw[aY0]at hl;obtain⟨T,hT⟩:∃T,T=AD (g.take i):=⟨_,rfl⟩;rw[<-hT]at wK hl |-;have e1:=Se T r.h;have z1:(T.length+1)*16<=150000000000000:=by omega
  have z2:T.length+1<=9223372036854775807:=by omega
  unfold Io at wK
  by_cases hm:r.h∈T
  ·rw[if_pos hm]at wK;rw[decide_eq_true hm]at e1
   (repeat (first | refine AC fun K hK=> ?_ | (refine BA Gd mxd (by kernel_rfl) ?_;simp[Gd,qX,Ba,qV,hr,qW];try simp (disch:=omega) only[Ag]) | refine Ao ?_ | (refine AX ?_ ?_ ?_;(· (simp[qX,Ba,qV,hr,qW];done));(try (rotate_left;(· (intro hc;(try simp[qX,Ba,qV,hr,qW]at hc);done))))) | (refine AE ?_;simp[results40,qX,Ba,qV,hr,qW]) | ((first | refine Aw ?_ | refine Av ?_);simp[qX,Ba,qV,hr,qW]) | (intro hc;(try simp[qX,Ba,qV,hr,qW]at hc);(try (exfalso;omega))) | (refine AO [(3,0)] [] (e1) ?_ ?_;(· (simp[qX,Ba,qV,hr,qW];done));(intro _;try simp[qX,Ba,qV,hr,qW])) | (refine⟨?_,?_⟩; · omega) | omega | apply_assumption -exfalso -symm | (exfalso;omega)))
   refine Al.mk ⟨i+1,by omega⟩ (Sub.lit (by simp[wK])) (by simp;omega)
   skip
  ·rw[if_neg hm]at wK;rw[decide_eq_false hm]at e1
   (repeat (first | refine AC fun K hK=> ?_ | (refine BA Gd mxd (by kernel_rfl) ?_;simp[Gd,qX,Ba,qV,hr,qW,z1,z2];try simp (disch:=omega) only[Ag]) | refine Ao ?_ | (refine AX ?_ ?_ ?_;(· (simp[qX,Ba,qV,hr,qW,z1,z2];done));(try (rotate_left;(· (intro hc;(try simp[qX,Ba,qV,hr,qW,z1,z2]at hc);done))))) | (refine AE ?_;simp[results40,qX,Ba,qV,hr,qW,z1,z2]) | ((first | refine Aw ?_ | refine Av ?_);simp[qX,Ba,qV,hr,qW,z1,z2]) | (intro hc;(try simp[qX,Ba,qV,hr,qW,z1,z2]at hc);(try (exfalso;omega))) | (refine AO [(3,0)] [] (e1) ?_ ?_;(· (simp[qX,Ba,qV,hr,qW,z1,z2];done));(intro _;try simp[qX,Ba,qV,hr,qW,z1,z2])) | (refine⟨?_,?_⟩; · omega) | omega | apply_assumption -exfalso -symm | (exfalso;omega)))
   refine Al.mk ⟨i+1,by omega⟩ (Sub.lit (by simp[wK,Be])) (by simp;omega)
   skip
 ·have qZ:i=g.length:=by omega
  subst qZ;rw[aU0]
  (repeat (first | refine AC fun K hK=> ?_ | (refine BA Gd mxd (by kernel_rfl) ?_;simp[Gd,qX];try simp (disch:=omega) only[Ag]) | refine Ao ?_ | (refine AX ?_ ?_ ?_;(· (simp[qX];done));(try (rotate_left;(· (intro hc;(try simp[qX]at hc);done))))) | (refine AE ?_;simp[results40,qX]) | ((first | refine Aw ?_ | refine Av ?_);simp[qX]) | (intro hc;(try simp[qX]at hc);(try (exfalso;omega))) | (refine⟨?_,?_⟩; · omega) | omega | apply_assumption -exfalso -symm | (exfalso;omega)))
  exact FrD.rowS rfl (Ap_ _)
theorem VW (g:List Rul):Af prog 40 [Au g] (Bz (AD g)):=(LJ g).pure (by simp[AJ,mx])
abbrev dCM (m:CM):DObj:= .map (DP m.K) (FF m.V)
def xI : Ann:=⟨[],[⟨4,[7],[],[]⟩,⟨7,[9],[],[]⟩]⟩
theorem LB (g:List Rul) (k:Int):Bj prog (.func 72) [Au g,.int .i64 k] [] (.omp 0 1) [⟨0,1,dCM (Pz (AK k g))⟩]:=by
 refine BL [] [(10,0,1)] xI func72 call72 ntmps72 mxd (AB @xI.eq_1 results72) rfl (fun qJ B qX qQ=> ?_);have bW:=Ke qJ.1
 have mP:∀r∈g,r.b.length<9223372036854775807:=fun r hr=>by
  have h1:=qJ.1;obtain⟨i,hi,rfl⟩:=bW0 hr;have h2:xW (g.map Ba):=by simp only[Ev]at h1;exact h1.2.2
  have h3:=aR h2 (aI0 hi);simp only[Ba,KI]at h3;exact PY h3.2.1
 clear qJ;simp only[Aq,List.nil_append]
 (refine AL Ab Ab Ab ?_;intros;refine Am ?_)
 refine Ai (X:={i:Nat//i<=g.length}) (fun i=>⟨[(0,Au g),(1,.int .i64 k),(5,.omp 10 1),(11,Au g),(12,.int .i64 g.length),(13,.int .i64 i.1)],[⟨10,1,dCM (Pz (AK k (g.take i.1)))⟩]⟩) (fun i=>g.length-i.1) ⟨0,by omega⟩ (Sub.lit (by simp[AK,Pz,DP,FF])) ?_;rintro⟨i,hi⟩;simp only
 by_cases qV:i<g.length
 ·obtain⟨r,hr,qW,bL⟩:=Ap qV;have wK:=OS (k:=k) hr;have jS:=mP r bL;obtain⟨N,hN⟩:∃N,N=AK k (g.take i):=⟨_,rfl⟩;rw[<-hN]at wK |-
  (refine AL Ab Ab (IF @Ba.eq_1 qV hr qW) ?_;intros;refine Am ?_)
  refine Ai (X:={j:Nat//j<=r.b.length}) (fun j=>⟨[(0,Au g),(1,.int .i64 k),(5,.omp 10 1),(11,Au g),(12,.int .i64 g.length),(13,.int .i64 i),(18,AM r.b),(19,.int .i64 r.b.length),(20,.int .i64 j.1)],[⟨10,1,dCM (Pz (N++Cp k (r.b.take j.1)))⟩]⟩) (fun j=>r.b.length-j.1) ⟨0,by omega⟩ (Sub.lit (by simp[Cp])) ?_;rintro⟨j,hj⟩;simp only
  by_cases qL:j<r.b.length
  ·obtain⟨x,hx,qB,vD⟩:=Ap qL;have htj:=OR (k:=k) hx;obtain⟨E,hE⟩:∃E,E=N++Cp k (r.b.take j):=⟨_,rfl⟩;have mC:N++Cp k (r.b.take (j+1))=E++(if x.k=k then [x.s]else []):=by rw[htj,hE,aS0]
   rw[<-hE]
   by_cases hk:x.k=k
   ·rw[if_pos hk]at mC;have wO:=BD_ E x.s;have qG:=lS E;obtain⟨⟨Ks,V⟩,hm⟩:∃m,m=Pz E:=⟨_,rfl⟩;rw[<-hm]at wO qG |-;have zE:=sJ Ks;unfold So at wO;simp only at wO
    by_cases hs:x.s∈Ks
    ·rw[if_pos hs]at wO;have l1:=Rm hs;have l3:LF Ks x.s<V.length:=by have:=Rt hs;have:=qG.len;simp only at this;omega
     have v1:(FF V)[LF Ks x.s]? =some (.int .i64 (V.getD (LF Ks x.s) 0)):=by simp[FF,l3]
     obtain⟨q,hq⟩:∃q,q=IntKind.i64.wrap (V.getD (LF Ks x.s) 0+1):=⟨_,rfl⟩;have yE:IntKind.i64.wrap (V.getD (LF Ks x.s) 0+1)=q:=hq.symm;rw[yE]at wO;obtain⟨c,wE⟩:∃c,c=V.getD (LF Ks x.s) 0:=⟨_,rfl⟩;rw[<-wE]at v1 yE;have st1:=Be_ V (LF Ks x.s) q;obtain⟨ix,hix⟩:∃ix,ix=LF Ks x.s:=⟨_,rfl⟩;rw[<-hix]at l1 v1 st1 wO
     (refine AL Ab Ab (Ml @Bo.eq_1 qL hx qB hk zE l1 v1 yE st1) ?_;intros;refine Am ?_)
     refine Al.mk ⟨j+1,by omega⟩ (Sub.lit (by simp only[mC,wO];simp)) (by simp;omega)
     skip
    ·rw[if_neg hs]at wO;have l1:=IY hs;have st1:=Bf_ V 1;have sk1:=Ai_ Ks x.s
     (refine AL Ab Ab (WJ @Bo.eq_1 qL hx qB hk zE l1 st1 sk1) ?_;intros;refine Am ?_)
     refine Al.mk ⟨j+1,by omega⟩ (Sub.lit (by simp only[mC,wO];simp)) (by simp;omega)
     skip
   ·have vH:(x.k==k)=false:=by simpa using hk
    rw[if_neg hk,bR0]at mC
    (refine AL Ab Ab (Jm @Bo.eq_1 qL hx qB hk vH) ?_;intros;refine Am ?_)
    refine Al.mk ⟨j+1,by omega⟩ (Sub.lit (by simp only[mC];simp)) (by simp;omega)
    skip
  ·have qZ:j=r.b.length:=by omega
   subst qZ;rw[aU0]
   (refine AL Ab Ab Ab ?_;intros;refine Am ?_)
   refine Al.mk ⟨i+1,by omega⟩ (Sub.lit (by simp only[wK];simp)) (by simp;omega)
   skip
 ·have qZ:i=g.length:=by omega
  subst qZ;rw[aU0];exact Az Ab Ab Ab
def sQ (m:CM) (s:ByteArray):CM:=if s∈m.K then ⟨m.K.eraseIdx (LF m.K s),m.V.eraseIdx (LF m.K s)⟩else m
structure DelOk (m0 m:CM) (hs:List ByteArray):Prop where
 len:m.K.length=m.V.length
 mem:∀s,s∈m.K↔s∈m0.K/\¬s∈hs
 nd:m.K.Nodup
theorem Bv_ {l:List ByteArray} (hn:l.Nodup) {s x:ByteArray} (hs:s∈l):x∈l.eraseIdx (LF l s)↔x∈l/\x≠s:=by
 have hi:=Rt hs
 have hv:l[LF l s]=s:=by
  have:=List.findIdx_getElem (xs:=l) (p:=fun x=>s==x) (w:=hi);simp at this;exact this.symm
 rw[List.mem_eraseIdx_iff_getElem]
 constructor
 ·rintro⟨i,kI,qF,rfl⟩;refine⟨dE0 kI,fun e=>qF ?_⟩;exact(List.getElem_inj hn).1 (e.trans hv.symm)
 ·rintro⟨hx,qF⟩;obtain⟨i,kI,rfl⟩:=bW0 hx;refine⟨i,kI,fun e=>qF ?_,rfl⟩;subst e;exact hv
theorem DelOk.step {m0 m:CM} {hs:List ByteArray} (h:DelOk m0 m hs) (s:ByteArray):DelOk m0 (sQ m s) (hs++[s]):=by
 unfold sQ
 split
 ·rename_i hm;refine⟨?_,fun x=> ?_,h.nd.sublist (List.eraseIdx_sublist _ _)⟩
  ·have:=Rt hm;rw[List.length_eraseIdx_of_lt this,List.length_eraseIdx_of_lt (by have:=h.len;omega),h.len]
  ·simp only;rw[Bv_ h.nd hm,h.mem x,aG0,aE0]
   constructor
   ·rintro⟨⟨a,b⟩,c⟩;exact⟨a,fun hh=>by rcases hh with hh | hh;exact b hh;exact c hh⟩
   ·rintro⟨a,b⟩;exact⟨⟨a,fun hh=>b (.inl hh)⟩,fun hh=>b (.inr hh)⟩
 ·rename_i hm;refine⟨h.len,fun x=> ?_,h.nd⟩;rw[h.mem x,aG0,aE0]
  constructor
  ·rintro⟨a,b⟩;exact⟨a,fun hh=>by rcases hh with hh | hh;exact b hh;subst hh;exact hm ((h.mem x).2 ⟨a,b⟩)⟩
  ·rintro⟨a,b⟩;exact⟨a,fun hh=>b (.inl hh)⟩
theorem Yw (V:List Int) (j:Nat):(FF V).eraseIdx j=FF (V.eraseIdx j):=by unfold FF;rw[Ih]
theorem Xf (V:List ByteArray) (j:Nat):(DP V).eraseIdx j=DP (V.eraseIdx j):=by unfold DP;rw[Ih]
def ZZ : Ann:=⟨[7],[⟨4,[5],[],[]⟩]⟩
theorem Js (g:List Rul) (hn:(AK 2 g).length<=9223372036854775807):Af prog 107 [Au g] (.int .i64 (CP g).length):=by
 refine Ae [] ZZ func107 call107 ntmps107 mxd (AB @ZZ.eq_1 results107) rfl (fun qJ B qX qQ=> ?_);have bW:=Ke qJ.1;clear qJ;simp only[Aq];have e1:=LB g 2;have qG:=lS (AK 2 g);obtain⟨m0,gA⟩:∃m,m=Pz (AK 2 g):=⟨_,rfl⟩;rw[<-gA]at e1 qG
 (refine AL Ab (AH (JA [] [(7,0)] e1)) Ab ?_;intros;refine Am ?_)
 refine Ai (X:={x:Nat×CM//x.1<=g.length/\DelOk m0 x.2 ((g.take x.1).map (·.h))}) (fun x=>⟨[(0,Au g),(3,.omp 7 1),(8,Au g),(9,.int .i64 g.length),(10,.int .i64 x.1.1)],[⟨7,1,dCM x.1.2⟩]⟩) (fun x=>g.length-x.1.1) ⟨(0,m0),by simp,by simpa using qG.len,by simp,qG.nd⟩ (Sub.lit (by simp)) ?_;rintro⟨⟨i,m⟩,hi,hD⟩;simp only at hi hD |-
 by_cases qV:i<g.length
 ·obtain⟨r,hr,qW,bL⟩:=Ap qV
  have nK:DelOk m0 (sQ m r.h) ((g.take (i+1)).map (·.h)):=by
   have:=hD.step r.h;rw[bM0,hr,bD0];exact this
  obtain⟨Ks,V⟩:=m;have zE:=sJ Ks;unfold sQ at nK;simp only at nK
  by_cases hs:r.h∈Ks
  ·rw[if_pos hs]at nK;have l1:=Rm hs;have s1:=Xf Ks (LF Ks r.h);have s2:=Yw V (LF Ks r.h)
   (refine AL Ab Ab (Ml @Ba.eq_1 qV hr qW zE l1 @Sa.eq_1 @RZ.eq_1 s1 s2) ?_;intros;refine Am ?_)
   refine Al.mk ⟨(i+1,_),show i+1<=g.length/\_ from ⟨by omega,nK⟩⟩ (Sub.lit (by simp)) (by simp;omega)
   skip
  ·rw[if_neg hs]at nK;have l1:=IY hs
   (refine AL Ab Ab (KG @Ba.eq_1 qV hr qW zE l1 @Sa.eq_1 @RZ.eq_1) ?_;intros;refine Am ?_)
   refine Al.mk ⟨(i+1,_),show i+1<=g.length/\_ from ⟨by omega,nK⟩⟩ (Sub.lit (by simp)) (by simp;omega)
   skip
 ·have qZ:i=g.length:=by omega
  subst qZ;rw[aU0]at hD
  have zS:m.K.length=(CP g).length:=Dm_ hD.nd fun s=>by
   rw[hD.mem s,qG.mem s,RC];simp
  have hsl:=Ah_ m.K;rw[zS]at hsl;have yD:(CP g).length<=9223372036854775807:=Nat.le_trans (Nat.le_trans (cM0 _ _) (HR _)) hn;obtain⟨Ks,V⟩:=m;exact Az Ab Ab (AB hsl yD)
def tA : Ann:=⟨[],[]⟩
theorem Hx (k c:Int) (hk:k=2/\c=85\/k=3/\c=76) (s:ByteArray):Af prog 56 [.str s,.int .u8 c] (.bool (Du k s)):=by
 refine Ae [] tA func56 call56 ntmps56 mxd (AB @tA.eq_1 results56) rfl (fun qJ B qX qQ=> ?_);have qI:s.size<=9223372036854775807:=by have:=qJ.1;simp only[Ev,maxLen]at this;omega
 clear qJ;simp only[Aq];obtain⟨R,hR⟩:∃R,R=Du k s:=⟨_,rfl⟩;rw[<-hR];unfold Du at hR
 by_cases h1:1<=s.size
 ·by_cases h2:s.size<=16
  ·have g1:¬(s.size:Int)<1:=by omega
   have g2:¬(16:Int)<s.size:=by omega
   have g0:0<s.size:=by omega
   obtain⟨b0,qR,fL,_⟩:=Ap (show 0<s.data.toList.length by rw[CN];omega)
   (refine AL Ab Ab (Lj g0 g1 g2 h1 h2) ?_;intros;refine Am ?_)
   refine Ai (X:={k:Nat//k<=s.size/\Dt_ s=((s.data.toList.drop k).all fun b=>Yo (b.toNat:Int))}) (fun k=>⟨[(0,.str s),(1,.int .u8 c),(5,.int .i64 k.1)],[]⟩) (fun k=>s.size-k.1) ⟨0,by simp[Dt_]⟩ (Sub.lit (by simp)) ?_;rintro⟨j,hj,hl⟩
   by_cases qV:j<s.size
   ·obtain⟨b,hb,qM,_⟩:=Ap (show j<s.data.toList.length by rw[CN];exact qV);rw[aR0 (by rw[CN];exact qV),qM,cT0]at hl;have e1:=Tg (b.toNat:Int);cases hL:Yo (b.toNat:Int)
    ·rw[hL]at e1 hl;have wY:R=false:=by rw[hR];unfold BU;rw[hl];simp
     subst wY;exact Az (AH e1) Ab (CL qV hb qM)
    ·rw[hL]at e1 hl;simp only[cA0]at hl
     (refine AL (AH e1) Ab (CL qV hb qM) ?_;intros;refine Am ?_)
     refine Al.mk ⟨j+1,by omega,hl⟩ (Sub.lit (by simp)) (by simp;omega)
     skip
   ·have qZ:j=s.size:=by omega
    subst qZ;rw[<-CN,bU0]at hl;have hN:BU s=true:=by unfold BU;rw[hl];simp[h1,h2]
    rw[hN]at hR;simp only[YA qR,cA0]at hR;have e1:=JQ (b0.toNat:Int);have e2:=JV (b0.toNat:Int)
    rcases hk with ⟨rfl,rfl⟩ | ⟨rfl,rfl⟩
    ·simp only[if_true]at hR;rw[<-hR]at e1;cases R
     ·exact Az (AB e1 e2) Ab (CL g0 qR fL)
     ·exact Az (AB e1 e2) Ab (CL g0 qR fL)
    ·simp only[show ¬(3:Int)=2 by omega,if_false]at hR;rw[<-hR]at e2;cases R
     ·exact Az (AB e1 e2) Ab (CL g0 qR fL)
     ·exact Az (AB e1 e2) Ab (CL g0 qR fL)
  ·have g1:¬(s.size:Int)<1:=by omega
   have g2:(16:Int)<s.size:=by omega
   have wY:R=false:=by rw[hR];unfold BU;simp[h2]
   subst wY;exact Az Ab Ab (IF g1 g2 h1 h2)
 ·have g1:(s.size:Int)<1:=by omega
  have wY:R=false:=by rw[hR];unfold BU;simp[h1]
  subst wY;exact Az Ab Ab (AB g1 h1)
def ZG : Ann:=⟨[],[]⟩
theorem AT_ (x:Nd):Af prog 145 [.agg (Bo x)] (.bool (DZ x)):=by
 refine Ae [] ZG func145 call145 ntmps145 mxd (AB @ZG.eq_1 results145) rfl (fun qJ B qX qQ=> ?_);simp only[Aq];have e1:=Hx 2 85 (.inl ⟨rfl,rfl⟩) x.s;have e2:=Hx 3 76 (.inr ⟨rfl,rfl⟩) x.s;rw[show Du 2 x.s=(BU x.s&&Jv aL x.s) from rfl]at e1;rw[show Du 3 x.s=(BU x.s&&Jv aO x.s) from rfl]at e2;unfold DZ aQ
 by_cases k1:x.k=1
 ·exact Az Ab Ab (CL @Bo.eq_1 @AY k1)
 by_cases k2:x.k=2
 ·obtain⟨b,hb⟩:∃b,b=(BU x.s&&Jv aL x.s):=⟨_,rfl⟩;rw[<-hb]at e1 |-;clear hb;cases b<;>exact Az (AH e1) Ab (IF @Bo.eq_1 @AY k1 k2)
 by_cases k3:x.k=3
 ·obtain⟨b,hb⟩:∃b,b=(BU x.s&&Jv aO x.s):=⟨_,rfl⟩;rw[<-hb]at e2 |-;clear hb;cases b<;>exact Az (AH e2) Ab (Lj @Bo.eq_1 @AY k1 k2 k3)
 by_cases k4:x.k=4
 ·exact Az Ab Ab (Jm @Bo.eq_1 @AY k1 k2 k3 k4)
 by_cases k5:x.k=5
 ·exact Az Ab Ab (IH @Bo.eq_1 @AY k1 k2 k3 k4 k5)
 by_cases k6:x.k=6
 ·exact Az Ab Ab (KG @Bo.eq_1 @AY k1 k2 k3 k4 k5 k6)
 by_cases k7:x.k=7
 ·exact Az Ab Ab (WJ @Bo.eq_1 @AY k1 k2 k3 k4 k5 k6 k7)
 by_cases k8:x.k=8
 ·exact Az Ab Ab (Ml @Bo.eq_1 @AY k1 k2 k3 k4 k5 k6 k7 k8)
 exact Az Ab Ab (Ml @Bo.eq_1 @AY k1 k2 k3 k4 k5 k6 k7 k8)
def lK (l:List Nd) (p:Nat):Int:=match EU (l.drop p) 1 with
 | some r=>(l.length:Int)-r.length
 | none=> -1
def tV : Ann:=⟨[],[]⟩
theorem Ku (l:List Nd) (p:Nat) (hs:l.length<=1572864) (hp:p<=l.length):Af prog 89 [AM l,.int .i64 p] (.int .i64 (lK l p)):=by
 refine Ae [] tV func89 call89 ntmps89 mxd (AB @tV.eq_1 results89) rfl (fun qJ B qX qQ=> ?_);clear qJ;simp only[Aq];obtain⟨R,hR⟩:∃R,R=lK l p:=⟨_,rfl⟩;rw[<-hR];unfold lK at hR;obtain⟨E,hE⟩:∃E,E=EU (l.drop p) 1:=⟨_,rfl⟩;rw[<-hE]at hR
 (refine AL Ab Ab Ab ?_;intros;refine Am ?_)
 refine Ai (X:={q:Nat×Nat//q.1<=l.length/\EU (l.drop q.1) q.2=E/\q.2<=1+q.1*1572864}) (fun q=>⟨[(0,AM l),(1,.int .i64 q.1.1),(5,.int .i64 q.1.2)],[]⟩) (fun q=>l.length+1-q.1.1) ⟨(p,1),hp,hE.symm,by simp only;omega⟩ (Sub.lit (by simp)) ?_;clear hE;rintro⟨⟨k,w⟩,hk,hw,mP⟩;simp only at hk hw mP |-
 cases w with
 | zero =>
  rw[Cs]at hw;rw[<-hw]at hR;simp only[cD0]at hR;have nI:R=k:=by omega
  subst nI;exact Az Ab Ab Ab
 | succ v =>
  have hv:(0:Int)<(v:Int)+1:=by omega
  by_cases qV:k<l.length
  ·obtain⟨x,hx,qB,_⟩:=Ap qV;rw[aR0 qV,qB]at hw;have e1:=AT_ x;simp only[Bo]at e1;have fI:¬l.length<=k:=by omega
   cases hm:DZ x
   ·rw[hm]at e1;rw[DI,hm]at hw;simp only[aQ0,if_false]at hw;rw[<-hw]at hR;simp only at hR;subst hR;exact Az (AH e1) Ab (Jm @Bo.eq_1 qV fI hx qB hv)
   ·rw[hm]at e1;have zD:=Ig hm;obtain⟨c,jZ⟩:∃c:Nat,x.n=(c:Int):=⟨x.n.toNat,by omega⟩;rw[jZ]at e1;rw[DI,if_pos hm,jZ,eC0]at hw
    by_cases fW:l.length<c
    ·have kZ:(l.length:Int)<(c:Int):=by omega
     rw[RS _ _ (by rw[cD0];omega)]at hw;rw[<-hw]at hR;simp only at hR;subst hR;exact Az (AH e1) Ab (WJ @Bo.eq_1 qV fI hx qB hv jZ fW kZ)
    ·have kZ:¬(l.length:Int)<(c:Int):=by omega
     have q1:IntKind.i64.wrap ((v:Int))=(v:Int):=wq;have q2:IntKind.i64.wrap ((v:Int)+(c:Int))=(v:Int)+(c:Int):=wq
     (refine AL (AH e1) Ab (JE @Bo.eq_1 qV fI hx qB hv jZ fW kZ q1 q2) ?_;intros;refine Am ?_)
     refine Al.mk ⟨(k+1,v+c),show k+1<=l.length/\EU (l.drop (k+1)) (v+c)=E/\v+c<=1+(k+1)*1572864 from ⟨by omega,hw,by omega⟩⟩ (Sub.lit (by simp)) (by simp;omega)
     skip
  ·have fI:l.length<=k:=by omega
   rw[dA0 fI,Iu]at hw;rw[<-hw]at hR;simp only at hR;subst hR;exact Az Ab Ab (AB hv fI)
def tW : Ann:=⟨[],[]⟩
theorem EH (l:List Nd) (hs:l.length<=1572864):Af prog 57 [AM l] (.bool (Dg l)):=by
 refine Ae [] tW func57 call57 ntmps57 mxd (AB @tW.eq_1 results57) rfl (fun qJ B qX qQ=> ?_);clear qJ;simp only[Aq];have e1:=Ku l 0 hs (by omega);unfold lK at e1;unfold Dg;rw[dT0]at e1
 by_cases h0:0<l.length
 ·cases hE:EU l 1 with
  | none =>
   rw[hE]at e1;have qF:((-1:Int)==(l.length:Int))=false:=by simp
   exact Az (AH e1) Ab (AB h0 qF)
  | some r =>
   rw[hE]at e1
   cases r with
   | nil =>
    simp only[List.length_nil,Int.natCast_zero,Int.sub_zero]at e1;exact Az (AH e1) Ab (AH h0)
   | cons y r =>
    have qF:(((l.length:Int)-((y::r).length:Int))==(l.length:Int))=false:=by simp;omega
    obtain⟨e,he⟩:∃e:Int,e=(l.length:Int)-((y::r).length:Int):=⟨_,rfl⟩;rw[<-he]at qF;have e3:Af prog 89 [AM l,.int .i64 0] (.int .i64 e):=by rw[he];exact e1
    exact Az (AH e3) Ab (AB h0 qF)
 ·have hl:l=[]:=bN0 (by omega);subst hl;rw[Iu];exact Az Ab Ab Ab
end Go.Proofs.Wy
end
