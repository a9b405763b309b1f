/- Parts of a proof, laid together: BN0, WB8, WB9, WB10, WB11, WB12, WB13, EnBo, BN1, WRn, RY1. -/
import Derived.Test.YtiojapdolljocaaGreatqBw15
import Derived.Test.YtiojapdolljocaaGreatqBw16
import Derived.Test.YtiojapdolljocaaGreatqBw17
import Derived.Test.YtiojapdolljocaaGreatqBw18
import Derived.Test.YtiojapdolljocaaGreatqBw21
set_option linter.unusedSimpArgs false
set_option maxHeartbeats 8000000
set_option linter.unusedVariables false
set_option linter.unusedSectionVars false
section
namespace Go.Proofs.Wy
open Go Go.Dm Tryz
variable [DMode]
def Hg (out:List ByteArray) (s:ByteArray):List ByteArray:=if s∈out then out else out++[s]
def AE (g:List Rul):List ByteArray:=(g.map (·.h)).foldl Hg []
theorem tM {out:List ByteArray} {s x:ByteArray}:x∈Hg out s↔x∈out\/x=s:=by
 unfold Hg
 split
 ·rename_i h;exact⟨.inl,fun hh=>by rcases hh with hh | rfl;exact hh;exact h⟩
 ·simp
theorem Tb : ∀(l out:List ByteArray) (x:ByteArray),x∈l.foldl Hg out↔x∈out\/x∈l
 | [],out,x=>by simp
 | s::l,out,x=>by rw[cH0,Tb l,tM];simp[or_assoc]
theorem NL : ∀(l out:List ByteArray),out.Nodup->(l.foldl Hg out).Nodup
 | [],out,h=>h
 | s::l,out,h=>by
  rw[cH0];refine NL l _ ?_;unfold Hg
  split
  ·exact h
  ·rename_i hs;exact bS0.2 ⟨h,by simp,by rintro a ha b hb rfl;simp at hb;subst hb;exact hs ha⟩
theorem Tc : ∀(l out:List ByteArray),(l.foldl Hg out).length<=out.length+l.length
 | [],out=>by simp
 | s::l,out=>by
  rw[cH0];have:=Tc l (Hg out s);have:(Hg out s).length<=out.length+1:=by unfold Hg;split<;>simp
  simp;omega
theorem KY {g:List Rul} {x:ByteArray}:x∈AE g↔∃r∈g,r.h=x:=by
 unfold AE;rw[Tb];simp
theorem LS (g:List Rul):(AE g).Nodup:=NL _ _ (by simp)
theorem HU (g:List Rul):(AE g).length<=g.length:=by have:=Tc (g.map (·.h)) [];unfold AE;simpa using this
theorem NJ {g:List Rul} {i:Nat} {r:Rul} (h:g[i]? =some r):AE (g.take (i+1))=Hg (AE (g.take i)) r.h:=by
 unfold AE;rw[bR0,h,bI0,cV0];rfl
def Ct (k:Int) (l:List Nd):List ByteArray:=(l.filter fun x=>decide (x.k=k)).map (·.s)
def AK (k:Int) (g:List Rul):List ByteArray:=g.flatMap fun r=>Ct k r.b
theorem ND {k:Int} {l:List Nd} {i:Nat} {x:Nd} (h:l[i]? =some x):Ct k (l.take (i+1))=Ct k (l.take i)++(if x.k=k then [x.s]else []):=by
 unfold Ct;rw[bR0,h,dR0,bI0]
 by_cases hx:x.k=k<;>simp[hx]
theorem NE {k:Int} {g:List Rul} {i:Nat} {r:Rul} (h:g[i]? =some r):AK k (g.take (i+1))=AK k (g.take i)++Ct k r.b:=by
 unfold AK;rw[bR0,h,List.flatMap_append];simp
theorem ZW (k:Int) (l:List Nd):(Ct k l).length<=l.length:=by
 unfold Ct;rw[aO0];exact dD0 _ _
def JL (l:List ByteArray) (s:ByteArray):Nat:=l.findIdx fun x=>s==x
theorem HT {l:List ByteArray} {s:ByteArray} (h:s∈l):JL l s<l.length:=List.findIdx_lt_length_of_exists ⟨s,h,by simp⟩
theorem Qm : ∀{l:List ByteArray} {s:ByteArray},s∈l->AU (DI l) (.str s)=some (JL l s)
 | [],_,h=>by simp at h
 | x::l,s,h=>by
  unfold JL;rw[List.findIdx_cons]
  by_cases h1:s=x
  ·subst h1;simp[Dk,AU,BX,Cu,US]
  ·have h2:=Qm (l:=l) (s:=s) (by simpa[h1]using h);have h1b:(s==x)=false:=by simpa using h1
   simp[Dk,AU,BX,Cu,US,h1b,h2,JL]
structure CM where
 K:List ByteArray
 V:List Int
def Ra (m:CM) (s:ByteArray):CM:=if s∈m.K then ⟨m.K,m.V.set (JL m.K s) (IntKind.i64.wrap (m.V.getD (JL m.K s) 0+1))⟩else ⟨m.K++[s],m.V++[1]⟩
def Ow (es:List ByteArray):CM:=es.foldl Ra ⟨[],[]⟩
theorem uD (es:List ByteArray) (s:ByteArray):Ow (es++[s])=Ra (Ow es) s:=by unfold Ow;rw[cV0];rfl
structure CMok (m:CM) (es:List ByteArray):Prop where
 len:m.K.length=m.V.length
 mem:∀s,s∈m.K↔s∈es
 nd:m.K.Nodup
 le:m.K.length<=es.length
theorem CMok.step {m:CM} {es:List ByteArray} (h:CMok m es) (s:ByteArray):CMok (Ra m s) (es++[s]):=by
 unfold Ra
 split
 ·rename_i hs;refine⟨by simp[h.len],fun x=> ?_,h.nd,by have:=h.le;simp;omega⟩;rw[h.mem x,aC0];exact⟨.inl,fun hh=>by rcases hh with hh | hh;exact hh;simp at hh;subst hh;exact(h.mem x).1 hs⟩
 ·rename_i hs;refine⟨by simp[h.len],fun x=>by simp[h.mem x],?_,by have:=h.le;simp;omega⟩;exact bS0.2 ⟨h.nd,by simp,by rintro a ha b hb rfl;simp at hb;subst hb;exact hs ha⟩
theorem aY (es:List ByteArray):CMok (Ow es) es:=by
 have key:∀(l:List ByteArray) (m:CM) (es:List ByteArray),CMok m es->CMok (l.foldl Ra m) (es++l):=by
  intro l
  induction l with
  | nil=>intro m es h;simpa using h
  | cons s l ih =>
   intro m es h;have:=ih (Ra m s) (es++[s]) (h.step s);simpa using this
 have:=key es ⟨[],[]⟩ [] ⟨rfl,by simp,by simp,by simp⟩;simpa[Ow]using this
def AH (g:List Rul):List ByteArray:=EH (AK 3 g)
def Dc (g:List Rul):List ByteArray:=(EH (AK 2 g)).filter fun s=> !decide (s∈AE g)
theorem AI_ {g:List Rul} {K:List ByteArray} (hn:K.Nodup) (hm:∀s,s∈K↔s∈AK 2 g/\¬s∈AE g):K.length=(Dc g).length:=by
 refine List.Perm.length_eq ((List.perm_ext_iff_of_nodup hn ?_).2 fun s=> ?_)
 ·unfold Dc;exact List.Pairwise.filter _ ((GN _).1.imp fun {a b} h e=>by subst e;rw[EN]at h;simp at h)
 ·unfold Dc;rw[hm s,cS0,(GN _).2];simp
abbrev GT := List (ByteArray×RT)
def Bz (gt:GT):List Rul:=gt.map fun p=>⟨p.1,flat p.2⟩
def uU (gt:GT):Prop:=∀p∈gt,Da 2 p.1=true/\DR p.2=true
def EL (g:List Rul):Bool:=g.all fun r=>Da 2 r.h&&CY r.b
theorem VG : ∀{g:List Rul},EL g=true->∃gt,g=Bz gt/\uU gt
 | [],_=>⟨[],rfl,by intro p hp;simp at hp⟩
 | r::g,h=>by
  unfold EL at h;rw[cP0,aM0,aM0]at h;obtain⟨gt,rfl,hg⟩:=VG (g:=g) h.2;obtain⟨t,ht,hb⟩:=KG h.1.2;refine⟨(r.h,t)::gt,by cases r;simp only at hb;subst hb;rfl,fun p hp=> ?_⟩
  rcases aL0.1 hp with rfl | hp
  ·exact⟨h.1.1,ht⟩
  ·exact hg p hp
theorem Xm {gt:GT} (h:uU gt):EL (Bz gt)=true:=by
 unfold EL Bz;rw[List.all_map,aX0];intro p hp;obtain⟨h1,h2⟩:=h p hp;simp[h1,EM h2]
def DX (g:List Rul):Nat:=(g.map fun r=>Ir r.b).sum
def Gu (gt:GT):Bool:=gt.any fun p=>decide (16<Iv p.2)
def Ik (p:ByteArray×RT):ByteArray:=p.1++⟨#[32,61,32]⟩++CI p.2++⟨#[32,59,10]⟩
def BY (gt:GT):ByteArray:=gt.foldl (fun s p=>s++Ik p) ⟨#[]⟩
theorem FJ {gt:GT} {i:Nat} {p:ByteArray×RT} (h:gt[i]? =some p):BY (gt.take (i+1))=BY (gt.take i)++Ik p:=by
 unfold BY;rw[bR0,h,cV0];rfl
theorem Kl (gt:GT) (i:Nat):(BY (gt.take i)).size<=(BY gt).size:=by
 have key:∀(l:GT) (s:ByteArray),s.size<=(l.foldl (fun s p=>s++Ik p) s).size:=by
  intro l
  induction l with
  | nil=>intro s;simp
  | cons p l ih=>intro s;rw[cH0];have:=ih (s++Ik p);rw[aP0]at this;omega
 unfold BY
 conv=>rhs;rw[<-List.take_append_drop i gt,cV0]
 exact key _ _
def Me (gt:GT):Int :=
 if 16<(AE (Bz gt)).length+(Dc (Bz gt)).length then 181
 else if 16<(AH (Bz gt)).length then 182
 else if 64<DX (Bz gt)then 183
 else if Gu gt then 171
 else if 0<(Dc (Bz gt)).length then 184
 else if 2048<(BY gt).size then 174
 else 0
mutual
theorem eW : ∀(t:RT),DR t=true->(flat t).length<=(CI t).size
 | .mk x ks,h=>by
  obtain⟨h1,h2,h3⟩:=BJ h;rw[OI,Ax,List.length_cons]
  by_cases k1:x.k=1
  ·rw[if_pos k1]
   have:x.n=0:=by
    unfold CL at h1;rw[if_pos k1]at h1;simp only[aM0,decide_eq_true_eq]at h1;exact h1.2
   have wR:ks=[]:=bM0 (by omega);subst wR;rw[Ah];decide
  ·rw[if_neg k1]
   by_cases k2:x.k=2\/x.k=3
   ·rw[if_pos k2];have:=SO h1 k2
    have hn:x.n=0:=by
     unfold CL at h1
     rcases k2 with k2 | k2
     ·rw[if_neg (by omega),if_pos k2]at h1;simp only[aM0,decide_eq_true_eq]at h1;exact h1.1
     ·rw[if_neg (by omega),if_neg (by omega),if_pos k2]at h1;simp only[aM0,decide_eq_true_eq]at h1;exact h1.1
    have wR:ks=[]:=bM0 (by omega);subst wR;rw[Ah];simp;omega
   ·rw[if_neg k2,aP0];have hj:=eX x.k ks h3;have hn:=MR h1 k1 k2
    rcases MS h1 with k | k | k | k | k | k | k | k
    ·exact absurd k k1
    ·exact absurd (.inl k) k2
    ·exact absurd (.inr k) k2
    ·have hb:1<=(Ml x.k).size:=by unfold Ml;rw[k];decide
     have h5:2<=x.n:=by unfold CL at h1;simp[k]at h1;exact h1.2
     have:=UI (Ml x.k) (Di x.k ks) (by rw[Dj,aO0];omega);rw[Dj,aO0,<-Dj]at this;have h6:1*(ks.length-1)<=(Ml x.k).size*(ks.length-1):=aZ0 _ hb;omega
    ·have hb:1<=(Ml x.k).size:=by unfold Ml;rw[k];decide
     have h5:2<=x.n:=by unfold CL at h1;simp[k]at h1;exact h1.2
     have:=UI (Ml x.k) (Di x.k ks) (by rw[Dj,aO0];omega);rw[Dj,aO0,<-Dj]at this;have h6:1*(ks.length-1)<=(Ml x.k).size*(ks.length-1):=aZ0 _ hb;omega
    all_goals
     have hs:(Zw x.k).size=1:=by unfold Zw;rw[k];decide
     have:=UI (Ml x.k) (Di x.k ks) (by rw[Dj,aO0];omega);omega
theorem eX : ∀(pk:Int) (ts:List RT),Fs ts=true->(Ah ts).length<=((Di pk ts).map (·.size)).sum
 | pk,[],_=>by simp[Ah]
 | pk,t::ts,h=>by
  obtain⟨h1,h2⟩:=BG h;have a:=eW t h1;have b:=eX pk ts h2;have c:=(JI pk t.x.k (CI t)).1;rw[FC,Ao,List.map_cons,eG0,aE0];omega
theorem UI (sep:ByteArray):∀(xs:List ByteArray),1<=xs.length->(xs.map (·.size)).sum+sep.size*(xs.length-1)<=(Ft xs sep).size
 | [],h=>by simp at h
 | x::r,_=>by
  have key:∀(r:List ByteArray) (x:ByteArray),x.size+(r.map (·.size)).sum+sep.size*r.length<=(r.foldl (Dd sep) x).size:=by
   intro r
   induction r with
   | nil=>intro x;simp
   | cons y r ih =>
    intro x;have:=ih (Dd sep x y);rw[KV]at this;rw[cH0,List.map_cons,eG0,List.length_cons,Nat.mul_add];omega
  have:=key r x
  show _<=(r.foldl (Dd sep) x).size
  simp only[List.map_cons,eG0,List.length_cons,eI0];omega
end
theorem xY {gt:GT} {p:ByteArray×RT} (h:p∈gt):(CI p.2).size<=(BY gt).size:=by
 obtain⟨i,hi,rfl⟩:=bU0 h;have h1:=FJ (aB0 hi);have h2:=Kl gt (i+1);rw[h1,aP0]at h2;unfold Ik at h2;simp only[aP0]at h2;omega
end Go.Proofs.Wy
end
section
namespace Go.Proofs.Wy
open Go Go.Dm Tryz
variable [DMode]
attribute [local irreducible] DW Bh Bk
set_option maxRecDepth 100000


structure SmallG (g:Edges):Prop where
 n1:g.nodes.length<=32
 n2:∀n∈g.nodes,n.size<=16
 e1:g.edges.length<=256
 e2:∀e∈g.edges,e.fr.size<=16/\e.lb.size<=16/\e.to.size<=16

def Tx : Ann:=⟨[],[]⟩
def Gw : Ann:=⟨[5],[]⟩
theorem XJ (l:List ByteArray):Ag prog 102 [Bo l] (Bo l):=by
 match l with
 | [] =>
  refine Zb [] ?_ ?_
  ·refine Ad [7] Tx func102 call102 ntmps102 mxd (Az @Tx.eq_1 results102) rfl (fun qJ B qX qQ=> ?_) (hd:=(by simp[mx,Bq]));simp only[Ap,List.nil_append,Bo,List.map_cons];exact AA Ac Ac Ac
  ·refine Ad [7,5] Gw func102 call102 ntmps102 mxd (Az @Gw.eq_1 results102) rfl (fun qJ B qX qQ=> ?_) (hd:=(by simp[mx,Bq]));simp only[Ap,List.nil_append,Bo,List.map_cons];exact AA Ac Ac Ac
 | s::l =>
  refine Ad [7,5] Gw func102 call102 ntmps102 mxd (Az @Gw.eq_1 results102) rfl (fun qJ B qX qQ=> ?_) (hd:=(by simp[mx,Bq]));have qD:(s::l).length*16<=150000000000000:=by have:=qJ.1;simp only[Ef,aO0]at this;exact this.1
  clear qJ;have z2:(s::l).length<=9223372036854775807:=by omega
  simp only[List.length_cons]at qD z2;simp only[Ap,List.nil_append,Bo,List.map_cons];exact AA Ac Ac (Az qD z2)
def Fg (l:List Int):List DVal:=l.map fun n=> .int .i64 n
theorem tD (l:List Int) (j:Nat) (n:Int):(Fg l).set j (.int .i64 n)=Fg (l.set j n):=by simp[Fg,List.map_set]
theorem tE (l:List Int) (n:Int):Fg l++[.int .i64 n]=Fg (l++[n]):=by simp[Fg]
@[simp] theorem Fx_ (l:List Int):AJ (Fg l)=0:=by
 unfold Fg
 induction l with
 | nil=>rfl
 | cons a l ih=>simp[AJ,mx,ih]
structure Cnt (K:List ByteArray) (V:List Int) (es:List ByteArray):Prop where
 len:K.length=V.length
 mem:∀s,s∈K↔s∈es
 val:∀v∈V,1<=v/\v<=es.length
theorem rA (l:List ByteArray) (s:ByteArray):DI l++[.str s]=DI (l++[s]):=by simp[DI]
theorem Cnt.step {K:List ByteArray} {V:List Int} {es:List ByteArray} (h:Cnt K V es) (s:ByteArray) :
  (∃j d,AU (DI K) (.str s)=some j/\(Fg V)[j]? =some (.int .i64 d)/\1<=d/\d<=es.length/\Cnt K (V.set j (d+1)) (es++[s])) \/
  (AU (DI K) (.str s)=none/\Cnt (K++[s]) (V++[1]) (es++[s])):=by
 by_cases hs:s∈K
 ·obtain⟨j,h1,h2⟩:=Ql hs;have h3:j<V.length:=by rw[<-h.len];exact h2
  have hv:=h.val V[j] (cY0 h3);refine .inl ⟨j,V[j],h1,by simp[Fg,h3],hv.1,hv.2,by simp[h.len],fun x=> ?_,fun v fX=> ?_⟩
  ·rw[h.mem x,aC0]
   constructor
   ·exact .inl
   ·rintro (hx | hx)
    ·exact hx
    ·simp only[aG0]at hx;subst hx;exact(h.mem x).1 hs
  ·rcases List.mem_or_eq_of_mem_set fX with h4 | rfl
   ·have:=h.val v h4;simp;omega
   ·simp;omega
 ·refine .inr ⟨HO hs,by simp[h.len],fun x=>by simp[h.mem x],fun v hv=> ?_⟩
  rcases aC0.1 hv with h4 | h4
  ·have:=h.val v h4;simp;omega
  ·simp only[aG0]at h4;subst h4;simp;omega
end Go.Proofs.Wy
end
section
namespace Go.Dm
variable [DMode]
def SB : DVal->Bool
 | .bool _=>true
 | .int _ _=>true
 | .str _=>true
 | .nilp=>true
 | .nilsl=>true
 | .any=>true
 | _=>false
theorem iE {d:DVal} (hd:SB d=true) {cur cur':EF} {M M':List Nat} {h h':Array Obj} {v:Value} (hr:rd cur M h d v):rd cur' M' h' d v:=by
 cases d<;>simp only[SB,bE0]at hd<;>simp only[rd]at hr |- <;>exact hr
theorem PK : ∀{ds:List DVal} (hd:ds.all SB=true) {cur cur':EF} {M M':List Nat} {h h':Array Obj} {vs:List Value} (_:Aw cur M h ds vs),Aw cur' M' h' ds vs
 | [],_,_,_,_,_,_,_,vs,hr=>by simpa only[Aw]using hr
 | d::ds,hd,_,_,_,_,_,_,vs,hr=>by
  rw[cP0,aM0]at hd;simp only[Aw]at hr |-;obtain⟨v,r,rfl,h1,h2⟩:=hr;exact⟨v,r,rfl,iE hd.1 h1,PK hd.2 h2⟩
def NB : DVal->Bool
 | .tup ds=>ds.all SB
 | .agg ds=>ds.all SB
 | d=>SB d
theorem PJ {d:DVal} (hd:NB d=true) {cur cur':EF} {M M':List Nat} {h h':Array Obj} {v:Value} (hr:rd cur M h d v):rd cur' M' h' d v:=by
 cases d
 case tup ds =>
  simp only[NB]at hd;simp only[rd]at hr |-;obtain⟨us,rfl,h1⟩:=hr;exact⟨us,rfl,PK hd h1⟩
 case agg ds =>
  simp only[NB]at hd;simp only[rd]at hr |-;obtain⟨us,rfl,h1⟩:=hr;exact⟨us,rfl,PK hd h1⟩
 all_goals exact iE (by simpa only[NB]using hd) hr
theorem RD {P:Program} {f:FuncId} {k bs:Nat} {et:TypeId} {es:List (List DVal)} {rest:List DVal} {d:DVal} (hd:NB d=true) (hp:Ag P f (.sl k bs es::rest) d) :
  Bl P (.func f) (.osl 0 0::rest) [⟨0,0,.row et k bs es⟩] d [⟨0,0,.row et k bs es⟩]:=by
 obtain⟨vK,_,hc⟩:=hp;refine⟨by simp,vK,fun M w loc vs S hr=>⟨vK,?_⟩⟩;simp only[Aw]at hr;obtain⟨v0,r0,wI,h0,hrest⟩:=hr;simp only[rd]at h0;have yJ:=h0 (loc 0) rfl;have hk:=S.ok ⟨0,0,.row et k bs es⟩ (by simp);have hap:=S.ap
 have W:Weak (Ab [(⟨0,0,.row et k bs es⟩:Ent)] loc) (Ab [(⟨0,0,.row et k bs es⟩:Ent)] loc) (Aa [(⟨0,0,.row et k bs es⟩:Ent)] loc++M) M w.heap w.heap (max (Bq es) (AJ rest)) :=
  ⟨fun _ _ _ _ h=>h,fun _ _ _ _ h=>h,fun b _ hb _ _ hm=>hb (aJ0 _ hm)⟩
 refine(hc (Ab [(⟨0,0,.row et k bs es⟩:Ent)] loc) M w vs (fun b hb=>S.lt b (aJ0 _ hb)) ?_).mono ?_
 ·rw[wI];simp only[Aw];refine⟨v0,r0,rfl,?_,AL W _ _ (by omega) hrest⟩;simp only[rd];obtain⟨hz,h⟩:=hk
  rcases h with ⟨he,_,h2⟩ | ⟨b,arr,cap,h1,h2,h3,h4,h5,h6,h7⟩
  ·subst he;rw[yJ,h2];exact⟨none,0,by simp,by simp,by simp,hz,.inl ⟨rfl,fun _=>rfl⟩⟩
  ·rw[yJ,h2];refine⟨some ⟨b,0,none⟩,cap,rfl,h4,h5,hz,.inr ⟨b,0,arr,et,(0,0),rfl,hap b ?_,h3,Cd W k es arr 0 (by omega) h7⟩⟩;simp[Aa,h1]
 ·rintro e w' ⟨v,rfl,hu,vW⟩;exact⟨v,rfl,loc,S.keep hu,hu.nil,fun b hb=> .inl hb,fun e he _=>AG S.nd he,PJ hd vW⟩
theorem DJ_ {P:Program} {B:Base} {Q:Exit->DS->Prop} {s:DS} {x:Code} (i k bs:Nat) (h:Bg s.slots i= .nilsl) (hw:DW P B x Q ⟨(i,.sl k bs [])::s.slots,s.own⟩):DW P B x Q s:=by
 refine GL (s':=⟨(i,.sl k bs [])::s.slots,s.own⟩) (fun a w loc R=>⟨loc,R.st,R.upd,R.new,R.ver,fun j=> ?_,R.nt,R.df⟩) hw;simp only[Bg]
 split
 ·rename_i hj;subst hj;have:=R.sl j;rw[h]at this;simp only[rd]at this |-;rw[this];exact⟨none,0,by simp,by simp,by simp,by simp,.inl ⟨by simp,fun _=>rfl⟩⟩
 ·exact R.sl j
end Go.Dm
end
section
namespace Go.Proofs.Wy
open Go Go.Dm Tryz
variable [DMode]
attribute [local irreducible] DW Bh Bk
set_option maxRecDepth 100000
theorem ZI {l:List ByteArray} {s:ByteArray}:decide (0<=HI l s)=decide (s∈l):=by
 refine decide_eq_decide.2 ?_;unfold HI
 by_cases h:s∈l
 ·rw[if_pos (cF0.2 ⟨s,h,by simp⟩)];simp only[h,iff_true];omega
 ·rw[if_neg (fun hh=>h (by obtain⟨x,hx,hs⟩:=cF0.1 hh;simp at hs;subst hs;exact hx))];simp[h]
theorem Ng (l:List ByteArray) (s:ByteArray):Ag prog 98 [Bo l,.str s] (.bool (decide (s∈l))):=by
 rw[<-ZI];exact Nh l s
theorem QR (l:List ByteArray) (s:ByteArray):Bl prog (.func 98) [.osl 0 0,.str s] [⟨0,0,.row 9 1 16 (l.map AD)⟩] (.bool (decide (s∈l))) [⟨0,0,.row 9 1 16 (l.map AD)⟩] :=
 RD rfl (Ng l s)
def Vl : Ann:=⟨[15],[⟨4,[5],[],[]⟩]⟩
theorem LU (g:List Rul):Ag prog 50 [AM g] (Bo (AE g)):=by
 refine Ad [3] Vl func50 call50 ntmps50 mxd (Az @Vl.eq_1 results50) rfl (fun qJ B qX qQ=> ?_);have hs:g.length*40<=150000000000000:=by have:=qJ.1;simp only[Ef,aO0]at this;exact this.1
 clear qJ;simp only[Ap]
 (refine Ba Ac Ac Ac ?_;intros;refine Al ?_)
 refine CD 3 3 9 1 16 (by simp[qX,results50,Vl]) (fun n=> ?_);refine An (X:={i:Nat//i<=g.length}) (fun i=>⟨[(0,AM g),(3,.osl 3 1),(6,AM g),(7,.int .i64 g.length),(8,.int .i64 i.1)],[⟨3,1,.row 9 1 16 ((AE (g.take i.1)).map AD)⟩]⟩) (fun i=>g.length-i.1) ⟨0,by omega⟩ (Sub.lit (by simp[AE])) ?_;rintro⟨i,hi⟩;simp only
 by_cases qV:i<g.length
 ·obtain⟨r,hr,wG,dU⟩:=Ar qV;have wA:=NJ hr;have hl:=HU (g.take i);rw[aW0]at hl;obtain⟨T,hT⟩:∃T,T=AE (g.take i):=⟨_,rfl⟩;rw[<-hT]at wA hl |-;have e1:=QR T r.h;have z1:(T.length+1)*16<=150000000000000:=by omega
  have z2:T.length+1<=9223372036854775807:=by omega
  unfold Hg at wA
  by_cases hm:r.h∈T
  ·rw[if_pos hm]at wA;rw[decide_eq_true hm]at e1
   (refine Ba Ac (AQ (Ii [(3,0)] [] e1)) (JV @BO.eq_1 qV hr wG) ?_;intros;refine Al ?_)
   refine Ak.mk ⟨i+1,by omega⟩ (Sub.lit (by simp[wA])) (by simp;omega)
   skip
  ·rw[if_neg hm]at wA;rw[decide_eq_false hm]at e1
   (refine Ba Ac (AQ (Ii [(3,0)] [] e1)) (Rp @BO.eq_1 qV hr wG z1 z2) ?_;intros;refine Al ?_)
   refine Ak.mk ⟨i+1,by omega⟩ (Sub.lit (by simp[wA,AD])) (by simp;omega)
   skip
 ·have qN:i=g.length:=by omega
  subst qN;rw[aT0];exact AA Ac Ac Ac
abbrev dCM (m:CM):DObj:= .map (DI m.K) (Fg m.V)
def YS : Ann:=⟨[],[⟨4,[7],[],[]⟩,⟨7,[9],[],[]⟩]⟩
theorem Kt (g:List Rul) (k:Int):Bl prog (.func 101) [AM g,.int .i64 k] [] (.omp 0 1) [⟨0,1,dCM (Ow (AK k g))⟩]:=by
 refine BU [] [(10,0,1)] YS func101 call101 ntmps101 mxd (Az @YS.eq_1 results101) rfl (fun qJ B qX qQ=> ?_);have dH:=IX qJ.1
 have dI:∀r∈g,r.b.length<9223372036854775807:=fun r hr=>by
  have h1:=qJ.1;obtain⟨i,hi,rfl⟩:=bU0 hr;have h2:pP (g.map BO):=by simp only[Ef]at h1;exact h1.2.2
  have h3:=Zj h2 (aB0 hi);simp only[BO,Iy]at h3;exact OX h3.2.1
 clear qJ;simp only[Ap,List.nil_append]
 (refine Ba Ac Ac Ac ?_;intros;refine Al ?_)
 refine An (X:={i:Nat//i<=g.length}) (fun i=>⟨[(0,AM g),(1,.int .i64 k),(5,.omp 10 1),(11,AM g),(12,.int .i64 g.length),(13,.int .i64 i.1)],[⟨10,1,dCM (Ow (AK k (g.take i.1)))⟩]⟩) (fun i=>g.length-i.1) ⟨0,by omega⟩ (Sub.lit (by simp[AK,Ow,DI,Fg])) ?_;rintro⟨i,hi⟩;simp only
 by_cases qV:i<g.length
 ·obtain⟨r,hr,wG,dU⟩:=Ar qV;have wA:=NE (k:=k) hr;have hrl:=dI r dU;obtain⟨N,hN⟩:∃N,N=AK k (g.take i):=⟨_,rfl⟩;rw[<-hN]at wA |-
  (refine Ba Ac Ac (JV @BO.eq_1 qV hr wG) ?_;intros;refine Al ?_)
  refine An (X:={j:Nat//j<=r.b.length}) (fun j=>⟨[(0,AM g),(1,.int .i64 k),(5,.omp 10 1),(11,AM g),(12,.int .i64 g.length),(13,.int .i64 i),(18,Bi r.b),(19,.int .i64 r.b.length),(20,.int .i64 j.1)],[⟨10,1,dCM (Ow (N++Ct k (r.b.take j.1)))⟩]⟩) (fun j=>r.b.length-j.1) ⟨0,by omega⟩ (Sub.lit (by simp[Ct])) ?_;rintro⟨j,hj⟩;simp only
  by_cases qK:j<r.b.length
  ·obtain⟨x,hx,qG,zJ⟩:=Ar qK;have htj:=ND (k:=k) hx;obtain⟨E,hE⟩:∃E,E=N++Ct k (r.b.take j):=⟨_,rfl⟩;have dE:N++Ct k (r.b.take (j+1))=E++(if x.k=k then [x.s]else []):=by rw[htj,hE,aS0]
   rw[<-hE]
   by_cases hk:x.k=k
   ·rw[if_pos hk]at dE;have qR:=uD E x.s;have qO:=aY E;obtain⟨⟨Ks,V⟩,hm⟩:∃m,m=Ow E:=⟨_,rfl⟩;rw[<-hm]at qR qO |-;have wR:=lM Ks;unfold Ra at qR;simp only at qR
    by_cases hs:x.s∈Ks
    ·rw[if_pos hs]at qR;have l1:=Qm hs;have l3:JL Ks x.s<V.length:=by have:=HT hs;have:=qO.len;simp only at this;omega
     have v1:(Fg V)[JL Ks x.s]? =some (.int .i64 (V.getD (JL Ks x.s) 0)):=by simp[Fg,l3]
     obtain⟨q,hq⟩:∃q,q=IntKind.i64.wrap (V.getD (JL Ks x.s) 0+1):=⟨_,rfl⟩;have jK:IntKind.i64.wrap (V.getD (JL Ks x.s) 0+1)=q:=hq.symm;rw[jK]at qR;obtain⟨c,zX⟩:∃c,c=V.getD (JL Ks x.s) 0:=⟨_,rfl⟩;rw[<-zX]at v1 jK;have st1:=tD V (JL Ks x.s) q;obtain⟨ix,hix⟩:∃ix,ix=JL Ks x.s:=⟨_,rfl⟩;rw[<-hix]at l1 v1 st1 qR
     (refine Ba Ac Ac (Rq @Bu.eq_1 qK hx qG hk wR l1 v1 jK st1) ?_;intros;refine Al ?_)
     refine Ak.mk ⟨j+1,by omega⟩ (Sub.lit (by simp only[dE,qR];simp)) (by simp;omega)
     skip
    ·rw[if_neg hs]at qR;have l1:=HO hs;have st1:=tE V 1;have sk1:=rA Ks x.s
     (refine Ba Ac Ac (uN @Bu.eq_1 qK hx qG hk wR l1 st1 sk1) ?_;intros;refine Al ?_)
     refine Ak.mk ⟨j+1,by omega⟩ (Sub.lit (by simp only[dE,qR];simp)) (by simp;omega)
     skip
   ·have vI:(x.k==k)=false:=by simpa using hk
    rw[if_neg hk,bO0]at dE
    (refine Ba Ac Ac (Rp @Bu.eq_1 qK hx qG hk vI) ?_;intros;refine Al ?_)
    refine Ak.mk ⟨j+1,by omega⟩ (Sub.lit (by simp only[dE];simp)) (by simp;omega)
    skip
  ·have qN:j=r.b.length:=by omega
   subst qN;rw[aT0]
   (refine Ba Ac Ac Ac ?_;intros;refine Al ?_)
   refine Ak.mk ⟨i+1,by omega⟩ (Sub.lit (by simp only[wA];simp)) (by simp;omega)
   skip
 ·have qN:i=g.length:=by omega
  subst qN;rw[aT0];exact AA Ac Ac Ac
def lV (m:CM) (s:ByteArray):CM:=if s∈m.K then ⟨m.K.eraseIdx (JL m.K s),m.V.eraseIdx (JL m.K s)⟩else m
structure DelOk (m0 m:CM) (hs:List ByteArray):Prop where
 len:m.K.length=m.V.length
 mem:∀s,s∈m.K↔s∈m0.K/\¬s∈hs
 nd:m.K.Nodup
theorem tQ {l:List ByteArray} (hn:l.Nodup) {s x:ByteArray} (hs:s∈l):x∈l.eraseIdx (JL l s)↔x∈l/\x≠s:=by
 have hi:=HT hs
 have hv:l[JL l s]=s:=by
  have:=List.findIdx_getElem (xs:=l) (p:=fun x=>s==x) (w:=hi);simp at this;exact this.symm
 rw[List.mem_eraseIdx_iff_getElem]
 constructor
 ·rintro⟨i,fM,qB,rfl⟩;refine⟨cY0 fM,fun e=>qB ?_⟩;exact(List.getElem_inj hn).1 (e.trans hv.symm)
 ·rintro⟨hx,qB⟩;obtain⟨i,fM,rfl⟩:=bU0 hx;refine⟨i,fM,fun e=>qB ?_,rfl⟩;subst e;exact hv
theorem DelOk.step {m0 m:CM} {hs:List ByteArray} (h:DelOk m0 m hs) (s:ByteArray):DelOk m0 (lV m s) (hs++[s]):=by
 unfold lV
 split
 ·rename_i hm;refine⟨?_,fun x=> ?_,h.nd.sublist (List.eraseIdx_sublist _ _)⟩
  ·have:=HT hm;rw[List.length_eraseIdx_of_lt this,List.length_eraseIdx_of_lt (by have:=h.len;omega),h.len]
  ·simp only;rw[tQ h.nd hm,h.mem x,aC0,aG0]
   constructor
   ·rintro⟨⟨a,b⟩,c⟩;exact⟨a,fun hh=>by rcases hh with hh | hh;exact b hh;exact c hh⟩
   ·rintro⟨a,b⟩;exact⟨⟨a,fun hh=>b (.inl hh)⟩,fun hh=>b (.inr hh)⟩
 ·rename_i hm;refine⟨h.len,fun x=> ?_,h.nd⟩;rw[h.mem x,aC0,aG0]
  constructor
  ·rintro⟨a,b⟩;exact⟨a,fun hh=>by rcases hh with hh | hh;exact b hh;subst hh;exact hm ((h.mem x).2 ⟨a,b⟩)⟩
  ·rintro⟨a,b⟩;exact⟨a,fun hh=>b (.inl hh)⟩
theorem Xe (V:List Int) (j:Nat):(Fg V).eraseIdx j=Fg (V.eraseIdx j):=by unfold Fg;rw[Ha]
theorem VM (V:List ByteArray) (j:Nat):(DI V).eraseIdx j=DI (V.eraseIdx j):=by unfold DI;rw[Ha]
def YR : Ann:=⟨[7],[⟨4,[5],[],[]⟩]⟩
theorem Il (g:List Rul) (hn:(AK 2 g).length<=9223372036854775807):Ag prog 145 [AM g] (.int .i64 (Dc g).length):=by
 refine Ad [] YR func145 call145 ntmps145 mxd (Az @YR.eq_1 results145) rfl (fun qJ B qX qQ=> ?_);have dH:=IX qJ.1;clear qJ;simp only[Ap];have e1:=Kt g 2;have qO:=aY (AK 2 g);obtain⟨m0,fL⟩:∃m,m=Ow (AK 2 g):=⟨_,rfl⟩;rw[<-fL]at e1 qO
 (refine Ba Ac (AQ (Ii [] [(7,0)] e1)) Ac ?_;intros;refine Al ?_)
 refine An (X:={x:Nat×CM//x.1<=g.length/\DelOk m0 x.2 ((g.take x.1).map (·.h))}) (fun x=>⟨[(0,AM g),(3,.omp 7 1),(8,AM g),(9,.int .i64 g.length),(10,.int .i64 x.1.1)],[⟨7,1,dCM x.1.2⟩]⟩) (fun x=>g.length-x.1.1) ⟨(0,m0),by simp,by simpa using qO.len,by simp,qO.nd⟩ (Sub.lit (by simp)) ?_;rintro⟨⟨i,m⟩,hi,hD⟩;simp only at hi hD |-
 by_cases qV:i<g.length
 ·obtain⟨r,hr,wG,dU⟩:=Ar qV
  have mI:DelOk m0 (lV m r.h) ((g.take (i+1)).map (·.h)):=by
   have:=hD.step r.h;rw[bR0,hr,bI0];exact this
  obtain⟨Ks,V⟩:=m;have wR:=lM Ks;unfold lV at mI;simp only at mI
  by_cases hs:r.h∈Ks
  ·rw[if_pos hs]at mI;have l1:=Qm hs;have s1:=VM Ks (JL Ks r.h);have s2:=Xe V (JL Ks r.h)
   (refine Ba Ac Ac (Rq @BO.eq_1 qV hr wG wR l1 @QM.eq_1 @QL.eq_1 s1 s2) ?_;intros;refine Al ?_)
   refine Ak.mk ⟨(i+1,_),show i+1<=g.length/\_ from ⟨by omega,mI⟩⟩ (Sub.lit (by simp)) (by simp;omega)
   skip
  ·rw[if_neg hs]at mI;have l1:=HO hs
   (refine Ba Ac Ac (Np @BO.eq_1 qV hr wG wR l1 @QM.eq_1 @QL.eq_1) ?_;intros;refine Al ?_)
   refine Ak.mk ⟨(i+1,_),show i+1<=g.length/\_ from ⟨by omega,mI⟩⟩ (Sub.lit (by simp)) (by simp;omega)
   skip
 ·have qN:i=g.length:=by omega
  subst qN;rw[aT0]at hD
  have jJ:m.K.length=(Dc g).length:=AI_ hD.nd fun s=>by
   rw[hD.mem s,qO.mem s,KY];simp
  have hsl:=pZ m.K;rw[jJ]at hsl;have zU:(Dc g).length<=9223372036854775807:=Nat.le_trans (Nat.le_trans (dD0 _ _) (GO _)) hn;obtain⟨Ks,V⟩:=m;exact AA Ac Ac (Az hsl zU)
def XU : Ann:=⟨[],[]⟩
theorem GB (k c:Int) (hk:k=2/\c=85\/k=3/\c=76) (s:ByteArray):Ag prog 116 [.str s,.int .u8 c] (.bool (Da k s)):=by
 refine Ad [] XU func116 call116 ntmps116 mxd (Az @XU.eq_1 results116) rfl (fun qJ B qX qQ=> ?_);have qD:s.size<=9223372036854775807:=by have:=qJ.1;simp only[Ef,maxLen]at this;omega
 clear qJ;simp only[Ap];obtain⟨R,hR⟩:∃R,R=Da k s:=⟨_,rfl⟩;rw[<-hR];unfold Da at hR
 by_cases h1:1<=s.size
 ·by_cases h2:s.size<=16
  ·have g1:¬(s.size:Int)<1:=by omega
   have g2:¬(16:Int)<s.size:=by omega
   have g0:0<s.size:=by omega
   obtain⟨b0,qH,jH,_⟩:=Ar (show 0<s.data.toList.length by rw[CF];omega)
   (refine Ba Ac Ac (Lj g0 g1 g2 h1 h2) ?_;intros;refine Al ?_)
   refine An (X:={k:Nat//k<=s.size/\AL_ s=((s.data.toList.drop k).all fun b=>WT (b.toNat:Int))}) (fun k=>⟨[(0,.str s),(1,.int .u8 c),(5,.int .i64 k.1)],[]⟩) (fun k=>s.size-k.1) ⟨0,by simp[AL_]⟩ (Sub.lit (by simp)) ?_;rintro⟨j,hj,hl⟩
   by_cases qV:j<s.size
   ·obtain⟨b,hb,qL,_⟩:=Ar (show j<s.data.toList.length by rw[CF];exact qV);rw[aU0 (by rw[CF];exact qV),qL,cP0]at hl;have e1:=Sc (b.toNat:Int);cases hL:WT (b.toNat:Int)
    ·rw[hL]at e1 hl;have vQ:R=false:=by rw[hR];unfold BN;rw[hl];simp
     subst vQ;exact AA (AQ e1) Ac (HB qV hb qL)
    ·rw[hL]at e1 hl;simp only[cT0]at hl
     (refine Ba (AQ e1) Ac (HB qV hb qL) ?_;intros;refine Al ?_)
     refine Ak.mk ⟨j+1,by omega,hl⟩ (Sub.lit (by simp)) (by simp;omega)
     skip
   ·have qN:j=s.size:=by omega
    subst qN;rw[<-CF,cL0]at hl;have hN:BN s=true:=by unfold BN;rw[hl];simp[h1,h2]
    rw[hN]at hR;simp only[Xj qH,cT0]at hR;have e1:=IG (b0.toNat:Int);have e2:=IK (b0.toNat:Int)
    rcases hk with ⟨rfl,rfl⟩ | ⟨rfl,rfl⟩
    ·simp only[if_true]at hR;rw[<-hR]at e1;cases R
     ·exact AA (Az e1 e2) Ac (HB g0 qH jH)
     ·exact AA (Az e1 e2) Ac (HB g0 qH jH)
    ·simp only[show ¬(3:Int)=2 by omega,if_false]at hR;rw[<-hR]at e2;cases R
     ·exact AA (Az e1 e2) Ac (HB g0 qH jH)
     ·exact AA (Az e1 e2) Ac (HB g0 qH jH)
  ·have g1:¬(s.size:Int)<1:=by omega
   have g2:(16:Int)<s.size:=by omega
   have vQ:R=false:=by rw[hR];unfold BN;simp[h2]
   subst vQ;exact AA Ac Ac (JV g1 g2 h1 h2)
 ·have g1:(s.size:Int)<1:=by omega
  have vQ:R=false:=by rw[hR];unfold BN;simp[h1]
  subst vQ;exact AA Ac Ac (Az g1 h1)
def Yq : Ann:=⟨[],[]⟩
theorem sP (x:Nd):Ag prog 212 [.agg (Bu x)] (.bool (CL x)):=by
 refine Ad [] Yq func212 call212 ntmps212 mxd (Az @Yq.eq_1 results212) rfl (fun qJ B qX qQ=> ?_);simp only[Ap];have e1:=GB 2 85 (.inl ⟨rfl,rfl⟩) x.s;have e2:=GB 3 76 (.inr ⟨rfl,rfl⟩) x.s;rw[show Da 2 x.s=(BN x.s&&Et Sp x.s) from rfl]at e1;rw[show Da 3 x.s=(BN x.s&&Et SQ x.s) from rfl]at e2;unfold CL Zi
 by_cases k1:x.k=1
 ·exact AA Ac Ac (HB @Bu.eq_1 @AO k1)
 by_cases k2:x.k=2
 ·obtain⟨b,hb⟩:∃b,b=(BN x.s&&Et Sp x.s):=⟨_,rfl⟩;rw[<-hb]at e1 |-;clear hb;cases b<;>exact AA (AQ e1) Ac (JV @Bu.eq_1 @AO k1 k2)
 by_cases k3:x.k=3
 ·obtain⟨b,hb⟩:∃b,b=(BN x.s&&Et SQ x.s):=⟨_,rfl⟩;rw[<-hb]at e2 |-;clear hb;cases b<;>exact AA (AQ e2) Ac (Lj @Bu.eq_1 @AO k1 k2 k3)
 by_cases k4:x.k=4
 ·exact AA Ac Ac (Rp @Bu.eq_1 @AO k1 k2 k3 k4)
 by_cases k5:x.k=5
 ·exact AA Ac Ac (OB @Bu.eq_1 @AO k1 k2 k3 k4 k5)
 by_cases k6:x.k=6
 ·exact AA Ac Ac (Np @Bu.eq_1 @AO k1 k2 k3 k4 k5 k6)
 by_cases k7:x.k=7
 ·exact AA Ac Ac (uN @Bu.eq_1 @AO k1 k2 k3 k4 k5 k6 k7)
 by_cases k8:x.k=8
 ·exact AA Ac Ac (Rq @Bu.eq_1 @AO k1 k2 k3 k4 k5 k6 k7 k8)
 exact AA Ac Ac (Rq @Bu.eq_1 @AO k1 k2 k3 k4 k5 k6 k7 k8)
def aS (l:List Nd) (p:Nat):Int:=match EG (l.drop p) 1 with
 | some r=>(l.length:Int)-r.length
 | none=> -1
def Yr : Ann:=⟨[],[]⟩
theorem NR (l:List Nd) (p:Nat) (hs:l.length<=1572864) (hp:p<=l.length):Ag prog 185 [Bi l,.int .i64 p] (.int .i64 (aS l p)):=by
 refine Ad [] Yr func185 call185 ntmps185 mxd (Az @Yr.eq_1 results185) rfl (fun qJ B qX qQ=> ?_);clear qJ;simp only[Ap];obtain⟨R,hR⟩:∃R,R=aS l p:=⟨_,rfl⟩;rw[<-hR];unfold aS at hR;obtain⟨E,hE⟩:∃E,E=EG (l.drop p) 1:=⟨_,rfl⟩;rw[<-hE]at hR
 (refine Ba Ac Ac Ac ?_;intros;refine Al ?_)
 refine An (X:={q:Nat×Nat//q.1<=l.length/\EG (l.drop q.1) q.2=E/\q.2<=1+q.1*1572864}) (fun q=>⟨[(0,Bi l),(1,.int .i64 q.1.1),(5,.int .i64 q.1.2)],[]⟩) (fun q=>l.length+1-q.1.1) ⟨(p,1),hp,hE.symm,by simp only;omega⟩ (Sub.lit (by simp)) ?_;clear hE;rintro⟨⟨k,w⟩,hk,hw,dI⟩;simp only at hk hw dI |-
 cases w with
 | zero =>
  rw[Cn]at hw;rw[<-hw]at hR;simp only[bZ0]at hR;have hRk:R=k:=by omega
  subst hRk;exact AA Ac Ac Ac
 | succ v =>
  have hv:(0:Int)<(v:Int)+1:=by omega
  by_cases qV:k<l.length
  ·obtain⟨x,hx,qG,_⟩:=Ar qV;rw[aU0 qV,qG]at hw;have e1:=sP x;simp only[Bu]at e1;have gX:¬l.length<=k:=by omega
   cases hm:CL x
   ·rw[hm]at e1;rw[Dz,hm]at hw;simp only[bE0,if_false]at hw;rw[<-hw]at hR;simp only at hR;subst hR;exact AA (AQ e1) Ac (Rp @Bu.eq_1 qV gX hx qG hv)
   ·rw[hm]at e1;have zA:=GZ hm;obtain⟨c,yC⟩:∃c:Nat,x.n=(c:Int):=⟨x.n.toNat,by omega⟩;rw[yC]at e1;rw[Dz,if_pos hm,yC,cB0]at hw
    by_cases jF:l.length<c
    ·have yA:(l.length:Int)<(c:Int):=by omega
     rw[QI _ _ (by rw[bZ0];omega)]at hw;rw[<-hw]at hR;simp only at hR;subst hR;exact AA (AQ e1) Ac (uN @Bu.eq_1 qV gX hx qG hv yC jF yA)
    ·have yA:¬(l.length:Int)<(c:Int):=by omega
     have q1:IntKind.i64.wrap ((v:Int))=(v:Int):=wq;have q2:IntKind.i64.wrap ((v:Int)+(c:Int))=(v:Int)+(c:Int):=wq
     (refine Ba (AQ e1) Ac (Sm @Bu.eq_1 qV gX hx qG hv yC jF yA q1 q2) ?_;intros;refine Al ?_)
     refine Ak.mk ⟨(k+1,v+c),show k+1<=l.length/\EG (l.drop (k+1)) (v+c)=E/\v+c<=1+(k+1)*1572864 from ⟨by omega,hw,by omega⟩⟩ (Sub.lit (by simp)) (by simp;omega)
     skip
  ·have gX:l.length<=k:=by omega
   rw[dK0 gX,Hn]at hw;rw[<-hw]at hR;simp only at hR;subst hR;exact AA Ac Ac (Az hv gX)
def Ys : Ann:=⟨[],[]⟩
theorem Er (l:List Nd) (hs:l.length<=1572864):Ag prog 117 [Bi l] (.bool (CY l)):=by
 refine Ad [] Ys func117 call117 ntmps117 mxd (Az @Ys.eq_1 results117) rfl (fun qJ B qX qQ=> ?_);clear qJ;simp only[Ap];have e1:=NR l 0 hs (by omega);unfold aS at e1;unfold CY;rw[List.drop_zero]at e1
 by_cases h0:0<l.length
 ·cases hE:EG l 1 with
  | none =>
   rw[hE]at e1;have qB:((-1:Int)==(l.length:Int))=false:=by simp
   exact AA (AQ e1) Ac (Az h0 qB)
  | some r =>
   rw[hE]at e1
   cases r with
   | nil =>
    simp only[List.length_nil,Int.natCast_zero,Int.sub_zero]at e1;exact AA (AQ e1) Ac (AQ h0)
   | cons y r =>
    have qB:(((l.length:Int)-((y::r).length:Int))==(l.length:Int))=false:=by simp;omega
    obtain⟨e,he⟩:∃e:Int,e=(l.length:Int)-((y::r).length:Int):=⟨_,rfl⟩;rw[<-he]at qB;have e3:Ag prog 185 [Bi l,.int .i64 0] (.int .i64 e):=by rw[he];exact e1
    exact AA (AQ e3) Ac (Az h0 qB)
 ·have hl:l=[]:=bM0 (by omega);subst hl;rw[Hn];exact AA Ac Ac Ac
end Go.Proofs.Wy
end
