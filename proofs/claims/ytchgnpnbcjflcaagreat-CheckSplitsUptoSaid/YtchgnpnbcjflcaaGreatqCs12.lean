/- Parts of a proof, laid together: CT4, EnU, PB, PU, PZ. -/
import Derived.SizedLaws
import Derived.ProofKit
import Derived.OpenShut
import Derived.Carry
import Derived.Test.YtchgnpnbcjflcaaGreatRows
import Derived.Test.YtchgnpnbcjflcaaGreatqCs4
import Derived.Test.YtchgnpnbcjflcaaGreatqCs5
import Derived.Test.YtchgnpnbcjflcaaGreatqCs11
set_option linter.unusedSimpArgs false
set_option linter.unusedVariables false
set_option linter.unusedSectionVars false
section
namespace Go.Proofs.YtchgnpnbcjflcaaGreat
open Go Go.Dm
attribute [local irreducible] DW AV_ AZ_
set_option maxRecDepth 100000
theorem cword_any (g:List Rul) (nt:ByteArray) (w:List ByteArray) (c:Int) (p1:Ac_ Tryz.prog 76 [Av_ g] (.int .i64 c)) (p3:c=0→∃gt,g=mkG gt∧OkgT gt) (hs:SmlG g):∃b:Bool,Ac_ Tryz.prog 23 [Av_ g,.str nt,AP_ w] (.tup [.bool b,.int .i64 (NO_ c g nt w)]):=by
 by_cases he:NO_ c g nt w=0
 ·rw[he];unfold NO_ at he
  have hk:Cc_ c g nt=0:=by
   split at he
   ·assumption
   ·exact he
  rw[if_pos hk]at he
  have hw:w.length≤64:=by
   split at he
   ·omega
   ·omega
  obtain⟨hc0,hn⟩:=OT_ hk;obtain⟨gt,rfl,h⟩:=p3 hc0;subst hc0;exact⟨_,Wb_ gt h hs p1 nt hn w hw⟩
 ·exact⟨_,cword_err g nt c w p1 he⟩
theorem err_both {c:Int} {g:List Rul} {d:Edges} {nt a b:ByteArray} {way:List Edge} (he:DI_ c g d nt a b way≠0):wayI d a b way=DI_ c g d nt a b way∨NO_ c g nt (BX_ way)=DI_ c g d nt a b way:=by
 unfold DI_ at he ⊢;unfold wayI NO_;rw[IN_]
 by_cases h1:c=0
 ·rw[if_pos h1]at he ⊢
  by_cases h2:Ev_ d=0
  ·rw[if_pos h2]at he ⊢;rw[if_pos h2]
   by_cases h3:Cc_ c g nt=0
   ·rw[if_pos h3]at he ⊢
    by_cases h4:Ip_ d a b=0
    ·rw[if_pos h4]at he ⊢;rw[if_pos h4]
     by_cases h5:64<way.length
     ·rw[if_pos h5,if_pos h5];exact .inl rfl
     ·rw[if_neg h5]at he;exact absurd rfl he
    ·rw[if_neg h4,if_neg h4];exact .inl rfl
   ·rw[if_neg h3,if_neg h3];exact .inr rfl
  ·rw[if_neg h2,if_neg h2];exact .inl rfl
 ·rw[if_neg h1];have h3:Cc_ c g nt=c:=by unfold Cc_;rw[if_neg h1]
  rw[h3,if_neg h1];exact .inr rfl
def XD_ : Ann:=⟨[],[]⟩
set_option maxHeartbeats 1000000 in
theorem JQ_ (g:List Rul) (d:Edges) (nt a b:ByteArray) (way:List Edge) (hs:SmlG g):Ac_ Tryz.prog 8 [.agg [Av_ g,AP_ d.nodes,dEds d.edges,.str nt,.str a,.str b,dEds way]] (.bool true):=by
 obtain⟨c,p1,p2,p3⟩:=g_may g hs;have f3:=Zc_;have f4:=Yq_ d a b way;have f5:=Jj_ way
 by_cases he:DI_ c g d nt a b way=0
 ·obtain⟨hc0,h2,h3,h4,h5⟩:=KQ_ he;obtain⟨gt,rfl,h⟩:=p3 hc0;subst hc0;have hn:=(OT_ h3).2;have f1:=cright_ok gt h hs p1 d nt a b way he;have f6:=Wb_ gt h hs p1 nt hn (BX_ way) (by rw[IN_];exact h5);rw[way_of h2 h4 h5]at f4;obtain⟨RB,hRB⟩:∃RB,RB=SC_ (mkG gt) (Fj_ gt).1 nt (BX_ way):=⟨_,rfl⟩;rw[←hRB]at f1 f6;obtain⟨WB,hWB⟩:∃WB,WB=Lx_ d a b way:=⟨_,rfl⟩;rw[←hWB]at f1 f4;obtain⟨SP,hSP⟩:∃SP,SP=BX_ way:=⟨_,rfl⟩
  rw[←hSP]at f5 f6;simp only[dGr]at f1 f4;refine Aa_ [] XD_ Tryz.func8 Tryz.call8 Tryz.ntmps8 mxd (aj2 @XD_.eq_1 Tryz.results8) rfl (by simp) (by simp[mx]) fun hwf B hnt hgAnn=> ?_
  clear hwf;simp only[argS];cases WB
  ·simp only[aP0,if_false,cL0]at f1 f4;exact go0 (aj5 f1 f3 f4 f5 f6) aj0 (aj1 @dGr.eq_1)
  ·simp only[if_true,cO0]at f1 f4;exact go0 (aj5 f1 f3 f4 f5 f6) aj0 (aj1 @dGr.eq_1)
 ·have f1:=Zq_ g d nt a b way c p1 he;obtain⟨wb,f6⟩:=cword_any g nt (BX_ way) c p1 p3 hs;have hor:=err_both he;obtain⟨E,hE⟩:∃E,E=DI_ c g d nt a b way:=⟨_,rfl⟩;rw[←hE]at f1 hor he;obtain⟨F,hF⟩:∃F,F=wayI d a b way:=⟨_,rfl⟩;rw[←hF]at f4 hor;obtain⟨G,hG⟩:∃G,G=NO_ c g nt (BX_ way):=⟨_,rfl⟩;rw[←hG]at f6 hor;obtain⟨SP,hSP⟩:∃SP,SP=BX_ way:=⟨_,rfl⟩;rw[←hSP]at f5 f6;clear hE hF hG;simp only[dGr]at f1 f4;have heb:(E==0)=false:=by simpa using he
  have hec:(E != 0)=true:=by simpa using he
  refine Aa_ [] XD_ Tryz.func8 Tryz.call8 Tryz.ntmps8 mxd (aj2 @XD_.eq_1 Tryz.results8) rfl (by simp) (by simp[mx]) fun hwf B hnt hgAnn=> ?_
  clear hwf;simp only[argS]
  by_cases hfe:F=E
  ·subst hfe;exact go0 (aj5 f1 f3 f4 f5 f6) aj0 (aj4 @dGr.eq_1 he heb hec)
  ·have hge:=hor.resolve_left hfe;subst hge;have hfb:(F==G)=false:=by simpa using hfe
   exact go0 (aj5 f1 f3 f4 f5 f6) aj0 (aj6 @dGr.eq_1 he heb hec hfe hfb)
end Go.Proofs.YtchgnpnbcjflcaaGreat
end
section
namespace Go.Dm
variable [DMode]
inductive Sh where
 | b
 | i (k:IntKind)
 | s
 | sl (k bs:Nat) (c:List Sh)
mutual
def HasS (L:Nat):Sh→DVal→Prop
 | .b,d=>∃b,d= .bool b
 | .i k,d=>∃n,d= .int k n
 | .s,d=>∃x:ByteArray,d= .str x∧x.size≤L
 | .sl k bs c,d=>∃es,d= .sl k bs es∧es.length*bs≤L∧∀e∈es,HasL L c e
def HasL (L:Nat):List Sh→List DVal→Prop
 | [],ds=>ds=[]
 | x::r,ds=>∃d t,ds=d::t∧HasS L x d∧HasL L r t
end
theorem Mp_ {L:Nat}:∀{a b:List Sh} {x y:List DVal},HasL L a x→HasL L b y→HasL L (a++b) (x++y)
 | [],b,x,y,h,k=>by simp only[HasL]at h;subst h;exact k
 | a::r,b,x,y,h,k=>by
  simp only[HasL]at h;obtain⟨d,t,rfl,h1,h2⟩:=h;simp only[List.cons_append,HasL];exact⟨d,t++y,rfl,h1,Mp_ h2 k⟩
def shF (g:TypeId→Option (List Sh)) (cells:TypeId→Nat):List Field→Nat→Option (List Sh×Nat)
 | [],off=>some ([],off)
 | f::r,off=>if f.offset=off then
  (match g f.type,shF g cells r (off+cells f.type)with
  | some c,some (l,e)=>some (c++l,e)
  | _,_=>none)else none
def shOf (P:Program):Nat→TypeId→Option (List Sh)
 | 0,_=>none
 | n+1,t=>match P.underlying t with
  | some .bool=>some [.b]
  | some (.int k)=>some [.i k]
  | some .string=>some [.s]
  | some (.slice e)=>if 0<P.cellsOf e then (shOf P n e).map fun c=>[.sl (P.cellsOf e) (P.bytesOf e) c]else none
  | some (.struct fs)=>match shF (shOf P n) P.cellsOf fs.toList 0 with
   | some (l,e)=>if e=P.cellsOf t then some l else none
   | none=>none
  | _=>none
theorem Lp_ {α β:Type} {f:α→Option β}:∀{l:List α} {r:List β},l.mapM f=some r→r.length=l.length∧∀(i:Nat) (x:α),l[i]? =some x→∃y,r[i]? =some y∧f x=some y
 | [],r,h=>by simp at h;subst h;simp
 | a::l,r,h=>by
  rw[List.mapM_cons]at h
  cases hf:f a with
  | none=>rw[hf]at h;simp at h
  | some y =>
   rw[hf]at h
   cases hm:l.mapM f with
   | none=>rw[hm]at h;simp at h
   | some r' =>
    rw[hm]at h;simp at h;subst h;obtain⟨h1,h2⟩:=Lp_ hm;refine⟨by simp[h1],fun i x hx=> ?_⟩
    cases i with
    | zero=>simp only[bC0,aA0]at hx;subst hx;exact⟨y,rfl,hf⟩
    | succ i=>simp only[bI0]at hx ⊢;exact h2 i x hx
theorem rdV_len {cur:Cur} {M:List Nat} {h:Array Obj}:∀{a:List DVal} {x:List Value},rdV cur M h a x→a.length=x.length
 | [],x,h1=>by simp only[rdV]at h1;subst h1;rfl
 | d::a,x,h1=>by
  simp only[rdV]at h1;obtain⟨v,r,rfl,h3,h4⟩:=h1;simp[rdV_len h4]
theorem Nb_ {cur:Cur} {M:List Nat} {h:Array Obj} {arr:Array Value}:∀{a:List DVal} {x:List Value} {o:Nat},rdV cur M h a x→(∀v∈x,v.oneCell'=true)→(∀(j:Nat) v,x[j]? =some v→arr[o+j]? =some v)→rdC cur M h a arr o
 | [],x,o,h1,_,_=>by simp[rdC]
 | d::a,x,o,h1,h2,h3=>by
  simp only[rdV]at h1;obtain⟨v,r,rfl,h4,h5⟩:=h1;simp only[rdC];refine⟨⟨v,by simpa using h3 0 v rfl,h2 v (by simp),h4⟩,Nb_ h5 (fun u hu=>h2 u (by simp[hu])) fun j u hu=> ?_⟩;have:=h3 (j+1) u (by simpa using hu);rw[←this];congr 1;omega
theorem rows_of {L:Nat} {cur:Cur} {M:List Nat} {h:Array Obj} {arr:Array Value} {k:Nat} {c:List Sh}:∀(len off:Nat),(∀i,i<len→∃ds,ds.length=k∧rdC cur M h ds arr (off+i*k)∧HasL L c ds) →
  ∃es,es.length=len∧rdR cur M h k es arr off∧∀e∈es,HasL L c e
 | 0,off,_=>⟨[],rfl,by simp[rdR],by simp⟩
 | len+1,off,hh=>by
  obtain⟨ds,h1,h2,h3⟩:=hh 0 (by omega)
  obtain⟨es,h4,h5,h6⟩:=rows_of len (off+k) (fun i hi=>by
   obtain⟨ds,h1,h2,h3⟩:=hh (i+1) (by omega);refine⟨ds,h1,?_,h3⟩;have:off+k+i*k=off+(i+1)*k:=by rw[bT0];omega
   rw[this];exact h2)
  refine⟨ds::es,by simp[h4],?_,?_⟩
  ·simp only[rdR];exact⟨h1,by simpa using h2,h5⟩
  ·intro e he
   rcases aJ0.1 he with rfl | he
   ·exact h3
   ·exact h6 e he
theorem inR_of_wf {k:IntKind} {n:Int} (h:(Lit.int k n).wf=true):inR k n:=by
 cases k<;>simpa[Lit.wf,IntKind.min,IntKind.max,IntKind.signed,IntKind.bits,inR]using h
theorem Uz_ {g:TypeId→Option (List Sh)} {cells:TypeId→Nat}:∀{fs:List Field} {off e:Nat} {l:List Sh},shF g cells fs off=some (l,e)→off≤e
 | [],off,e,l,h=>by simp only[shF,aA0,aW0]at h;omega
 | f::r,off,e,l,h=>by
  simp only[shF]at h
  split at h
  ·split at h
   ·rename_i c l' e' h1 h2;simp only[aA0,aW0]at h;have:=Uz_ h2;omega
   ·simp at h
  ·simp at h
section
variable {H : Type} {enc : TypeId × Value → H} {P : Program} {w : World} {cur : Cur}
def RdArg (L:Nat) (P:Program) (cur:Cur) (w:World) (cs:List Value) (shs:List Sh):Prop :=
 ∃ds,rdV cur [] w.heap ds cs∧(∀v∈cs,v.oneCell'=true)∧HasL L shs ds
theorem RL_ {L fuel n:Nat} (ih:∀{t:TypeId} {cs:List Value} {d:DataW H} {ps:List MemPlace} {shs:List Sh},DataW.trod enc P w 0 (fun _=>true) true fuel t cs=some (d,ps)→shOf P n t=some shs→(∀x∈d.weights P t,x≤L)→RdArg L P cur w cs shs)
  (cs:List Value):∀(fs:List Field) (off e:Nat) (l:List Sh) (xs:List (DataW H×List MemPlace)),
   fs.mapM (fun f=>DataW.trod enc P w 0 (fun _=>true) true fuel f.type ((cs.drop f.offset).take (P.cellsOf f.type)))=some xs→shF (shOf P n) P.cellsOf fs off=some (l,e) →
   (∀x∈DataW.weightsEach P (fs.map (·.type)) (xs.map (·.1)),x≤L)→RdArg L P cur w ((cs.drop off).take (e-off)) l
 | [],off,e,l,xs,h1,h2,h3=>by
  simp only[shF,aA0,aW0]at h2;obtain⟨rfl,rfl⟩:=h2;exact⟨[],by simp[rdV],by simp,by simp[HasL]⟩
 | f::fs,off,e,l,xs,h1,h2,h3=>by
  rw[List.mapM_cons]at h1;simp only[shF]at h2
  split at h2
  ·rename_i hoff
   split at h2
   ·rename_i c l' e' h4 h5;simp only[aA0,aW0]at h2;obtain⟨rfl,rfl⟩:=h2;have hm:=Uz_ h5
    cases hf:DataW.trod enc P w 0 (fun _=>true) true fuel f.type ((cs.drop f.offset).take (P.cellsOf f.type))with
    | none=>rw[hf]at h1;simp at h1
    | some x =>
     rw[hf]at h1
     cases hr:fs.mapM (fun f=>DataW.trod enc P w 0 (fun _=>true) true fuel f.type ((cs.drop f.offset).take (P.cellsOf f.type)))with
     | none=>rw[hr]at h1;simp at h1
     | some xr =>
      rw[hr]at h1;simp at h1;subst h1;simp only[List.map_cons,DataW.weightsEach,aI0]at h3;obtain⟨d1,a1,a2,a3⟩:=ih hf h4 (fun y hy=>h3 y (.inl hy));obtain⟨d2,b1,b2,b3⟩:=RL_ ih cs fs (off+P.cellsOf f.type) e' l' xr hr h5 (fun y hy=>h3 y (.inr hy))
      have hsp:(cs.drop off).take (e'-off)=(cs.drop f.offset).take (P.cellsOf f.type)++(cs.drop (off+P.cellsOf f.type)).take (e'-(off+P.cellsOf f.type)):=by
       rw[hoff,←List.drop_drop,show e'-off=P.cellsOf f.type+(e'-(off+P.cellsOf f.type)) by omega,List.take_add]
      rw[hsp];exact⟨d1++d2,Bw_ _ _ _ _ a1 b1,fun v hv=>(aI0.1 hv).elim (a2 v) (b2 v),Mp_ a3 b3⟩
   ·simp at h2
  ·simp at h2
theorem GM_ {e:TypeId}:∀{l:List (DataW H)} {d:DataW H},d∈l→∀x∈d.weights P e,x∈DataW.weightsAll P e l
 | a::l,d,hd,x,hx=>by
  simp only[DataW.weightsAll,aI0]
  rcases aJ0.1 hd with rfl | hd
  ·exact .inl hx
  ·exact .inr (GM_ hd x hx)
theorem Sc_ {a:Addr} {n:Nat} {cs:List Value} (h:w.cells? 0 a n=some cs):cs.length=n∧∀(j:Nat) v,cs[j]? =some v→w.cell? (a.add j)=some v:=by
 unfold World.cells? at h;rw[if_pos (cW0 _)]at h;obtain⟨h1,h2⟩:=Lp_ h;rw[eG0]at h1;refine⟨h1,fun j v hv=> ?_⟩;have hj:j<n:=by rw[←h1];exact(aB0.1 hv).1
 obtain⟨y,hy,hy'⟩:=h2 j j (by rw[eO0 hj]);rw[hv]at hy;rw[hy',hy]
theorem Yh_ (b o n:Nat):(⟨b,o,none⟩:Addr).add n=⟨b,o+n,none⟩:=by
 unfold Addr.add
 split
 ·rename_i h;subst h;rfl
 ·rfl
theorem SI_ {L:Nat} (hL:L≤140737488355328):∀{fuel n:Nat} {t:TypeId} {cs:List Value} {d:DataW H} {ps:List MemPlace} {shs:List Sh},DataW.trod enc P w 0 (fun _=>true) true fuel t cs=some (d,ps)→shOf P n t=some shs →
  (∀x∈d.weights P t,x≤L)→RdArg L P cur w cs shs
 | 0,n,t,cs,d,ps,shs,h,hs,hw=>by simp[DataW.trod]at h
 | fuel+1,0,t,cs,d,ps,shs,h,hs,hw=>by simp[shOf]at hs
 | fuel+1,n+1,t,cs,d,ps,shs,h,hs,hw=>by
  unfold DataW.trod at h
  split at h
  ·rename_i b hu;simp only[shOf,hu,aA0]at hs;subst hs;exact⟨[.bool b],by simp[rdV,rd],by simp[Value.oneCell'],by simp[HasL,HasS]⟩
  ·rename_i k k' n' hu;simp only[shOf,hu,aA0]at hs;subst hs
   split at h
   ·rename_i hk;obtain⟨rfl,hk⟩:=hk;exact⟨[.int k' n'],by simp[rdV,rd,inR_of_wf hk],by simp[Value.oneCell'],by simp[HasL,HasS]⟩
   ·simp at h
  ·rename_i hu;simp[shOf,hu]at hs
  ·rename_i x hu;simp only[shOf,hu,aA0]at hs;subst hs
   split at h
   ·rename_i hk;simp only[aA0,aW0]at h;obtain⟨rfl,_⟩:=h;have hsz:=hw x.data.toList.length (by simp[DataW.weights]);exact⟨[.str x],by simp[rdV,rd,hk],by simp[Value.oneCell'],by simp only[HasL,HasS];exact⟨_,_,rfl,⟨x,rfl,by rw[bO0]at hsz;exact hsz⟩,rfl⟩⟩
   ·simp at h
  ·rename_i hu;simp[shOf,hu]at hs
  ·rename_i hu;simp[shOf,hu]at hs
  ·rename_i e hu;simp only[shOf,hu]at hs
   split at hs
   rotate_left
   ·simp at hs
   rename_i hk0;rw[bD0]at hs;obtain⟨c,hc,rfl⟩:=hs;exact⟨[.sl (P.cellsOf e) (P.bytesOf e) []],by simp only[rdV,rd];exact⟨_,_,rfl,⟨none,0,rfl,Nat.le_refl _,cW0 _,by simp,.inl ⟨trivial,fun _=>rfl⟩⟩,rfl⟩,by simp[Value.oneCell'],by simp[HasL,HasS]⟩
  ·rename_i e a len cap hu;simp only[shOf,hu]at hs
   split at hs
   rotate_left
   ·simp at hs
   rename_i hk0;rw[bD0]at hs;obtain⟨c,hc,rfl⟩:=hs;simp only at h
   split at h
   ·rename_i hb;obtain⟨_,hb1,hb2⟩:=hb
    cases hm:(List.range len).mapM (fun i=>(w.cells? 0 (a.add (i*P.cellsOf e)) (P.cellsOf e)).bind (DataW.trod enc P w 0 (fun _=>true) true fuel e))with
    | none=>rw[hm]at h;simp at h
    | some elems =>
     rw[hm]at h;simp only[Option.bind_some,if_true,bD0]at h;obtain⟨rest,hr,h⟩:=h;simp only[aW0]at h;obtain⟨rfl,rfl⟩:=h;simp only[DataW.weights,hu,aJ0,aI0,aK0]at hw;obtain⟨m1,m2⟩:=Lp_ hm;rw[eG0]at m1;have hsz:=hw _ (.inl rfl);have hlen:len*P.bytesOf e≤L:=Nat.le_trans (aV0 _ (by omega)) hsz
     have hel:∀i,i<len→∃cs ds,w.cells? 0 (a.add (i*P.cellsOf e)) (P.cellsOf e)=some cs∧rdV cur [] w.heap ds cs∧(∀v∈cs,v.oneCell'=true)∧HasL L c ds:=by
      intro i hi;obtain⟨y,hy,hy'⟩:=m2 i i (by rw[eO0 hi]);rw[Option.bind_eq_some_iff]at hy';obtain⟨cs,hcs,hy'⟩:=hy';obtain⟨d',p'⟩:=y;have hmem:d'∈elems.map (·.1):=aU0.2 ⟨_,bL0 hy,rfl⟩;obtain⟨ds,b1,b2,b3⟩:=SI_ hL hy' hc (fun x hx=>hw x (.inr (.inl (GM_ hmem x hx))));exact⟨cs,ds,hcs,b1,b2,b3⟩
     by_cases h0:len=0
     ·subst h0;exact⟨[.sl (P.cellsOf e) (P.bytesOf e) []],by simp only[rdV,rd];exact⟨_,_,rfl,⟨some a,cap,rfl,cW0 _,hb2,by simp,.inl ⟨trivial,fun hh=>by simp at hh⟩⟩,rfl⟩,by simp[Value.oneCell'],by simp[HasL,HasS]⟩
     ·obtain⟨blk,off,spot⟩:=a;obtain⟨cs0,ds0,hcs0,_,_,_⟩:=hel 0 (by omega);obtain⟨l1,l2⟩:=Sc_ hcs0;obtain⟨v,hv⟩:∃v,cs0[0]? =some v:=⟨_,aH0 (by omega)⟩;have hc0:w.cell? ⟨blk,off,spot⟩=some v:=by simpa[Addr.add]using l2 0 v hv
      obtain⟨arr,ty,fz,hblk,hspot⟩:∃arr ty fz,w.heap[blk]? =some (.cells arr ty fz)∧spot=none:=by
       simp only[World.cell?]at hc0
       split at hc0
       ·rename_i arr ty fz hb
        split at hc0
        ·simp at hc0
        ·rename_i hsp;exact⟨arr,ty,fz,hb,by simpa using hsp⟩
       ·simp at hc0
      subst hspot
      obtain⟨es,e1,e2,e3⟩:=rows_of (cur:=cur) (M:=[]) (h:=w.heap) (arr:=arr) (k:=P.cellsOf e) (c:=c) len off (fun i hi=>by
       obtain⟨cs,ds,hcs,b1,b2,b3⟩:=hel i hi;obtain⟨l1,l2⟩:=Sc_ hcs;refine⟨ds,by rw[rdV_len b1,l1],Nb_ b1 b2 fun j u hu=> ?_,b3⟩;have:=l2 j u hu;rw[Yh_,Yh_]at this
       simpa[World.cell?,hblk]using this)
      refine⟨[.sl (P.cellsOf e) (P.bytesOf e) es],?_,by simp[Value.oneCell'],by simp only[HasL,HasS];exact⟨_,_,rfl,⟨es,rfl,by rw[e1];exact hlen,e3⟩,rfl⟩⟩;simp only[rdV,rd];exact⟨_,_,rfl,⟨_,_,by rw[e1],by omega,hb2,by rw[e1];omega,.inr ⟨blk,off,arr,ty,fz,rfl,by simp,hblk,e2⟩⟩,rfl⟩
   ·simp at h
  ·rename_i fs hu;simp only[shOf,hu]at hs
   split at hs
   ·rename_i l e hf
    split at hs
    ·rename_i he;simp only[aA0]at hs;subst hs;subst he
     split at h
     ·rename_i hlen;simp only[bD0]at h;obtain⟨xs,hxs,h⟩:=h;simp only[aW0]at h;obtain⟨rfl,rfl⟩:=h;simp only[DataW.weights,hu]at hw;have:=RL_ (cur:=cur) (fun h1 h2 h3=>SI_ hL h1 h2 h3) _ fs.toList 0 (P.cellsOf t) l xs hxs hf hw;simpa[←hlen]using this
     ·simp at h
    ·simp at hs
   ·simp at hs
  all_goals first | (simp at h;done) | (rename_i hu;simp[shOf,hu]at hs;done)
def Rs_ (P:Program) (t:TypeId):Bool:=match P.underlying t with | some (.struct _)=>true | _=>false
theorem arg_rd {L base n:Nat} (hL:L≤140737488355328) {t:TypeId} {v:Value} {d:DataW H} {ps:List MemPlace} {shs:List Sh} (hv:Value.okWide P w .any base t v) (h:DataW.Trod enc P w 0 (fun _=>true) true t v d ps) (hs:shOf P n t=some shs)
  (hw:∀x∈d.weights P t,x≤L):∃ds,HasL L shs ds∧if Rs_ P t then rd cur [] w.heap (.agg ds) v else rdV cur [] w.heap ds [v]:=by
 obtain⟨fuel,h⟩:=h;obtain⟨ds,h1,h2,h3⟩:=SI_ (cur:=cur) hL h hs hw;refine⟨ds,h3,?_⟩;unfold Rs_
 split
 ·rename_i fs hu;simp only[if_true];simp only[Value.okWide,hu]at hv;obtain⟨cs,rfl,_,_⟩:=hv;simp only[rd];exact⟨cs,rfl,h1⟩
 ·rename_i hu
  have hag:v.cells= #[v]:=by
   cases n with
   | zero=>simp[shOf]at hs
   | succ n =>
    cases v<;>first | rfl | skip
    rename_i cs;unfold shOf at hs;unfold Value.okWide at hv
    cases hu':P.underlying t with
    | none=>simp[hu']at hs
    | some ty =>
     rw[hu']at hs hv;cases ty<;>simp[Cell.okWide,Cell.ok,hu']at hs hv;exact absurd hu' (hu _)
  rw[hag]at h1;simpa using h1
def Je_ (L:Nat) (P:Program):List TypeId→List (List Sh)→List DVal→Prop
 | [],[],a=>a=[]
 | t::ts,x::xs,a=>∃ds r,HasL L x ds∧a=(if Rs_ P t then .agg ds else ds.headD .any)::r∧Je_ L P ts xs r
 | _,_,_=>False
theorem Wg_ {L base n:Nat} (hL:L≤140737488355328):∀{ts:List TypeId} {vs:List Value} {ds:List (DataW H)} {ps:List MemPlace} {shs:List (List Sh)},(∀(j:Nat) t v,ts[j]? =some t→vs[j]? =some v→Value.okWide P w .any base t v) →
  DataW.TrodAll enc P w 0 (fun _=>true) true ts vs ds ps→ts.map (shOf P n)=shs.map some→(∀x∈DataW.weightsEach P ts ds,x≤L)→∃das,rdV cur [] w.heap das vs∧Je_ L P ts shs das
 | [],vs,ds,ps,shs,hv,hA,hs,hw=>by
  obtain⟨rfl,rfl,rfl⟩:=ChangeShapes.trodAll_nil hA
  cases shs with
  | nil=>exact⟨[],by simp[rdV],by simp[Je_]⟩
  | cons a b=>simp at hs
 | t::ts,vs,ds,ps,shs,hv,hA,hs,hw=>by
  obtain⟨v,vr,d,dr,p,q,rfl,rfl,rfl,h0,hr⟩:=ChangeShapes.trodAll_cons hA
  cases shs with
  | nil=>simp at hs
  | cons x xs =>
   simp only[List.map_cons,bG0]at hs;simp only[DataW.weightsEach,aI0]at hw;obtain⟨das,a1,a2⟩:=Wg_ hL (fun j t v h1 h2=>hv (j+1) t v (by simpa using h1) (by simpa using h2)) hr hs.2 (fun y hy=>hw y (.inr hy));obtain⟨dd,b1,b2⟩:=arg_rd (cur:=cur) hL (hv 0 t v rfl rfl) h0 hs.1 (fun y hy=>hw y (.inl hy));refine⟨(if Rs_ P t then .agg dd else dd.headD .any)::das,?_,by simp only[Je_];exact⟨dd,das,b1,rfl,a2⟩⟩
   simp only[rdV];refine⟨v,vr,rfl,?_,a1⟩
   split
   ·rename_i h;rw[if_pos h]at b2;exact b2
   ·rename_i h;rw[if_neg h]at b2
    cases dd with
    | nil=>simp[rdV]at b2
    | cons d0 dr =>
     simp only[rdV]at b2;obtain⟨u,r,hu,hd0,_⟩:=b2;simp only[bG0]at hu;rw[hu.1];simpa using hd0
theorem args_rd {L base n:Nat} {ts:List TypeId} {vs:List Value} {ds:List (DataW H)} {ps:List MemPlace} {shs:List (List Sh)} (h1:∀(j:Nat) t v,ts[j]? =some t→vs[j]? =some v→Value.okWide P w .any base t v)
 (h2:DataW.TrodAll enc P w 0 (fun _=>true) true ts vs ds ps) (h3:ts.map (shOf P n)=shs.map some) (h4:∀x∈DataW.weightsEach P ts ds,x≤L) (hL:L≤140737488355328:=by omega):∃das,rdV cur [] w.heap das vs∧Je_ L P ts shs das:=Wg_ hL h1 h2 h3 h4
theorem Upd.below {a b:World} (h:Upd [] a b):RowKit.Below a.heap.size a b:=⟨h.os,h.tape,h.output,h.size,fun k hk=>h.blk k hk (by simp)⟩
theorem HC_ (hl:laidOutB P=true) {W W':World} {sp:Nat→Bool}:∀{ts:List TypeId} {vs:List Value} {ds:List (DataW H)} {ps:List MemPlace},(∀t∈ts,P.readableRec t=true∧t<P.types.size) →
  DataW.TrodAll enc P W 0 (fun _=>true) true ts vs ds ps→(∀p∈ps,W.sameAt W' p)→(∀p∈ps,sp p.block=true)→DataW.TrodAll enc P W' 0 sp true ts vs ds ps
 | [],vs,ds,ps,ht,hA,h1,h2=>by
  obtain⟨rfl,rfl,rfl⟩:=ChangeShapes.trodAll_nil hA;rfl
 | t::ts,vs,ds,ps,ht,hA,h1,h2=>by
  obtain⟨v,vr,d,dr,p,q,rfl,rfl,rfl,h0,hr⟩:=ChangeShapes.trodAll_cons hA;obtain⟨k1,k2⟩:=ht t (by simp);exact⟨p,q,WideElems.Trod_stays hl k1 k2 h0 (fun x hx=>h1 x (by simp[hx])) (fun x hx=>h2 x (by simp[hx])),HC_ hl (fun t h=>ht t (by simp[h])) hr (fun x hx=>h1 x (by simp[hx])) (fun x hx=>h2 x (by simp[hx])),rfl⟩
theorem law_post {fn:Func} {s:ChangeSpec} {fresh handsOn:Bool} {tb:TypeId} {W W':World} {args:Array Value} {ds gs:List (DataW H)} {before:List MemPlace} (hl:laidOutB P=true)
  (hall:∀t∈fn.params.toList,P.readableRec t=true∧t<P.types.size) (hr:fn.resultTypes= #[tb]) (hub:P.underlying tb=some .bool) (hvars:s.vars=[])
  (hs:s.fn H (ds++gs)={ results:=[.lit (.bool true)],args:=ds }) (hW:DataW.Whole enc P fn.params.toList s.vars false W args.toList ds gs before) (hu:Upd [] W W') :
  s.post enc P fn false fresh handsOn false W args (.bool true) W':=by
 have hW':=hW;obtain⟨p,q,hA,hV,rfl,hfz,hnd⟩:=hW;have hlt:∀x∈p,x.block<W.heap.size:=fun x hx=>hW'.lt x (by simp[hx])
 have hb:=hu.below;refine⟨ds,gs,p++q,[],p,[],hW',?_,?_,?_,hb.frame _,fun h=>by cases h⟩
 ·rw[hs,hr];exact ChangeShapes.trodAll_mk1 (RowKit.shut_bool hub true)
 ·rw[hs];exact HC_ hl hall hA (fun x hx=>hb.same (hlt x hx)) (fun x hx=>by simpa using hlt x hx)
 ·rw[hs,hvars];rfl
theorem Rn_ {f:FuncId} {fn:Func} {s:ChangeSpec} {fresh handsOn:Bool} {tb:TypeId} {W:World} {args:Array Value} {das:List DVal} {ds gs:List (DataW H)} {before:List MemPlace} (hl:laidOutB P=true)
  (hall:∀t∈fn.params.toList,P.readableRec t=true∧t<P.types.size) (hr:fn.resultTypes= #[tb]) (hub:P.underlying tb=some .bool) (hvars:s.vars=[])
  (hs:s.fn H (ds++gs)={ results:=[.lit (.bool true)],args:=ds }) (hW:DataW.Whole enc P fn.params.toList s.vars false W args.toList ds gs before)
  (hrd:rdV (fun _ _=>none) [] W.heap das args.toList) (hd:Ac_ P f das (.bool true)) :
  Calls P f args W fun e W'=>∃v,e= .returned v∧s.post enc P fn false fresh handsOn false W args v W':=by
 refine(hd.2.2 _ [] W args (by simp) hrd).mono fun e W' ⟨v,he,hu,hv⟩=>⟨.bool true,?_,law_post hl hall hr hub hvars hs hW hu⟩
 simp only[rd]at hv;rw[he,hv]
end
theorem Ep_ {α:Type} {f:α→List DVal}:∀{es:List (List DVal)},(∀e∈es,∃x,e=f x)→∃l:List α,es=l.map f
 | [],_=>⟨[],rfl⟩
 | e::es,h=>by
  obtain⟨x,rfl⟩:=h e (by simp);obtain⟨l,rfl⟩:=Ep_ (es:=es) (f:=f) (fun e he=>h e (by simp[he]));exact⟨x::l,rfl⟩
end Go.Dm
end
section
namespace Go.Proofs.YtchgnpnbcjflcaaGreat
open Go Go.Dm
variable [DMode]
open Go.ChangeShapes Go.WideShapes Go.ChangeAt Go.RowKit
theorem own : ownKnob Tryz.prog.godebug=none:=by kernel_rfl
theorem laidOut : laidOutB Tryz.prog=true:=by kernel_rfl
end Go.Proofs.YtchgnpnbcjflcaaGreat
end
section
namespace Go.Proofs.YtchgnpnbcjflcaaGreat
open Go Go.Dm
variable [DMode]
mutual
def shLe (C:Nat):Sh→Bool
 | .b=>true
 | .i _=>true
 | .s=>true
 | .sl _ bs c=>decide (bs≤C)&&IO_ C c
def IO_ (C:Nat):List Sh→Bool
 | []=>true
 | x::r=>shLe C x&&IO_ C r
end
theorem Jk_ {C:Nat}:∀{a b:List Sh},IO_ C (a++b)=(IO_ C a&&IO_ C b)
 | [],b=>by simp[IO_]
 | x::a,b=>by simp[IO_,Jk_ (a:=a),Bool.and_assoc]
section
variable {H : Type}
theorem bulk_pos (d:DataW H):1≤Rows.uptoBulk d:=by
 cases d with
 | lit l=>cases l<;>simp only[Rows.uptoBulk]<;>omega
 | _=>simp only[Rows.uptoBulk]<;>omega
theorem Py_ : ∀l:List (DataW H),l.length≤Rows.uptoBulkAll l
 | []=>by simp
 | d::r=>by
  have:=bulk_pos d;have:=Py_ r;simp only[Rows.uptoBulkAll,List.length_cons];omega
theorem Fn_ {P:Program} {C:Nat} (hC:1≤C):∀(n:Nat) (t:TypeId) (shs:List Sh) (d:DataW H),shOf P n t=some shs→IO_ C shs=true→∀x∈d.weights P t,x≤Rows.uptoBulk d*C
 | 0,t,shs,d,h,hl=>by simp[shOf]at h
 | n+1,t,shs,d,h,hl=>by
  intro x hx
  have all:∀(e:TypeId) (c:List Sh),shOf P n e=some c→IO_ C c=true→∀(l:List (DataW H)),∀x∈DataW.weightsAll P e l,x≤Rows.uptoBulkAll l*C:=by
   intro e c he hc l
   induction l with
   | nil=>intro x hx;simp[DataW.weightsAll]at hx
   | cons d r ih =>
    intro x hx;simp only[DataW.weightsAll,aI0]at hx;simp only[Rows.uptoBulkAll,bT0]
    rcases hx with hx | hx
    ·have:=Fn_ hC n e c d he hc x hx;omega
    ·have:=ih x hx;omega
  have each:∀(fs:List Field) (off e:Nat) (l:List Sh),shF (shOf P n) P.cellsOf fs off=some (l,e)→IO_ C l=true→∀(parts:List (DataW H)),∀x∈DataW.weightsEach P (fs.map (·.type)) parts,x≤Rows.uptoBulkAll parts*C:=by
   intro fs
   induction fs with
   | nil=>intro off e l _ _ parts x hx;simp[DataW.weightsEach]at hx
   | cons f fs ih =>
    intro off e l hf hc parts x hx
    cases parts with
    | nil=>simp[DataW.weightsEach]at hx
    | cons d r =>
     simp only[shF]at hf
     split at hf
     ·split at hf
      ·rename_i c l' e' h4 h5;simp only[aA0,aW0]at hf;obtain⟨rfl,rfl⟩:=hf;rw[Jk_,aL0]at hc;simp only[List.map_cons,DataW.weightsEach,aI0]at hx;simp only[Rows.uptoBulkAll,bT0]
       rcases hx with hx | hx
       ·have:=Fn_ hC n f.type c d h4 hc.1 x hx;omega
       ·have:=ih _ _ _ h5 hc.2 r x hx;omega
      ·simp at hf
     ·simp at hf
  cases d with
  | lit l =>
   cases l<;>simp only[DataW.weights,aF0,dV0]at hx;subst hx;simp only[Rows.uptoBulk];exact Nat.le_trans (Nat.le_succ _) (Nat.le_mul_of_pos_right _ hC)
  | nil=>simp[DataW.weights]at hx
  | held a=>simp[DataW.weights]at hx
  | iface a b=>simp[DataW.weights]at hx
  | ptr d =>
   simp only[DataW.weights]at hx
   split at hx
   ·rename_i hu;simp[shOf,hu]at h
   ·simp at hx
  | map es =>
   simp only[DataW.weights]at hx
   split at hx
   ·rename_i hu;simp[shOf,hu]at h
   ·simp at hx
  | slice elems spare =>
   simp only[DataW.weights]at hx
   split at hx
   ·rename_i e hu;simp only[shOf,hu]at h
    split at h
    rotate_left
    ·simp at h
    rw[bD0]at h;obtain⟨c,hc,rfl⟩:=h;simp only[IO_,shLe,fC0,aL0,decide_eq_true_eq]at hl;simp only[Rows.uptoBulk,bT0];simp only[aJ0,aI0]at hx
    rcases hx with rfl | hx | hx
    ·have h1:=Py_ elems;have h2:=Py_ spare;rw[bT0];have g1:=Nat.mul_le_mul h1 hl.1;have g2:=Nat.mul_le_mul h2 hl.1;omega
    ·have:=all e c hc hl.2 elems x hx;omega
    ·have:=all e c hc hl.2 spare x hx;omega
   ·simp at hx
  | agg parts =>
   simp only[DataW.weights]at hx
   split at hx
   ·rename_i fs hu;simp only[shOf,hu]at h
    split at h
    ·rename_i l e hf
     split at h
     ·simp only[aA0]at h;subst h;simp only[Rows.uptoBulk,bT0];have:=each fs.toList 0 e l hf hl parts x hx;omega
     ·simp at h
    ·simp at h
   ·rename_i hu;simp[shOf,hu]at h
   ·simp at hx
theorem Fc_ {P:Program} {C n:Nat} (hC:1≤C):∀{ts:List TypeId} {shs:List (List Sh)} (ds:List (DataW H)),ts.map (shOf P n)=shs.map some→shs.all (IO_ C)=true→∀x∈DataW.weightsEach P ts ds,x≤Rows.uptoBulkAll ds*C
 | [],shs,ds,h,hl=>by intro x hx;simp[DataW.weightsEach]at hx
 | t::ts,shs,ds,h,hl=>by
  intro x hx
  cases ds with
  | nil=>simp[DataW.weightsEach]at hx
  | cons d r =>
   cases shs with
   | nil=>simp at h
   | cons s ss =>
    simp only[List.map_cons,bG0]at h;simp only[cT0,aL0]at hl;simp only[DataW.weightsEach,aI0]at hx;simp only[Rows.uptoBulkAll,bT0]
    rcases hx with hx | hx
    ·have:=Fn_ hC n t s d h.1 hl.1 x hx;omega
    ·have:=Fc_ hC r h.2 hl.2 x hx;omega
theorem small_le {P:Program} {C n:Nat} (hC:1≤C) {ts:List TypeId} {shs:List (List Sh)} {ds:List (DataW H)} (hk:Rows.uptoSmall H ds=true) (h:ts.map (shOf P n)=shs.map some) (hl:shs.all (IO_ C)=true):∀x∈DataW.weightsEach P ts ds,x≤1048576*C:=by
 intro x hx;have h1:=Fc_ hC ds h hl x hx;simp only[Rows.uptoSmall,decide_eq_true_eq]at hk;exact Nat.le_trans h1 (aV0 _ hk)
end
end Go.Proofs.YtchgnpnbcjflcaaGreat
end
section
namespace Go.Proofs.YtchgnpnbcjflcaaGreat
open Go Go.Dm
open Go.ChangeShapes Go.WideShapes Go.ChangeAt Go.RowKit
def SV_ : List Sh:=[.i .i64,.s,.i .i64]
def SU_ : List Sh:=[.s,.sl 3 32 SV_]
def shStrB : List Sh:=[.s]
theorem has_nodeB {L:Nat} {ds:List DVal} (h:HasL L SV_ ds):∃x:Nd,ds=dNd x:=by
 simp only[SV_,HasL,HasS]at h;obtain⟨_,_,rfl,⟨k,rfl⟩,_,_,rfl,⟨s,rfl,_⟩,_,_,rfl,⟨n,rfl⟩,rfl⟩:=h;exact⟨⟨k,s,n⟩,rfl⟩
theorem Zd_ {L:Nat} {d:DVal} (h:HasS L (.sl 2 40 SU_) d):∃g:List Rul,d=Av_ g∧∀r∈g,r.b.length*32≤L:=by
 simp only[HasS]at h;obtain⟨es,rfl,hz,he⟩:=h
 have hq:∀e∈es,∃x:{r:Rul//r.b.length*32≤L},e=dRul x.1:=by
  intro e h;have h:=he e h;simp only[SU_,HasL,HasS]at h;obtain⟨_,_,rfl,⟨s,rfl,_⟩,_,_,rfl,⟨es,rfl,hz,he⟩,rfl⟩:=h;obtain⟨l,rfl⟩:=Ep_ (fun e h=>has_nodeB (he e h));exact⟨⟨⟨s,l⟩,by simpa using hz⟩,rfl⟩
 obtain⟨l,rfl⟩:=Ep_ (f:=fun x:{r:Rul//r.b.length*32≤L}=>dRul x.1) hq;refine⟨l.map (·.1),by simp[Function.comp_def],fun r hr=> ?_⟩;obtain⟨x,_,rfl⟩:=aU0.1 hr;exact x.2
theorem has_strB {L:Nat} {ds:List DVal} (h:HasL L shStrB ds):∃s:ByteArray,ds=[.str s]:=by
 simp only[shStrB,HasL,HasS]at h;obtain⟨_,_,rfl,⟨x,rfl,_⟩,rfl⟩:=h;exact⟨x,rfl⟩
def Oc_ : List Sh:=[.s,.s,.s]
def UA_ : List Sh:=[.sl 2 40 SU_,.sl 1 16 shStrB,.sl 3 48 Oc_,.s,.s,.s,.sl 3 48 Oc_]
theorem Rz_ {L:Nat} {ds:List DVal} (h:HasL L Oc_ ds):∃e:Edge,ds=Bl_ e:=by
 simp only[Oc_,HasL,HasS]at h;obtain⟨_,_,rfl,⟨x,rfl,_⟩,_,_,rfl,⟨y,rfl,_⟩,_,_,rfl,⟨z,rfl,_⟩,rfl⟩:=h;exact⟨⟨x,y,z⟩,rfl⟩
theorem has_askB {L:Nat} {ds:List DVal} (h:HasL L UA_ ds):∃(r:List Rul) (g:Edges) (nt a b:ByteArray) (way:List Edge),ds=[Av_ r,AP_ g.nodes,dEds g.edges,.str nt,.str a,.str b,dEds way]∧∀x∈r,x.b.length*32≤L:=by
 unfold UA_ at h;simp only[HasL]at h;obtain⟨d1,_,rfl,h1,d2,_,rfl,h2,d3,_,rfl,h3,d4,_,rfl,h4,d5,_,rfl,h5,d6,_,rfl,h6,d7,_,rfl,h7,rfl⟩:=h;obtain⟨r,rfl,hr⟩:=Zd_ h1;simp only[HasS]at h2 h3 h4 h5 h6 h7;obtain⟨e2,rfl,_,g2⟩:=h2;obtain⟨e3,rfl,_,g3⟩:=h3;obtain⟨x4,rfl,_⟩:=h4;obtain⟨x5,rfl,_⟩:=h5;obtain⟨x6,rfl,_⟩:=h6;obtain⟨e7,rfl,_,g7⟩:=h7;obtain⟨l2,rfl⟩:=Ep_ (f:=fun s:ByteArray=>dStr s) (fun e h=>by obtain⟨s,hs⟩:=has_strB (g2 e h);exact⟨s,hs⟩)
 obtain⟨l3,rfl⟩:=Ep_ (fun e h=>Rz_ (g3 e h));obtain⟨l7,rfl⟩:=Ep_ (fun e h=>Rz_ (g7 e h));exact⟨r,⟨l2,l3⟩,x4,x5,x6,l7,rfl,hr⟩
theorem Cn_ {a b:Bool} (h1:a=true) (h2:b=true):(a&&b)=true:=by rw[h1,h2];rfl
end Go.Proofs.YtchgnpnbcjflcaaGreat
end
