/- Parts of a proof, laid together: EnC. -/
import Derived.Laws.Cells
import Derived.Test.YtbpmiknobocjoaaGreatqAp1
set_option linter.unusedSimpArgs false
set_option maxHeartbeats 8000000
set_option linter.unusedVariables false
set_option linter.unusedSectionVars false
section
namespace Go.Dm
variable [DMode]
section
variable (P : Program)
def tAgg (t:TypeId):Option Bool :=
 match P.underlying t with
 | some (.struct _)=>some true
 | some (.array _ _)=>some true
 | some _=>some false
 | none=>none
def tCells (t:TypeId):Option Nat:=(P.info? t).map (·.size)
def tField (t f:Nat):Option (Nat×Nat×Bool) :=
 match P.underlying t with
 | some (.struct fs) =>
  match fs[f]? with
  | some fl=>match tCells P fl.type,tAgg P fl.type with
   | some n,some b=>some (fl.offset,n,b)
   | _,_=>none
  | none=>none
 | _=>none
def tElem (t:TypeId):Option (Nat×Nat) :=
 match P.underlying t with
 | some (.slice e)=>(P.info? e).map fun i=>(i.size,i.bytes)
 | _=>none
def Cp_ (t:TypeId):Option Nat :=
 match P.underlying t with
 | some (.array n e)=>if tCells P e=some 1/\tAgg P e=some false then some n else none
 | _=>none
def SP (t:TypeId):Option (Nat×Nat) :=
 match P.underlying t with
 | some (.array n e)=>(P.info? e).map fun i=>(n,i.size)
 | _=>none
end
instance (k:IntKind) (n:Int):Decidable (KV k n):=by cases k<;>unfold KV<;>infer_instance
def Cb : Value->DVal
 | .bool b=> .bool b
 | .int k n=>if KV k n then .int k n else .any
 | .string s=>if s.size<=maxLen then .str s else .any
 | .pointer none=> .nilp
 | .slice none 0 0=> .nilsl
 | .map none=> .nilmp
 | .nilFunc=> .nilfn
 | .nilIface=> .nilifc
 | _=> .any
def ofV : Value->DVal
 | .agg cs=> .agg (cs.toList.map Cb)
 | v=>Cb v
def ev (l:List (Nat×DVal)):Operand->DVal
 | .tmp t=>getS l t
 | .const v=>ofV v
 | .global _=> .any
 | .func f=> .fn (.func f) [] []
def DJ (own:List Ent):DVal->Option (List DVal)
 | .ref cs=>some cs
 | .bx id r off=>match Ah own id with
  | some e=>if e.r=r then (match e.obj with | .box cs=>some (cs.drop off) | .glob _ vs=>some ((YC vs).drop off) | _=>none)else none
  | none=>none
 | .rx id r k i j=>match Ah own id with
  | some e=>if e.r=r then (match e.obj with | .row _ k' _ es=>if k=k' then (es[i]?).map (·.drop j)else none | _=>none)else none
  | none=>none
 | _=>none
def Bi (own:List Ent):DVal->Option (Nat×Nat×List (List DVal))
 | .sl k bs es=>some (k,bs,es)
 | .osl id r=>match Ah own id with
  | some e=>if e.r=r then (match e.obj with | .row _ k bs es=>some (k,bs,es) | _=>none)else none
  | none=>none
 | .vw id r k bs i n=>match Ah own id with
  | some e=>if e.r=r then (match e.obj with | .row _ k' bs' es=>if k'=k/\(bs'=bs\/bs=0)/\i+n<=es.length then some (k,bs',(es.drop i).take n)else none | _=>none)else none
  | none=>none
 | _=>none
section
variable {P : Program} {cur : ES} {M : List Nat} {h : Array Obj}
theorem rD (v:Value):rd cur M h (Cb v) v:=by
 unfold Cb
 split<;>(try split)<;>simp_all [rd]
theorem BB : ∀l:List Value,rdV cur M h (l.map Cb) l
 | []=>by simp[rdV]
 | v::l=>by
  simp only[List.map_cons,rdV];exact⟨v,l,rfl,rD v,BB l⟩
theorem CK_ (v:Value):rd cur M h (ofV v) v:=by
 unfold ofV
 split
 ·simp only[rd];exact⟨_,rfl,BB _⟩
 ·exact rD v
theorem EC : ∀(n:Nat) (cs:List DVal) (arr:Array Value) (o:Nat),rdC cur M h cs arr o->rdC cur M h (cs.drop n) arr (o+n)
 | 0,cs,arr,o,hr=>by simpa using hr
 | n+1,[],arr,o,hr=>by simp[rdC]
 | n+1,d::cs,arr,o,hr=>by
  simp only[rdC]at hr;simpa[cS0,Nat.add_comm 1 n]using EC n cs arr (o+1) hr.2
theorem Ia : ∀(cs:List DVal) (arr:Array Value) (o:Nat),rdC cur M h cs arr o->∃vs:List Value,vs.length=cs.length/\rdV cur M h cs vs/\∀j v,vs[j]? =some v->arr[o+j]? =some v/\v.oneCell'=true
 | [],arr,o,_=>⟨[],rfl,by simp[rdV],by simp⟩
 | d::cs,arr,o,hr=>by
  simp only[rdC]at hr;obtain⟨⟨v,h1,h2,h3⟩,h4⟩:=hr;obtain⟨vs,g1,g2,g3⟩:=Ia cs arr (o+1) h4;refine⟨v::vs,by simp[g1],by simp only[rdV];exact⟨v,vs,rfl,h3,g2⟩,?_⟩;intro j u hj
  cases j with
  | zero=>simp only[bA0,aA0]at hj;subst hj;exact⟨h1,h2⟩
  | succ j =>
   simp only[bL0]at hj;have:=g3 j u hj
   rwa[show o+1+j=o+(j+1) by omega]at this
theorem MH : ∀(n:Nat) (cs:List DVal) (arr:Array Value) (o:Nat),rdC cur M h cs arr o->rdC cur M h (cs.take n) arr o
 | 0,cs,arr,o,_=>by simp[rdC]
 | n+1,[],arr,o,_=>by simp[rdC]
 | n+1,d::cs,arr,o,hr=>by
  simp only[rdC,cI0]at hr |-;exact⟨hr.1,MH n cs arr (o+1) hr.2⟩
theorem Dh : ∀(k:Nat) (es:List (List DVal)) (arr:Array Value) (o i:Nat) (cs:List DVal),Dt cur M h k es arr o->es[i]? =some cs->cs.length=k/\rdC cur M h cs arr (o+i*k)
 | k,[],arr,o,i,cs,_,hi=>by simp at hi
 | k,c::es,arr,o,0,cs,hr,hi=>by
  simp only[bA0,aA0]at hi;subst hi;simp only[Dt]at hr;exact⟨hr.1,by simpa using hr.2.1⟩
 | k,c::es,arr,o,i+1,cs,hr,hi=>by
  simp only[bL0]at hi;simp only[Dt]at hr;have:=Dh k es arr (o+k) i cs hr.2.2 hi
  rwa[show o+k+i*k=o+(i+1)*k by rw[bV0];omega]at this
theorem EA : ∀(k:Nat) (es:List (List DVal)) (arr:Array Value) (o:Nat),(∀(i:Nat) (cs:List DVal),es[i]? =some cs->cs.length=k/\rdC cur M h cs arr (o+i*k))->Dt cur M h k es arr o
 | _,[],_,_,_=>by simp[Dt]
 | k,c::es,arr,o,hr=>by
  simp only[Dt];refine⟨(hr 0 c (by simp)).1,by simpa using (hr 0 c (by simp)).2,EA k es arr (o+k) fun i cs hi=> ?_⟩;have:=hr (i+1) cs (by simpa using hi)
  rwa[show o+(i+1)*k=o+k+i*k by rw[bV0];omega]at this
end
section
variable {P : Program} {s : DS} {loc : Nat -> Loc} {M0 : List Nat} {w : World}
abbrev cu (s:DS) (loc:Nat->Loc):ES:=Ac s.own loc
abbrev hm (s:DS) (loc:Nat->Loc) (M0:List Nat):List Nat:=Aa s.own loc++M0
theorem lV (S:St s.own loc M0 w.heap) {p:DVal} {v:Value} {cs:List DVal} (hp:rd (cu s loc) (hm s loc M0) w.heap p v) (hc:DJ s.own p=some cs) :
  ∃b off arr ty fz,v= .pointer (some ⟨b,off,none⟩)/\w.heap[b]? =some (.cells arr ty fz)/\rdC (cu s loc) (hm s loc M0) w.heap cs arr off:=by
 unfold DJ at hc
 split at hc
 ·simp only[aA0]at hc;subst hc;simp only[rd]at hp;obtain⟨b,off,arr,ty,fz,h1,_,h3,h4⟩:=hp;exact⟨b,off,arr,ty,fz,h1,h3,h4⟩
 ·rename_i id r off
  split at hc
  ·rename_i e he
   split at hc
   ·rename_i wV
    split at hc
    ·rename_i cs0 qK;simp only[aA0]at hc;subst hc;obtain⟨wR,hid⟩:=Ar he;have hk:=S.ok e wR;rw[qK]at hk;obtain⟨b,arr,ty,h1,h2,h3,h4⟩:=hk;simp only[rd]at hp;obtain⟨b',qM,hv⟩:=hp (loc id) (by unfold cu Ac;rw[he];simp[wV]);rw[<-hid,h1]at qM;simp only[bG0,and_true]at qM;subst qM;refine⟨b,off,arr,ty,(0,0),hv,h2,?_⟩;simpa using EC off cs0 arr 0 h4
    ·rename_i g vs qK;simp only[aA0]at hc;subst hc;obtain⟨wR,hid⟩:=Ar he;have hk:=S.ok e wR;rw[qK]at hk;obtain⟨h1,arr,ty,h2,h4,_⟩:=hk;simp only[rd]at hp;obtain⟨b',qM,hv⟩:=hp (loc id) (by unfold cu Ac;rw[he];simp[wV]);rw[<-hid,h1]at qM;simp only[bG0,and_true]at qM;subst qM;refine⟨g,off,arr,ty,(0,0),hv,h2,?_⟩;simpa using EC off (YC vs) arr 0 h4
    ·simp at hc
   ·simp at hc
  ·simp at hc
 ·rename_i id r k i j
  split at hc
  ·rename_i e he
   split at hc
   ·rename_i wV
    split at hc
    ·rename_i et k' bs es qK
     split at hc
     ·rename_i qZ;subst qZ;obtain⟨wR,hid⟩:=Ar he;have hk:=S.ok e wR;rw[qK]at hk;obtain⟨_,hk⟩:=hk;simp only[bB0]at hc;obtain⟨c0,yA,rfl⟩:=hc
      rcases hk with ⟨rfl,_⟩ | ⟨b,arr,cap,h1,h2,h3,h4,h5,h6,h7⟩
      ·simp at yA
      ·simp only[rd]at hp;obtain⟨b',qM,hv⟩:=hp (loc id) (by unfold cu Ac;rw[he];simp[wV]);rw[<-hid,h1]at qM;simp only[bG0,and_true]at qM;subst qM;have:=Dh k es arr 0 i c0 h7 yA;refine⟨b,i*k+j,arr,et,(0,0),hv,h3,?_⟩;have h8:=EC j c0 arr _ this.2;simpa using h8
     ·simp at hc
    ·simp at hc
   ·simp at hc
  ·simp at hc
 ·simp at hc
theorem KN (S:St s.own loc M0 w.heap) {p:DVal} {v:Value} {k bs:Nat} {es:List (List DVal)} (hp:rd (cu s loc) (hm s loc M0) w.heap p v) (hc:Bi s.own p=some (k,bs,es)) :
  ∃a cap,v= .slice a es.length cap/\es.length<=cap/\cap<=maxLen/\es.length*bs<=150000000000000 /\
   (es=[]\/∃b off arr ty fz,a=some ⟨b,off,none⟩/\w.heap[b]? =some (.cells arr ty fz)/\Dt (cu s loc) (hm s loc M0) w.heap k es arr off):=by
 unfold Bi at hc
 split at hc
 ·simp only[aA0,aV0]at hc;obtain⟨rfl,rfl,rfl⟩:=hc;simp only[rd]at hp;obtain⟨a,cap,h1,h2,h3,h4,h5⟩:=hp;refine⟨a,cap,h1,h2,h3,h4,?_⟩
  rcases h5 with h5 | ⟨b,off,arr,ty,fz,g1,g2,g3,g4⟩
  ·exact .inl h5.1
  ·exact .inr ⟨b,off,arr,ty,fz,g1,g3,g4⟩
 ·rename_i id r
  split at hc
  ·rename_i e he
   split at hc
   ·rename_i wV
    split at hc
    ·rename_i et k' bs' es' qK;simp only[aA0,aV0]at hc;obtain⟨rfl,rfl,rfl⟩:=hc;obtain⟨wR,hid⟩:=Ar he;have hk:=S.ok e wR;rw[qK]at hk;obtain⟨wI,hk⟩:=hk;simp only[rd]at hp;have hv:=hp (loc id) (by unfold cu Ac;rw[he];simp[wV]);rw[<-hid]at hv
     rcases hk with ⟨rfl,_,h2⟩ | ⟨b,arr,cap,h1,h2,h3,h4,h5,h6,h7⟩
     ·refine⟨none,0,by rw[hv,h2];rfl,by simp,by unfold maxLen;omega,by simp,.inl rfl⟩
     ·exact⟨_,cap,by rw[hv,h2],h4,h5,wI,.inr ⟨b,0,arr,et,(0,0),rfl,h3,h7⟩⟩
    ·simp at hc
   ·simp at hc
  ·simp at hc
 ·rename_i id r k0 bs0 i n
  split at hc
  ·rename_i e he
   split at hc
   ·rename_i wV
    split at hc
    ·rename_i et k' bs' es' qK
     split at hc
     ·rename_i hb;obtain⟨rfl,_,hb⟩:=hb;simp only[aA0,aV0]at hc;obtain⟨rfl,rfl,rfl⟩:=hc;obtain⟨wR,hid⟩:=Ar he;have hk:=S.ok e wR;rw[qK]at hk;obtain⟨wI,hk⟩:=hk;simp only[rd]at hp;obtain⟨a,cap,rfl,g1,g2,_,g3,_⟩:=hp (loc id) (by unfold cu Ac;rw[he];simp[wV]);have qU:((es'.drop i).take n).length=n:=by simp;omega
      refine⟨a,cap,by rw[qU],by omega,g2,by rw[qU];exact Nat.le_trans (aW0 _ (by omega:n<=es'.length)) wI,?_⟩
      by_cases h0:n=0
      ·subst h0;exact .inl (by simp)
      ·obtain⟨b,qC,rfl⟩:=g3 (by omega);rw[<-hid]at qC
       rcases hk with ⟨rfl,_⟩ | ⟨b',arr,cap',h1,h2,h3,h4,h5,h6,h7⟩
       ·simp at hb;omega
       ·rw[h1]at qC;simp only[bG0,and_true]at qC;subst qC;refine .inr ⟨b',i*k',arr,et,(0,0),rfl,h3,EA _ _ _ _ fun q cs hq=> ?_⟩;rw[dZ0]at hq
        split at hq
        ·rw[cQ0]at hq;have:=Dh k' es' arr 0 (i+q) cs h7 hq
         rwa[bV0,bQ0]at this
        ·simp at hq
     ·simp at hc
    ·simp at hc
   ·simp at hc
  ·simp at hc
 ·simp at hc
theorem HQ_ {a:Act} (hs:∀i,rd (cu s loc) (hm s loc M0) w.heap (getS s.slots i) (a.tmps.getD i Go.undef)) (x:Operand) :
  rd (cu s loc) (hm s loc M0) w.heap (ev s.slots x) (a.eval x):=by
 cases x with
 | tmp t=>exact hs t
 | const v=>exact CK_ v
 | global g=>simp[ev,rd]
 | func f=>simp only[ev,rd,Act.eval];exact⟨#[], #[],rfl,by simp[rdV],by simp[rdV]⟩
theorem HX {t:TypeId} {b:Bool} (ht:tAgg P t=some b) (w:World):(isAgg t).run P w= .ok b w:=by
 unfold isAgg
 cases hu:P.underlying t with
 | none=>simp[tAgg,hu]at ht
 | some d =>
  rw[Sem.run_bind,run_underlying hu w];cases d<;>simp[tAgg,hu]at ht<;>subst ht<;>rfl
theorem Bq {t:TypeId} {n:Nat} (ht:tCells P t=some n) (w:World):(sizeOf t).run P w= .ok n w:=by
 unfold tCells at ht
 cases hi:P.info? t with
 | none=>simp[hi]at ht
 | some i =>
  simp only[hi,cU0,aA0]at ht;simp[sizeOf,typeInfo,hi,ht]
theorem CD (b o n:Nat):Addr.add ⟨b,o,none⟩ n=⟨b,o+n,none⟩:=by unfold Addr.add;split<;>simp_all
end
end Go.Dm
end
