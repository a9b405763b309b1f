/- Parts of a proof, laid together: EnD1. -/
import Derived.Test.YtbpmiknobocjoaaGreatqAp3
set_option linter.unusedSimpArgs false
set_option maxHeartbeats 8000000
set_option linter.unusedVariables false
set_option linter.unusedSectionVars false
section
namespace Go.Dm
variable [DMode]
section
variable (P : Program)
def tMap (t:TypeId):Option (TypeId×TypeId):=match P.underlying t with | some (.map k e)=>some (k,e) | _=>none
def Ru : DVal->Bool
 | .agg _=>true
 | _=>false
def BX : DVal->List DVal
 | .agg cs=>cs
 | d=>[d]
def Cm (kt:TypeId) (d:DVal):Bool:=match flatA P kt,tAgg P kt with
 | some cks,some b=>Bt cks (BX d)&&(b==Ru d)
 | _,_=>false
def tZeroD (t:TypeId):Option DVal:=match P.info? t with
 | some i=>i.zero.map ofV
 | none=>none
end
def Bc : List DVal->DVal->Option Nat
 | [],_=>none
 | k::ks,x=>if CA (BX x) (BX k)then some 0 else (Bc ks x).map (· +1)
section
variable {P : Program} {cur : ES} {M : List Nat} {h : Array Obj}
theorem GN {d:DVal} {v:Value} {b:Bool} (hb:b=Ru d) (hr:rd cur M h d v):∃us,rdV cur M h (BX d) us/\v=valOf b us:=by
 cases d<;>simp only[Ru]at hb<;>subst hb<;>simp only[BX]
 case agg cs =>
  simp only[rd]at hr;obtain⟨us,rfl,h2⟩:=hr;exact⟨us.toList,h2,by simp[valOf]⟩
 all_goals exact⟨[v],by simp only[rdV];exact⟨v,[],rfl,hr,rfl⟩,by simp[valOf]⟩
theorem lJ {t:TypeId} {ks:List CK} (hf:flatA P t=some ks) (hb:tAgg P t=some false):Ad P 10000 t=some ks:=by
 unfold flatA at hf
 split at hf
 ·rename_i n e hu;unfold tAgg at hb;rw[hu]at hb;simp at hb
 ·exact hf
theorem JR {w:World} (F:Nat->PUnit->Sem (ForInStep PUnit)):∀(m s n:Nat),s+m=n->(∀i,i<n->(F i PUnit.unit).run P w= .ok (.yield PUnit.unit) w)->(forIn (List.range' s m) PUnit.unit F:Sem _).run P w= .ok PUnit.unit w
 | 0,s,n,_,_=>by simp
 | m+1,s,n,hs,hF=>by
  rw[eI0,List.forIn_cons,Sem.run_bind,hF s (by omega)];exact JR F m (s+1) n (by omega) hF
theorem Lz {kt:TypeId} {x k:DVal} {u v:Value} {w:World} (hx:Cm P kt x=true) (hk:Cm P kt k=true) (rx:rd cur M h x u) (rk:rd cur M h k v) :
  (Op.equal kt u v).run P w= .ok (CA (BX x) (BX k)) w:=by
 unfold Cm at hx hk
 split at hx
 ·rename_i cks b hf hb;rw[hf,hb]at hk;simp only[aL0,beq_iff_eq]at hx hk;obtain⟨us,h1,rfl⟩:=GN hx.2 rx;obtain⟨vs,h2,rfl⟩:=GN hk.2 rk
  cases b with
  | true =>
   simp only[valOf,if_true];exact Jp (P:=P) w hf hb hx.1 hk.1 h1 h2
  | false=>exact Ez (P:=P) 10000 kt cks false _ _ us vs w (lJ hf hb) hb hx.1 hk.1 h1 h2
 ·simp at hx
theorem IQ : ∀(d:Nat) (t:TypeId) (cks:List CK) (b:Bool) (xs:List DVal) (us:List Value) (w:World) (e:Bool),Ad P d t=some cks->tAgg P t=some b->Bt cks xs=true->rdV cur M h xs us ->
  (Instr.checkKey e d t (valOf b us)).run P w= .ok () w
 | 0,t,cks,b,xs,us,w,e,hf,_,_,_=>by simp[Ad]at hf
 | d+1,t,cks,b,xs,us,w,e,hf,hb,hx,rx=>by
  obtain⟨b',qM,h1,h2,h3⟩:=Ip hf;rw[hb]at qM;simp only[aA0]at qM;subst qM
  cases b with
  | false =>
   have hns:=h3 rfl;rw[Ad]at hf
   split at hf
   ·rename_i hu;simp[Instr.checkKey,run_underlying hu]
   ·rename_i hu;simp[Instr.checkKey,run_underlying hu]
   ·rename_i hu;simp[Instr.checkKey,run_underlying hu]
   ·rename_i fs hu;simp[Dl,hu]at hns
   ·simp at hf
  | true =>
   have wO:=h2 rfl
   obtain⟨fs,hu⟩:∃fs,P.underlying t=some (.struct fs):=by
    unfold Dl at wO
    split at wO
    ·exact⟨_,by assumption⟩
    ·simp at wO
   simp only[Ad,hu]at hf
   split at hf
   ·simp at hf
   have yW:∀(fl:List Field) (o:Nat) (ks:List CK) (xs:List DVal) (us0 us:List Value),RK P (Ad P d) o fl=some ks->Bt ks xs=true->rdV cur M h xs us->us0.length=o ->
     (forIn fl PUnit.unit (fun(f:Field) (_:PUnit)=>(if f.name≠ "_" then (do let v <-part f.type (us0++us).toArray f.offset;Instr.checkKey e d f.type v;pure (ForInStep.yield PUnit.unit))else pure (ForInStep.yield PUnit.unit):Sem (ForInStep PUnit)))).run P w= .ok PUnit.unit w:=by
    intro fl
    induction fl with
    | nil=>intros;simp
    | cons f fl ih =>
     intro o ks xs us0 us hf hx rx l1;simp only[RK]at hf
     split at hf
     ·simp at hf
     rename_i hnm
     split at hf
     ·simp at hf
     rename_i hof;simp only[ne_eq,Decidable.not_not]at hof
     split at hf
     rotate_left
     ·simp at hf
     rename_i k1 jE
     split at hf
     rotate_left
     ·simp at hf
     rename_i qI;simp only[bB0]at hf;obtain⟨k2,zT,rfl⟩:=hf;obtain⟨b,hb,qC,_,_⟩:=Ip jE;have sx:=Hs k1 k2 xs hx;have lx:=BK _ _ hx;have rlx:=AA _ _ rx;simp only[aD0]at lx;have p1:=Gt (P:=P) (w:=w) (us:=(us0++us).toArray) (o:=o) hb qI qC (by simp;omega);have d1:((us0++us).toArray.toList.drop o).take k1.length=us.take k1.length:=by subst l1;simp
     rw[d1]at p1;have e1:=IQ d f.type k1 b (xs.take k1.length) (us.take k1.length) w e jE hb sx.1 (DT _ _ _ rx);have ih':=ih (o+k1.length) k2 (xs.drop k1.length) (us0++us.take k1.length) (us.drop k1.length) zT sx.2 (DU _ _ _ rx) (by simp;omega);rw[aS0,List.take_append_drop]at ih';simp only[List.forIn_cons,ne_eq,hnm,not_false_eq_true,if_true,Sem.run_bind,hof,p1,Result.andThen_ok,e1,Sem.run_pure];exact ih'
   have:=yW fs.toList 0 cks xs [] us hf hx rx rfl;simp only[List.nil_append]at this;simp only[valOf,if_true,Instr.checkKey,Sem.run_bind,run_underlying hu,Result.andThen_ok];rw[<-Array.forIn_toList];rw[this];rfl
theorem NT {d n:Nat} {t et:TypeId} {b1 e:Bool} {w:World} (hu:P.underlying t=some (.array n et)) (qC:tAgg P et=some b1) (qI:tCells P et=some 1) (us:List Value) (hn:n<=us.length)
  (H:∀i,i<n->(Instr.checkKey e d et (valOf b1 ((us.drop i).take 1))).run P w= .ok () w):(Instr.checkKey e (d+1) t (.agg us.toArray)).run P w= .ok () w:=by
 have hr:([:n]:Std.Legacy.Range).size=n:=by simp[Std.Legacy.Range.size]
 simp only[Instr.checkKey,Sem.run_bind,run_underlying hu,Result.andThen_ok,Std.Legacy.Range.forIn_eq_forIn_range',hr]
 have hfor:=JR (P:=P) (w:=w) (fun i _=>(do let __do_lift <-sizeOf et;let v <-part et us.toArray (i*__do_lift);Instr.checkKey e d et v;pure (ForInStep.yield PUnit.unit):Sem (ForInStep PUnit))) n 0 n (by omega) (fun i hi=>by
  have p1:=Gt (P:=P) (w:=w) (us:=us.toArray) (o:=i) qC qI (fun _=>rfl) (by simp;omega);have d1:((us.toArray.toList.drop i).take 1)=(us.drop i).take 1:=by simp
  rw[d1]at p1
  simp only[Sem.run_bind,Bq qI,Result.andThen_ok,eT0,p1,H i hi,Sem.run_pure])
 rw[hfor];rfl
theorem Fm {kt:TypeId} {x:DVal} {u:Value} {w:World} {e:Bool} (hx:Cm P kt x=true) (rx:rd cur M h x u):(Instr.checkKey e 10000 kt u).run P w= .ok () w:=by
 unfold Cm at hx
 split at hx
 ·rename_i cks b hf hb;simp only[aL0,beq_iff_eq]at hx;obtain⟨us,h1,rfl⟩:=GN hx.2 rx;have nL:=hf;unfold flatA at nL
  split at nL
  ·rename_i n et hu;have hbt:b=true:=by unfold tAgg at hb;rw[hu]at hb;simpa using hb.symm
   subst hbt
   split at nL
   ·rename_i c hc
    split at nL
    ·rename_i qI;simp only[aA0]at nL;subst nL;obtain⟨b1,qC,wX,_,_⟩:=Ip hc;have lx:=BK _ _ hx.1;simp only[List.length_replicate]at lx;have lu:=AA _ _ h1
     have ck1:∀(n:Nat) (xs:List DVal),Bt (List.replicate n c) xs=true->∀i (hi:i<xs.length),Nm c xs[i]=true:=by
      intro n
      induction n with
      | zero=>intro xs hx i hi;have:=BK _ _ hx;simp only[List.replicate_zero,List.length_nil]at this;omega
      | succ n ih =>
       intro xs hx i hi
       cases xs with
       | nil=>simp at hi
       | cons x xs =>
        simp only[List.replicate_succ,Bt,aL0]at hx
        cases i with
        | zero=>exact hx.1
        | succ i=>exact ih xs hx.2 i (by simpa using hi)
     simp only[valOf,if_true];refine NT (d:=9999) hu qC qI us (by omega) fun i hi=> ?_
     have c1:=ck1 n _ hx.1 i (by omega)
     exact IQ 9999 et [c] b1 (((BX x).drop i).take 1) ((us.drop i).take 1) w e hc qC (by
      rw[aR0 (by omega)]
      simp only[cI0,dN0,Bt,c1,eB0]) (DT _ _ _ (DU _ _ _ h1))
    ·simp at nL
   ·simp at nL
  ·exact IQ 10000 kt cks b _ us w e nL hb hx.1 h1
 ·simp at hx
theorem JS {kt:TypeId} {x:DVal} {u:Value} {w:World} (hx:Cm P kt x=true) (rx:rd cur M h x u):∀(es:List MapEntry) (ks:List DVal) (i:Nat),ks.all (Cm P kt)=true->rdV cur M h ks (es.map (·.key)) ->
  (Instr.findAsking kt u es i).run P w= .ok ((Bc ks x).map fun j=>(i+j,(es[j]?.map (·.val)).getD Go.undef)) w
 | [],ks,i,_,hr=>by
  have:=AA _ _ hr;have:ks=[]:=bN0 (by simpa using this.symm);subst this;simp[Instr.findAsking,Bc]
 | e::es,ks,i,hk,hr=>by
  cases ks with
  | nil=>have:=AA _ _ hr;simp at this
  | cons k ks =>
   simp only[List.map_cons,rdV]at hr;obtain⟨v,r,heq,h1,h2⟩:=hr;simp only[bG0]at heq;obtain⟨rfl,rfl⟩:=heq;simp only[cT0,aL0]at hk;have he:=Lz (w:=w) hx hk.1 rx h1;simp only[Instr.findAsking,Sem.run_bind,he,Result.andThen_ok,Bc]
   cases hq:CA (BX x) (BX k)with
   | true=>simp
   | false =>
    simp only[aQ0,if_false];rw[JS hx rx es ks (i+1) hk.2 h2]
    cases Bc ks x with
    | none=>simp
    | some j=>simp;omega
theorem Hf {kt:TypeId} {x:DVal} {u:Value} {w:World} (hx:Cm P kt x=true) (rx:rd cur M h x u) (es:List MapEntry) (ks:List DVal) (hk:ks.all (Cm P kt)=true) (hr:rdV cur M h ks (es.map (·.key))) :
  (Instr.findKey kt u es).run P w= .ok ((Bc ks x).map fun j=>(j,(es[j]?.map (·.val)).getD Go.undef)) w:=by
 have hask:=JS (w:=w) hx rx es ks 0 hk hr;simp only[bQ0]at hask
 obtain⟨d,hd⟩:∃d,P.underlying kt=some d:=by
  unfold Cm at hx
  split at hx
  ·rename_i cks b hf hb;unfold tAgg at hb
   split at hb<;>first | exact⟨_,by assumption⟩ | simp at hb
  ·simp at hx
 simp only[Instr.findKey,Sem.run_bind,run_underlying hd,Result.andThen_ok]
 -- where the types decide at once, they decide alike
 have now:∀(es:List MapEntry) (ks:List DVal) (i:Nat) (r:Option (Nat×Value)),ks.all (Cm P kt)=true->rdV cur M h ks (es.map (·.key))->Instr.findNow d u es i=some r->r=(Bc ks x).map fun j=>(i+j,(es[j]?.map (·.val)).getD Go.undef):=by
  intro es
  induction es with
  | nil =>
   intro ks i r _ hr hn;have:=AA _ _ hr;have:ks=[]:=bN0 (by simpa using this.symm);subst this;simp only[Instr.findNow,aA0]at hn;subst hn;simp[Bc]
  | cons e es ih =>
   intro ks i r hk hr hn
   cases ks with
   | nil=>have:=AA _ _ hr;simp at this
   | cons k ks =>
    simp only[List.map_cons,rdV]at hr;obtain⟨v,r',heq,h1,h2⟩:=hr;simp only[bG0]at heq;obtain⟨rfl,rfl⟩:=heq;simp only[cT0,aL0]at hk;have he:=Lz (w:=⟨#[],fun _ _=>0,0,default, #[]⟩) hx hk.1 rx h1
    have yM:∀b,Instr.sameNow d u e.key=some b->b=CA (BX x) (BX k):=by
     intro b hb;have e0:Op.equal kt u e.key=Op.equalIn (9999+1) kt u e.key:=rfl;rw[e0]at he;unfold Instr.sameNow at hb
     split at hb
     ·rename_i k1 a k2 b2 heq
      split at hb
      ·rename_i qZ;subst qZ;simp only[aA0]at hb;subst hb;rw[heq]at he;have gen:∀n w k,(Op.equalIn (n+1) kt (.int k a) (.int k b2)).run P w= .ok (a==b2) w:=by intro n w k;simp[Op.equalIn,run_underlying hd]
       rw[gen]at he;simp only[Result.ok.injEq,and_true]at he;exact he
      ·simp at hb
     ·rename_i a b2 heq;simp only[aA0]at hb;subst hb;rw[heq]at he;have gen:∀n w,(Op.equalIn (n+1) kt (.string a) (.string b2)).run P w= .ok (a==b2) w:=by intro n w;simp[Op.equalIn,run_underlying hd]
      rw[gen]at he;simp only[Result.ok.injEq,and_true]at he;exact he
     ·rename_i a b2 heq;simp only[aA0]at hb;subst hb;rw[heq]at he;have gen:∀n w,(Op.equalIn (n+1) kt (.bool a) (.bool b2)).run P w= .ok (a==b2) w:=by intro n w;simp[Op.equalIn,run_underlying hd]
      rw[gen]at he;simp only[Result.ok.injEq,and_true]at he;exact he
     ·simp at hb
    simp only[Instr.findNow]at hn
    split at hn
    ·rename_i hs;simp only[aA0]at hn;subst hn;simp[Bc,<-yM true hs]
    ·rename_i hs;have:=ih ks (i+1) r hk.2 h2 hn;rw[this];simp only[Bc,<-yM false hs,aQ0,if_false]
     cases Bc ks x with
     | none=>simp
     | some j=>simp;omega
    ·simp at hn
 cases hn:Instr.findNow d u es 0 with
 | some r =>
  have:=now es ks 0 r hk hr hn;simp only[bQ0]at this;simp[this]
 | none=>exact hask
theorem Ym : ∀{ks:List DVal} {x:DVal} {j:Nat},Bc ks x=some j->j<ks.length
 | [],x,j,h=>by simp[Bc]at h
 | k::ks,x,j,h=>by
  simp only[Bc]at h
  split at h
  ·simp only[aA0]at h;subst h;simp
  ·rw[bB0]at h;obtain⟨i,h1,rfl⟩:=h;have:=Ym h1;simp;omega
theorem Aa_ {t:TypeId} {z:DVal} (hz:tZeroD P t=some z) {w:World}:∃v,(zeroValue t).run P w= .ok v w/\rd cur M h z v:=by
 unfold tZeroD at hz
 split at hz
 ·rename_i i hi;rw[bB0]at hz;obtain⟨v,hv,rfl⟩:=hz;exact⟨v,by simp[zeroValue,typeInfo,hi,hv],CK_ v⟩
 ·simp at hz
end
end Go.Dm
end
