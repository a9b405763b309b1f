/- Parts of a proof, laid together: EnL, EnM, EnN, EnO, EnP, EnS, EnT, EnV, W0, WA. -/
import Derived.Test.YtchgnpnbcjflcaaGreatqCt3
set_option linter.unusedSimpArgs false
set_option linter.unusedVariables false
set_option linter.unusedSectionVars false
section
namespace Go.Dm
variable [DMode]
section
variable {P : Program} {o : Oper} {l l' : List (Nat × DVal)} {own : List Ent} {r n : Nat}
theorem ZH_ {e1 e2:Operand→DVal} (h:∀x∈o.op.operands,e1 x=e2 x):eRes P o e1 own r=eRes P o e2 own r:=by
 unfold eRes;obtain⟨dst,op,type,pos,after,guard⟩:=o;simp only at h ⊢;cases op<;>simp only[Op.operands]at h<;>simp only
 case box t x=>rw[h x (by simp)]
 case store t a x=>rw[h a (by simp),h x (by simp)]
 case mapUpdate t m k x=>rw[h m (by simp),h k (by simp),h x (by simp)]
 case makeSlice t l c=>rw[h l (by simp),h c (by simp)]
 case buildSlice t n ps =>
  have hc:=(Pa_ (P:=P) (own:=own) (e:=e1) (e':=e2) (.buildSlice t n ps) h).1;have e1:(ps.toList.map fun p=>AC_ (e1 p.2))=ps.toList.map fun p=>AC_ (e2 p.2):=cJ0 fun p hm=>by rw[h p.2 (by simpa using ⟨p.1,by simpa using hm⟩)]
  rw[propext hc,e1]
 case call c =>
  obtain⟨cal,args,ts⟩:=c
  cases cal with
  | builtin b =>
   have:args.toList.map (e1)=args.toList.map (e2):=cJ0 fun x hx=>h x (by simp[Call.operands];simpa using hx)
   cases b<;>simp only[this]
  | value f=>rfl
  | invoke a b=>rfl
theorem Zg_ {e1 e2:Operand→DVal} {c:Call} (h:∀x∈c.operands,e1 x=e2 x):pkOf e1 c=pkOf e2 c:=by
 obtain⟨cal,args,ts⟩:=c
 cases cal with
 | value f =>
  have h1:args.toList.map e1=args.toList.map e2:=cJ0 fun x hx=>h x (by simp[Call.operands];simp at hx;exact .inr hx)
  have h2:=h f (by simp[Call.operands]);simp only[pkOf,h1,h2]
 | builtin b=>rfl
 | invoke a b=>rfl
theorem Om_ {e1 e2:Operand→DVal} {d:DVal} {own':List Ent} (h:∀x∈o.op.operands,e1 x=e2 x) (hx:EOut P o e1 own r d own'):EOut P o e2 own r d own':=by
 rcases hx with ⟨x,h1,h2⟩ | ⟨c,g,args,h1,h2,h3⟩ | ⟨c,id,r',args,e0,l,e,A,A',b,h1,h2,h3⟩
 ·exact .inl ⟨x,by rw[←ZH_ h];exact h1,h2⟩
 ·exact .inr (.inl ⟨c,g,args,h1,by rw[←Kd_ (fun x hx=>h x (by rw[h1];exact hx))];exact h2,h3⟩)
 ·exact .inr (.inr ⟨c,id,r',args,e0,l,e,A,A',b,h1,by rw[←Zg_ (fun x hx=>h x (by rw[h1];exact hx))];exact h2,h3⟩)
theorem Cr_ (own:List Ent) (id r:Nat) (obj:DObj):mxE (upE own id r obj)≤max (max (r+1) (mxO obj)) (mxE own):=by
 have:mxE (delE own id)≤mxE own:=by
  induction own with
  | nil=>simp[delE]
  | cons e t ih =>
   simp only[delE]
   split
   ·simp only[mxE];omega
   ·simp only[mxE];omega
 simp only[upE,mxE];omega
theorem eRes_mx {x:ERes} {ed:Operand→DVal} (h:eRes P o ed own r=some x) (hp:x.pre) (ho:mxE own≤n) (hev:∀y∈o.op.operands,mx (ed y)≤n) (hr:n≤r):mx x.d≤r+1∧mxE x.own≤r+1:=by
 obtain⟨dst,op,type,pos,after,guard⟩:=o;unfold eRes at h;simp only at h;cases op<;>simp only[reduceCtorEq]at h
 case box t y =>
  split at h
  ·rename_i i;simp only[aA0]at h;subst h;refine⟨by simp[mx],Nat.le_trans (Cr_ _ _ _ _) ?_⟩;have:=hev y (by simp[Op.operands]);simp only[mxO,BY_];omega
  ·simp at h
 case buildSlice t len ps =>
  split at h
  ·simp only[aA0]at h;subst h;refine⟨by simp[mx],Nat.le_trans (Cr_ _ _ _ _) ?_⟩
   have:mxR (ps.toList.map fun p=>AC_ (ed p.2))≤n:=mxR_le fun cs hm=>by
    obtain⟨p,hp',rfl⟩:=aV0.1 hm;rw[BY_];exact hev p.2 (by simpa[Op.operands]using ⟨p.1,by simpa using hp'⟩)
   simp only[mxO];omega
  ·simp at h
 case alloc t =>
  split at h
  ·rename_i i z hi hz;simp only[aA0]at h;subst h;refine⟨by simp[mx],Nat.le_trans (Cr_ _ _ _ _) ?_⟩;simp only[mxO,Kr_ hz];omega
  ·simp at h
 case store t ad y =>
  split at h
  ·rename_i id r' off had
   split at h
   ·rename_i e he
    split at h
    ·rename_i cs hob;simp only[aA0]at h;subst h;refine⟨by simp[mx],Nat.le_trans (Cr_ _ _ _ _) ?_⟩;simp only at hp;obtain⟨h1,h2⟩:=AW_ (AD_ he).1;rw[hob]at h2;simp only[mxO]at h2 ⊢;have h3:=Io_ cs off (AC_ (ed y));have h4:=hev y (by simp[Op.operands,Call.operands]);rw[BY_]at h3;have:=hp.1;omega
    ·simp at h
   ·simp at h
  ·unfold DZ_ at h
   split at h
   ·rename_i e he
    split at h
    ·rename_i hob
     split at h
     ·rename_i c0 hc0;simp only[aA0]at h;subst h;refine⟨by simp[mx],Nat.le_trans (Cr_ _ _ _ _) ?_⟩;simp only at hp;obtain⟨h1,h2⟩:=AW_ (AD_ he).1;rw[hob]at h2;simp only[mxO]at h2 ⊢;have h3:=Io_ c0;have h4:=hev y (by simp[Op.operands,Call.operands]);have h5:=hp.1;have h6:=mxR_at hc0;refine eD0.2 ⟨eD0.2 ⟨by omega,TG_ _ _ (by omega) (Nat.le_trans (h3 _ _) ?_)⟩,by omega⟩;rw[BY_];omega
     ·simp at h
    ·simp at h
   ·simp at h
  ·simp at h
 case makeSlice t lo co =>
  unfold eMake at h
  split at h
  ·rename_i hz _ _;simp only[aA0]at h;subst h;refine⟨by simp[mx],Nat.le_trans (Cr_ _ _ _ _) ?_⟩;simp only[mxO];unfold tZeroE at hz
   split at hz
   ·refine eD0.2 ⟨eD0.2 ⟨by omega,Nat.le_trans (TH_ (dJ0 (Kr_ hz))) (by omega)⟩,by omega⟩
   ·simp at hz
  ·simp at h
 case makeMap t rv =>
  split at h
  ·simp only[aA0]at h;subst h;refine⟨by simp[mx],Nat.le_trans (Cr_ _ _ _ _) ?_⟩;simp only[mxO,mxL];omega
  ·simp at h
 case mapUpdate t m k x =>
  split at h
  ·split at h
   ·rename_i e he
    split at h
    ·rename_i ks vs hob;simp only[aA0]at h;subst h;refine⟨by simp[mx],Nat.le_trans (Cr_ _ _ _ _) ?_⟩;simp only at hp;obtain⟨h1,h2⟩:=AW_ (AD_ he).1;rw[hob]at h2;simp only[mxO]at h2 ⊢;have h3:=Vy_ ks (ed k);have h4:=Vx_ ks vs (ed k) (ed x);have h5:=hev k (by simp[Op.operands,Call.operands]);have h6:=hev x (by simp[Op.operands,Call.operands]);have:=hp.1;omega
    ·simp at h
   ·simp at h
  ·simp at h
 case call c =>
  obtain⟨cal,args,ats⟩:=c;cases cal<;>simp only[reduceCtorEq]at h;rename_i b;cases b<;>simp only[reduceCtorEq]at h
  case append =>
   unfold Mq_ at h
   split at h
   ·rename_i da db t t' hargs hts
    split at h
    ·rename_i i k bs et _ _
     split at h
     ·rename_i x hstr
      split at h
      ·rename_i id es hdest;simp only[aA0]at h;subst h;refine⟨by simp[mx],Nat.le_trans (Cr_ _ _ _ _) ?_⟩;simp only[mxO,Ba_,EG_];have h1:mxR es≤n:=destOf_mx hdest (by omega);omega
      ·simp at h
     split at h
     ·rename_i id es k2 es2 hdest hsrc;simp only[aA0]at h;subst h
      have hda:mx da≤n:=by
       have:da∈args.toList.map (ed):=by rw[hargs];simp
       obtain⟨y,hy,rfl⟩:=aV0.1 this;exact hev y (by simpa[Op.operands,Call.operands]using hy)
      have hdb:mx db≤n:=by
       have:db∈args.toList.map (ed):=by rw[hargs];simp
       obtain⟨y,hy,rfl⟩:=aV0.1 this;exact hev y (by simpa[Op.operands,Call.operands]using hy)
      refine⟨by simp[mx],Nat.le_trans (Cr_ _ _ _ _) ?_⟩;simp only[mxO,Ba_]
      have h1:mxR es≤n:=by
       unfold HC_ at hdest
       split at hdest
       ·simp only[aA0,aW0]at hdest;obtain⟨_,rfl⟩:=hdest;simp[mxR]
       ·split at hdest
        ·rename_i e0 he0
         split at hdest
         ·split at hdest
          ·rename_i hob
           split at hdest
           ·simp only[aA0,aW0]at hdest;obtain⟨_,rfl⟩:=hdest;have:=(AW_ (AD_ he0).1).2;rw[hob]at this;simp only[mxO]at this;omega
           ·simp at hdest
          ·simp at hdest
         ·simp at hdest
        ·simp at hdest
       ·simp at hdest
      have h2:mxR es2≤n:=by
       unfold Lv_ at hsrc
       split at hsrc
       ·simp only[aA0,aW0]at hsrc;obtain⟨_,rfl⟩:=hsrc;simp[mxR]
       ·simp only[aA0,aW0]at hsrc;obtain⟨_,rfl⟩:=hsrc;simp[mxR]
       ·rw[bE0]at hsrc;obtain⟨⟨k',b',es'⟩,h1,h2⟩:=hsrc;simp only[aW0]at h2;obtain⟨_,rfl⟩:=h2;have:=Lu_ h1;omega
      omega
     ·simp at h
    ·simp at h
   ·simp at h
  case copy =>
   unfold eCopy at h
   split at h
   ·rename_i d sd t t' hargs hts
    split at h
    ·rename_i k k0 id r' i m et k' bs es k2 es2 ht hpart hsrc;simp only[aA0]at h;subst h;obtain⟨e,bs0,he,her,hob,hdd⟩:=Vi_ hpart
     have hdb:mx sd≤n:=by
      have:sd∈args.toList.map (ed):=by rw[hargs];simp
      obtain⟨y,hy,rfl⟩:=aV0.1 this;exact hev y (by simpa[Op.operands,Call.operands]using hy)
     refine⟨by simp[mx],Nat.le_trans (Cr_ _ _ _ _) ?_⟩;obtain⟨h1,h2⟩:=AW_ (AD_ he).1;rw[hob]at h2;simp only[mxO]at h2 ⊢;have h3:mxR (Kn_ es i m es2)≤n:=Wk_ (by omega) (UT_ hsrc (by omega) hdb);omega
    ·simp at h
   ·simp at h
  case clear =>
   have key:∀{zs:List DVal} {t:TypeId} {es:List (List DVal)} {i m N:Nat},tZeroE P t=some zs→mxR es≤N→mxR (CM_ es i m zs)≤N:=by
    intro zs t es i m N hz hes;unfold tZeroE at hz
    split at hz
    ·unfold CM_;rw[Ba_,Ba_];have:=Fd_ i es;have:=Fe_ (i+m) es;have:=TH_ (n:=0) (m:=m) (dJ0 (Kr_ hz));omega
    ·simp at hz
   unfold So_ at h
   split at h
   ·split at h
    ·rename_i hz
     split at h
     ·split at h
      ·rename_i e he
       split at h
       ·rename_i hob;simp only[aA0]at h;subst h;refine⟨by simp[mx,mxL],Nat.le_trans (Cr_ _ _ _ _) ?_⟩;simp only at hp;obtain⟨h1,h2⟩:=AW_ (AD_ he).1;rw[hob]at h2;simp only[mxO]at h2 ⊢;have h3:=hp.1;exact eD0.2 ⟨eD0.2 ⟨by omega,key hz (by omega)⟩,by omega⟩
       ·simp at h
      ·simp at h
     ·split at h
      ·rename_i e he
       split at h
       ·rename_i hob;simp only[aA0]at h;subst h;refine⟨by simp[mx,mxL],Nat.le_trans (Cr_ _ _ _ _) ?_⟩;simp only at hp;obtain⟨h1,h2⟩:=AW_ (AD_ he).1;rw[hob]at h2;simp only[mxO]at h2 ⊢;have h3:=hp.1;exact eD0.2 ⟨eD0.2 ⟨by omega,key hz (by omega)⟩,by omega⟩
       ·simp at h
      ·simp at h
     ·simp at h
    ·simp at h
   ·simp at h
  case delete =>
   unfold Mp_ at h
   split at h
   ·split at h
    ·split at h
     ·rename_i e he
      split at h
      ·rename_i ks vs hob;simp only[aA0]at h;subst h;refine⟨by simp[mx,mxL],Nat.le_trans (Cr_ _ _ _ _) ?_⟩;simp only at hp;obtain⟨h1,h2⟩:=AW_ (AD_ he).1;rw[hob]at h2;simp only[mxO]at h2 ⊢;have h3:=hp.1;refine eD0.2 ⟨eD0.2 ⟨by omega,eD0.2 ⟨Nat.le_trans (VC_ _ _) (by omega),Nat.le_trans (VB_ _ _ _) (by omega)⟩⟩,by omega⟩
      ·simp at h
     ·simp at h
    ·simp at h
   ·simp at h
end
def FD_ (e:Ent):Bool:=match e.obj with | .box _=>true | _=>false
def hidE (l2:List Nat) (q:Nat) (e:Ent):Bool:=l2.any fun c=>decide (1000000≤c)&&c%1000==q&&c/1000000==e.id+1
def hidP (l2:List Nat) (p q:Nat):Bool:=l2.any fun c=>decide (1000000≤c)&&c%1000==q&&c/1000%1000==p
def ownM (l1 l2:List Nat) (k:Nat) (own:List Ent):List Ent:=if l2.contains k then []else if l1.contains k then own.filter FD_ else if l2.isEmpty then own else own.filter fun e=> !hidE l2 k e
def Dx_ (o:Oper):Bool:=match o.op with
 | .call c=>match c.callee with | .builtin .append=>true | _=>false
 | _=>false
def isIx (o:Oper):Bool:=match o.op with | .indexAddr _ _ _=>true | _=>false
def DG_ (o:Oper):Bool:=match o.op with | .store _ _ _=>true | _=>false
def Ii_ : DVal→Option Nat
 | .bx id _ _=>some id
 | .rx id _ _ _ _=>some id
 | _=>none
def QF_ (slots:List (Nat×DVal)) (o:Oper):Option Nat:=match o.op with
 | .store _ a _=>Ii_ (AT_ slots a)
 | _=>none
def Tg_ (l2:List Nat) (k:Nat) (slots:List (Nat×DVal)) (o:Oper):Bool:=l2.all fun c=>decide (c<1000000)||c/1000%1000 != k||QF_ slots o==some (c/1000000-1)
def Nm_ (own:List Ent) (o:Oper):Bool:= !Dx_ o||(match o.dst with | some i=>(match At_ own i with | some e=> !FD_ e | none=>true) | none=>true)
def Wg_ (K:ContE):ContE:=⟨fun d own'=>K.f (.sel true d) own'⟩
theorem effSel_f (K:ContE) (d:DVal) (own':List Ent):(Wg_ K).f d own'=K.f (.sel true d) own':=id rfl
def effG (P:Program) (c:Bool) (o:Oper) (ed:Operand→DVal) (own:List Ent) (K:ContE):Prop:=match c with
 | true=>effX P o ed own (Wg_ K)
 | false=>K.f (.sel false .any) own
section
variable (P : Program) (nt : Nat) (ow l1 l2 : List Nat)
def CN_ (ops:Array Oper):List Oper→Nat→Cont→DS→Prop
 | [],_,K,s=>K.f s
 | o::rest,k,K,s=>match o.guard with
  | none=>if Bs_ ow o then Cs_ nt o.dst=true∧(Nm_ s.own o=true∧Tg_ l2 k s.slots o=true)∧effX P o (ev s.slots) s.own ⟨fun d own'=>CN_ ops rest (k+1) K ⟨putS s.slots o.dst d,own'⟩⟩
   else dOpD P nt o ⟨s.slots,ownM l1 l2 k s.own⟩ ⟨fun s'=>CN_ ops rest (k+1) K ⟨s'.slots,s.own⟩⟩
  | some (j,want)=>gOK (BH_ ops s j)=true∧if Bs_ ow o then Cs_ nt o.dst=true∧(Nm_ s.own o=true∧Tg_ l2 k s.slots o=true)∧okOp (gB (BH_ ops s j) want) (ev s.slots) o.op∧effG P (gB (BH_ ops s j) want) o (AT_ s.slots) s.own ⟨fun d own'=>CN_ ops rest (k+1) K ⟨putS s.slots o.dst d,own'⟩⟩
   else dOpG P nt (gB (BH_ ops s j) want) o ⟨s.slots,ownM l1 l2 k s.own⟩ ⟨fun s'=>CN_ ops rest (k+1) K ⟨s'.slots,s.own⟩⟩
def dOpsC (ops:Array Oper) (rest:List Oper) (k:Nat) (own:List Ent) (K:Cont):Cont:=⟨fun s'=>CN_ P nt ow l1 l2 ops rest k K ⟨s'.slots,own⟩⟩
theorem dOpsC_f (ops:Array Oper) (rest:List Oper) (k:Nat) (own:List Ent) (K:Cont) (s':DS):(dOpsC P nt ow l1 l2 ops rest k own K).f s'=CN_ P nt ow l1 l2 ops rest k K ⟨s'.slots,own⟩:=id rfl
def dOpsE (ops:Array Oper) (rest:List Oper) (k:Nat) (dst:Option Nat) (sl:List (Nat×DVal)) (K:Cont):ContE:=⟨fun d own'=>CN_ P nt ow l1 l2 ops rest (k+1) K ⟨putS sl dst d,own'⟩⟩
theorem dOpsE_f (ops:Array Oper) (rest:List Oper) (k:Nat) (dst:Option Nat) (sl:List (Nat×DVal)) (K:Cont) (d:DVal) (own':List Ent):(dOpsE P nt ow l1 l2 ops rest k dst sl K).f d own'=CN_ P nt ow l1 l2 ops rest (k+1) K ⟨putS sl dst d,own'⟩:=id rfl
theorem dOpsX_nil (ops:Array Oper) (k:Nat) (K:Cont) (s:DS):CN_ P nt ow l1 l2 ops [] k K s=K.f s:=id rfl
theorem NR_ (ops:Array Oper) (o:Oper) (rest:List Oper) (k:Nat) (K:Cont) (s:DS):CN_ P nt ow l1 l2 ops (o::rest) k K s=match o.guard with
 | none=>if Bs_ ow o then Cs_ nt o.dst=true∧(Nm_ s.own o=true∧Tg_ l2 k s.slots o=true)∧effX P o (ev s.slots) s.own (dOpsE P nt ow l1 l2 ops rest k o.dst s.slots K)
  else dOpD P nt o ⟨s.slots,ownM l1 l2 k s.own⟩ (dOpsC P nt ow l1 l2 ops rest (k+1) s.own K)
 | some (j,want)=>gOK (BH_ ops s j)=true∧if Bs_ ow o then Cs_ nt o.dst=true∧(Nm_ s.own o=true∧Tg_ l2 k s.slots o=true)∧okOp (gB (BH_ ops s j) want) (ev s.slots) o.op∧effG P (gB (BH_ ops s j) want) o (AT_ s.slots) s.own (dOpsE P nt ow l1 l2 ops rest k o.dst s.slots K)
  else dOpG P nt (gB (BH_ ops s j) want) o ⟨s.slots,ownM l1 l2 k s.own⟩ (dOpsC P nt ow l1 l2 ops rest (k+1) s.own K):=id rfl
def Fx_ (ops:Array Oper) (o:Oper) (s:DS) (d:DVal) (own':List Ent) (r:Nat):Prop:=match o.guard with
 | none=>EOut P o (ev s.slots) s.own r d own'
 | some (j,want)=>gOK (BH_ ops s j)=true∧okOp (gB (BH_ ops s j) want) (ev s.slots) o.op ∧
  ((gB (BH_ ops s j) want=true∧∃d0,d= .sel true d0∧EOut P o (AT_ s.slots) s.own r d0 own')∨(gB (BH_ ops s j) want=false∧d= .sel false .any∧own'=s.own))
def Yy_ (ops:Array Oper) (k:Nat) (o:Oper) (s:DS) (d:DVal) (own':List Ent) (r:Nat):Prop :=
 (Bs_ ow o=true∧Cs_ nt o.dst=true∧(Nm_ s.own o=true∧Tg_ l2 k s.slots o=true)∧Fx_ P ops o s d own' r) ∨
  (Bs_ ow o=false∧own'=s.own∧OpOK P nt ops o ⟨s.slots,ownM l1 l2 k s.own⟩ d)
def effs (l:List Oper):Nat:=l.countP (Bs_ ow)
def Ex_ (ops:Array Oper):Bool :=
 let m:=Ec_ ops.toList []
 let zs:=ops.toList.zipIdx
 drawOK ops&&zs.all fun p=> !Bs_ ow p.1||zs.all fun q=>p.2==q.2||(decide (p.2<q.2)&&(m.getD q.2 0).testBit p.2)||(decide (q.2<p.2)&&(m.getD p.2 0).testBit q.2) ||
  (!Bs_ ow q.1&&(l2.contains q.2||(l1.contains q.2&&Dx_ p.1)||(!l1.contains q.2&&isIx q.1&&DG_ p.1)||(!l1.contains q.2&&DG_ p.1&&hidP l2 p.2 q.2)))
end
section
variable {P : Program} {nt : Nat} {ow l1 l2 : List Nat}
theorem Ss_ {ops:Array Oper} {K:Cont} (n0:Nat):∀(rest:List Oper) (k c:Nat) (s:DS),CN_ P nt ow l1 l2 ops rest k K s →
  ∃(ds:List DVal) (owns:Nat→List Ent),ds.length=rest.length∧owns 0=s.own∧K.f ⟨lexS s.slots (rest.zip ds),owns rest.length⟩ ∧
   ∀(j:Nat) (o:Oper),rest[j]? =some o→∃d,ds[j]? =some d∧Yy_ P nt ow l1 l2 ops (k+j) o ⟨lexS s.slots ((rest.zip ds).take j),owns j⟩ d (owns (j+1)) (n0+c+effs ow (rest.take j))
 | [],k,c,s,h=>⟨[],fun _=>s.own,rfl,rfl,by simpa[CN_,lexS]using h,by simp⟩
 | o::rest,k,c,s,h=>by
  have step:∀d own',Yy_ P nt ow l1 l2 ops k o s d own' (n0+c)→CN_ P nt ow l1 l2 ops rest (k+1) K ⟨putS s.slots o.dst d,own'⟩→∃(ds:List DVal) (owns:Nat→List Ent),ds.length=(o::rest).length∧owns 0=s.own∧K.f ⟨lexS s.slots ((o::rest).zip ds),owns (o::rest).length⟩ ∧
    ∀(j:Nat) (o':Oper),(o::rest)[j]? =some o'→∃d,ds[j]? =some d∧Yy_ P nt ow l1 l2 ops (k+j) o' ⟨lexS s.slots (((o::rest).zip ds).take j),owns j⟩ d (owns (j+1)) (n0+c+effs ow ((o::rest).take j)):=by
   intro d own' hok hr;obtain⟨ds,owns,h1,h0,h2,h3⟩:=Ss_ n0 rest (k+1) (c+effs ow [o]) _ hr;refine⟨d::ds,fun j=>match j with | 0=>s.own | j+1=>owns j,by simp[h1],rfl,by simpa[lexS]using h2,?_⟩;intro j o' hj
   cases j with
   | zero=>simp only[bD0,aA0]at hj;subst hj;exact⟨d,by simp,by simpa[lexS,effs,h0]using hok⟩
   | succ j =>
    obtain⟨d',h4,h5⟩:=h3 j o' (by simpa using hj);refine⟨d',by simpa using h4,?_⟩
    have e1:n0+(c+effs ow [o])+effs ow (rest.take j)=n0+c+effs ow ((o::rest).take (j+1)):=by
     simp only[dF0,effs,fG0,List.countP_nil];omega
    rw[e1,show k+1+j=k+(j+1) by omega]at h5;simpa[lexS]using h5
  simp only[CN_]at h
  split at h
  ·rename_i hg
   split at h
   ·rename_i he;obtain⟨hd,ha,h⟩:=h;obtain⟨d,own',h1,h2⟩:=IT_ h (n0+c);exact step d own' (.inl ⟨he,hd,ha,by unfold Fx_;rw[hg];exact h1⟩) h2
   ·rename_i he;have he:Bs_ ow o=false:=by simpa using he
    obtain⟨hd,h⟩:=h
    split at h
    ·rename_i c hop
     split at h
     ·rename_i g args hc;obtain⟨d,h1,h2⟩:=MB_ h;exact step d _ (.inr ⟨he,rfl,hd,by rw[hg];exact .inl ⟨c,g,args,hop,hc,h1⟩⟩) h2
     ·exact step _ _ (.inr ⟨he,rfl,hd,by rw[hg];exact .inr ⟨h.1,rfl⟩⟩) h.2
    ·exact step _ _ (.inr ⟨he,rfl,hd,by rw[hg];exact .inr ⟨h.1,rfl⟩⟩) h.2
  ·rename_i j want hg;obtain⟨hgo,h⟩:=h
   split at h
   ·rename_i he;obtain⟨hd,ha,hok,h⟩:=h
    cases hb:gB (BH_ ops s j) want with
    | true =>
     rw[hb]at h;obtain⟨d,own',h1,h2⟩:=IT_ (K:=Wg_ _) h (n0+c);exact step (.sel true d) own' (.inl ⟨he,hd,ha,by unfold Fx_;rw[hg];exact⟨hgo,hok,.inl ⟨hb,d,rfl,h1⟩⟩⟩) h2
    | false =>
     rw[hb]at h;exact step (.sel false .any) s.own (.inl ⟨he,hd,ha,by unfold Fx_;rw[hg];exact⟨hgo,hok,.inr ⟨hb,rfl,rfl⟩⟩⟩) h
   rename_i he;have he:Bs_ ow o=false:=by simpa using he
   obtain⟨hd,hok,h⟩:=h
   have mk:∀d,(gB (BH_ ops s j) want=true→Hp_ P o (ownM l1 l2 k s.own) (AT_ s.slots) d)→Yy_ P nt ow l1 l2 ops k o s (.sel (gB (BH_ ops s j) want) d) s.own (n0+c):=by
    intro d h1;refine .inr ⟨he,rfl,hd,?_⟩;rw[hg];exact⟨hgo,hok,d,rfl,h1⟩
   split at h
   ·rename_i c hop
    split at h
    ·rename_i g args hc;obtain⟨d,h1,h2⟩:=SB_ h;exact step _ _ (mk d fun hq=> .inl ⟨c,g,args,hop,hc,h1 hq⟩) h2
    ·exact step _ _ (mk _ fun hq=> .inr ⟨h.1 hq,rfl⟩) h.2
   ·exact step _ _ (mk _ fun hq=> .inr ⟨h.1 hq,rfl⟩) h.2
end
theorem mxS_putS (l:List (Nat×DVal)) (o:Option Nat) (d:DVal):mxS (putS l o d)≤max (mx d) (mxS l):=by
 cases o<;>simp only[putS,mxS]<;>omega
theorem Vv_ {l:List (Nat×DVal)} {S:Nat→Bool} {n:Nat} (hl:mxS l≤n):∀(zs:List (Oper×DVal)) (i:Nat),(∀(k:Nat) (z:Oper×DVal),zs[k]? =some z→S (i+k)=true→mx z.2≤n)→mxS (setS l S i zs)≤n
 | [],_,_=>hl
 | (o,d)::r,i,h=>by
  have ih:=Vv_ (S:=S) hl r (i+1) (fun k z hz hS=>h (k+1) z (by simpa using hz) (by rwa[show i+1+k=i+(k+1) by omega]at hS));simp only[setS]
  split
  ·rename_i hS;refine Nat.le_trans (mxS_putS _ _ _) ?_;have:=h 0 (o,d) (by simp) (by simpa using hS);simp only at this;omega
  ·exact ih
structure EffSpec (ow l1 l2:List Nat) (ops:Array Oper):Prop where
 two:∀(k i:Nat) (o o':Oper),ops[k]? =some o→ops[i]? =some o'→Bs_ ow o=true→k=i∨(k<i∧((Ec_ ops.toList []).getD i 0).testBit k=true)∨(i<k∧((Ec_ ops.toList []).getD k 0).testBit i=true) ∨
  (Bs_ ow o'=false∧(((l2.contains i=true∨(l1.contains i=true∧Dx_ o=true))∨((l1.contains i=false∧isIx o'=true)∧DG_ o=true))∨((l1.contains i=false∧DG_ o=true)∧hidP l2 k i=true)))
theorem Sq_ {ow l1 l2:List Nat} {ops:Array Oper} (h:Ex_ ow l1 l2 ops=true):EffSpec ow l1 l2 ops:=by
 unfold Ex_ at h;simp only[aN0,bA0]at h;obtain⟨_,h⟩:=h
 have mem:∀(k:Nat) (o:Oper),ops[k]? =some o→(o,k)∈ops.toList.zipIdx:=by
  intro k o hk;rw[List.mem_zipIdx_iff_getElem?];simpa using hk
 refine⟨fun k i o o' hk hi he=> ?_⟩;have h1:=h (o,k) (mem k o hk);simp only[dD0,he,Bool.not_true,aL0,false_or,bA0]at h1;have h2:=h1 (o',i) (mem i o' hi);simp only[dD0,aN0,beq_iff_eq,decide_eq_true_eq,eO0]at h2
 rcases h2 with ((h2 | h2) | h2) | h2
 ·exact .inl h2
 ·exact .inr (.inl h2)
 ·exact .inr (.inr (.inl h2))
 ·exact .inr (.inr (.inr h2))
theorem Wi_ {P:Program} {o:Oper} {l:Operand→DVal} {own:List Ent} {r:Nat} {x:ERes} (h:eRes P o l own r=some x) :
  ∃id r' obj,x.own=upE own id r' obj∧(Dx_ o=true→(∃et k bs es,obj= .row et k bs es)∧(o.dst=some id∨∃e,At_ own id=some e∧FD_ e=false)):=by
 obtain⟨dst,op,type,pos,after,guard⟩:=o;unfold eRes at h;simp only at h;cases op<;>simp only[reduceCtorEq]at h
 case box t y =>
  split at h
  ·simp only[aA0]at h;subst h;exact⟨_,_,_,rfl,by simp[Dx_]⟩
  ·simp at h
 case buildSlice t len ps =>
  split at h
  ·simp only[aA0]at h;subst h;exact⟨_,_,_,rfl,by simp[Dx_]⟩
  ·simp at h
 case alloc t =>
  split at h
  ·simp only[aA0]at h;subst h;exact⟨_,_,_,rfl,by simp[Dx_]⟩
  ·simp at h
 case store t ad y =>
  split at h
  ·split at h
   ·split at h
    ·simp only[aA0]at h;subst h;exact⟨_,_,_,rfl,by simp[Dx_]⟩
    ·simp at h
   ·simp at h
  ·unfold DZ_ at h
   split at h
   ·split at h
    ·split at h
     ·simp only[aA0]at h;subst h;exact⟨_,_,_,rfl,by simp[Dx_]⟩
     ·simp at h
    ·simp at h
   ·simp at h
  ·simp at h
 case makeSlice t lo co =>
  unfold eMake at h
  split at h
  ·simp only[aA0]at h;subst h;exact⟨_,_,_,rfl,by simp[Dx_]⟩
  ·simp at h
 case makeMap t rv =>
  split at h
  ·simp only[aA0]at h;subst h;exact⟨_,_,_,rfl,by simp[Dx_]⟩
  ·simp at h
 case mapUpdate t m k x =>
  split at h
  ·split at h
   ·split at h
    ·simp only[aA0]at h;subst h;exact⟨_,_,_,rfl,by simp[Dx_]⟩
    ·simp at h
   ·simp at h
  ·simp at h
 case call c =>
  obtain⟨cal,args,ats⟩:=c;cases cal<;>simp only[reduceCtorEq]at h;rename_i b;cases b<;>simp only[reduceCtorEq]at h
  case append =>
   unfold Mq_ at h
   split at h
   ·split at h
    ·rename_i i k bs et _ _
     split at h
     ·rename_i x hstr
      split at h
      ·rename_i id es hdest;simp only[aA0]at h;subst h;refine⟨_,_,_,rfl,fun _=>⟨⟨_,_,_,_,rfl⟩,?_⟩⟩;unfold HC_ at hdest
       split at hdest
       ·simp only[aA0,aW0]at hdest;obtain⟨rfl,_⟩:=hdest;exact .inl rfl
       ·split at hdest
        ·rename_i e0 he0
         split at hdest
         ·split at hdest
          ·rename_i hob
           split at hdest
           ·simp only[aA0,aW0]at hdest;obtain⟨rfl,_⟩:=hdest;exact .inr ⟨e0,he0,by unfold FD_;rw[hob]⟩
           ·simp at hdest
          ·simp at hdest
         ·simp at hdest
        ·simp at hdest
       ·simp at hdest
      ·simp at h
     split at h
     ·rename_i id es k2 es2 hdest hsrc;simp only[aA0]at h;subst h;refine⟨_,_,_,rfl,fun _=>⟨⟨_,_,_,_,rfl⟩,?_⟩⟩;unfold HC_ at hdest
      split at hdest
      ·simp only[aA0,aW0]at hdest;obtain⟨rfl,_⟩:=hdest;exact .inl rfl
      ·split at hdest
       ·rename_i e0 he0
        split at hdest
        ·split at hdest
         ·rename_i hob
          split at hdest
          ·simp only[aA0,aW0]at hdest;obtain⟨rfl,_⟩:=hdest;exact .inr ⟨e0,he0,by unfold FD_;rw[hob]⟩
          ·simp at hdest
         ·simp at hdest
        ·simp at hdest
       ·simp at hdest
      ·simp at hdest
     ·simp at h
    ·simp at h
   ·simp at h
  case copy =>
   unfold eCopy at h
   split at h
   ·split at h
    ·simp only[aA0]at h;subst h;exact⟨_,_,_,rfl,by simp[Dx_]⟩
    ·simp at h
   ·simp at h
  case clear =>
   unfold So_ at h
   split at h
   ·split at h
    ·split at h
     ·split at h
      ·split at h
       ·simp only[aA0]at h;subst h;exact⟨_,_,_,rfl,by simp[Dx_]⟩
       ·simp at h
      ·simp at h
     ·split at h
      ·split at h
       ·simp only[aA0]at h;subst h;exact⟨_,_,_,rfl,by simp[Dx_]⟩
       ·simp at h
      ·simp at h
     ·simp at h
    ·simp at h
   ·simp at h
  case delete =>
   unfold Mp_ at h
   split at h
   ·split at h
    ·split at h
     ·split at h
      ·simp only[aA0]at h;subst h;exact⟨_,_,_,rfl,by simp[Dx_]⟩
      ·simp at h
     ·simp at h
    ·simp at h
   ·simp at h
theorem Ry_ {own:List Ent} {id r:Nat} {obj:DObj} (h:(own.map (·.id)).Nodup):((upE own id r obj).map (·.id)).Nodup:=by
 simp only[upE,List.map_cons,cQ0];refine⟨fun hm=> ?_,CV_ h⟩;obtain⟨e,he,h1⟩:=aV0.1 hm;exact(Bl_.1 he).2 h1
theorem EOut_nd {P:Program} {o:Oper} {l:Operand→DVal} {own:List Ent} {r:Nat} {d:DVal} {own':List Ent} (h:EOut P o l own r d own') (nd:(own.map (·.id)).Nodup):(own'.map (·.id)).Nodup:=by
 rcases h with ⟨x,hx,_,_,rfl⟩ | ⟨c,g,args,_,_,hS⟩ | ⟨c,id,r',args,e0,l0,e,A,A',b,_,_,_,_,_,_,_,_,_,_,rfl⟩
 ·obtain⟨id,r',obj,h6,_⟩:=Wi_ hx;rw[h6];exact Ry_ nd
 ·exact hS.2.1
 ·exact Ry_ nd
theorem EOut_mx {P:Program} {o:Oper} {l:Operand→DVal} {own:List Ent} {r n:Nat} {d:DVal} {own':List Ent} (h:EOut P o l own r d own') (ho:mxE own≤n) (hl:∀y∈o.op.operands,mx (l y)≤n) (hr:n≤r):mx d≤r+1∧mxE own'≤r+1:=by
 rcases h with ⟨x,hx,hp,rfl,rfl⟩ | ⟨c,g,args,_,_,hS⟩ | ⟨c,id,r',args,e0,l0,e,A,A',b,_,_,_,_,_,_,_,_,_,rfl,rfl⟩
 ·exact eRes_mx hx hp ho hl hr
 ·exact hS.2.2.1 (by omega)
 ·refine⟨by simp[mx],Nat.le_trans (Cr_ _ _ _ _) ?_⟩;simp only[mxO];omega
theorem box_app0 {P:Program} {o:Oper} {l:Operand→DVal} {own:List Ent} {r:Nat} {x:ERes} (h:eRes P o l own r=some x) (ha:Dx_ o=true) (hok:Nm_ own o=true) (nd:(own.map (·.id)).Nodup) {e:Ent} (hb:FD_ e=true) :
  e∈own↔e∈x.own:=by
 obtain⟨id,r',obj,hx,h1⟩:=Wi_ h;obtain⟨⟨et,k,bs,es,rfl⟩,h2⟩:=h1 ha;rw[hx];unfold upE;rw[aK0,Bl_]
 constructor
 ·intro he;refine .inr ⟨he,fun hid=> ?_⟩;have hf:=Bw_ nd he;rw[hid]at hf
  rcases h2 with h2 | ⟨e',h2,h3⟩
  ·unfold Nm_ at hok;rw[ha,h2]at hok;simp only[hf,hb]at hok;simp at hok
  ·rw[hf]at h2;simp only[aA0]at h2;subst h2;rw[hb]at h3;simp at h3
 ·rintro (rfl | ⟨he,_⟩)
  ·simp[FD_]at hb
  ·exact he
theorem box_app {P:Program} {o:Oper} {l:Operand→DVal} {own:List Ent} {r:Nat} {d:DVal} {own':List Ent} (h:EOut P o l own r d own') (ha:Dx_ o=true) (hok:Nm_ own o=true) (nd:(own.map (·.id)).Nodup) {e:Ent} (hb:FD_ e=true) :
  e∈own↔e∈own':=by
 rcases h with ⟨x,hx,_,_,rfl⟩ | ⟨c,g,args,hop,hc,hS⟩ | ⟨c,id,r',args,e0,l0,e1,A,A',b,hop,hc,_⟩
 ·exact box_app0 hx ha hok nd hb
 ·unfold Dx_ at ha;rw[hop]at ha;unfold callee at hc
  split at hc
  ·rename_i f hf;simp only[hf]at ha;simp at ha
  ·simp at hc
 ·unfold Dx_ at ha;rw[hop]at ha;unfold pkOf at hc
  split at hc
  ·rename_i f hf;simp only[hf]at ha;simp at ha
  ·simp at hc
theorem Ov_ {d:DVal} (h:∀c d',d= .sel c d'→c=true):mx (Ll_ d)=mx d:=by
 cases d<;>try rfl
 rename_i c d';have:=h c d' rfl;subst this;simp[Ll_,mx]
theorem OW_ {e:Operand→DVal}:∀{l:List Operand},okL true e l→∀x∈l,∀c d',e x= .sel c d'→c=true
 | [],_,x,hx,_,_,_=>by cases hx
 | y::l,h,x,hx,c,d',he=>by
  simp only[okL]at h
  rcases aK0.1 hx with rfl | hx
  ·have h1:=h.1;rw[he]at h1;exact h1 rfl
  ·exact OW_ h.2 x hx c d' he
theorem Sn_ {ow:List Nat} {o:Oper} {c:Bool} {e:Operand→DVal} (he:Bs_ ow o=true) (h:okOp c e o.op):okL c e o.op.operands.toList:=by
 unfold okOp at h
 split at h
 ·rename_i hop;unfold Bs_ at he;rw[hop]at he;simp at he
 ·exact h
theorem Rel.selTrue {B:Base} {l:List (Nat×DVal)} {own:List Ent} {a:Act} {w:World} {loc:Nat→Loc} {dst:Option Nat} {d:DVal} (R:Rel B ⟨putS l dst d,own⟩ a w loc):Rel B ⟨putS l dst (.sel true d),own⟩ a w loc where
 st:=R.st
 upd:=R.upd
 new:=R.new
 ver:=R.ver
 sl:=by
  intro i;have h:=R.sl i
  cases dst with
  | none=>exact h
  | some j =>
   simp only[putS,getS]at h ⊢
   split
   ·rename_i hj;rw[if_pos hj]at h;simp only[rd];exact⟨fun _=>h,fun h'=>by simp at h'⟩
   ·rename_i hj;rw[if_neg hj]at h;exact h
 nt:=R.nt
 df:=R.df
theorem EffOK_nd {P:Program} {ops:Array Oper} {o:Oper} {s:DS} {d:DVal} {own':List Ent} {r:Nat} (h:Fx_ P ops o s d own' r) (nd:(s.own.map (·.id)).Nodup):(own'.map (·.id)).Nodup:=by
 unfold Fx_ at h
 split at h
 ·exact EOut_nd h nd
 ·obtain⟨_,_,⟨_,d0,_,h⟩ | ⟨_,_,rfl⟩⟩:=h
  ·exact EOut_nd h nd
  ·exact nd
theorem EffOK_box {P:Program} {ops:Array Oper} {o:Oper} {s:DS} {d:DVal} {own':List Ent} {r:Nat} (h:Fx_ P ops o s d own' r) (ha:Dx_ o=true) (hok:Nm_ s.own o=true) (nd:(s.own.map (·.id)).Nodup) {e:Ent} (hb:FD_ e=true):e∈s.own↔e∈own':=by
 unfold Fx_ at h
 split at h
 ·exact box_app h ha hok nd hb
 ·obtain⟨_,_,⟨_,d0,_,h⟩ | ⟨_,_,rfl⟩⟩:=h
  ·exact box_app h ha hok nd hb
  ·exact Iff.rfl
theorem UC_ {P:Program} {ops:Array Oper} {o:Oper} {s s':DS} {d:DVal} {own':List Ent} {r:Nat} (hown:s.own=s'.own) (hev:∀x∈o.op.operands,ev s.slots x=ev s'.slots x) (hg:∀j want,o.guard=some (j,want)→BH_ ops s j=BH_ ops s' j) (h:Fx_ P ops o s d own' r):Fx_ P ops o s' d own' r:=by
 unfold Fx_ at h ⊢
 cases hgd:o.guard with
 | none =>
  rw[hgd]at h;simp only at h ⊢;rw[←hown];exact Om_ hev h
 | some jw =>
  obtain⟨j,want⟩:=jw;rw[hgd]at h;simp only at h ⊢;rw[hg j want hgd]at h;obtain⟨h1,h2,h3⟩:=h;refine⟨h1,NE_ hev h2,?_⟩
  rcases h3 with ⟨h3,d0,h4,h5⟩ | ⟨h3,h4,h5⟩
  ·exact .inl ⟨h3,d0,h4,by rw[←hown];exact Om_ (fun x hx=>by unfold AT_;rw[hev x hx]) h5⟩
  ·exact .inr ⟨h3,h4,by rw[h5,hown]⟩
theorem EffOK_mx {P:Program} {ow:List Nat} {ops:Array Oper} {o:Oper} {s:DS} {d:DVal} {own':List Ent} {r n:Nat} (he:Bs_ ow o=true) (h:Fx_ P ops o s d own' r) (ho:mxE s.own≤n) (hl:mxS s.slots≤n) (hr:n≤r):mx d≤r+1∧mxE own'≤r+1:=by
 unfold Fx_ at h
 split at h
 ·exact EOut_mx h ho (fun y _=>Nat.le_trans (Si_ _ y) hl) hr
 ·obtain⟨_,h2,⟨h3,d0,rfl,h⟩ | ⟨_,rfl,rfl⟩⟩:=h
  ·rw[h3]at h2
   have:=EOut_mx h ho (fun y hy=>by
    unfold AT_;rw[Ov_ (OW_ (Sn_ he h2) y (by simpa using hy))]
    exact Nat.le_trans (Si_ _ y) hl) hr
   refine⟨?_,this.2⟩;simp only[mx];simpa using this.1
  ·exact⟨by simp[mx],by omega⟩
theorem Hp_.ext {P:Program} {o:Oper} {own own':List Ent} {e e':Operand→DVal} {d:DVal} (h:Hp_ P o own e d) (hx:ExtE own own') (he:∀x∈o.op.operands,e x=e' x):Hp_ P o own' e' d:=by
 rcases h with ⟨c,g,args,hop,hcal,hp⟩ | ⟨hp,hdv⟩
 ·refine .inl ⟨c,g,args,hop,?_,hp⟩;rw[←Kd_ (fun x hx=>he x (by rw[hop];exact hx))];exact hcal
 ·obtain⟨c1,c2⟩:=Pa_ (P:=P) (own:=own) o.op he;obtain⟨h1,h2⟩:=n_ext hx o.op (c1.1 hp);exact .inr ⟨h1,by rw[h2,←c2];exact hdv⟩
theorem Hp_.mx {P:Program} {o:Oper} {own:List Ent} {e:Operand→DVal} {d:DVal} {n:Nat} (h:Hp_ P o own e d) (hn:mxE own≤n) (he:∀x∈o.op.operands,mx (e x)≤n):mx d≤n:=by
 rcases h with ⟨c,g,args,hop,hcal,hp⟩ | ⟨hp,rfl⟩
 ·rw[hp.2.1];omega
 ·exact n_mx hn o.op he
theorem HB_ {own:List Ent} {id r:Nat} {obj:DObj}:At_ (upE own id r obj) id=some ⟨id,r,obj⟩:=by simp[upE,At_]
theorem JW_ {own:List Ent} {id r j:Nat} {obj:DObj} (h:j≠id):At_ (upE own id r obj) j=At_ own j:=by
 have hdel:∀own:List Ent,At_ (delE own id) j=At_ own j:=by
  intro own
  induction own with
  | nil=>rfl
  | cons e t ih =>
   simp only[delE]
   split
   ·rename_i he;rw[ih];simp only[At_];rw[if_neg (by omega)]
   ·simp only[At_];rw[ih]
 unfold upE;simp only[At_];rw[if_neg (by omega),hdel]
theorem YO_ {P:Program} {o:Oper} {l:Operand→DVal} {own:List Ent} {r id:Nat} {x:ERes} (h:eRes P o l own r=some x) (ha:DG_ o=true) (ht:∀t a y,o.op= .store t a y→Ii_ (l a)=some id) {e:Ent} (he:e.id≠id):e∈own↔e∈x.own:=by
 obtain⟨dst,op,type,pos,after,guard⟩:=o;unfold DG_ at ha;unfold eRes at h;simp only at h ha ht
 have up:∀r' obj,e∈own↔e∈upE own id r' obj:=by
  intro r' obj;unfold upE;rw[aK0,Bl_]
  constructor
  ·exact fun hh=> .inr ⟨hh,he⟩
  ·rintro (rfl | hh)
   ·exact absurd rfl he
   ·exact hh.1
 cases op<;>simp only[reduceCtorEq,aL0]at h ha
 case store t a y =>
  have ht:=ht t a y rfl
  split at h
  ·rename_i id' r' off hl;rw[hl]at ht;simp only[Ii_,aA0]at ht;subst ht
   split at h
   ·split at h
    ·simp only[aA0]at h;subst h;exact up _ _
    ·simp at h
   ·simp at h
  ·rename_i id' r' k i j hl;rw[hl]at ht;simp only[Ii_,aA0]at ht;subst ht;unfold DZ_ at h
   split at h
   ·split at h
    ·split at h
     ·simp only[aA0]at h;subst h;exact up _ _
     ·simp at h
    ·simp at h
   ·simp at h
  ·simp at h
theorem QP_ {P:Program} {o:Oper} {l:Operand→DVal} {own:List Ent} {r id:Nat} {d:DVal} {own':List Ent} (h:EOut P o l own r d own') (ha:DG_ o=true) (ht:∀t a y,o.op= .store t a y→Ii_ (l a)=some id) {e:Ent} (he:e.id≠id):e∈own↔e∈own':=by
 rcases h with ⟨x,hx,hp,_,rfl⟩ | ⟨c,g,args,hop,_⟩ | ⟨c,id,r',args,e0,l0,e1,A,A',b,hop,_⟩
 ·exact YO_ hx ha ht he
 ·simp[DG_,hop]at ha
 ·simp[DG_,hop]at ha
theorem Tl_ {d:DVal} {id:Nat} (h:Ii_ (Ll_ d)=some id) (hs:∀c d',d≠ .sel c d'):Ii_ d=some id:=by
 cases d<;>simp only[Ll_]at h<;>first
  | exact h
  | (rename_i c d';exact absurd rfl (hs c d'))
theorem UB_ {P:Program} {ops:Array Oper} {o:Oper} {s:DS} {d:DVal} {own':List Ent} {r id:Nat} (h:Fx_ P ops o s d own' r) (ha:DG_ o=true) (ht:QF_ s.slots o=some id) {e:Ent} (he:e.id≠id):e∈s.own↔e∈own':=by
 have hsel:∀(t:TypeId) (a y:Operand),o.op= .store t a y→Ii_ (AT_ s.slots a)=some id:=by
  intro t a y hop;unfold QF_ at ht;rw[hop]at ht;exact ht
 unfold Fx_ at h
 split at h
 ·refine QP_ h ha (fun t a y hop=> ?_) he;have h1:=hsel t a y hop;unfold AT_ at h1;refine Tl_ h1 fun c d' hd=> ?_
  rcases h with ⟨x,hx,_⟩ | ⟨c,g,args,hop',_⟩ | ⟨c,id,r',args,e0,l0,e1,A,A',b,hop',_⟩
  ·unfold eRes at hx;rw[hop]at hx;simp only at hx;rw[hd]at hx;simp at hx
  ·rw[hop]at hop';simp at hop'
  ·rw[hop]at hop';simp at hop'
 ·obtain⟨_,_,⟨_,d0,_,h⟩ | ⟨_,_,rfl⟩⟩:=h
  ·exact QP_ h ha (fun t a y hop=>hsel t a y hop) he
  ·exact Iff.rfl
def LenE (own own':List Ent):Prop:=∀id e et k bs es,At_ own id=some e→e.obj= .row et k bs es→∃e' et' es',At_ own' id=some e'∧e'.r=e.r∧e'.obj= .row et' k bs es'∧es'.length=es.length
theorem LenE.refl (own:List Ent):LenE own own:=fun _ e et _ _ es h1 h2=>⟨e,et,es,h1,rfl,h2,rfl⟩
theorem LenE.trans {a b c:List Ent} (h1:LenE a b) (h2:LenE b c):LenE a c:=by
 intro id e et k bs es g1 g2;obtain⟨e',et',es',k1,k2,k3,k4⟩:=h1 id e et k bs es g1 g2;obtain⟨e'',et'',es'',l1,l2,l3,l4⟩:=h2 id e' et' k bs es' k1 k3;exact⟨e'',et'',es'',l1,l2.trans k2,l3,l4.trans k4⟩
theorem LenE.upE {own:List Ent} {id r:Nat} {obj:DObj} {e0:Ent} (h0:At_ own id=some e0) (hr:e0.r=r)
  (h:(∃et et' k bs es es',e0.obj= .row et k bs es∧obj= .row et' k bs es'∧es'.length=es.length)∨(∃c c',e0.obj= .box c∧obj= .box c')):LenE own (upE own id r obj)∧LenE (upE own id r obj) own:=by
 constructor
 ·intro j e et k bs es h1 h2
  by_cases hj:j=id
  ·subst hj;rw[h0]at h1;simp only[aA0]at h1;subst h1
   rcases h with ⟨et1,et',k1,bs1,es1,es',g1,g2,g3⟩ | ⟨c,c',g1,g2⟩
   ·rw[h2]at g1;simp only[DObj.row.injEq]at g1;obtain⟨rfl,rfl,rfl,rfl⟩:=g1;exact⟨_,et',es',HB_,hr.symm,g2,g3⟩
   ·rw[h2]at g1;simp at g1
  ·exact⟨e,et,es,by rw[JW_ hj];exact h1,rfl,h2,rfl⟩
 ·intro j e et k bs es h1 h2
  by_cases hj:j=id
  ·subst hj;rw[HB_]at h1;simp only[aA0]at h1;subst h1;simp only at h2;subst h2
   rcases h with ⟨et1,et',k1,bs1,es1,es',g1,g2,g3⟩ | ⟨c,c',g1,g2⟩
   ·simp only[DObj.row.injEq]at g2;obtain⟨rfl,rfl,rfl,rfl⟩:=g2;exact⟨e0,et1,es1,h0,hr,g1,g3.symm⟩
   ·simp at g2
  ·exact⟨e,et,es,by rw[JW_ hj]at h1;exact h1,rfl,h2,rfl⟩
theorem LenE.filt {own own':List Ent} {f:Ent→Bool} (nd:(own.map (·.id)).Nodup) (h:LenE own own'):LenE (own.filter f) own':=by
 intro id e et k bs es h1 h2;obtain⟨g1,g2⟩:=Ax_ h1;have:=Bw_ nd (cN0.1 g1).1;rw[g2]at this;exact h id e et k bs es this h2
theorem len_sto0 {P:Program} {o:Oper} {l:Operand→DVal} {own:List Ent} {r:Nat} {x:ERes} (h:eRes P o l own r=some x) (hp:x.pre) (ha:DG_ o=true):LenE own x.own∧LenE x.own own:=by
 obtain⟨dst,op,type,pos,after,guard⟩:=o;unfold DG_ at ha;unfold eRes at h;simp only at h ha;cases op<;>simp only[reduceCtorEq,aL0]at h ha
 case store t a y =>
  split at h
  ·split at h
   ·rename_i e he
    split at h
    ·rename_i cs hob;simp only[aA0]at h;subst h;exact LenE.upE he hp.1 (.inr ⟨_,_,hob,rfl⟩)
    ·simp at h
   ·simp at h
  ·unfold DZ_ at h
   split at h
   ·rename_i e he
    split at h
    ·rename_i et k' bs es hob
     split at h
     ·simp only[aA0]at h;subst h;exact LenE.upE he hp.1 (.inl ⟨_,_,_,_,_,_,hob,rfl,by simp⟩)
     ·simp at h
    ·simp at h
   ·simp at h
  ·simp at h
theorem len_sto {P:Program} {o:Oper} {l:Operand→DVal} {own:List Ent} {r:Nat} {d:DVal} {own':List Ent} (h:EOut P o l own r d own') (ha:DG_ o=true):LenE own own'∧LenE own' own:=by
 rcases h with ⟨x,hx,hp,_,rfl⟩ | ⟨c,g,args,hop,_⟩ | ⟨c,id,r',args,e0,l0,e1,A,A',b,hop,_⟩
 ·exact len_sto0 hx hp ha
 ·simp[DG_,hop]at ha
 ·simp[DG_,hop]at ha
theorem EffOK_len {P:Program} {ops:Array Oper} {o:Oper} {s:DS} {d:DVal} {own':List Ent} {r:Nat} (h:Fx_ P ops o s d own' r) (ha:DG_ o=true):LenE s.own own'∧LenE own' s.own:=by
 unfold Fx_ at h
 split at h
 ·exact len_sto h ha
 ·obtain⟨_,_,⟨_,d0,_,h⟩ | ⟨_,_,rfl⟩⟩:=h
  ·exact len_sto h ha
  ·exact⟨LenE.refl _,LenE.refl _⟩
theorem Hp_.ext2 {P:Program} {o:Oper} {own own':List Ent} {e e':Operand→DVal} {d:DVal} (h:Hp_ P o own e d) (hx:ExtE own own'∨(isIx o=true∧LenE own own')) (he:∀x∈o.op.operands,e x=e' x):Hp_ P o own' e' d:=by
 rcases hx with hx | ⟨hi,hx⟩
 ·exact h.ext hx he
 ·obtain⟨dst,op,type,pos,after,guard⟩:=o;unfold isIx at hi;simp only at hi he;cases op<;>simp only[aL0]at hi
  case indexAddr t x i =>
   rcases h with ⟨c,g,args,hop,_⟩ | ⟨hp,hd⟩
   ·simp at hop
   ·refine .inr ?_;simp only[nPre,nVal]at hp hd ⊢;rw[←he x (by simp[Op.operands]),←he i (by simp[Op.operands])]
    split at hp
    ·rename_i _ _ n kk bs0 k' bs' es hi' ht hr;rw[hi']at hd ⊢;simp only at hd ⊢;rw[ht];cases hxx:e x<;>rw[hxx]at hr hd<;>simp only[AU_,reduceCtorEq]at hr
     case sl =>
      simp only[aA0,aW0]at hr;obtain⟨rfl,rfl,rfl⟩:=hr;exact⟨by simpa[AU_]using hp,hd⟩
     case osl id r =>
      split at hr
      ·rename_i e0 hf
       split at hr
       ·rename_i hr0
        split at hr
        ·rename_i et k1 bs1 es1 hob;simp only[aA0,aW0]at hr;obtain⟨rfl,rfl,rfl⟩:=hr;obtain⟨e1,et1,es1',g1,g2,g3,g4⟩:=hx id e0 _ _ _ _ hf hob;have hr1:AU_ own' (.osl id r)=some (k1,bs1,es1'):=by simp[AU_,g1,g2,hr0,g3]
         have hr2:AU_ own (.osl id r)=some (k1,bs1,es1):=by simp[AU_,hf,hr0,hob]
         simp only[Gl_]at hd ⊢;rw[hr2]at hd;rw[hr1];simp only at hd ⊢;exact⟨by rw[g4];exact hp,hd⟩
        ·simp at hr
       ·simp at hr
      ·simp at hr
     case vw id r k2 bs2 i2 n2 =>
      split at hr
      ·rename_i e0 hf
       split at hr
       ·rename_i hr0
        split at hr
        ·rename_i et k1 bs1 es1 hob
         split at hr
         ·rename_i hq;simp only[aA0,aW0]at hr;obtain⟨rfl,rfl,rfl⟩:=hr;obtain⟨e1,et1,es1',g1,g2,g3,g4⟩:=hx id e0 _ _ _ _ hf hob;have hr1:AU_ own' (.vw id r k2 bs2 i2 n2)=some (k2,bs2,(es1'.drop i2).take n2):=by simp[AU_,g1,g2,hr0,g3,hq,g4]
          rw[hr1];simp only[Gl_]at hd ⊢;refine⟨⟨hp.1,hp.2.1,?_⟩,hd⟩;have:=hp.2.2;simp only[aY0,bS0]at this ⊢;omega
         ·simp at hr
        ·simp at hr
       ·simp at hr
      ·simp at hr
    ·exact hp.elim
section
variable {P : Program} {B : Base} {s : DS}
theorem NA_ (ow l1 l2:List Nat) {ops:Array Oper} {K:Cont} {nt N:Nat} (hok:Ex_ ow l1 l2 ops=true) (hnd0:(s.own.map (·.id)).Nodup) (h:CN_ P nt ow l1 l2 ops ops.toList 0 K s) :
  ∃Inv:Base→Array Bool→Act→World→Prop,
   (∀B:Base,B.nt=nt→B.N=N→∀a w loc,Rel B s a w loc→Inv B (Array.replicate ops.size false) a w.drew) ∧
   (∀B listed a w,Inv B listed a w→listed.size=ops.size∧(Region.ready .any ops listed=[]→∀i,i<ops.size→listed.getD i false=true)∧((∀i,i<ops.size→listed.getD i false=true)→∃s' loc,K.f s'∧Rel B s' a w loc)) ∧
   (∀(B:Base) listed a w i (C:Act→World→Prop) (Qx:Exit→Act→World→Prop),B.nt=nt→B.N=N→Inv B listed a w→i∈Region.ready .any ops listed→(∀a' w',Inv B (listed.setIfInBounds i true) a' w'→C a' w')→wpOpIn (wd B.ro) 0 P ops Qx i C a w) ∧
   (∀(B:Base) (G:Base→Prop) listed a w a' w' t,Inv B listed a w→(∀o∈ops.toList,o.dst≠some t)→(∀X loc,getS X.slots t=getS s.slots t→Rel B X a w loc→∃B',G B'∧Rel B' X a' w' loc)→∃B',G B'∧Inv B' listed a' w'):=by
 have hok':=hok;unfold Ex_ at hok';simp only[aN0]at hok';have spec:=Ms_ hok'.1;have spE:=Sq_ hok;obtain⟨ds,owns,hl,howns,hK,hall⟩:=Ss_ (max N (max (mxS s.slots) (mxE s.own))) _ 0 0 _ h;have hlen:ops.toList.length=ops.size:=by simp
 rw[hlen]at hK;have hl':ds.length=ops.size:=by simpa using hl
 have zat:∀(k:Nat) (z:Oper×DVal),(ops.toList.zip ds)[k]? =some z→ops[k]? =some z.1∧ds[k]? =some z.2:=by
  intro k z hz;rw[List.getElem?_zip_eq_some]at hz;exact⟨by simpa using hz.1,hz.2⟩
 have zat':∀(k:Nat) (o:Oper) (d:DVal),ops[k]? =some o→ds[k]? =some d→(ops.toList.zip ds)[k]? =some (o,d):=by
  intro k o d ho hd;rw[List.getElem?_zip_eq_some];exact⟨by simpa using ho,hd⟩
 have uniq:∀(t k k':Nat) (z z':Oper×DVal),(ops.toList.zip ds)[k]? =some z→z.1.dst=some t→(ops.toList.zip ds)[k']? =some z'→z'.1.dst=some t→k'=k :=
  fun t k k' z z' h1 h2 h3 h4=>spec.one k' k z'.1 z.1 t (zat _ _ h3).1 (zat _ _ h1).1 h4 h2
 -- what the slots hold behind the operations of S, and behind the first j
 have agree:∀(S:Nat→Bool) (j:Nat) (t:Nat),(∀(k:Nat) (o:Oper),ops[k]? =some o→o.dst=some t→(S k=true↔k<j)) →
   getS (setS s.slots S 0 (ops.toList.zip ds)) t=getS (lexS s.slots ((ops.toList.zip ds).take j)) t:=by
  intro S j t hS
  by_cases hex:∃(k:Nat) (z:Oper×DVal),(ops.toList.zip ds)[k]? =some z∧z.1.dst=some t
  ·obtain⟨k,z,hz,hd⟩:=hex;have hSk:=hS k z.1 (zat _ _ hz).1 hd
   by_cases hkj:k<j
   ·rw[Cm_ _ 0 k z hz hd (by rw[bT0];exact hSk.2 hkj) (fun k' z' h1 h2=>uniq t k k' z z' hz hd h1 h2)];rw[HA_ _ _ k z (by rw[bY0 hkj];exact hz) hd];intro k' z' h1 h2
    have:(ops.toList.zip ds)[k']? =some z':=by
     rw[eW0]at h1
     split at h1
     ·exact h1
     ·simp at h1
    exact uniq t k k' z z' hz hd this h2
   ·rw[Bd_ _ 0 (fun k' z' h1 h2=>by
     have:=uniq t k k' z z' hz hd h1 h2;subst this;rw[bT0]
     cases hq:S k' with
     | false=>rfl
     | true=>exact absurd (hSk.1 hq) hkj)]
    rw[Di_];intro z' hz' h2;obtain⟨k',hk',rfl⟩:=bN0 hz';have hlt:k'<j:=by simp at hk';omega
    have hget:(ops.toList.zip ds)[k']? =some ((ops.toList.zip ds).take j)[k']:=by
     rw[List.getElem_take];exact aH0 _
    have:=uniq t k k' z _ hz hd hget h2;omega
  ·rw[Bd_ _ 0 (fun k' z' h1 h2=>absurd ⟨k',z',h1,h2⟩ hex),Di_];intro z' hz' h2;obtain⟨k',hk',hq⟩:=bN0 (dE0 hz');exact hex ⟨k',z',by rw[aH0 hk',hq],h2⟩
 -- own objects: no two with one number; what stands between two places
 have hnd:∀j,j≤ops.size→((owns j).map (·.id)).Nodup:=by
  intro j
  induction j with
  | zero=>intro _;rw[howns];exact hnd0
  | succ j ih =>
   intro hj;have hlt:j<ops.size:=by omega
   obtain⟨d,_,hst⟩:=hall j ops[j] (by simp[hlt])
   rcases hst with ⟨_,_,_,hx⟩ | ⟨_,h5,_⟩
   ·exact EffOK_nd (s:=⟨_,_⟩) hx (ih (by omega))
   ·rw[h5];exact ih (by omega)
 have still:∀m i,i+m≤ops.size→(∀k o,i≤k→k<i+m→ops[k]? =some o→Bs_ ow o=false)→owns (i+m)=owns i:=by
  intro m
  induction m with
  | zero=>intro i _ _;rfl
  | succ m ih =>
   intro i hi hk;have hlt:i+m<ops.size:=by omega
   obtain⟨d,_,hst⟩:=hall (i+m) ops[i+m] (by simp[hlt]);have hne:=hk (i+m) ops[i+m] (by omega) (by omega) (by simp[hlt])
   rcases hst with ⟨h1,_⟩ | ⟨_,h5,_⟩
   ·rw[hne]at h1;simp at h1
   ·rw[show i+(m+1)=i+m+1 by omega,h5];exact ih i (by omega) fun k o h1 h2 h3=>hk k o h1 (by omega) h3
 have same:∀i j,i≤ops.size→j≤ops.size→(∀k o,ops[k]? =some o→Bs_ ow o=true→(k<j↔k<i))→owns j=owns i:=by
  intro i j hi hj hk
  by_cases hij:i≤j
  ·have:=still (j-i) i (by omega) (fun k o h1 h2 h3=>by
    cases hq:Bs_ ow o with
    | false=>rfl
    | true=>have:=(hk k o h3 hq).1 (by omega);omega)
   rwa[show i+(j-i)=j by omega]at this
  ·have:=still (i-j) j (by omega) (fun k o h1 h2 h3=>by
    cases hq:Bs_ ow o with
    | false=>rfl
    | true=>have:=(hk k o h3 hq).2 (by omega);omega)
   rw[show j+(i-j)=i by omega]at this;exact this.symm
 have boxes:∀m i,i+m≤ops.size→(∀k o,i≤k→k<i+m→ops[k]? =some o→Bs_ ow o=false∨Dx_ o=true)→∀e,FD_ e=true→(e∈owns i↔e∈owns (i+m)):=by
  intro m
  induction m with
  | zero=>intro i _ _ e _;exact Iff.rfl
  | succ m ih =>
   intro i hi hk e he;have hlt:i+m<ops.size:=by omega
   rw[ih i (by omega) (fun k o h1 h2 h3=>hk k o h1 (by omega) h3) e he];obtain⟨d,_,hst⟩:=hall (i+m) ops[i+m] (by simp[hlt]);have hne:=hk (i+m) ops[i+m] (by omega) (by omega) (by simp[hlt])
   rcases hst with ⟨h1,_,h4,hx⟩ | ⟨_,h5,_⟩
   ·rcases hne with h | h
    ·rw[h]at h1;simp at h1
    ·rw[show i+(m+1)=i+m+1 by omega];exact EffOK_box hx h h4.1 (hnd _ (by omega)) he
   ·rw[show i+(m+1)=i+m+1 by omega,h5]
 have boxesE:∀i j,i≤ops.size→j≤ops.size→(∀k o,ops[k]? =some o→Bs_ ow o=true→¬(k<j↔k<i)→Dx_ o=true)→ExtE ((owns i).filter FD_) (owns j):=by
  intro i j hi hj hk id e hf;obtain⟨h1,h2⟩:=Ax_ hf;rw[cN0]at h1
  have hmem:e∈owns j:=by
   by_cases hij:i≤j
   ·have:=(boxes (j-i) i (by omega) (fun k o h1 h2 h3=>by
     cases hq:Bs_ ow o with
     | false=>exact .inl rfl
     | true=>exact .inr (hk k o h3 hq (by omega))) e h1.2).1 h1.1
    rwa[show i+(j-i)=j by omega]at this
   ·have:=(boxes (i-j) j (by omega) (fun k o h1 h2 h3=>by
     cases hq:Bs_ ow o with
     | false=>exact .inl rfl
     | true=>exact .inr (hk k o h3 hq (by omega))) e h1.2).2
    rw[show j+(i-j)=i by omega]at this;exact this h1.1
  rw[←h2];exact Bw_ (hnd j hj) hmem
 have lens:∀m i,i+m≤ops.size→(∀k o,i≤k→k<i+m→ops[k]? =some o→Bs_ ow o=false∨DG_ o=true)→LenE (owns i) (owns (i+m))∧LenE (owns (i+m)) (owns i):=by
  intro m
  induction m with
  | zero=>intro i _ _;exact⟨LenE.refl _,LenE.refl _⟩
  | succ m ih =>
   intro i hi hk;have hlt:i+m<ops.size:=by omega
   obtain⟨g1,g2⟩:=ih i (by omega) (fun k o h1 h2 h3=>hk k o h1 (by omega) h3);obtain⟨d,_,hst⟩:=hall (i+m) ops[i+m] (by simp[hlt]);have hne:=hk (i+m) ops[i+m] (by omega) (by omega) (by simp[hlt]);rw[show i+(m+1)=i+m+1 by omega]
   rcases hst with ⟨h1,_,_,hx⟩ | ⟨_,h5,_⟩
   ·rcases hne with h | h
    ·rw[h]at h1;simp at h1
    ·obtain⟨l1,l2⟩:=EffOK_len hx h;exact⟨g1.trans l1,l2.trans g2⟩
   ·rw[h5];exact⟨g1,g2⟩
 have lensE:∀i j,i≤ops.size→j≤ops.size→(∀k o,ops[k]? =some o→Bs_ ow o=true→¬(k<j↔k<i)→DG_ o=true)→LenE (owns i) (owns j):=by
  intro i j hi hj hk
  by_cases hij:i≤j
  ·have:=(lens (j-i) i (by omega) (fun k o h1 h2 h3=>by
    cases hq:Bs_ ow o with
    | false=>exact .inl rfl
    | true=>exact .inr (hk k o h3 hq (by omega)))).1
   rwa[show i+(j-i)=j by omega]at this
  ·have:=(lens (i-j) j (by omega) (fun k o h1 h2 h3=>by
    cases hq:Bs_ ow o with
    | false=>exact .inl rfl
    | true=>exact .inr (hk k o h3 hq (by omega)))).2
   rwa[show j+(i-j)=i by omega]at this
 -- what the stores in between do not touch
 have touch:∀k o q,ops[k]? =some o→Bs_ ow o=true→DG_ o=true→hidP l2 k q=true→∀e,hidE l2 q e=false→(e∈owns k↔e∈owns (k+1)):=by
  intro k o q hk he hs hq e hh;obtain⟨d,_,hst⟩:=hall k o (by simpa using hk)
  rcases hst with ⟨_,_,⟨_,htc⟩,hx⟩ | ⟨h1,_⟩
  ·unfold hidP at hq;rw[bZ0]at hq;obtain⟨c,hc,hcc⟩:=hq;simp only[aN0,decide_eq_true_eq,beq_iff_eq]at hcc;obtain⟨⟨c1,c2⟩,c3⟩:=hcc;unfold Tg_ at htc;have h2:=bA0.1 htc c hc;simp only[dD0,decide_eq_true_eq,bne_iff_ne,ne_eq,beq_iff_eq]at h2
   have h3:QF_ (lexS s.slots ((ops.toList.zip ds).take k)) o=some (c/1000000-1):=by
    rcases h2 with (h2 | h2) | h2
    ·omega
    ·simp only[bT0]at h2;exact absurd c3 h2
    ·exact h2
   refine UB_ (s:=⟨_,owns k⟩) hx hs h3 fun hid=> ?_
   unfold hidE at hh;rw[dA0]at hh;have h4:=hh c hc;simp only[aN0,decide_eq_true_eq,beq_iff_eq,not_and]at h4;exact h4 ⟨c1,c2⟩ (by omega)
  ·rw[he]at h1;simp at h1
 have others:∀q m i,i+m≤ops.size→(∀k o,i≤k→k<i+m→ops[k]? =some o→Bs_ ow o=false∨(DG_ o=true∧hidP l2 k q=true))→∀e,hidE l2 q e=false→(e∈owns i↔e∈owns (i+m)):=by
  intro q m
  induction m with
  | zero=>intro i _ _ e _;exact Iff.rfl
  | succ m ih =>
   intro i hi hk e he;have hlt:i+m<ops.size:=by omega
   rw[ih i (by omega) (fun k o h1 h2 h3=>hk k o h1 (by omega) h3) e he,show i+(m+1)=i+m+1 by omega];have hget:ops[i+m]? =some ops[i+m]:=by simp[hlt]
   cases hq:Bs_ ow ops[i+m]with
   | true =>
    rcases hk (i+m) ops[i+m] (by omega) (by omega) hget with h | h
    ·rw[hq]at h;simp at h
    ·exact touch _ _ q hget hq h.1 h.2 e he
   | false =>
    obtain⟨d,_,hst⟩:=hall (i+m) ops[i+m] (by simp[hlt])
    rcases hst with ⟨h1,_⟩ | ⟨_,h5,_⟩
    ·rw[hq]at h1;simp at h1
    ·rw[h5]
 have othersE:∀q i j,i≤ops.size→j≤ops.size→(∀k o,ops[k]? =some o→Bs_ ow o=true→¬(k<j↔k<i)→(DG_ o=true∧hidP l2 k q=true))→ExtE ((owns i).filter fun e=> !hidE l2 q e) (owns j):=by
  intro q i j hi hj hk id e hf;obtain⟨h1,h2⟩:=Ax_ hf;rw[cN0]at h1;have hh:hidE l2 q e=false:=by simpa using h1.2
  have hmem:e∈owns j:=by
   by_cases hij:i≤j
   ·have:=(others q (j-i) i (by omega) (fun k o h1 h2 h3=>by
     cases hq:Bs_ ow o with
     | false=>exact .inl rfl
     | true=>exact .inr (hk k o h3 hq (by omega))) e hh).1 h1.1
    rwa[show i+(j-i)=j by omega]at this
   ·have:=(others q (i-j) j (by omega) (fun k o h1 h2 h3=>by
     cases hq:Bs_ ow o with
     | false=>exact .inl rfl
     | true=>exact .inr (hk k o h3 hq (by omega))) e hh).2
    rw[show j+(i-j)=i by omega]at this;exact this h1.1
  rw[←h2];exact Bw_ (hnd j hj) hmem
 have effs_le:∀i j,i≤j→effs ow (ops.toList.take i)≤effs ow (ops.toList.take j):=by
  intro i j hij;unfold effs;have:(ops.toList.take i)=(ops.toList.take j).take i:=by rw[List.take_take,Nat.min_eq_left hij]
  rw[this];exact(List.take_sublist _ _).countP_le
 have fin:∀(B:Base) (listed:Array Bool) (p:Nat) (a:Act) (w:World) (loc:Nat→Loc),listed.size=ops.size→Closed ops (fun k=>listed.getD k false)→p≤ops.size→(∀k o,ops[k]? =some o→Bs_ ow o=true→(listed.getD k false=true↔k<p))→Rel B ⟨setS s.slots (fun k=>listed.getD k false) 0 (ops.toList.zip ds),owns p⟩ a w loc →
   (∀i,i<ops.size→listed.getD i false=true)→∃s' loc,K.f s'∧Rel B s' a w loc:=by
  intro B listed p a w loc hsz hc hp hpe R hallS
  have heq:owns p=owns ops.size:=same _ _ (Nat.le_refl _) hp fun k o h1 h2=>by
   have hlt:k<ops.size:=(aG0.1 h1).1;have:=hpe k o h1 h2;simp only[hallS k hlt,true_iff]at this;omega
  rw[heq]at R;refine⟨_,loc,hK,Rel.congr (fun t=> ?_) R⟩
  have:=agree (fun k=>listed.getD k false) (ops.toList.zip ds).length t (fun k o ho hd=>by
   have hlt:k<ops.size:=(aG0.1 ho).1
   simp only[hallS k hlt,true_iff,List.length_zip,bP0,hl',Nat.min_self];exact hlt)
  rw[this,aQ0]
 have nready:∀(listed:Array Bool),Region.ready .any ops listed=[]→listed.size=ops.size→∀i,i<ops.size→listed.getD i false=true:=by
  intro listed hr hsz i
  induction i using Nat.strongRecOn with
  | _ i ih =>
   intro hi
   cases hq:listed.getD i false with
   | true=>rfl
   | false =>
    exfalso;have hget:ops[i]? =some ops[i]:=cD0 hi
    have:i∈Region.ready .any ops listed:=by
     rw[mem_ready];refine⟨?_,ops[i],hget,fun e he hb=> ?_⟩
     ·have hi':i<listed.size:=by omega
      simp only[aT0,cD0 hi',cC0]at hq ⊢;exact hq
     ·have:=spec.acy i _ hget e he hb;exact ih e.on this (by omega)
    rw[hr]at this;simp at this
 refine⟨fun B listed a w=>listed.size=ops.size∧Closed ops (fun k=>listed.getD k false)∧∃p loc,p≤ops.size∧(∀k o,ops[k]? =some o→Bs_ ow o=true→(listed.getD k false=true↔k<p)) ∧
   (∀k d,ds[k]? =some d→listed.getD k false=true→mx d≤max N (max (mxS s.slots) (mxE s.own))+effs ow (ops.toList.take p))∧mxE (owns p)≤max N (max (mxS s.slots) (mxE s.own))+effs ow (ops.toList.take p) ∧
   Rel B ⟨setS s.slots (fun k=>listed.getD k false) 0 (ops.toList.zip ds),owns p⟩ a w loc,?_,?_,?_,?_⟩
 ·intro B hBt hBN a w loc R;subst hBt hBN
  have hrep:∀k,(Array.replicate ops.size false).getD k false=false:=by
   intro k;simp[aT0,eJ0]
   split<;>simp
  refine⟨by simp,?_,0,loc,by omega,fun k o hk he=>by rw[hrep];simp,fun k d hk hS=>by rw[hrep]at hS;simp at hS,by rw[howns];omega,?_⟩
  ·intro k o hk hS;simp[aT0,eJ0]at hS
   split at hS<;>simp at hS
  ·have R':=R.put (dst:=none) (v:=Go.undef) (d:= .any) (fun i hi=>by simp at hi) (Upd.drew [] w) (by simp[rd]);rw[howns];refine Rel.congr (fun t=> ?_) R'
   exact Bd_ _ 0 (fun k z hz hd=>by
    simp[aT0,eJ0]
    split<;>simp)
 ·rintro B listed a w ⟨hsz,hc,p,loc,hp,hpe,hbd,hbo,R⟩;exact⟨hsz,fun hr=>nready listed hr hsz,fin B listed p a w loc hsz hc hp hpe R⟩
 ·rintro B listed a w i C Qx hBt hBN ⟨hsz,hc,p,loc,hp,hpe,hbd,hbo,R⟩ hi hC;subst hBt hBN;rw[mem_ready]at hi;obtain⟨h0,o,ho,hpre⟩:=hi;have hlt:i<ops.size:=(aG0.1 ho).1;have hi':i<listed.size:=by omega
  have hSi:listed.getD i false=false:=by
   simp only[aT0,cD0 hi',cC0]at h0 ⊢;exact h0
  obtain⟨d,hd,hst⟩:=hall i o (by simpa using ho);simp only[bT0,cV0]at hst
  -- what stands ahead is done; what waits is not
  have anc:∀k,((Ec_ ops.toList []).getD i 0).testBit k=true→listed.getD k false=true:=by
   intro k h2;rw[Pi_]at h2;simp only[List.length_nil,Nat.not_lt_zero,if_false,eH0]at h2;have ho':ops.toList[i]? =some o:=by simpa using ho
   rw[ho']at h2;obtain⟨e,he,hb,h3⟩:=NI_ _ _ _ h2;have hon:=hpre e (by simpa using he) hb
   rcases h3 with rfl | h3
   ·exact hon
   ·refine NX_ hc e.on hon k ?_;have hlt':=spec.acy i o ho e (by simpa using he) hb
    have:((Ec_ ops.toList []).take i).getD e.on 0=(Ec_ ops.toList []).getD e.on 0:=by
     simp[bG0,bY0 hlt']
    rwa[this]at h3
  have des:∀k,((Ec_ ops.toList []).getD k 0).testBit i=true→listed.getD k false=false:=by
   intro k h2
   cases hq:listed.getD k false with
   | false=>rfl
   | true =>
    have:=NX_ hc k hq i h2;rw[hSi]at this;simp at this
  -- the slots that the operation looks at
  have look:∀t∈o.looksAt ops,getS (setS s.slots (fun k=>listed.getD k false) 0 (ops.toList.zip ds)) t=getS (lexS s.slots ((ops.toList.zip ds).take i)) t:=by
   intro t ht;refine agree _ i t fun k o' hk hd'=> ?_
   rcases spec.ord i o t ho ht k o' hk hd' with ⟨h1,h2⟩ | ⟨h1,h2⟩
   ·exact⟨fun _=>h1,fun _=>anc k h2⟩
   ·refine⟨fun hk'=> ?_,fun hk'=>by omega⟩;rw[des k h2]at hk';simp at hk'
  have hS':(fun k=>(listed.setIfInBounds i true).getD k false)=fun k=>if k=i then true else listed.getD k false:=by
   funext k
   by_cases hk:k=i
   ·subst hk;simp[hi']
   ·rw[if_neg hk,getD_set_ne false (Ne.symm hk)]
  have hS'':∀k,(listed.setIfInBounds i true).getD k false=if k=i then true else listed.getD k false:=fun k=>congrFun hS' k
  have hslots:mxS (setS s.slots (fun k=>listed.getD k false) 0 (ops.toList.zip ds))≤lim B s+effs ow (ops.toList.take p):=by
   refine Vv_ (by unfold lim;omega) _ _ fun k z hz hS=> ?_
   rw[bT0]at hS;exact hbd k z.2 (zat _ _ hz).2 hS
  have hev:∀x∈o.op.operands,ev (setS s.slots (fun k=>listed.getD k false) 0 (ops.toList.zip ds)) x=ev (lexS s.slots ((ops.toList.zip ds).take i)) x:=by
   intro x hx;refine ev_congr fun t hxt=>look t ?_
   subst hxt;exact aM0 _ (List.mem_filterMap.2 ⟨.tmp t,by simpa using hx,rfl⟩)
  have hg:∀j want,o.guard=some (j,want)→BH_ ops ⟨setS s.slots (fun k=>listed.getD k false) 0 (ops.toList.zip ds),owns p⟩ j=BH_ ops ⟨lexS s.slots ((ops.toList.zip ds).take i),ownM l1 l2 i (owns i)⟩ j:=by
   intro j want hgd;unfold BH_
   cases ht:(ops[j]?).bind (·.dst)with
   | none=>rfl
   | some t =>
    refine look t (aP0 _ ?_);rw[hgd];simp[ht]
  -- the next set
  have next:∀(p':Nat) (a':Act) (w':World) (loc:Nat→Loc),p'≤ops.size→(∀k o,ops[k]? =some o→Bs_ ow o=true→((listed.setIfInBounds i true).getD k false=true↔k<p'))→effs ow (ops.toList.take p)≤effs ow (ops.toList.take p')→mx d≤lim B s+effs ow (ops.toList.take p')→mxE (owns p')≤lim B s+effs ow (ops.toList.take p') →
    Rel B ⟨putS (setS s.slots (fun k=>listed.getD k false) 0 (ops.toList.zip ds)) o.dst d,owns p'⟩ a' w' loc→C a' w':=by
   intro p' a' w' loc hp' hpe' hle hmd hmo R';refine hC a' w' ⟨by simpa using hsz,?_,p',loc,hp',hpe',?_,hmo,?_⟩
   ·rw[hS'];intro k o' hk hS e he hb
    by_cases hki:k=i
    ·subst hki;rw[ho]at hk;simp only[aA0]at hk;subst hk;have:=hpre e he hb;simp only[this];split<;>rfl
    ·simp only[if_neg hki]at hS;have:=hc k o' hk hS e he hb;simp only[this];split<;>rfl
   ·intro k d' hk hS;rw[hS'']at hS
    by_cases hki:k=i
    ·subst hki;rw[hd]at hk;simp only[aA0]at hk;subst hk;exact hmd
    ·rw[if_neg hki]at hS;have:=hbd k d' hk hS;omega
   ·rw[hS'];refine Rel.congr (fun t=> ?_) R';rw[EI_]
    by_cases hdt:o.dst=some t
    ·rw[if_pos hdt];exact Cm_ _ 0 i (o,d) (zat' i o d ho hd) hdt (by simp) (fun k' z' h1 h2=>uniq t i k' (o,d) z' (zat' i o d ho hd) hdt h1 h2)
    ·rw[if_neg hdt];have e1:=fun S j hS=>agree S j t hS
     by_cases hex:∃(k:Nat) (z:Oper×DVal),(ops.toList.zip ds)[k]? =some z∧z.1.dst=some t
     ·obtain⟨k,z,hz,hd'⟩:=hex
      have hki:k≠i:=by
       intro hki;subst hki;have:=(zat _ _ hz).1;rw[ho]at this;simp only[aA0]at this;exact hdt (by rw[this];exact hd')
      cases hSk:listed.getD k false with
      | true =>
       rw[Cm_ _ 0 k z hz hd' (by rw[bT0];simp[hki,hSk]) (fun k' z' h1 h2=>uniq t k k' z z' hz hd' h1 h2)];rw[Cm_ _ 0 k z hz hd' (by rw[bT0];exact hSk) (fun k' z' h1 h2=>uniq t k k' z z' hz hd' h1 h2)]
      | false =>
       rw[Bd_ _ 0 (fun k' z' h1 h2=>by
        have:=uniq t k k' z z' hz hd' h1 h2;subst this
        rw[bT0];simp[hki,hSk])]
       rw[Bd_ _ 0 (fun k' z' h1 h2=>by
        have:=uniq t k k' z z' hz hd' h1 h2;subst this
        rw[bT0];exact hSk)]
     ·rw[Bd_ _ 0 (fun k' z' h1 h2=>absurd ⟨k',z',h1,h2⟩ hex),Bd_ _ 0 (fun k' z' h1 h2=>absurd ⟨k',z',h1,h2⟩ hex)]
  -- the operation itself
  rcases hst with ⟨heff,hdst,happ,hx⟩ | ⟨hneu,hown,hok'⟩
  ·have hord:∀k o',ops[k]? =some o'→Bs_ ow o'=true→(k<p↔k<i):=by
    intro k o' hk he;rw[←hpe k o' hk he]
    rcases spE.two k i o' o hk ho he with h | ⟨h1,h2⟩ | ⟨h1,h2⟩ | ⟨h1,_⟩
    ·subst h;rw[hSi];simp
    ·exact⟨fun _=>h1,fun _=>anc k h2⟩
    ·rw[des k h2];simp;omega
    ·rw[heff]at h1;simp at h1
   have heq:owns p=owns i:=same i p (by omega) hp hord
   have hcnt':effs ow (ops.toList.take p)=effs ow (ops.toList.take i):=by
    have key:∀m q,q+m≤ops.size→(∀k o',q≤k→k<q+m→ops[k]? =some o'→Bs_ ow o'=false)→effs ow (ops.toList.take (q+m))=effs ow (ops.toList.take q):=by
     intro m
     induction m with
     | zero=>intro q _ _;rfl
     | succ m ihm =>
      intro q hq hk;have hlt':q+m<ops.size:=by omega
      rw[show q+(m+1)=q+m+1 by omega,bF0];have hg:ops.toList[q+m]? =some ops[q+m]:=by simp[hlt']
      have hne:=hk (q+m) ops[q+m] (by omega) (by omega) (by simp[hlt']);have:=ihm q (by omega) fun k o' h1 h2 h3=>hk k o' h1 (by omega) h3
      unfold effs at this ⊢;rw[hg,List.countP_append,this];simp[fG0,hne]
    by_cases hpi:p≤i
    ·have:=key (i-p) p (by omega) (fun k o' h1 h2 h3=>by
      cases hq:Bs_ ow o' with
      | false=>rfl
      | true=>have:=(hord k o' h3 hq).2 (by omega);omega)
     rw[show p+(i-p)=i by omega]at this;exact this.symm
    ·have:=key (p-i) i (by omega) (fun k o' h1 h2 h3=>by
      cases hq:Bs_ ow o' with
      | false=>rfl
      | true=>have:=(hord k o' h3 hq).1 (by omega);omega)
     rwa[show i+(p-i)=p by omega]at this
   have hinc:effs ow (ops.toList.take (i+1))=effs ow (ops.toList.take i)+1:=by
    have hg:ops.toList[i]? =some o:=by simpa using ho
    rw[bF0,hg];unfold effs;rw[List.countP_append];simp[fG0,heff]
   have hx':Fx_ P ops o ⟨setS s.slots (fun k=>listed.getD k false) 0 (ops.toList.zip ds),owns p⟩ d (owns (i+1)) (lim B s+effs ow (ops.toList.take i)):=by
    refine UC_ (s:=⟨lexS s.slots ((ops.toList.zip ds).take i),owns i⟩) heq.symm (fun x hx=>(hev x hx).symm) (fun j want hgd=>(hg j want hgd).symm) ?_;simpa[lim]using hx
   have hlim:lim B ⟨setS s.slots (fun k=>listed.getD k false) 0 (ops.toList.zip ds),owns p⟩≤lim B s+effs ow (ops.toList.take i):=by
    rw[←hcnt'];have h0:B.N≤lim B s:=by unfold lim;omega
    unfold lim;simp only;have h1:=hslots;have h2:=hbo;have h3:lim B s+effs ow (ops.toList.take p)=max B.N (max (mxS s.slots) (mxE s.own))+effs ow (ops.toList.take p):=rfl;have h4:lim B s=max B.N (max (mxS s.slots) (mxE s.own)):=rfl;omega
   have hmxx:=EffOK_mx (n:=lim B s+effs ow (ops.toList.take i)) heff hx' (by rw[←hcnt'];exact hbo) (by rw[←hcnt'];exact hslots) (Nat.le_refl _)
   have nx:∀(a':Act) (w':World) (loc':Nat→Loc),Rel B ⟨putS (setS s.slots (fun k=>listed.getD k false) 0 (ops.toList.zip ds)) o.dst d,owns (i+1)⟩ a' w' loc'→C a' w':=by
    intro a' w' loc' R';refine next (i+1) a' w' loc' (by omega) ?_ (by rw[hcnt',hinc];omega) (by rw[hinc];have:=hmxx.1;omega) (by rw[hinc];have:=hmxx.2;omega) R'
    intro k o' hk he;rw[hS'']
    by_cases hki:k=i
    ·rw[if_pos hki];simp;omega
    ·rw[if_neg hki,hpe k o' hk he,hord k o' hk he];omega
   unfold wpOpIn;rw[ho];simp only;unfold Fx_ at hx'
   cases hgd:o.guard with
   | none =>
    rw[hgd]at hx';have hw:Region.wanted o (yielded ops a.tmps)=true:=by simp[Region.wanted,hgd]
    rw[if_pos hw];exact eo_wp (R:=R) hlim hdst (fun x _=>R.ev x) (fun x _=>Si_ _ x) hx' nx
   | some jw =>
    obtain⟨j,want⟩:=jw;rw[hgd]at hx';simp only at hx';obtain⟨g1,g2,g3⟩:=hx';have hgo:=PF_ (want:=want) R g1;have hw:Region.wanted o (yielded ops a.tmps)=gB (BH_ ops ⟨setS s.slots (fun k=>listed.getD k false) 0 (ops.toList.zip ds),owns p⟩ j) want:=by simp only[Region.wanted,hgd];exact hgo
    rw[hw]
    rcases g3 with ⟨hb,d0,rfl,hx'⟩ | ⟨hb,rfl,hown'⟩
    ·rw[hb]at g2 ⊢;rw[if_pos rfl];have hsel:=OW_ (Sn_ heff g2)
     exact eo_wp (R:=R) hlim hdst (fun x hx=>NF_ (fun x=>R.ev x) _ (Sn_ heff g2) x (by simpa using hx)) (fun x hx=>by
      unfold AT_;rw[Ov_ (hsel x (by simpa using hx))]
      exact Si_ _ x) hx' fun a' w' loc' R'=>nx a' w' loc' R'.selTrue
    ·rw[hb];rw[if_neg (by simp)];refine⟨fun _ _=>trivial,nx _ _ loc ?_⟩;rw[hown'];exact R.put (Mr_ hdst) (Upd.refl _ _) (by simp[rd])
  have hext:ExtE (ownM l1 l2 i (owns i)) (owns p)∨(isIx o=true∧LenE (ownM l1 l2 i (owns i)) (owns p)):=by
   unfold ownM
   split
   ·exact .inl fun id e hf=>by simp[At_]at hf
   ·rename_i hn2;have hn2:l2.contains i=false:=by simpa using hn2
    have hord:∀k o',ops[k]? =some o'→Bs_ ow o'=true→¬(k<p↔k<i)→(l1.contains i=true∧Dx_ o'=true)∨((l1.contains i=false∧isIx o=true)∧DG_ o'=true)∨((l1.contains i=false∧DG_ o'=true)∧hidP l2 k i=true):=by
     intro k o' hk he hne;rw[←hpe k o' hk he]at hne
     rcases spE.two k i o' o hk ho he with h | ⟨h1,h2⟩ | ⟨h1,h2⟩ | ⟨h1,h2⟩
     ·subst h;rw[hSi]at hne;simp at hne
     ·exact absurd ⟨fun _=>h1,fun _=>anc k h2⟩ hne
     ·rw[des k h2]at hne;simp at hne;omega
     ·rcases h2 with ((h2 | h2) | h2) | h2
      ·rw[hn2]at h2;simp at h2
      ·exact .inl h2
      ·exact .inr (.inl h2)
      ·exact .inr (.inr h2)
    split
    ·rename_i hn1;refine .inl (boxesE i p (by omega) hp fun k o' hk he hne=> ?_)
     rcases hord k o' hk he hne with h | h | h
     ·exact h.2
     ·rw[hn1]at h;simp at h
     ·rw[hn1]at h;simp at h
    ·rename_i hn1;have hn1:l1.contains i=false:=by simpa using hn1
     cases hix:isIx o with
     | false =>
      refine .inl ?_
      have hall3:∀k o',ops[k]? =some o'→Bs_ ow o'=true→¬(k<p↔k<i)→DG_ o'=true∧hidP l2 k i=true:=by
       intro k o' hk he hq
       rcases hord k o' hk he hq with h | h | h
       ·rw[hn1]at h;simp at h
       ·rw[hix]at h;simp at h
       ·exact⟨h.1.2,h.2⟩
      split
      ·rename_i hemp;have hl2:l2=[]:=by simpa using hemp
       rw[same i p (by omega) hp fun k o' hk he=>by
        by_cases hq:(k<p↔k<i)
        ·exact hq
        ·have:=(hall3 k o' hk he hq).2;rw[hl2]at this
         simp[hidP]at this]
       exact fun _ _ h=>h
      ·exact othersE i i p (by omega) hp hall3
     | true =>
      have hle:LenE (owns i) (owns p):=lensE i p (by omega) hp fun k o' hk he hne=>by
       rcases hord k o' hk he hne with h | h | h
       ·rw[hn1]at h;simp at h
       ·exact h.2
       ·exact h.1.2
      refine .inr ⟨rfl,?_⟩
      split
      ·exact hle
      ·exact hle.filt (hnd i (by omega))
  have hpe':∀k o',ops[k]? =some o'→Bs_ ow o'=true→((listed.setIfInBounds i true).getD k false=true↔k<p):=by
   intro k o' hk he;rw[hS'']
   by_cases hki:k=i
   ·subst hki;rw[ho]at hk;simp only[aA0]at hk;subst hk;rw[hneu]at he;simp at he
   ·rw[if_neg hki];exact hpe k o' hk he
  have evmx:∀x:Operand,mx (ev (setS s.slots (fun k=>listed.getD k false) 0 (ops.toList.zip ds)) x)≤lim B s+effs ow (ops.toList.take p):=fun x=>Nat.le_trans (Si_ _ x) hslots
  have run:∀(e:Operand→DVal) (d':DVal),(∀x∈o.op.operands,Rds ⟨setS s.slots (fun k=>listed.getD k false) 0 (ops.toList.zip ds),owns p⟩ loc B.M0 w (e x) (a.eval x)) →
    (∀(w':World) (v:Value),rd (Ai_ (owns p) loc) (Ab_ (owns p) loc++B.M0) w'.heap d' v→rd (Ai_ (owns p) loc) (Ab_ (owns p) loc++B.M0) w'.heap d v)→mx d≤lim B s+effs ow (ops.toList.take p)→Hp_ P o (owns p) e d'→o.wpIn (wd B.ro) 0 P a w C Qx:=by
   rintro e d' he hdv hmd (⟨c,g,args,hop,hcal,hp0⟩ | ⟨hp0,hq⟩)
   ·exact call_wp (d':=d) (K:=fun s'=>s'=⟨putS (setS s.slots (fun k=>listed.getD k false) 0 (ops.toList.zip ds)) o.dst d,owns p⟩) R hok'.1 hop he hcal hp0 (fun _=>rfl) hdv (fun s' a' w' loc' hs' R'=>by
     subst hs'
     exact next p a' w' loc' hp hpe' (Nat.le_refl _) hmd hbo R')
   ·exact neu_wp (d:=d) (K:=fun s'=>s'=⟨putS (setS s.slots (fun k=>listed.getD k false) 0 (ops.toList.zip ds)) o.dst d,owns p⟩) R hok'.1 he hp0 rfl (fun w' v h=>hdv w' v (by rw[hq];exact h)) (fun s' a' w' loc' hs' R'=>by
     subst hs'
     exact next p a' w' loc' hp hpe' (Nat.le_refl _) hmd hbo R')
  unfold wpOpIn;rw[ho];simp only;obtain⟨hdst,hok''⟩:=hok';have hok':Cs_ B.nt o.dst=true∧True:=⟨hdst,trivial⟩
  cases hgd:o.guard with
  | none =>
   have hw:Region.wanted o (yielded ops a.tmps)=true:=by simp[Region.wanted,hgd]
   rw[if_pos hw];rw[hgd]at hok'';have h1:=Hp_.ext2 hok'' hext (fun x hx=>(hev x hx).symm);exact(run _ d (fun x _=>R.ev x) (fun _ _ h=>h) (h1.mx hbo fun x _=>evmx x) h1)
  | some jw =>
   obtain⟨j,want⟩:=jw;rw[hgd]at hok'';simp only at hok'';obtain⟨g1,g2,d',rfl,g3⟩:=hok'';rw[←hg j want hgd]at g1 g2 g3 next run
   have hgo:=PF_ (want:=want) R g1;have hw:Region.wanted o (yielded ops a.tmps)=gB (BH_ ops ⟨setS s.slots (fun k=>listed.getD k false) 0 (ops.toList.zip ds),owns p⟩ j) want:=by simp only[Region.wanted,hgd];exact hgo
   rw[hw];have hokS:=NE_ (fun x hx=>(hev x hx).symm) g2
   have hstrip:∀x∈o.op.operands,AT_ (lexS s.slots ((ops.toList.zip ds).take i)) x=AT_ (setS s.slots (fun k=>listed.getD k false) 0 (ops.toList.zip ds)) x:=by
    intro x hx;unfold AT_;rw[hev x hx]
   split
   ·rename_i hb;rw[hb]at hokS;have h1:=Hp_.ext2 (g3 hb) hext hstrip
    have hdv:∀(w':World) (v:Value),rd (Ai_ (owns p) loc) (Ab_ (owns p) loc++B.M0) w'.heap d' v→rd (Ai_ (owns p) loc) (Ab_ (owns p) loc++B.M0) w'.heap (.sel (gB (BH_ ops ⟨setS s.slots (fun k=>listed.getD k false) 0 (ops.toList.zip ds),owns p⟩ j) want) d') v:=by
     intro w' v h;rw[hb];simp only[rd];exact⟨fun _=>h,fun h'=>by simp at h'⟩
    rcases h1 with ⟨c,g,args,hop,hcal,hp0⟩ | ⟨hp0,hq⟩
    ·refine(run (AT_ (setS s.slots (fun k=>listed.getD k false) 0 (ops.toList.zip ds))) d' ?_ hdv (by rw[hb];simp[mx,hp0.2.1]) (.inl ⟨c,g,args,hop,hcal,hp0⟩));rw[hop]at hokS ⊢;exact fun x hx=>NF_ (fun x=>R.ev x) _ hokS x (by simpa using hx)
    ·obtain⟨e',q1,q2,q3⟩:=okOp_ok (fun x=>R.ev x) hokS hp0;exact(run e' (nVal P (owns p) e' o.op) q1 (fun w' v h=>hdv w' v (by rw[hq];exact q3 _ _ _ _ h)) (by rw[hb,hq];simpa[mx,lim]using okOp_mx hokS hp0 hbo (fun x _=>evmx x)) (.inr ⟨q2,rfl⟩))
   ·rename_i hb;refine⟨fun _ _=>trivial,?_⟩;refine next p _ _ loc hp hpe' (Nat.le_refl _) (by rw[show gB (BH_ ops ⟨setS s.slots (fun k=>listed.getD k false) 0 (ops.toList.zip ds),owns p⟩ j) want=false by simpa using hb];simp[mx]) hbo ?_
    have hb':gB (BH_ ops ⟨setS s.slots (fun k=>listed.getD k false) 0 (ops.toList.zip ds),owns p⟩ j) want=false:=by simpa using hb
    rw[hb'];exact R.put (Mr_ hdst) (Upd.refl _ _) (by simp[rd])
 ·rintro B G listed a w a' w' t ⟨hsz,hc,p,loc,hp,hpe,hbd,hbo,R⟩ ht hT
  have hgs:=Bd_ (l:=s.slots) (S:=fun k=>listed.getD k false) (t:=t) (ops.toList.zip ds) 0 (fun k z hz hd=>by
   have h1:=(zat _ _ hz).1
   exact absurd hd (ht z.1 (by simpa using Array.mem_of_getElem? h1)))
  obtain⟨B',hG,R'⟩:=hT _ loc hgs R;exact⟨B',hG,hsz,hc,p,loc,hp,hpe,hbd,hbo,R'⟩
theorem MS_ (ow l1 l2:List Nat) {id:Nat} {ops:Array Oper} {Q:Exit→DS→Prop} (hm:P.follows .mixedOrders=true) (hok:Ex_ ow l1 l2 ops=true) (h:CN_ P B.nt ow l1 l2 ops ops.toList 0 ⟨Q .normal⟩ s):DW P B (.region id ops true) Q s:=by
 intro a w loc R;refine wpIn_region_any hm ?_;obtain⟨Inv,h1,h2,h3,_⟩:=NA_ (N:=B.N) ow l1 l2 hok R.st.nd h
 have main:∀(fuel:Nat) (listed:Array Bool) (a:Act) (w:World),(List.range ops.size).countP (fun k=>listed.getD k false)+fuel=ops.size→Inv B listed a w→wpAnyIn (wd B.ro) 0 P .any ops (QQ B Q) fuel listed a w:=by
  intro fuel
  induction fuel with
  | zero =>
   intro listed a w hcnt hI;obtain⟨hsz,h5,h6⟩:=h2 _ _ _ _ hI
   have hallS:∀i,i<ops.size→listed.getD i false=true:=by
    intro i hi;have:=(List.countP_eq_length (p:=fun k=>listed.getD k false) (l:=List.range ops.size)).1 (by simpa using hcnt) i (dP0.2 hi);simpa using this
   refine⟨?_,h6 hallS⟩;rw[List.eq_nil_iff_forall_not_mem];intro i hi;rw[mem_ready]at hi;obtain⟨h0,o,ho,_⟩:=hi;have hlt:i<ops.size:=(aG0.1 ho).1;have h1:=hallS i hlt;have hi':i<listed.size:=by omega
   simp only[aT0,cD0 hi',cC0]at h0 h1;rw[h0]at h1;simp at h1
  | succ fuel ih =>
   intro listed a w hcnt hI;obtain⟨hsz,h5,h6⟩:=h2 _ _ _ _ hI;refine⟨fun hr=>h6 (h5 hr),fun i hi=>h3 B listed a w i _ _ rfl rfl hI hi fun a' w' hI'=>ih _ a' w' ?_ hI'⟩;rw[mem_ready]at hi;obtain⟨h0,o,ho,hpre⟩:=hi;have hlt:i<ops.size:=(aG0.1 ho).1;have hi':i<listed.size:=by omega
   have hSi:listed.getD i false=false:=by
    simp only[aT0,cD0 hi',cC0]at h0 ⊢;exact h0
   have hS':(fun k=>(listed.setIfInBounds i true).getD k false)=fun k=>if k=i then true else listed.getD k false:=by
    funext k
    by_cases hk:k=i
    ·subst hk;simp[hi']
    ·rw[if_neg hk,getD_set_ne false (Ne.symm hk)]
   rw[hS',Uh_ _ i hSi _ hlt];omega
 refine main ops.size _ a _ ?_ (h1 B rfl rfl a w loc R)
 have:(List.range ops.size).countP (fun k=>(Array.replicate ops.size false).getD k false)=0:=by
  rw[List.countP_eq_zero];intro k _;simp[aT0,eJ0]
  split<;>simp
 omega
theorem MQ_ (ow l1 l2:List Nat) {id:Nat} {ops:Array Oper} {Q:Exit→DS→Prop} (h:CN_ P B.nt ow l1 l2 ops ops.toList 0 ⟨Q .normal⟩ s):DW P B (.region id ops false) Q s:=by
 intro a w loc R;refine wpIn_region ?_;rw[List.range_eq_range']
 have ext:∀k (own:List Ent),(own.map (·.id)).Nodup→ExtE (ownM l1 l2 k own) own:=by
  intro k own nd;unfold ownM
  split
  ·intro id e hf;simp[At_]at hf
  ·split
   ·intro id e hf;obtain⟨h1,h2⟩:=Ax_ hf;rw[←h2];exact Bw_ nd (cN0.1 h1).1
   ·split
    ·exact fun _ _ h=>h
    ·intro id e hf;obtain⟨h1,h2⟩:=Ax_ hf;rw[←h2];exact Bw_ nd (cN0.1 h1).1
 have key:∀(m i:Nat) (s:DS) (a:Act) (w:World) (loc:Nat→Loc),Rel B s a w loc→i+m=ops.size→CN_ P B.nt ow l1 l2 ops (ops.toList.drop i) i ⟨Q .normal⟩ s→wpOpsIn (wd B.ro) 0 P ops (QQ B Q) (List.range' i m) a w:=by
  intro m
  induction m with
  | zero =>
   intro i s a w loc R hi h;rw[cP0 (by simp;omega)]at h;simp only[List.range'_zero,wpOpsIn];exact⟨s,loc,h,R⟩
  | succ m ih =>
   intro i s a w loc R hi h;have hlt:i<ops.size:=by omega
   have hdr:ops.toList.drop i=ops[i]::ops.toList.drop (i+1):=by
    rw[aR0 (by simpa using hlt)];simp
   rw[hdr]at h;simp only[List.range'_succ,wpOpsIn,cD0 hlt];have ih':=fun s' a' w' loc' (hk:CN_ P B.nt ow l1 l2 ops (ops.toList.drop (i+1)) (i+1) ⟨Q .normal⟩ s') (R':Rel B s' a' w' loc')=>ih (i+1) s' a' w' loc' R' (by omega) hk
   -- one neutral operation
   have neu:∀(e:Operand→DVal) (d d':DVal),(∀x∈ops[i].op.operands,Rds s loc B.M0 w (e x) (a.eval x))→(∀(w':World) (v:Value),rd (Ai_ s.own loc) (Ab_ s.own loc++B.M0) w'.heap d' v→rd (Ai_ s.own loc) (Ab_ s.own loc++B.M0) w'.heap d v) →
     Cs_ B.nt ops[i].dst=true→Hp_ P ops[i] (ownM l1 l2 i s.own) e d'→CN_ P B.nt ow l1 l2 ops (ops.toList.drop (i+1)) (i+1) ⟨Q .normal⟩ ⟨putS s.slots ops[i].dst d,s.own⟩→ops[i].wpIn (wd B.ro) 0 P a w (wpOpsIn (wd B.ro) 0 P ops (QQ B Q) (List.range' (i+1) m)) (QQ B Q):=by
    intro e d d' he hdv hd h1 hk
    rcases h1.ext (ext i s.own R.st.nd) (fun x _=>rfl)with ⟨c,g,args,hop,hcal,hp0⟩ | ⟨hp0,hq⟩
    ·exact call_wp (d':=d) (K:=fun s'=>s'=⟨putS s.slots ops[i].dst d,s.own⟩) R hd hop he hcal hp0 (fun _=>rfl) hdv (fun s' a' w' loc' hs' R'=>by subst hs';exact ih' _ a' w' loc' hk R')
    ·exact neu_wp (d:=d) (K:=fun s'=>s'=⟨putS s.slots ops[i].dst d,s.own⟩) R hd he hp0 rfl (fun w' v h=>hdv w' v (by rw[hq];exact h)) (fun s' a' w' loc' hs' R'=>by subst hs';exact ih' _ a' w' loc' hk R')
   simp only[CN_]at h
   split at h
   ·rename_i hg;have hw:Region.wanted ops[i] (yielded ops a.tmps)=true:=by simp[Region.wanted,hg]
    rw[if_pos hw]
    split at h
    ·obtain⟨hd,_,h⟩:=h;obtain⟨d,own',h1,h2⟩:=IT_ h (lim B s);exact eo_wp (R:=R) (Nat.le_refl _) hd (fun x _=>R.ev x) (fun x _=>Si_ _ x) h1 fun a' w' loc' R'=>ih' _ a' w' loc' h2 R'
    ·obtain⟨hd,h⟩:=h
     split at h
     ·rename_i c hop
      split at h
      ·rename_i g args hc;obtain⟨d,h1,h2⟩:=MB_ h;exact neu _ d d (fun x _=>R.ev x) (fun _ _ h=>h) hd (.inl ⟨c,g,args,hop,hc,h1⟩) h2
      ·exact neu _ _ _ (fun x _=>R.ev x) (fun _ _ h=>h) hd (.inr ⟨h.1,rfl⟩) h.2
     ·exact neu _ _ _ (fun x _=>R.ev x) (fun _ _ h=>h) hd (.inr ⟨h.1,rfl⟩) h.2
   ·rename_i j want hg;obtain⟨hgo,h⟩:=h;have hgo':=PF_ (want:=want) R hgo;have hw:Region.wanted ops[i] (yielded ops a.tmps)=gB (BH_ ops s j) want:=by simp only[Region.wanted,hg];exact hgo'
    rw[hw]
    split at h
    ·rename_i heff;obtain⟨hd,_,hok,h⟩:=h
     cases hb:gB (BH_ ops s j) want with
     | true =>
      rw[if_pos rfl];rw[hb]at h hok;obtain⟨d0,own',h1,h2⟩:=IT_ (K:=Wg_ _) h (lim B s);have hsel:=OW_ (Sn_ heff hok)
      exact eo_wp (R:=R) (Nat.le_refl _) hd (fun x hx=>NF_ (fun x=>R.ev x) _ (Sn_ heff hok) x (by simpa using hx)) (fun x hx=>by
       unfold AT_;rw[Ov_ (hsel x (by simpa using hx))]
       exact Si_ _ x) h1 fun a' w' loc' R'=>ih' _ a' w' loc' h2 R'.selTrue
     | false =>
      rw[if_neg (by simp)];rw[hb]at h;exact⟨fun _ _=>trivial,ih' _ _ _ loc h (R.put (Mr_ hd) (Upd.refl _ _) (by simp[rd]))⟩
    obtain⟨hd,hok,h⟩:=h
    have mk:∀d',(gB (BH_ ops s j) want=true→Hp_ P ops[i] (ownM l1 l2 i s.own) (AT_ s.slots) d')→CN_ P B.nt ow l1 l2 ops (ops.toList.drop (i+1)) (i+1) ⟨Q .normal⟩ ⟨putS s.slots ops[i].dst (.sel (gB (BH_ ops s j) want) d'),s.own⟩ →
      if gB (BH_ ops s j) want=true then ops[i].wpIn (wd B.ro) 0 P a w (wpOpsIn (wd B.ro) 0 P ops (QQ B Q) (List.range' (i+1) m)) (QQ B Q)else (∀f,ops[i].about P w a.eval=some f→(wd B.ro).fn f)∧wpOpsIn (wd B.ro) 0 P ops (QQ B Q) (List.range' (i+1) m) (a.put ops[i].dst Go.undef) w:=by
     intro d' h1 hk
     cases hb:gB (BH_ ops s j) want with
     | true =>
      rw[if_pos rfl];rw[hb]at hok h1 hk
      have hdv:∀(w':World) (d'':DVal) (v:Value),rd (Ai_ s.own loc) (Ab_ s.own loc++B.M0) w'.heap d'' v→rd (Ai_ s.own loc) (Ab_ s.own loc++B.M0) w'.heap (.sel true d'') v:=by
       intro w' d'' v h;simp only[rd];exact⟨fun _=>h,fun h'=>by simp at h'⟩
      rcases h1 rfl with ⟨c,g,args,hop,hcal,hp0⟩ | ⟨hp0,hq⟩
      ·refine neu (AT_ s.slots) (.sel true d') d' ?_ (fun w' v h=>hdv w' _ v h) hd (.inl ⟨c,g,args,hop,hcal,hp0⟩) hk;rw[hop]at hok ⊢;exact fun x hx=>NF_ (fun x=>R.ev x) _ hok x (by simpa using hx)
      ·obtain⟨e',q1,q2,q3⟩:=okOp_ok (fun x=>R.ev x) hok hp0;exact neu e' (.sel true d') (nVal P (ownM l1 l2 i s.own) e' ops[i].op) q1 (fun w' v h=>hdv w' _ v (by rw[hq];exact q3 _ _ _ _ h)) hd (.inr ⟨q2,rfl⟩) hk
     | false =>
      rw[if_neg (by simp)];rw[hb]at hk;exact⟨fun _ _=>trivial,ih' _ _ _ loc hk (R.put (Mr_ hd) (Upd.refl _ _) (by simp[rd]))⟩
    split at h
    ·rename_i c hop
     split at h
     ·rename_i g args hc;obtain⟨d,h1,h2⟩:=SB_ h;exact mk d (fun hq=> .inl ⟨c,g,args,hop,hc,h1 hq⟩) h2
     ·exact mk _ (fun hq=> .inr ⟨h.1 hq,rfl⟩) h.2
    ·exact mk _ (fun hq=> .inr ⟨h.1 hq,rfl⟩) h.2
 exact key ops.size 0 s a w loc R (by omega) (by simpa using h)
end
def frz1 (id r:Nat) (obj:DObj):DVal→DVal
 | .osl id' r'=>if id'=id∧r'=r then (match obj with | .row _ k bs es=> .sl k bs es | _=> .osl id' r')else .osl id' r'
 | .bx id' r' off=>if id'=id∧r'=r then (match obj with | .box cs=> .ref (cs.drop off) | _=> .bx id' r' off)else .bx id' r' off
 | .vw id' r' k i0 i n=>if id'=id∧r'=r then (match obj with | .row _ k' bs es=>if k'=k∧i+n≤es.length then .sl k bs ((es.drop i).take n)else .any | _=> .any)else .vw id' r' k i0 i n
 | .omp id' r'=>if id'=id∧r'=r then (match obj with | .map ks vs=> .mp ks vs | _=> .omp id' r')else .omp id' r'
 | d=>d
def frz2 (id r:Nat) (obj:DObj):DVal→DVal
 | .fn f us cs=> .fn f us (cs.map (frz1 id r obj))
 | d=>frz1 id r obj d
def frzD (id r:Nat) (obj:DObj):DVal→DVal
 | .agg cs=> .agg (cs.map (frz2 id r obj))
 | d=>frz2 id r obj d
def frzO (id r:Nat) (obj:DObj):DObj→DObj
 | .box cs=> .box (cs.map (frz2 id r obj))
 | o=>o
def frzE (id r:Nat) (obj:DObj) (own:List Ent):List Ent:=own.map fun e=>⟨e.id,e.r,frzO id r obj e.obj⟩
def mapS (f:DVal→DVal) (l:List (Nat×DVal)):List (Nat×DVal):=l.map fun p=>(p.1,f p.2)
def freezeS (s:DS) (id:Nat):DS:=match At_ s.own id with
 | some e=>⟨mapS (frzD id e.r e.obj) s.slots,frzE id e.r e.obj (delE s.own id)⟩
 | none=>s
def freezeL (s:DS):List Nat→DS
 | []=>s
 | id::ids=>freezeL (freezeS s id) ids
theorem Sb_ (f:DVal→DVal) (hf:f .any= .any):∀(l:List (Nat×DVal)) (i:Nat),getS (mapS f l) i=f (getS l i)
 | [],i=>by simp[mapS,getS,hf]
 | (j,d)::l,i=>by
  have:=Sb_ f hf l i;simp only[mapS,List.map_cons,getS]at this ⊢
  split
  ·rfl
  ·exact this
@[simp] theorem getS_frz (id r:Nat) (obj:DObj) (l:List (Nat×DVal)) (i:Nat):getS (mapS (frzD id r obj) l) i=frzD id r obj (getS l i):=Sb_ _ rfl _ _
section
variable {B : Base} {s : DS} {a : Act} {w : World} {loc : Nat → Loc}
theorem Sf_ (f:Ent→Ent) (hid:∀e,(f e).id=e.id):∀(own:List Ent) (id:Nat),At_ (own.map f) id=(At_ own id).map f
 | [],id=>rfl
 | e::t,id=>by
  simp only[List.map_cons,At_,hid]
  split
  ·rfl
  ·exact Sf_ f hid t id
theorem NS_ (id r:Nat) (obj:DObj) (own:List Ent) (loc:Nat→Loc):Ai_ (frzE id r obj own) loc=Ai_ own loc:=by
 funext i k
 unfold Ai_ frzE;rw[Sf_ (fun e=>⟨e.id,e.r,frzO id r obj e.obj⟩) (fun _=>rfl)];cases At_ own i<;>rfl
theorem CY_ (id r:Nat) (obj:DObj) (own:List Ent) (loc:Nat→Loc):Ab_ (frzE id r obj own) loc=Ab_ own loc:=by
 unfold Ab_ frzE
 induction own with
 | nil=>rfl
 | cons e t ih =>
  rw[List.map_cons,cM0,cM0,ih]
theorem Rel.freeze {id:Nat} {e:Ent} (R:Rel B s a w loc) (he:At_ s.own id=some e):Rel B ⟨mapS (frzD id e.r e.obj) s.slots,frzE id e.r e.obj (delE s.own id)⟩ a w loc:=by
 obtain⟨hmem,hid⟩:=Ax_ he;have hsub:∀x∈delE s.own id,x∈s.own:=fun x hx=>(Bl_.1 hx).1
 have hhot:∀b∈Ab_ (delE s.own id) loc,b∈Ab_ s.own loc:=by
  intro b hb;obtain⟨x,hx,h1⟩:=bR0.1 hb;exact bR0.2 ⟨x,hsub x hx,h1⟩
 have hcur:∀i r l,Ai_ (delE s.own id) loc i r=some l→Ai_ s.own loc i r=some l:=by
  intro i r l h;obtain⟨x,hx,rfl,rfl,rfl⟩:=Bm_ h;exact AA_ R.st.nd (hsub x hx)
 have W:∀n,Weak (Ai_ s.own loc) (Ai_ (delE s.own id) loc) (Ab_ s.own loc++B.M0) (Ab_ (delE s.own id) loc++B.M0) w.heap w.heap n:=fun n =>
  ⟨fun id r l _ hl=>hcur id r l hl,fun b o _ (_:isD o=true) ho=>ho,fun b o hb (_:isD o=true) _ hm'=>hb (by
   rcases aI0.1 hm' with h | h
   ·exact aM0 _ (hhot b h)
   ·exact aP0 _ h)⟩
 have hself:Ai_ s.own loc id e.r=some (loc id):=by rw[←hid];exact AA_ R.st.nd hmem
 have hout:∀b,b∈(loc e.id).blks→b∉Ab_ (delE s.own id) loc++B.M0:=by
  intro b hb hm'
  rcases aI0.1 hm' with h | h
  ·obtain⟨x,hx,hne,h1⟩:=PB_ h;have:=Fo_ R.st.bl x hx e hmem b h1 hb;subst this;exact hne hid
  ·exact R.st.ap b (AO_ hmem hb) h
 have hobj:=R.st.ok e hmem
 have k1:∀d v,rd (Ai_ s.own loc) (Ab_ s.own loc++B.M0) w.heap d v→rd (Ai_ (delE s.own id) loc) (Ab_ (delE s.own id) loc++B.M0) w.heap (frz1 id e.r e.obj d) v:=by
  intro d v h;have hw:=BR_ (W _) d v (Nat.le_refl _) h;cases d<;>simp only[frz1]<;>try exact hw
  ·split
   ·rename_i hc;obtain⟨rfl,rfl⟩:=hc
    cases hob:e.obj with
    | row et k bs es=>exact hw
    | map ks vs=>exact hw
    | abs A=>exact hw
    | box cs =>
     rw[hob]at hobj;obtain⟨b,arr,ty,h1,h2,h3,h4⟩:=hobj;simp only[rd]at h;obtain⟨b',hb',hv⟩:=h _ hself;rw[←hid,h1]at hb';simp only[bH0,and_true]at hb';subst hb';simp only[rd];refine⟨b,_,arr,ty,(0,0),hv,hout b (by rw[h1];simp),h2,?_⟩;have:=fun n=>EW_ n cs arr 0 (Eh_ (W _) cs arr 0 (Nat.le_refl _) h4)
     simpa using this _
   ·exact hw
  ·split
   ·rename_i hc;obtain⟨rfl,rfl⟩:=hc
    cases hob:e.obj with
    | box cs=>exact hw
    | map ks vs=>exact hw
    | abs A=>exact hw
    | row et k bs es =>
     rw[hob]at hobj;obtain⟨hbs,hobj⟩:=hobj;simp only[rd]at h;have hv:=h _ hself;rw[←hid]at hv;simp only[rd]
     rcases hobj with ⟨rfl,_,h2⟩ | ⟨b,arr,cap,h1,h2,h3,h4,h5,h6,h7⟩
     ·exact⟨none,0,by rw[hv,h2];rfl,by simp,by unfold maxLen;omega,by simp,.inl ⟨rfl,fun _=>rfl⟩⟩
     ·exact⟨_,cap,by rw[hv,h2],h4,h5,hbs,.inr ⟨b,0,arr,et,(0,0),rfl,hout b (by rw[h1];simp),h3,BT_ (W _) k es arr 0 (Nat.le_refl _) h7⟩⟩
   ·exact hw
  ·rename_i id' r' k0 bs0 i n
   split
   ·rename_i hc;obtain⟨rfl,rfl⟩:=hc
    cases hob:e.obj with
    | box cs=>simp[rd]
    | map ks vs=>simp[rd]
    | abs A=>simp[rd]
    | row et k bs es =>
     simp only
     split
     ·rename_i hb;obtain⟨rfl,hb⟩:=hb;rw[hob]at hobj;obtain⟨hbs,hobj⟩:=hobj;simp only[rd]at h;obtain⟨a,cap,rfl,g1,g2,g3,g4,_⟩:=h _ hself;have hlen:((es.drop i).take n).length=n:=by simp;omega
      simp only[rd];refine⟨a,cap,by rw[hlen],by omega,g2,by rw[hlen];exact Nat.le_trans (aO0 _ (by omega:n≤es.length)) hbs,?_⟩
      by_cases h0:n=0
      ·subst h0;exact .inl ⟨by simp,g3⟩
      ·obtain⟨b,hb1,rfl⟩:=g4 (by omega);rw[←hid]at hb1
       rcases hobj with ⟨rfl,_⟩ | ⟨b',arr,cap',h1,h2,h3,h4,h5,h6,h7⟩
       ·simp at hb;omega
       ·rw[h1]at hb1;simp only[bH0,and_true]at hb1;subst hb1;refine .inr ⟨b',i*k,arr,et,(0,0),rfl,hout b' (by rw[h1];simp),h3,FC_ _ _ _ _ fun q cs hq=> ?_⟩;rw[eW0]at hq
        split at hq
        ·rw[cT0]at hq;have:=DB_ k es arr 0 (i+q) cs (BT_ (W _) k es arr 0 (Nat.le_refl _) h7) hq
         rwa[bX0,bT0]at this
        ·simp at hq
     ·simp[rd]
   ·exact hw
  ·split
   ·rename_i hc;obtain⟨rfl,rfl⟩:=hc
    cases hob:e.obj with
    | box cs=>exact hw
    | row et k bs es=>exact hw
    | abs A=>exact hw
    | map ks vs =>
     rw[hob]at hobj;obtain⟨b,es,clk,h1,h2,h3,h4,h5⟩:=hobj;simp only[rd]at h;obtain⟨b',hb',hv⟩:=h _ hself;rw[←hid,h1]at hb';simp only[bH0,and_true]at hb';subst hb';simp only[rd];exact⟨b,es,clk,hv,hout b (by rw[h1];simp),h2,h3,AG_ (W _) ks _ (Nat.le_refl _) h4,AG_ (W _) vs _ (Nat.le_refl _) h5⟩
   ·exact hw
 have kV:∀(f:DVal→DVal),(∀d v,rd (Ai_ s.own loc) (Ab_ s.own loc++B.M0) w.heap d v→rd (Ai_ (delE s.own id) loc) (Ab_ (delE s.own id) loc++B.M0) w.heap (f d) v) →
   ∀ds vs,rdV (Ai_ s.own loc) (Ab_ s.own loc++B.M0) w.heap ds vs→rdV (Ai_ (delE s.own id) loc) (Ab_ (delE s.own id) loc++B.M0) w.heap (ds.map f) vs:=by
  intro f hf ds
  induction ds with
  | nil=>intro vs h;simpa[rdV]using h
  | cons d ds ih =>
   intro vs h;simp only[rdV]at h;obtain⟨v,r,rfl,h1,h2⟩:=h;simp only[List.map_cons,rdV];exact⟨v,r,rfl,hf d v h1,ih r h2⟩
 have k2:∀d v,rd (Ai_ s.own loc) (Ab_ s.own loc++B.M0) w.heap d v→rd (Ai_ (delE s.own id) loc) (Ab_ (delE s.own id) loc++B.M0) w.heap (frz2 id e.r e.obj d) v:=by
  intro d v h;cases d<;>simp only[frz2]<;>try exact k1 _ v h
  rename_i f us cs;simp only[rd]at h ⊢;obtain⟨us',cs',h1,h2,h3⟩:=h;exact⟨us',cs',h1,AG_ (W _) us _ (Nat.le_refl _) h2,kV _ k1 cs _ h3⟩
 have k3:∀d v,rd (Ai_ s.own loc) (Ab_ s.own loc++B.M0) w.heap d v→rd (Ai_ (delE s.own id) loc) (Ab_ (delE s.own id) loc++B.M0) w.heap (frzD id e.r e.obj d) v:=by
  intro d v h;cases d<;>simp only[frzD]<;>try exact k2 _ v h
  rename_i cs;simp only[rd]at h ⊢;obtain⟨us,h1,h2⟩:=h;exact⟨us,h1,kV _ k2 cs _ h2⟩
 have kC:∀(ds:List DVal) (arr:Array Value) (o:Nat),rdC (Ai_ s.own loc) (Ab_ s.own loc++B.M0) w.heap ds arr o→rdC (Ai_ (delE s.own id) loc) (Ab_ (delE s.own id) loc++B.M0) w.heap (ds.map (frz2 id e.r e.obj)) arr o:=by
  intro ds
  induction ds with
  | nil=>intro arr o _;simp[rdC]
  | cons d ds ih =>
   intro arr o h;simp only[rdC,List.map_cons]at h ⊢;obtain⟨⟨v,h1,h1',h2⟩,h3⟩:=h;exact⟨⟨v,h1,h1',k2 d v h2⟩,ih arr _ h3⟩
 refine⟨⟨?_,?_,?_,?_,?_⟩,R.upd,?_,?_,?_,R.nt,R.df.keep rfl (Upd.refl [] w) (by simp) (fun b hb=> .inl (by
  simp only[CY_]at hb
  rcases aI0.1 hb with h | h
  ·exact aM0 _ (hhot b h)
  ·exact aP0 _ h))⟩
 ·simp only[frzE,cB0];exact CV_ R.st.nd
 ·simp only[CY_];exact CI_ R.st.bl _ (CV_ R.st.nd) hsub
 ·simp only[CY_];exact fun b hb=>R.st.ap b (hhot b hb)
 ·simp only[CY_];intro b hb
  rcases aI0.1 hb with h | h
  ·exact R.st.lt b (aM0 _ (hhot b h))
  ·exact R.st.lt b (aP0 _ h)
 ·intro x hx;simp only[CY_,NS_];obtain⟨y,hy,rfl⟩:=aV0.1 hx;have hk:=R.st.ok y (hsub y hy);simp only
  cases hob:y.obj with
  | box cs =>
   rw[hob]at hk;obtain⟨b,arr,ty,h1,h2,h3,h4⟩:=hk;exact⟨b,arr,ty,h1,h2,by simp[h3],kC cs arr 0 h4⟩
  | row et k bs es=>rw[hob]at hk;exact AN_ (W (mxO (.row et k bs es))) (Nat.le_refl _) (fun _ _ _ h=>h) hk
  | map ks vs=>rw[hob]at hk;exact AN_ (W (mxO (.map ks vs))) (Nat.le_refl _) (fun _ _ _ h=>h) hk
  | abs A=>rw[hob]at hk;exact AN_ (W (mxO (.abs A))) (Nat.le_refl _) (fun _ _ _ h=>h) hk
 ·simp only[CY_];exact fun b hb=>R.new b (hhot b hb)
 ·intro x hx hr;obtain⟨y,hy,rfl⟩:=aV0.1 hx;exact R.ver y (hsub y hy) hr
 ·intro i;simp only[CY_,NS_,getS_frz];exact k3 _ _ (R.sl i)
theorem Sub.refl (s:DS):Sub B s s:=fun _ _ loc R=>⟨loc,R⟩
theorem Sub.trans {s' s'':DS} (h:Sub B s s') (k:Sub B s' s''):Sub B s s'':=fun a w loc R =>
 let ⟨loc',R'⟩:=h a w loc R;k a w loc' R'
theorem Sub.freezeS (s:DS) (id:Nat):Sub B s (freezeS s id):=by
 intro a w loc R;unfold Dm.freezeS
 split
 ·rename_i e he;exact⟨loc,R.freeze he⟩
 ·exact⟨loc,R⟩
theorem Sub.freezeL : ∀(ids:List Nat) (s:DS),Sub B s (freezeL s ids)
 | [],s=>Sub.refl s
 | id::ids,s=>(Sub.freezeS s id).trans (Sub.freezeL ids _)
theorem Sub.rel {s':DS} {Q:Exit→DS→Prop} {e:Exit} (h:Sub B s s') (hq:Q e s') {a:Act} {w:World} {loc:Nat→Loc} (R:Rel B s a w loc):QQ B Q e a w :=
 let ⟨loc',R'⟩:=h a w loc R;⟨s',loc',hq,R'⟩
variable {P : Program}
structure RAnn where
 id:Nat
 fz:List Nat
 l1:List Nat
 l2:List Nat
def kQ (Q:Exit→DS→Prop) (fz:List Nat):Cont:=⟨fun s'=>Q .normal (freezeL s' fz)⟩
theorem kQ_f (Q:Exit→DS→Prop) (fz:List Nat) (s':DS):(kQ Q fz).f s'=Q .normal (freezeL s' fz):=id rfl
def JC_ : List RAnn→Nat→RAnn
 | [],id=>⟨id,[],[],[]⟩
 | a::r,id=>if a.id=id then a else JC_ r id
structure Ann where
 ow:List Nat
 rs:List RAnn
theorem DW_r (A:Ann) {id:Nat} {ops:Array Oper} {draw:Bool} {Q:Exit→DS→Prop} (hm:P.follows .mixedOrders=true) (hok:(!draw||Ex_ A.ow (JC_ A.rs id).l1 (JC_ A.rs id).l2 ops)=true)
  (h:CN_ P B.nt A.ow (JC_ A.rs id).l1 (JC_ A.rs id).l2 ops ops.toList 0 (kQ Q (JC_ A.rs id).fz) s):DW P B (.region id ops draw) Q s:=by
 have fin:∀{c:Code},DW P B c (fun e s'=>match e with | .normal=>Q .normal (freezeL s' (JC_ A.rs id).fz) | e=>Q e s') s→DW P B c Q s:=by
  intro c h a w loc R;refine wpIn_mono (h a w loc R) ?_;rintro e a' w' ⟨s',loc',hq,R'⟩
  cases e<;>first
   | exact(Sub.freezeL _ s').rel hq R'
   | exact⟨s',loc',hq,R'⟩
 cases draw with
 | false=>exact fin (MQ_ _ _ _ h)
 | true=>exact fin (MS_ _ _ _ hm (by simpa using hok) h)
end
def DretF (P:Program) (fn:Func) (ids:List Nat) (d:DVal):Exit→DS→Prop
 | .normal,s=>match resD P (freezeL s ids) fn.results.toList with | some d0=>wk d0 d | none=>False
 | .ret,s=>match resD P (freezeL s ids) fn.results.toList with | some d0=>wk d0 d | none=>False
 | _,_=>False
theorem Ac_.wk {P:Program} {f:FuncId} {args:List DVal} {d d':DVal} (h:Ac_ P f args d) (hw:wk d d') (hd:mx d'=0):Ac_ P f args d' :=
 ⟨h.1,hd,fun cur M w vs hM hr=>(h.2.2 cur M w vs hM hr).mono fun e w' ⟨v,h1,h2,h3⟩=>⟨v,h1,h2,rd_wk hw h3⟩⟩
theorem Rg_ {cur:Cur} {M:List Nat} {h:Array Obj}:∀(a b:List DVal) (vs:List Value),rdV cur M h (a++b) vs→∃us ws,vs=us++ws∧rdV cur M h a us∧rdV cur M h b ws
 | [],b,vs,hr=>⟨[],vs,rfl,by simp[rdV],hr⟩
 | d::a,b,vs,hr=>by
  simp only[List.cons_append,rdV]at hr;obtain⟨v,r,rfl,h1,h2⟩:=hr;obtain⟨us,ws,rfl,h3,h4⟩:=Rg_ a b r h2;exact⟨v::us,ws,rfl,by simp only[rdV];exact⟨v,us,rfl,h1,h3⟩,h4⟩
theorem Qv_ {P:Program} {f:FuncId} (pre:List DVal) {post:List DVal} {k bs:Nat} {d:DVal} (h1:Ac_ P f (pre++ .nilsl::post) d) (h2:Ac_ P f (pre++ .esl::post) d):Ac_ P f (pre++ .sl k bs []::post) d:=by
 refine⟨h1.1,h1.2.1,fun cur M w vs hM hr=> ?_⟩;obtain⟨us,ws,hvs,h3,h4⟩:=Rg_ _ _ _ hr;simp only[rdV]at h4;obtain⟨v,r,rfl,h5,h6⟩:=h4;simp only[rd]at h5;obtain⟨a,cap,rfl,_,hc,_,h7⟩:=h5
 cases a with
 | none =>
  have:cap=0:=by
   rcases h7 with h7 | ⟨b,off,arr,ty,fz,h8,_⟩
   ·exact h7.2 rfl
   ·simp at h8
  subst this;refine h1.2.2 cur M w vs hM ?_;rw[hvs];exact Bz_ _ _ _ _ h3 (by simp only[rdV];exact⟨_,r,rfl,by simp[rd],h6⟩)
 | some ad =>
  refine h2.2.2 cur M w vs hM ?_;rw[hvs];exact Bz_ _ _ _ _ h3 (by simp only[rdV];exact⟨_,r,rfl,by simp only[rd];exact⟨ad,cap,rfl,hc⟩,h6⟩)
theorem Gz_ (ids:List Nat) {P:Program} {f:FuncId} {fn:Func} {c:Code} {args:List DVal} {d:DVal} (hf:P.funcs[f]? =some fn) (hb:fn.body=some c) (hen:Ci_ P f) (hnt:args.length≤fn.ntmps)
  (hd:mx d=0) (h:wfL args→∀B:Base,B.nt=fn.ntmps∧B.ro=none→DW P B c (DretF P fn ids d) ⟨argS args 0,[]⟩):Ac_ P f args d:=by
 refine SS_ hf hb hen hnt hd fun hwf B hB=> ?_
 intro a w loc R;refine wpIn_mono (h hwf B hB a w loc R) ?_;rintro e a' w' ⟨s',loc',hq,R'⟩
 have key:(match resD P (freezeL s' ids) fn.results.toList with | some d0=>wk d0 d | none=>False)→∃s'' loc'',(∃d0,resD P s'' fn.results.toList=some d0∧∀cur M h v,rd cur M h d0 v→rd cur M h d v)∧Rel B s'' a' w' loc'':=by
  intro hq;obtain⟨loc'',R''⟩:=Sub.freezeL ids s' a' w' loc' R'
  split at hq
  ·rename_i d0 hd0;exact⟨_,loc'',⟨d0,hd0,fun cur M h v hr=>rd_wk hq hr⟩,R''⟩
  ·exact hq.elim
 cases e<;>simp only[DretF]at hq<;>first
  | (obtain⟨s'',loc'',h1,h2⟩:=key hq;exact⟨s'',loc'',h1,h2⟩)
  | exact hq.elim
def DretS (P:Program) (fn:Func) (ids:List Nat) (ρ:List (Nat×Nat×Nat)) (d:DVal) (own':List Ent):Exit→DS→Prop
 | .normal,s=>match resD P (freezeL s ids) fn.results.toList with
  | some d0=>okD d0∧wk (renD (BX_ (freezeL s ids).own ρ) d0) d∧outE (freezeL s ids).own (BX_ (freezeL s ids).own ρ) ρ=some own'∧OS_ (freezeL s ids).own ρ
  | none=>False
 | .ret,s=>match resD P (freezeL s ids) fn.results.toList with
  | some d0=>okD d0∧wk (renD (BX_ (freezeL s ids).own ρ) d0) d∧outE (freezeL s ids).own (BX_ (freezeL s ids).own ρ) ρ=some own'∧OS_ (freezeL s ids).own ρ
  | none=>False
 | _,_=>False
section
variable {B : Base} {s : DS} {a : Act} {w : World} {loc : Nat → Loc}
theorem Vg_ (a:Act) (i:Nat) (hi:i<a.tmps.size):a.put (some i) (a.tmps.getD i Go.undef)=a:=by
 obtain⟨tmps,defers⟩:=a;unfold Act.put;simp only
 congr 1
 apply Array.ext
 ·simp
 ·intro j h1 h2;rw[Array.getElem_setIfInBounds h2]
  split
  ·rename_i h;subst h;simp[aT0,cD0 h2]
  ·rfl
theorem Rel.adopt {id r et k bs:Nat} {dst:Option Nat} {v:Value} {d:DVal} (R:Rel B s a w loc) (hr:lim B s≤r) (hdst:∀i,dst=some i→i<B.nt)
  (hd:rd (Ai_ (upE s.own id r (.row et k bs [])) (upL loc id ⟨[],.slice none 0 0⟩)) (Ab_ (upE s.own id r (.row et k bs [])) (upL loc id ⟨[],.slice none 0 0⟩)++B.M0) w.heap d v) :
  Rel B ⟨putS s.slots dst d,upE s.own id r (.row et k bs [])⟩ (a.put dst v) w (upL loc id ⟨[],.slice none 0 0⟩) :=
 R.up (L:=⟨[],.slice none 0 0⟩) (n:=r) hr hdst (Upd.refl _ _) (fun b hb _=>rfl) (fun b hb=>by simp at hb) (.inl (Nat.le_refl _)) ⟨by simp,.inl ⟨rfl,rfl,rfl⟩⟩ hd
theorem Sub.adoptSlot (i id et k bs:Nat) (h:getS s.slots i= .nilsl) (hi:i<B.nt):Sub B s ⟨(i,.osl id (lim B s))::s.slots,upE s.own id (lim B s) (.row et k bs [])⟩:=by
 intro a w loc R;have hs:=R.sl i;rw[h]at hs;simp only[rd]at hs
 have:=R.adopt (id:=id) (et:=et) (k:=k) (bs:=bs) (dst:=some i) (v:=a.tmps.getD i Go.undef) (d:= .osl id (lim B s)) (Nat.le_refl _) (fun j hj=>by simp only[aA0]at hj;omega) (by
  simp only[rd];intro l hl;rw[CL_]at hl;simp only[aA0]at hl
  rw[←hl,hs])
 rw[Vg_ a i (by rw[R.nt];exact hi)]at this;exact⟨_,this⟩
theorem Rel.reBox {id:Nat} {e:Ent} {cs cs':List DVal} (R:Rel B s a w loc) (he:At_ s.own id=some e) (hob:e.obj= .box cs) (hlen:cs'.length=cs.length)
  (h:∀arr,rdC (cu s loc) (hm s loc B.M0) w.heap cs arr 0→rdC (cu s loc) (hm s loc B.M0) w.heap cs' arr 0):∃loc',Rel B ⟨s.slots,upE s.own id e.r (.box cs')⟩ a w loc':=by
 obtain⟨hmem,hid⟩:=Ax_ he;have hcur:Ai_ s.own loc id e.r=some (loc id):=by rw[←hid];exact AA_ R.st.nd hmem
 have hk:=R.st.ok e hmem;rw[hob]at hk;obtain⟨b,arr,ty,h1,h2,h3,h4⟩:=hk;rw[hid]at h1
 have hL:∀b0,b0∈(loc id).blks→b0<w.heap.size∧((∃e∈s.own,e.id=id∧b0∈(loc id).blks)∨w.heap.size≤b0):=by
  intro b0 hb0;refine⟨?_,.inl ⟨e,hmem,hid,hb0⟩⟩;rw[h1]at hb0;simp only[aE0]at hb0;subst hb0;exact(aG0.1 h2).1
 have hloc:upL loc id (loc id)=loc:=by
  funext j
  unfold upL
  split
  ·rename_i hj;rw[hj]
  ·rfl
 have W:Weak (cu s loc) (Ai_ (upE s.own id e.r (.box cs')) (upL loc id (loc id))) (hm s loc B.M0) (Ab_ (upE s.own id e.r (.box cs')) (upL loc id (loc id))++B.M0) w.heap w.heap (max (lim B s) (mxL cs')):=by
  refine DP_ (Upd.refl _ w) ?_ ?_
  ·intro b hb;obtain⟨x,hx,h1'⟩:=bR0.1 hb;rw[hloc]at h1'
   rcases aK0.1 hx with rfl | hx
   ·exact .inl (AO_ hmem (by rw[hid];exact h1'))
   ·exact .inl (AO_ (Bl_.1 hx).1 h1')
  ·intro x hx _;rw[hloc]
   rcases aK0.1 hx with rfl | hx
   ·exact hcur
   ·exact AA_ R.st.nd (Bl_.1 hx).1
 have R':=R.up (hLn:=by rw[h1];simp) (w':=w) (id:=id) (r:=e.r) (obj:= .box cs') (L:=loc id) (v:=Go.undef) (d:= .any) (dst:=none) (n:=lim B s) (Nat.le_refl _) (fun i hi=>by simp at hi) (Upd.refl _ _) (fun _ _ _=>rfl) hL (.inr hcur)
  ⟨b,arr,ty,h1,h2,by rw[hlen];exact h3,Eh_ W cs' arr 0 (by omega) (h arr h4)⟩ (by simp[rd])
 exact⟨_,R'⟩
theorem Tv_ {cur:Cur} {M:List Nat} {H:Array Obj} {d':DVal}:∀(cs:List DVal) (arr:Array Value) (o c:Nat),(∀v,rd cur M H (cs.getD c .any) v→rd cur M H d' v)→rdC cur M H cs arr o→rdC cur M H (cs.set c d') arr o
 | [],_,_,_,_,h=>by simpa using h
 | d::cs,arr,o,0,hd,h=>by
  simp only[rdC,eK0]at h ⊢;obtain⟨⟨v,h1,h2,h3⟩,h4⟩:=h;exact⟨⟨v,h1,h2,hd v (by simpa using h3)⟩,h4⟩
 | d::cs,arr,o,c+1,hd,h=>by
  simp only[rdC,List.set_cons_succ]at h ⊢;exact⟨h.1,Tv_ cs arr (o+1) c (by simpa using hd) h.2⟩
theorem Sub.adoptCell (bid c id et k bs:Nat) {rb:Nat} {cs:List DVal} (h:At_ s.own bid=some ⟨bid,rb,.box cs⟩) (hc:cs.getD c .any= .nilsl) (hne:bid≠id) :
  Sub B s ⟨s.slots,upE (upE s.own id (lim B s) (.row et k bs [])) bid rb (.box (cs.set c (.osl id (lim B s))))⟩:=by
 intro a w loc R;have R1:=R.adopt (id:=id) (et:=et) (k:=k) (bs:=bs) (dst:=none) (v:=Go.undef) (d:= .any) (Nat.le_refl _) (fun i hi=>by simp at hi) (by simp[rd])
 have hf:At_ (upE s.own id (lim B s) (.row et k bs [])) bid=some ⟨bid,rb,.box cs⟩:=by
  have hdel:∀own:List Ent,At_ (delE own id) bid=At_ own bid:=by
   intro own
   induction own with
   | nil=>rfl
   | cons x t ih =>
    simp only[delE,At_]
    split
    ·rename_i hx;rw[ih,if_neg (by omega)]
    ·simp only[At_];rw[ih]
  simp only[upE,At_];rw[if_neg (fun h=>hne h.symm),hdel];exact h
 exact Rel.reBox R1 hf rfl (by simp) (fun arr hr=>Tv_ cs arr 0 c (by
  intro v hv;rw[hc]at hv;simp only[rd]at hv ⊢;intro l hl;have hl':Ai_ (upE s.own id (lim B s) (.row et k bs [])) (upL loc id ⟨[],.slice none 0 0⟩) id (lim B s)=some l:=hl;rw[CL_]at hl';simp only[aA0]at hl'
  rw[←hl',hv]) hr)
end
theorem IN_ {own:List Ent} {loc:Nat→Loc} (hn:(Ab_ own loc).Nodup):∀l:List Ent,(l.map (·.id)).Nodup→(∀e∈l,∃e0∈own,e0.id=e.id)→(Ab_ l loc).Nodup
 | [],_,_=>by simp[Ab_]
 | e::l,hd,hm=>by
  simp only[List.map_cons,cQ0]at hd;rw[Dh_,cA0];obtain⟨e0,he0,hid0⟩:=hm e aF0;refine⟨by rw[←hid0];exact Cz_ hn e0 he0,IN_ hn l hd.2 (fun x hx=>hm x (aD0 _ hx)),?_⟩;intro b hb b' hb' hbb;subst hbb;obtain⟨e2,he2,hb2⟩:=bR0.1 hb';obtain⟨e3,he3,hid3⟩:=hm e2 (aD0 _ he2);have:=Fo_ hn e0 he0 e3 he3 b (by rw[hid0];exact hb) (by rw[hid3];exact hb2);subst this;exact hd.1 (aV0.2 ⟨e2,he2,by rw[←hid3,hid0]⟩)
def Kk_ (own:List Ent):List (Nat×Nat×Nat):=own.map fun e=>(e.id,e.id,e.r)
def QX_ (φ:Nat→Nat→Option (Nat×Nat)) (emp:Bool) (d d':DVal):Prop:=match d' with
 | .any=>True
 | d'=>if emp then d=d' else okD d∧renD φ d=d'
def Lo_ (φ:Nat→Nat→Option (Nat×Nat)) (emp:Bool) (l:List (Nat×DVal)):List (Nat×DVal)→Prop
 | []=>True
 | p::ps=>QX_ φ emp (getS l p.1) p.2∧Lo_ φ emp l ps
theorem RT_ {own:List Ent} {i j v:Nat} (h:(i,j,v)∈Kk_ own):i=j∧∃e∈own,e.id=j∧e.r=v:=by
 obtain⟨e,he,h1⟩:=aV0.1 h;simp only[aW0]at h1;obtain⟨rfl,rfl,rfl⟩:=h1;exact⟨rfl,e,he,rfl,rfl⟩
theorem Sub.lit {B:Base} {s s':DS} (h:Lo_ (BX_ s.own (Kk_ s'.own)) s'.own.isEmpty s.slots s'.slots∧outE s.own (BX_ s.own (Kk_ s'.own)) (Kk_ s'.own)=some s'.own∧OS_ s.own (Kk_ s'.own)∧(s'.own.map (·.id)).Nodup):Sub B s s':=by
 obtain⟨hs,ho,hk,nd⟩:=h;intro a w loc R;refine⟨loc,?_⟩
 have horig:∀e'∈s'.own,∃e,At_ s.own e'.id=some e∧okO e.obj∧e'.obj=renO (BX_ s.own (Kk_ s'.own)) e.obj∧(e'.r=1∨(e'.r=0∧e.r=0)):=by
  intro e' he';obtain⟨i,j,v,e,h1,h2,h3⟩:=(Ky_ ho).1 e' he';obtain⟨hij,_⟩:=RT_ h1;subst hij;obtain⟨e2,g1,g2,g3⟩:=IB_ hk i i v h1;rw[h2]at g1;simp only[aA0]at g1;subst g1;have e1:e'.id=i:=by rw[h3]
  have e3:e'.r=v:=by rw[h3]
  have e4:e'.obj=renO (BX_ s.own (Kk_ s'.own)) e.obj:=by rw[h3]
  refine⟨e,by rw[e1];exact h2,g2,e4,?_⟩;rw[e3]
  rcases g3 with g3 | g3
  ·exact .inl g3
  ·exact .inr ⟨g3.1,g3.2.2⟩
 have hids:∀e'∈s'.own,∃e0∈s.own,e0.id=e'.id:=by
  intro e' he';obtain⟨e,h1,_⟩:=horig e' he';obtain⟨h2,h3⟩:=Ax_ h1;exact⟨e,h2,h3⟩
 have hhot:∀b∈Ab_ s'.own loc,b∈Ab_ s.own loc:=by
  intro b hb;obtain⟨e',he',h1⟩:=bR0.1 hb;obtain⟨e0,h2,h3⟩:=hids e' he';exact AO_ h2 (by rw[h3];exact h1)
 have hM:∀b∈Ab_ s'.own loc++B.M0,b∈Ab_ s.own loc++B.M0:=by
  intro b hb
  rcases aI0.1 hb with h | h
  ·exact aM0 _ (hhot b h)
  ·exact aP0 _ h
 have W:Weak (cu s loc) (Ai_ s'.own loc) (hm s loc B.M0) (Ab_ s'.own loc++B.M0) w.heap w.heap 0 :=
  ⟨fun id r l hr=>by omega,fun b o _ (_:isD o=true) ho=>ho,fun b o hb (_:isD o=true) _ hm'=>hb (hM b hm')⟩
 have L:Id_ (cu s loc) (Ai_ s'.own loc) (BX_ s.own (Kk_ s'.own)):=by
  intro i r p l hp hl;obtain⟨e,h1,h2,h3⟩:=GG_ hp;obtain⟨hij,_⟩:=RT_ h1;obtain⟨e',he',g1,g2,g3⟩:=Bm_ hl;subst g3
  show Ai_ s.own loc i r=_
  unfold Ai_;rw[h2];simp[h3,hij]
 refine⟨⟨nd,IN_ R.st.bl _ nd hids,fun b hb=>R.st.ap b (hhot b hb),fun b hb=>R.st.lt b (hM b hb),fun e' he'=> ?_⟩,R.upd,fun b hb=>R.new b (hhot b hb),fun e' he' hr=> ?_,?_,R.nt,R.df.keep rfl (Upd.refl [] w) (by simp) (fun b hb=> .inl (hM b hb))⟩
 ·obtain⟨e,h1,h2,h3,_⟩:=horig e' he';obtain⟨hmem,hid⟩:=Ax_ h1;rw[h3];exact Jh_ W L h2 (by rw[hid]) (fun _ _ _ h=>h) (R.st.ok e hmem)
 ·obtain⟨e,h1,_,_,h4⟩:=horig e' he';obtain⟨hmem,hid⟩:=Ax_ h1;have hN:=B.hN
  rcases h4 with h4 | ⟨h4,h5⟩
  ·omega
  ·have:=R.ver e hmem (by omega);rw[hid,h5]at this;rw[h4];exact this
 ·intro i
  have hall:∀(l:List (Nat×DVal)),Lo_ (BX_ s.own (Kk_ s'.own)) s'.own.isEmpty s.slots l→QX_ (BX_ s.own (Kk_ s'.own)) s'.own.isEmpty (getS s.slots i) (getS l i):=by
   intro l
   induction l with
   | nil=>intro _;simp[QX_,getS]
   | cons p l ih =>
    intro hp;simp only[Lo_]at hp;simp only[getS]
    split
    ·rename_i h;rw[h];exact hp.1
    ·exact ih hp.2
  have h1:=hall s'.slots hs;have hr:=R.sl i
  generalize getS s'.slots i=d' at h1
  by_cases ha:d'= .any
  ·subst ha;simp[rd]
  ·have h2:if s'.own.isEmpty=true then getS s.slots i=d' else okD (getS s.slots i)∧renD (BX_ s.own (Kk_ s'.own)) (getS s.slots i)=d':=by
    unfold QX_ at h1
    split at h1
    ·exact absurd rfl ha
    ·exact h1
   split at h2
   ·rename_i he;rw[h2]at hr;have he':s'.own=[]:=by simpa using he
    exact BR_ (n:=mx d') ⟨fun id r l _ hl=>by rw[he']at hl;simp[Ai_,At_]at hl,W.b,W.m⟩ _ _ (Nat.le_refl _) hr
   ·rw[←h2.2];exact OI_ W L h2.1 hr
def adoptC (s:DS) (n bid c id et k bs:Nat):DS:=match At_ s.own bid with
 | some e=>match e.obj with
  | .box cs=>⟨s.slots,upE (upE s.own id n (.row et k bs [])) bid e.r (.box (cs.set c (.osl id n)))⟩
  | _=>s
 | none=>s
def Uz_ (s:DS) (bid c:Nat):Prop:=match At_ s.own bid with
 | some e=>match e.obj with
  | .box cs=>cs.getD c .any= .nilsl
  | _=>True
 | none=>True
theorem Bq_ {P:Program} {B:Base} {Q:Exit→DS→Prop} {s:DS} {x:Code} (bid c id et k bs:Nat) (h:Uz_ s bid c∧bid≠id) (hk:∀n,DW P B x Q (adoptC s n bid c id et k bs)):DW P B x Q s:=by
 have hn:=hk (lim B s);unfold Uz_ at h;unfold adoptC at hn
 cases hf:At_ s.own bid with
 | none=>rw[hf]at hn;exact hn
 | some e =>
  rw[hf]at hn h;obtain⟨hm,hid⟩:=Ax_ hf
  cases hob:e.obj with
  | box cs =>
   simp only[hob]at hn h;refine EP_ (Sub.adoptCell bid c id et k bs (rb:=e.r) (cs:=cs) ?_ h.1 h.2) hn;rw[hf,←hid,←hob]
  | row _ _ _ _=>simp only[hob]at hn;exact hn
  | map _ _=>simp only[hob]at hn;exact hn
  | abs _=>simp only[hob]at hn;exact hn
theorem AV_ {P:Program} {B:Base} {Q:Exit→DS→Prop} {s:DS} {x:Code} (i id et k bs:Nat) (h:getS s.slots i= .nilsl∧i<B.nt) (hk:∀n,DW P B x Q ⟨(i,.osl id n)::s.slots,upE s.own id n (.row et k bs [])⟩):DW P B x Q s :=
 EP_ (Sub.adoptSlot i id et k bs h.1 h.2) (hk (lim B s))
theorem Sub.truncSlot {B:Base} {s:DS} {i id r et k bs n:Nat} {es:List (List DVal)} {e:Ent} (h:getS s.slots i= .vw id r k bs 0 n) (he:At_ s.own id=some e) (her:e.r=r) (hob:e.obj= .row et k bs es) (hn:n≤es.length) (hi:i<B.nt) :
  Sub B s ⟨(i,.osl id (lim B s))::s.slots,upE s.own id (lim B s) (.row et k bs (es.take n))⟩:=by
 intro a w loc R;have hs:=R.sl i;rw[h]at hs;obtain⟨hmem,hid⟩:=Ax_ he;obtain⟨hcur,a0,cap0,hh,g1,g2,g3⟩:=Kv_ R.st he her hob;simp only[rd]at hs;obtain⟨x,cap,hv,q1,q2,q3,q4,q5⟩:=hs _ hcur;obtain⟨n1,hh1⟩:=q5 trivial;rw[hh]at hh1;simp only[Value.slice.injEq]at hh1;obtain⟨rfl,_,rfl⟩:=hh1;have hlen:(es.take n).length=n:=by simp;omega
 have hk:=R.st.ok e hmem;rw[hob,hid]at hk;obtain⟨hbs,hk⟩:=hk
 have hL:∀b0,b0∈(⟨(loc id).blks,a.tmps.getD i Go.undef⟩:Loc).blks→b0<w.heap.size∧((∃e∈s.own,e.id=id∧b0∈(loc id).blks)∨w.heap.size≤b0):=fun b0 hb0 =>
  ⟨R.st.lt b0 (aM0 _ (AO_ hmem (by rw[hid];exact hb0))),.inl ⟨e,hmem,hid,hb0⟩⟩
 have W:=R.weakUp (obj:= .row et k bs (es.take n)) (L:=⟨(loc id).blks,a.tmps.getD i Go.undef⟩) (Nat.le_refl (lim B s)) (Upd.refl _ w) hL (.inl (Nat.le_refl _));have hmxo:=(AW_ hmem).2;rw[hob]at hmxo;simp only[mxO]at hmxo
 have:=R.up (id:=id) (r:=lim B s) (obj:= .row et k bs (es.take n)) (L:=⟨(loc id).blks,a.tmps.getD i Go.undef⟩) (v:=a.tmps.getD i Go.undef) (d:= .osl id (lim B s)) (dst:=some i) (Nat.le_refl _) (fun j hj=>by simp only[aA0]at hj;omega) (Upd.refl _ _) (fun _ _ _=>rfl) hL (.inl (Nat.le_refl _))
  (by
   refine⟨by rw[hlen];exact Nat.le_trans (aO0 _ hn) hbs,?_⟩
   rcases hk with ⟨rfl,h1,h2⟩ | ⟨b,arr,cap,h1,h2,h3,h4,h5,h6,h7⟩
   ·rw[hh]at h2;simp only[Value.slice.injEq]at h2;obtain⟨rfl,_,rfl⟩:=h2;refine .inl ⟨by simp,h1,?_⟩;rw[hv];simp only[List.length_nil,Nat.le_zero]at hn;rw[hn]
   ·rw[hh]at h2;simp only[Value.slice.injEq]at h2;obtain⟨rfl,_,rfl⟩:=h2;refine .inr ⟨b,arr,_,h1,by rw[hlen];exact hv,h3,by omega,h5,h6,?_⟩;refine FC_ _ _ _ _ fun q cs hq=> ?_
    rw[eW0]at hq
    split at hq
    ·refine DB_ k es arr 0 q cs (BT_ W k es arr 0 ?_ h7) hq;unfold lim;omega
    ·simp at hq)
  (by
   simp only[rd];intro l hl;rw[CL_]at hl;simp only[aA0]at hl
   rw[←hl])
  (by have:=Cz_ R.st.bl e hmem;rwa[hid]at this)
 rw[Vg_ a i (by rw[R.nt];exact hi)]at this;exact⟨_,this⟩
def Tb_ (s:DS) (i:Nat):Prop:=match getS s.slots i with
 | .vw id r k bs 0 n=>match At_ s.own id with
  | some e=>match e.obj with
   | .row _ k' bs' es=>e.r=r∧k'=k∧bs'=bs∧n≤es.length
   | _=>False
  | none=>False
 | _=>False
def truncS (s:DS) (i m:Nat):DS:=match getS s.slots i with
 | .vw id _ _ _ _ n=>match At_ s.own id with
  | some e=>match e.obj with
   | .row et k bs es=>⟨(i,.osl id m)::s.slots,upE s.own id m (.row et k bs (es.take n))⟩
   | _=>s
  | none=>s
 | _=>s
theorem SQ_ {P:Program} {B:Base} {Q:Exit→DS→Prop} {s:DS} {x:Code} (i:Nat) (h:Tb_ s i∧i<B.nt) (hk:∀m,DW P B x Q (truncS s i m)):DW P B x Q s:=by
 have h1:=h.1;have hk:=hk (lim B s);unfold Tb_ at h1;unfold truncS at hk
 split at h1
 ·rename_i id r k bs n hg;rw[hg]at hk;simp only at hk
  split at h1
  ·rename_i e he;rw[he]at hk;simp only at hk
   split at h1
   ·rename_i et k' bs' es hob;rw[hob]at hk;obtain⟨her,rfl,rfl,hn⟩:=h1;exact EP_ (Sub.truncSlot hg he her hob hn h.2) hk
   ·exact h1.elim
  ·exact h1.elim
 ·exact h1.elim
attribute [simp] kD_f kG_f callG wkA isE wk1 wkL wk HO_ ixV Ef_ JC_ By_ RQ_ Op.operands Call.operands Ll_ okG okL okOp AT_ LE_ Iz_ dOpD dOpG putS getS ev ofV ofV1 nPre nVal bPre bVal Db_ AU_ At_ setE delE callee BH_ gB gOK Cs_ Gl_ dbin AC_ Dm_ Km_ Lj_ Ck_ oneO Hk_ argS Bo_ ckOf eqCs eqC Dthen Dblock Dend resD resL Re_ wfL wfD
@[simp] theorem inR64 (n:Int):inR .i64 n↔ -9223372036854775808≤n∧n≤9223372036854775807:=Iff.rfl
theorem Ah_ {n:Int} (h1: -9223372036854775808≤n) (h2:n≤9223372036854775807):IntKind.i64.wrap n=n:=by
 simp only[IntKind.wrap,IntKind.bits,IntKind.signed];simp
 split<;>omega
@[simp] theorem inRu64 (n:Int):inR .u64 n↔0≤n∧n≤18446744073709551615:=Iff.rfl
@[simp] theorem inRu8 (n:Int):inR .u8 n↔0≤n∧n≤255:=Iff.rfl
@[simp] theorem inRu32 (n:Int):inR .u32 n↔0≤n∧n≤4294967295:=Iff.rfl
@[simp] theorem inRi32 (n:Int):inR .i32 n↔ -2147483648≤n∧n≤2147483647:=Iff.rfl
def isB : DVal→Bool
 | .bool _=>true
 | _=>false
def condB : DVal→Bool
 | .bool b=>b
 | _=>false
attribute [simp] isB condB
theorem AJ_ {P:Program} {B:Base} {Q:Exit→DS→Prop} {s:DS} {c:Operand} {x y:Code} (h:isB (ev s.slots c)=true) (ht:condB (ev s.slots c)=true→DW P B x Q s) (hf:condB (ev s.slots c)=false→DW P B y Q s):DW P B (.cond c x y) Q s:=by
 cases he:ev s.slots c<;>rw[he]at h<;>simp at h;rename_i b;rw[he]at ht hf;exact DW_cond he (fun hb=>ht hb) (fun hb=>hf hb)
attribute [simp] kQ_f dOpsC_f dOpsX_nil NR_ Bs_ eRes Mq_ strOf DZ_ eMake So_ Mp_ eCopy partD effG effSel_f pkOf HC_ Lv_ upE Nm_ Dx_ FD_ ownM Tg_ QF_ Ii_ hidE freezeL freezeS frz1 frz2 frzD frzO frzE DretF renR okR okRs ren2 ok2 ok2s ren3 ok3 ok3s renD okD renO okO ok2r LA_ BX_ outE OS_ DretS Kk_ QX_ Lo_ adoptC Uz_ truncS Tb_
attribute [simp] mx mxL mxR Ba_ GH_
@[simp] theorem mxR_take0 {l:List (List DVal)} {k:Nat} (h:mxR l=0):mxR (l.take k)=0:=Nat.le_zero.1 (h▸Fd_ k l)
@[simp] theorem mxR_drop0 {l:List (List DVal)} {k:Nat} (h:mxR l=0):mxR (l.drop k)=0:=Nat.le_zero.1 (h▸Fe_ k l)
@[simp] theorem range3 : List.range 3=[0,1,2]:=rfl
@[simp] theorem range4 : List.range 4=[0,1,2,3]:=rfl
@[simp] theorem range5 : List.range 5=[0,1,2,3,4]:=rfl
@[simp] theorem range6 : List.range 6=[0,1,2,3,4,5]:=rfl
theorem St.out {own own':List Ent} {loc:Nat→Loc} {M:List Nat} {h:Array Obj} (ρ:List (Nat×Nat×Nat)) (S:St own loc M h) (hρ:(ρ.map (·.2.1)).Nodup∧(ρ.map (·.1)).Nodup)
  (ho:outE own (BX_ own ρ) ρ=some own') (hk:OS_ own ρ) :
  ∃loc',St own' loc' M h∧(∀b∈Ab_ own' loc',b∈Ab_ own loc)∧(∀x∈own',∃i e,(i,x.id,x.r)∈ρ∧At_ own i=some e∧loc' x.id=loc i∧(x.r=1∨(x.r=0∧i=x.id∧e.r=0))) ∧
   (∀d v,okD d→rd (Ai_ own loc) (Ab_ own loc++M) h d v→rd (Ai_ own' loc') (Ab_ own' loc'++M) h (renD (BX_ own ρ) d) v):=by
 have h2:((ρ.map fun p=>(p.1,p.2.1)).map (·.2)).Nodup:=by rw[cB0];exact hρ.1
 have hloc:∀i j v,(i,j,v)∈ρ→loc ((BG_ (ρ.map fun p=>(p.1,p.2.1)) j).getD 0)=loc i:=by
  intro i j v hm;rw[BE_ h2 (aV0.2 ⟨(i,j,v),hm,rfl⟩)];rfl
 obtain⟨hm,hids⟩:=Ky_ ho
 have hx:∀x∈own',∃i e,(i,x.id,x.r)∈ρ∧At_ own i=some e∧x.obj=renO (BX_ own ρ) e.obj:=by
  intro x hx;obtain⟨i,j,v,e,h1,h2,rfl⟩:=hm x hx;exact⟨i,e,h1,h2,rfl⟩
 have hnd:(own'.map (·.id)).Nodup:=by rw[hids];exact hρ.1
 have hsel:Ab_ own' (fun j=>loc ((BG_ (ρ.map fun p=>(p.1,p.2.1)) j).getD 0))=Ab_ (own'.map fun x=>⟨(BG_ (ρ.map fun p=>(p.1,p.2.1)) x.id).getD 0,0,x.obj⟩) loc:=by
  simp[Ab_,List.flatMap_map]
 have hselid:((own'.map fun x=>(⟨(BG_ (ρ.map fun p=>(p.1,p.2.1)) x.id).getD 0,0,x.obj⟩:Ent)).map (·.id)).Nodup:=by
  rw[cB0]
  have:own'.map ((·.id)∘fun x=>(⟨(BG_ (ρ.map fun p=>(p.1,p.2.1)) x.id).getD 0,0,x.obj⟩:Ent))=ρ.map (·.1):=by
   have e1:own'.map ((·.id)∘fun x=>(⟨(BG_ (ρ.map fun p=>(p.1,p.2.1)) x.id).getD 0,0,x.obj⟩:Ent))=(own'.map (·.id)).map (fun j=>(BG_ (ρ.map fun p=>(p.1,p.2.1)) j).getD 0):=by
    rw[cB0];rfl
   rw[e1,hids,cB0];refine cJ0 fun p hp=> ?_
   simp only[Function.comp_def];rw[BE_ h2 (aV0.2 ⟨p,hp,rfl⟩)];rfl
  rw[this];exact hρ.2
 have hin:∀b∈Ab_ own' (fun j=>loc ((BG_ (ρ.map fun p=>(p.1,p.2.1)) j).getD 0)),b∈Ab_ own loc:=by
  intro b hb;obtain⟨x,hx',hb⟩:=bR0.1 hb;obtain⟨i,e,h1,h2,_⟩:=hx x hx';simp only[hloc i _ _ h1]at hb;obtain⟨k1,k2⟩:=Ax_ h2;rw[←k2]at hb;exact AO_ k1 hb
 have hM:∀b,b∈Ab_ own' (fun j=>loc ((BG_ (ρ.map fun p=>(p.1,p.2.1)) j).getD 0))++M→b∈Ab_ own loc++M:=by
  intro b hb
  rcases aI0.1 hb with hb | hb
  ·exact aM0 _ (hin b hb)
  ·exact aP0 _ hb
 have W:Weak (Ai_ own loc) (Ai_ own' fun j=>loc ((BG_ (ρ.map fun p=>(p.1,p.2.1)) j).getD 0)) (Ab_ own loc++M) (Ab_ own' (fun j=>loc ((BG_ (ρ.map fun p=>(p.1,p.2.1)) j).getD 0))++M) h h 0 :=
  ⟨fun id r l hr=>by omega,fun b o _ (_:isD o=true) ho=>ho,fun b o hb (_:isD o=true) _ hm=>hb (hM b hm)⟩
 have L:Id_ (Ai_ own loc) (Ai_ own' fun j=>loc ((BG_ (ρ.map fun p=>(p.1,p.2.1)) j).getD 0)) (BX_ own ρ):=by
  intro i r p lc hp hl;obtain⟨e,h1,h2,h3⟩:=GG_ hp;obtain⟨e0,_,g1,_,g3⟩:=Bm_ hl;obtain⟨k1,k2⟩:=Ax_ h2;rw[←h3,←k2,AA_ S.nd k1,g3,hloc i p.1 p.2 h1,k2]
 refine⟨fun j=>loc ((BG_ (ρ.map fun p=>(p.1,p.2.1)) j).getD 0),⟨hnd,?_,fun b hb=>S.ap b (hin b hb),fun b hb=>S.lt b (hM b hb),?_⟩,hin,?_,fun d v hd hr=>OI_ W L hd hr⟩
 ·rw[hsel];refine Ew_ S.bl _ hselid fun e he=> ?_
  obtain⟨x,hx',rfl⟩:=aV0.1 he;obtain⟨i,e,h1,h2',_⟩:=hx x hx';simp only[BE_ h2 (aV0.2 ⟨_,h1,rfl⟩),cC0];exact⟨e,Ax_ h2'⟩
 ·intro x hx';obtain⟨i,e,h1,h2',h3⟩:=hx x hx';obtain⟨e',h4,h5,_⟩:=IB_ hk i _ _ h1;rw[h2']at h4;simp only[aA0]at h4;subst h4;obtain⟨k1,k2⟩:=Ax_ h2';rw[h3];exact Jh_ W L (l:=loc i) h5 (hloc i _ _ h1) (fun b o _ ho=>ho) (by have:=S.ok e k1;rwa[k2]at this)
 ·intro x hx';obtain⟨i,e,h1,h2',h3⟩:=hx x hx';obtain⟨e',h4,_,h5⟩:=IB_ hk i _ _ h1;rw[h2']at h4;simp only[aA0]at h4;subst h4;exact⟨i,e,h1,h2',hloc i _ _ h1,h5⟩
def YE_ : List Ent→Prop
 | []=>True
 | e::t=>(match e.obj with
  | .row _ _ bs es=>es.length*bs≤150000000000000∧es.length≤maxLen∧wfR es
  | .box cs=>wfL cs
  | .map ks vs=>wfL ks∧wfL vs
  | .abs _=>True)∧YE_ t
theorem wf_own {own:List Ent} {loc:Nat→Loc} {M:List Nat} {h:Array Obj} (S:St own loc M h):YE_ own:=by
 have key:∀l:List Ent,(∀e∈l,e∈own)→YE_ l:=by
  intro l
  induction l with
  | nil=>intro _;trivial
  | cons e t ih =>
   intro hm;refine⟨?_,ih fun x hx=>hm x (aD0 _ hx)⟩;have hk:=S.ok e (hm e aF0)
   cases hob:e.obj with
   | box cs=>rw[hob]at hk;obtain⟨b,arr,ty,_,_,_,h4⟩:=hk;exact Vf_ cs arr 0 h4
   | row et k bs es =>
    rw[hob]at hk;obtain⟨h0,⟨rfl,_⟩ | ⟨b,arr,cap,_,_,_,h4,h5,_,h7⟩⟩:=hk
    ·exact⟨by simp,by simp,by simp[wfR]⟩
    ·exact⟨h0,Nat.le_trans h4 h5,rdR_wf _ _ _ _ h7⟩
   | map ks vs=>rw[hob]at hk;obtain⟨b,es,clk,_,_,_,h4,h5⟩:=hk;exact⟨FV_ _ _ h4,FV_ _ _ h5⟩
   | abs A=>trivial
 exact key own fun _ h=>h
theorem Eq_ (ids:List Nat) (ρ:List (Nat×Nat×Nat)) {P:Program} {f:FuncId} {fn:Func} {c:Code} {args:List DVal} {own own':List Ent} {d:DVal} (hf:P.funcs[f]? =some fn) (hb:fn.body=some c) (hen:Ci_ P f) (hnt:args.length≤fn.ntmps)
  (hρ:(ρ.map (·.2.1)).Nodup∧(ρ.map (·.1)).Nodup) (hv:own'.all (fun e=>decide (e.r≤1))=true)
  (h:wfL args→YE_ own→∀B:Base,B.nt=fn.ntmps∧B.ro=none→DW P B c (DretS P fn ids ρ d own') ⟨argS args 0,own⟩):AM_ P (.func f) args own d own':=by
 refine⟨fun e he=>by simpa using bA0.1 hv e he,hen,fun M w loc vs S hr=> ?_⟩
 have key:∀B:Base,B.nt=fn.ntmps∧B.ro=none→DW P B c (Dend P fn fun s d0=>okD d0∧wk (renD (BX_ s.own ρ) d0) d∧outE s.own (BX_ s.own ρ) ρ=some own'∧OS_ s.own ρ) ⟨argS args 0,own⟩:=by
  intro B hB a w loc R;refine wpIn_mono (h (FV_ _ _ hr) (wf_own S) B hB a w loc R) ?_;rintro e a' w' ⟨s',loc',hq,R'⟩;obtain⟨loc'',R''⟩:=Sub.freezeL ids s' a' w' loc' R';refine⟨freezeL s' ids,loc'',?_,R''⟩
  cases e<;>simp only[DretS]at hq<;>first
   |(split at hq
     ·rename_i d0 hd0;exact⟨d0,hd0,hq⟩
     ·exact hq.elim)
   | exact hq.elim
 refine Ke_ (N:=1) (Nat.le_refl 1) hf hb hen hnt S (fun _ _ _=>trivial) hr key ?_;intro s loc' w' d0 v ⟨hd,hw,ho,hk⟩ S' hu hnew hver hrd;obtain⟨loc1,S1,h1,h2,h3⟩:=S'.out ρ hρ ho hk;refine⟨loc1,S1,hu,fun b hb=>hnew b (h1 b hb),fun x hx hlt=> ?_,rd_wk hw (h3 d0 v hd hrd)⟩;obtain⟨i,e,g1,g2,g3,g4⟩:=h2 x hx
 rcases g4 with g4 | ⟨g4,g5,g6⟩
 ·omega
 ·obtain⟨k1,k2⟩:=Ax_ g2;have:=hver e k1 (by omega);rw[k2,g6]at this;rw[g3,g4,←g5];exact this
theorem UD_ (ids:List Nat) (ρ:List (Nat×Nat×Nat)) {P:Program} {f:FuncId} {fn:Func} {c:Code} {args:List DVal} {own own':List Ent} {d:DVal} (hf:P.funcs[f]? =some fn) (hb:fn.body=some c) (hen:Ci_ P f) (hnt:args.length≤fn.ntmps)
  (hρ:(ρ.map (·.2.1)).Nodup∧(ρ.map (·.1)).Nodup) (hv:own'.all (fun e=>decide (e.r≤1))=true)
  (h:wfL args→∀B:Base,B.nt=fn.ntmps∧B.ro=none→DW P B c (DretS P fn ids ρ d own') ⟨argS args 0,own⟩):AM_ P (.func f) args own d own' :=
 Eq_ ids ρ hf hb hen hnt hρ hv fun hwf _=>h hwf
theorem Az_ (ρ ν:List (Nat×Nat)) {P:Program} {g:FuncId} {args args0:List DVal} {own own0 own0':List Ent} {d0:DVal} {K:ContE} (hS:AM_ P (.func g) args0 own0 d0 own0')
  (hpre:outE own (BX_ own (Ev_ ρ)) (Ev_ ρ)=some own0∧inOK own ρ∧(okDs args∧wkA (args.map (renD (BX_ own (Ev_ ρ)))) args0)∧(((ρ++ν).map (·.1)).Nodup∧(ρ.map (·.2)).Nodup)∧okOs own0'∧okD d0)
  (hk:∀r,match JA_ (Dt_ own ρ ν r) own0' with
   | some l=>((AY_ own ((ρ++ν).map (·.1))++l).map (·.id)).Nodup∧K.f (renD (Dt_ own ρ ν r) d0) (AY_ own ((ρ++ν).map (·.1))++l)
   | none=>False):Bp_ P g args own K:=by
 intro r;have h:=hk r
 split at h
 ·rename_i l hl;exact⟨_,_,MN_ ρ ν hS hpre.1 hpre.2.1 hpre.2.2.1 hpre.2.2.2.1 hl hpre.2.2.2.2.1 hpre.2.2.2.2.2 h.1,h.2⟩
 ·exact h.elim
attribute [simp] Ev_ BG_ Dt_ JA_ AY_ okOs okDs inOK effX effE dOpsE_f updK updV AQ_ CA_
end Go.Dm
end
section
namespace Go.Proofs.YtchgnpnbcjflcaaGreat
open Go Go.Dm
variable [DMode]
attribute [local irreducible] DW Bj_ Bp_
structure Sym where
 label:Bool
 n:Int
 deriving DecidableEq
def dSym (s:Sym):List DVal:=[.bool s.label,.int .i64 s.n]
abbrev AR_ (l:List Sym):DVal:= .sl 2 16 (l.map dSym)
structure Prod where
 head:Int
 body:List Sym
 deriving DecidableEq
def Ad_ (p:Prod):List DVal:=[.int .i64 p.head,AR_ p.body]
abbrev Bh_ (l:List Prod):DVal:= .sl 2 32 (l.map Ad_)
structure Cnf where
 nts:Int
 prods:List Prod
 deriving DecidableEq
def dCnf (c:Cnf):List DVal:=[.int .i64 c.nts,Bh_ c.prods]
theorem mxd : Tryz.prog.follows .mixedOrders=true:=by kernel_rfl
theorem mxR0 {α:Type} (f:α→List DVal) (h:∀x,mxL (f x)=0) (l:List α):mxR (l.map f)=0:=by
 induction l with
 | nil=>rfl
 | cons x l ih=>simp[mxR,h,ih]
@[simp] theorem mx_dSym (s:Sym):mxL (dSym s)=0:=by simp[dSym,mxL,mx]
@[simp] theorem mx_dSyms (l:List Sym):mxR (l.map dSym)=0:=mxR0 _ mx_dSym l
@[simp] theorem mx_dProd (p:Prod):mxL (Ad_ p)=0:=by simp[Ad_,mxL,mx]
@[simp] theorem mx_dProds (l:List Prod):mxR (l.map Ad_)=0:=mxR0 _ mx_dProd l
@[simp] theorem mx_dCnf (c:Cnf):mxL (dCnf c)=0:=by simp[dCnf,mxL,mx]
theorem UE_ {α:Type} {f:α→List DVal}:∀{l:List α} {k:Nat} {x:α},wfR (l.map f)→l[k]? =some x→wfL (f x)
 | a::l,0,x,h,hx=>by
  simp only[bD0,aA0]at hx;subst hx;simp only[List.map_cons,wfR]at h;exact h.1
 | a::l,k+1,x,h,hx=>by
  simp only[List.map_cons,wfR]at h;exact UE_ h.2 (by simpa using hx)
def YG_ (l:List Sym):Prop:=l.length*16≤150000000000000∧l.length≤9223372036854775807∧∀s∈l,inR .i64 s.n
def wProd (p:Prod):Prop:=inR .i64 p.head∧YG_ p.body
def UH_ (l:List Prod):Prop:=l.length*32≤150000000000000∧l.length≤9223372036854775807∧∀p∈l,wProd p
def wCnf (c:Cnf):Prop:=inR .i64 c.nts∧UH_ c.prods
theorem wfR_mem {α:Type} {f:α→List DVal} {l:List α} {x:α} (h:wfR (l.map f)) (hx:x∈l):wfL (f x):=by
 obtain⟨k,hk,rfl⟩:=bN0 hx;exact UE_ h (aH0 hk)
theorem QA_ {l:List Sym} (h:wfD (AR_ l)):YG_ l:=by
 simp only[wfD,aJ0,maxLen]at h;exact⟨h.1,by omega,fun s hs=>by have:=wfR_mem h.2.2 hs;simp only[dSym,wfL,wfD]at this;exact this.2.1⟩
theorem w_prod {p:Prod} (h:wfL (Ad_ p)):wProd p:=by
 simp only[Ad_,wfL,wfD]at h;exact⟨h.1,QA_ (by simp only[wfD];exact h.2.1)⟩
theorem SX_ {l:List Prod} (h:wfD (Bh_ l)):UH_ l:=by
 simp only[wfD,aJ0,maxLen]at h;exact⟨h.1,by omega,fun p hp=>w_prod (wfR_mem h.2.2 hp)⟩
theorem SY_ {c:Cnf} (h:wfL (dCnf c)):wCnf c:=by
 simp only[dCnf,wfL]at h;exact⟨by simpa[wfD]using h.1,SX_ h.2.1⟩
theorem Ak_ {α:Type} {l:List α} {k:Nat} (h:k<l.length):∃x,l[k]? =some x∧l[k]=x∧x∈l:=⟨l[k],aH0 h,rfl,cY0 h⟩
end Go.Proofs.YtchgnpnbcjflcaaGreat
end
section
namespace Go.Proofs.YtchgnpnbcjflcaaGreat
open Go Go.Dm
variable [DMode]
instance : LawfulBEq ByteArray where
 eq_of_beq {a b} h:=by
  rw[←KL_]at h;have h:=eq_of_beq h;cases a;cases b;simp only at h;rw[h]
 rfl {a}:=by rw[←KL_];exact beq_self_eq_true _
structure Edge where
 fr:ByteArray
 lb:ByteArray
 to:ByteArray
 deriving DecidableEq
structure Edges where
 nodes:List ByteArray
 edges:List Edge
 deriving DecidableEq
def dStr (s:ByteArray):List DVal:=[.str s]
def dEdge (e:Edge):List DVal:=[.str e.fr,.str e.lb,.str e.to]
abbrev AS_ (l:List ByteArray):DVal:= .sl 1 16 (l.map dStr)
abbrev dEds (l:List Edge):DVal:= .sl 3 48 (l.map dEdge)
def dGr (g:Edges):List DVal:=[AS_ g.nodes,dEds g.edges]
@[simp] theorem mx_dStr (s:ByteArray):mxL (dStr s)=0:=by simp[dStr,mxL,mx]
@[simp] theorem mx_dEdge (s:Edge):mxL (dEdge s)=0:=by simp[dEdge,mxL,mx]
@[simp] theorem mx_dStrs (l:List ByteArray):mxR (l.map dStr)=0:=mxR0 _ mx_dStr l
@[simp] theorem mx_dEds (l:List Edge):mxR (l.map dEdge)=0:=mxR0 _ mx_dEdge l
@[simp] theorem mx_dGr (g:Edges):mxL (dGr g)=0:=by simp[dGr,mxL,mx]
def Dn_ (a b:ByteArray):Bool:=Op.bytesLess a.data.toList b.data.toList
theorem bl_irr : ∀l:List UInt8,Op.bytesLess l l=false
 | []=>rfl
 | a::l=>by simp[Op.bytesLess,bl_irr l]
theorem Wo_ : ∀{a b c:List UInt8},Op.bytesLess a b=true→Op.bytesLess b c=true→Op.bytesLess a c=true
 | _,[],_,h,_=>by cases ‹List UInt8› <;>simp[Op.bytesLess]at h
 | _,_::_,[],_,h=>by simp[Op.bytesLess]at h
 | [],_::_,_::_,_,_=>by simp[Op.bytesLess]
 | x::a,y::b,z::c,h1,h2=>by
  simp only[Op.bytesLess,dD0,aN0,decide_eq_true_eq,beq_iff_eq]at h1 h2 ⊢
  rcases h1 with h1 | ⟨rfl,h1⟩
  ·rcases h2 with h2 | ⟨rfl,h2⟩
   ·exact .inl (UInt8.lt_trans h1 h2)
   ·exact .inl h1
  ·rcases h2 with h2 | ⟨rfl,h2⟩
   ·exact .inl h2
   ·exact .inr ⟨rfl,Wo_ h1 h2⟩
theorem bl_tri : ∀{a b:List UInt8},Op.bytesLess a b=false→Op.bytesLess b a=false→a=b
 | [],[],_,_=>rfl
 | [],_::_,h,_=>by simp[Op.bytesLess]at h
 | _::_,[],_,h=>by simp[Op.bytesLess]at h
 | x::a,y::b,h1,h2=>by
  simp only[Op.bytesLess,Bool.or_eq_false_iff,Bool.and_eq_false_iff,decide_eq_false_iff_not,beq_eq_false_iff_ne]at h1 h2;have hxy:x=y:=UInt8.le_antisymm (UInt8.not_lt.1 h2.1) (UInt8.not_lt.1 h1.1);subst hxy;rw[bl_tri (h1.2.resolve_left (by simp)) (h2.2.resolve_left (by simp))]
theorem DS_ (a:ByteArray):Dn_ a a=false:=bl_irr _
theorem HH_ {a b c:ByteArray} (h1:Dn_ a b=true) (h2:Dn_ b c=true):Dn_ a c=true:=Wo_ h1 h2
theorem Gs_ {a b:ByteArray} (h:a.data.toList=b.data.toList):a=b:=by
 obtain⟨⟨x⟩⟩:=a;obtain⟨⟨y⟩⟩:=b;simp only at h;subst h;rfl
theorem Ir_ {a b:ByteArray} (h1:Dn_ a b=false) (h2:Dn_ b a=false):a=b:=Gs_ (bl_tri h1 h2)
theorem Nw_ {a b:ByteArray} (h:Dn_ a b=true):Dn_ b a=false:=by
 cases hb:Dn_ b a
 ·rfl
 ·have:=HH_ h hb;rw[DS_]at this;simp at this
theorem sLess_ne {a b:ByteArray} (h:Dn_ a b=true):a≠b:=fun e=>by subst e;rw[DS_]at h;simp at h
def sCmp (a b:ByteArray):Int:=if Dn_ a b then -1 else if Dn_ b a then 1 else 0
theorem sCmp_zero {a b:ByteArray}:sCmp a b=0↔a=b:=by
 unfold sCmp
 constructor
 ·intro h
  split at h
  ·simp at h
  ·split at h
   ·simp at h
   ·rename_i h1 h2;exact Ir_ (by simpa using h1) (by simpa using h2)
 ·rintro rfl;rw[DS_];simp
theorem ES_ {a b:ByteArray}:sCmp a b<0↔Dn_ a b=true:=by
 unfold sCmp
 split
 ·simp_all
 ·split<;>simp_all
end Go.Proofs.YtchgnpnbcjflcaaGreat
end
