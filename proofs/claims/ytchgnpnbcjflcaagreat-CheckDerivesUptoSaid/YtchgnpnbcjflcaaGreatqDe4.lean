/- Parts of a proof, laid together: EnL, EnM, EnN, EnO, EnP, EnS, EnT, EnV, W0, WA. -/
import Derived.Test.YtchgnpnbcjflcaaGreatqDe3
set_option linter.unusedSimpArgs false
set_option maxHeartbeats 8000000
set_option linter.unusedVariables false
set_option linter.unusedSectionVars false
section
namespace Go.Dm
variable [DMode]
section
variable {P : Program} {o : Oper} {l l' : List (Nat × DVal)} {own : List Ent} {r n : Nat}
theorem AA_ {e1 e2:Operand->DVal} (h:∀x∈o.op.operands,e1 x=e2 x):JS P o e1 own r=JS P o e2 own r:=by
 unfold JS;obtain⟨dst,op,type,pos,after,guard⟩:=o;simp only at h |-;cases op<;>simp only[Op.operands]at h<;>simp only
 case box t x=>rw[h x (by simp)]
 case store t a x=>rw[h a (by simp),h x (by simp)]
 case mapUpdate t m k x=>rw[h m (by simp),h k (by simp),h x (by simp)]
 case makeSlice t l c=>rw[h l (by simp),h c (by simp)]
 case buildSlice t n ps =>
  have hc:=(Sy (P:=P) (own:=own) (e:=e1) (e':=e2) (.buildSlice t n ps) h).1;have e1:(ps.toList.map fun p=>AP (e1 p.2))=ps.toList.map fun p=>AP (e2 p.2):=cN0 fun p hm=>by rw[h p.2 (by simpa using ⟨p.1,by simpa using hm⟩)]
  rw[propext hc,e1]
 case call c =>
  obtain⟨cal,args,ts⟩:=c
  cases cal with
  | builtin b =>
   have:args.toList.map (e1)=args.toList.map (e2):=cN0 fun x hx=>h x (by simp[Call.operands];simpa using hx)
   cases b<;>simp only[this]
  | value f=>rfl
  | invoke a b=>rfl
theorem xG {e1 e2:Operand->DVal} {c:Call} (h:∀x∈c.operands,e1 x=e2 x):Xz e1 c=Xz e2 c:=by
 obtain⟨cal,args,ts⟩:=c
 cases cal with
 | value f =>
  have h1:args.toList.map e1=args.toList.map e2:=cN0 fun x hx=>h x (by simp[Call.operands];simp at hx;exact .inr hx)
  have h2:=h f (by simp[Call.operands]);simp only[Xz,h1,h2]
 | builtin b=>rfl
 | invoke a b=>rfl
theorem Ut {e1 e2:Operand->DVal} {d:DVal} {own':List Ent} (h:∀x∈o.op.operands,e1 x=e2 x) (hx:Qz P o e1 own r d own'):Qz P o e2 own r d own':=by
 rcases hx with ⟨x,h1,h2⟩ | ⟨c,g,args,h1,h2,h3⟩ | ⟨c,id,r',args,e0,l,e,A,A',b,h1,h2,h3⟩
 ·exact .inl ⟨x,by rw[<-AA_ h];exact h1,h2⟩
 ·exact .inr (.inl ⟨c,g,args,h1,by rw[<-NR (fun x hx=>h x (by rw[h1];exact hx))];exact h2,h3⟩)
 ·exact .inr (.inr ⟨c,id,r',args,e0,l,e,A,A',b,h1,by rw[<-xG (fun x hx=>h x (by rw[h1];exact hx))];exact h2,h3⟩)
theorem De (own:List Ent) (id r:Nat) (obj:DObj):Hj (upE own id r obj)<=max (max (r+1) (Fp obj)) (Hj own):=by
 have:Hj (CT own id)<=Hj own:=by
  induction own with
  | nil=>simp[CT]
  | cons e t ih =>
   simp only[CT]
   split
   ·simp only[Hj];omega
   ·simp only[Hj];omega
 simp only[upE,Hj];omega
theorem Lh_ {x:ERes} {ed:Operand->DVal} (h:JS P o ed own r=some x) (hp:x.pre) (ho:Hj own<=n) (kS:∀y∈o.op.operands,mx (ed y)<=n) (hr:n<=r):mx x.d<=r+1/\Hj x.own<=r+1:=by
 obtain⟨dst,op,type,pos,after,guard⟩:=o;unfold JS at h;simp only at h;cases op<;>simp only[reduceCtorEq]at h
 case box t y =>
  split at h
  ·rename_i i;simp only[aA0]at h;subst h;refine⟨by simp[mx],Nat.le_trans (De _ _ _ _) ?_⟩;have:=kS y (by simp[Op.operands]);simp only[Fp,CJ];omega
  ·simp at h
 case buildSlice t len ps =>
  split at h
  ·simp only[aA0]at h;subst h;refine⟨by simp[mx],Nat.le_trans (De _ _ _ _) ?_⟩
   have:Bx (ps.toList.map fun p=>AP (ed p.2))<=n:=xV fun cs hm=>by
    obtain⟨p,qN,rfl⟩:=aR0.1 hm;rw[CJ];exact kS p.2 (by simpa[Op.operands]using ⟨p.1,by simpa using qN⟩)
   simp only[Fp];omega
  ·simp at h
 case alloc t =>
  split at h
  ·rename_i i z hi hz;simp only[aA0]at h;subst h;refine⟨by simp[mx],Nat.le_trans (De _ _ _ _) ?_⟩;simp only[Fp,MU hz];omega
  ·simp at h
 case store t ad y =>
  split at h
  ·rename_i id r' off had
   split at h
   ·rename_i e he
    split at h
    ·rename_i cs qW;simp only[aA0]at h;subst h;refine⟨by simp[mx],Nat.le_trans (De _ _ _ _) ?_⟩;simp only at hp;obtain⟨h1,h2⟩:=Bs (AY he).1;rw[qW]at h2;simp only[Fp]at h2 |-;have h3:=La cs off (AP (ed y));have h4:=kS y (by simp[Op.operands,Call.operands]);rw[CJ]at h3;have:=hp.1;omega
    ·simp at h
   ·simp at h
  ·unfold Fv at h
   split at h
   ·rename_i e he
    split at h
    ·rename_i qW
     split at h
     ·rename_i c0 yW;simp only[aA0]at h;subst h;refine⟨by simp[mx],Nat.le_trans (De _ _ _ _) ?_⟩;simp only at hp;obtain⟨h1,h2⟩:=Bs (AY he).1;rw[qW]at h2;simp only[Fp]at h2 |-;have h3:=La c0;have h4:=kS y (by simp[Op.operands,Call.operands]);have h5:=hp.1;have h6:=HT_ yW;refine eA0.2 ⟨eA0.2 ⟨by omega,XP _ _ (by omega) (Nat.le_trans (h3 _ _) ?_)⟩,by omega⟩;rw[CJ];omega
     ·simp at h
    ·simp at h
   ·simp at h
  ·simp at h
 case makeSlice t lo co =>
  unfold iI at h
  split at h
  ·rename_i hz _ _;simp only[aA0]at h;subst h;refine⟨by simp[mx],Nat.le_trans (De _ _ _ _) ?_⟩;simp only[Fp];unfold tZeroE at hz
   split at hz
   ·refine eA0.2 ⟨eA0.2 ⟨by omega,Nat.le_trans (XQ (dO0 (MU hz))) (by omega)⟩,by omega⟩
   ·simp at hz
  ·simp at h
 case makeMap t rv =>
  split at h
  ·simp only[aA0]at h;subst h;refine⟨by simp[mx],Nat.le_trans (De _ _ _ _) ?_⟩;simp only[Fp,AR];omega
  ·simp at h
 case mapUpdate t m k x =>
  split at h
  ·split at h
   ·rename_i e he
    split at h
    ·rename_i ks vs qW;simp only[aA0]at h;subst h;refine⟨by simp[mx],Nat.le_trans (De _ _ _ _) ?_⟩;simp only at hp;obtain⟨h1,h2⟩:=Bs (AY he).1;rw[qW]at h2;simp only[Fp]at h2 |-;have h3:=aE ks (ed k);have h4:=aD ks vs (ed k) (ed x);have h5:=kS k (by simp[Op.operands,Call.operands]);have h6:=kS x (by simp[Op.operands,Call.operands]);have:=hp.1;omega
    ·simp at h
   ·simp at h
  ·simp at h
 case call c =>
  obtain⟨cal,args,ats⟩:=c;cases cal<;>simp only[reduceCtorEq]at h;rename_i b;cases b<;>simp only[reduceCtorEq]at h
  case append =>
   unfold NF at h
   split at h
   ·rename_i da db t t' qM yB
    split at h
    ·rename_i i k bs et _ _
     split at h
     ·rename_i x gC
      split at h
      ·rename_i id es hdest;simp only[aA0]at h;subst h;refine⟨by simp[mx],Nat.le_trans (De _ _ _ _) ?_⟩;simp only[Fp,BG,Gv];have h1:Bx es<=n:=FN_ hdest (by omega);omega
      ·simp at h
     split at h
     ·rename_i id es k2 es2 hdest wS;simp only[aA0]at h;subst h
      have hda:mx da<=n:=by
       have:da∈args.toList.map (ed):=by rw[qM];simp
       obtain⟨y,hy,rfl⟩:=aR0.1 this;exact kS y (by simpa[Op.operands,Call.operands]using hy)
      have hdb:mx db<=n:=by
       have:db∈args.toList.map (ed):=by rw[qM];simp
       obtain⟨y,hy,rfl⟩:=aR0.1 this;exact kS y (by simpa[Op.operands,Call.operands]using hy)
      refine⟨by simp[mx],Nat.le_trans (De _ _ _ _) ?_⟩;simp only[Fp,BG]
      have h1:Bx es<=n:=by
       unfold HN at hdest
       split at hdest
       ·simp only[aA0,aT0]at hdest;obtain⟨_,rfl⟩:=hdest;simp[Bx]
       ·split at hdest
        ·rename_i e0 vI
         split at hdest
         ·split at hdest
          ·rename_i qW
           split at hdest
           ·simp only[aA0,aT0]at hdest;obtain⟨_,rfl⟩:=hdest;have:=(Bs (AY vI).1).2;rw[qW]at this;simp only[Fp]at this;omega
           ·simp at hdest
          ·simp at hdest
         ·simp at hdest
        ·simp at hdest
       ·simp at hdest
      have h2:Bx es2<=n:=by
       unfold Kh at wS
       split at wS
       ·simp only[aA0,aT0]at wS;obtain⟨_,rfl⟩:=wS;simp[Bx]
       ·simp only[aA0,aT0]at wS;obtain⟨_,rfl⟩:=wS;simp[Bx]
       ·rw[bC0]at wS;obtain⟨⟨k',b',es'⟩,h1,h2⟩:=wS;simp only[aT0]at h2;obtain⟨_,rfl⟩:=h2;have:=OH h1;omega
      omega
     ·simp at h
    ·simp at h
   ·simp at h
  case copy =>
   unfold iJ at h
   split at h
   ·rename_i d sd t t' qM yB
    split at h
    ·rename_i k k0 id r' i m et k' bs es k2 es2 ht dE wS;simp only[aA0]at h;subst h;obtain⟨e,bs0,he,wO,qW,hdd⟩:=ZJ dE
     have hdb:mx sd<=n:=by
      have:sd∈args.toList.map (ed):=by rw[qM];simp
      obtain⟨y,hy,rfl⟩:=aR0.1 this;exact kS y (by simpa[Op.operands,Call.operands]using hy)
     refine⟨by simp[mx],Nat.le_trans (De _ _ _ _) ?_⟩;obtain⟨h1,h2⟩:=Bs (AY he).1;rw[qW]at h2;simp only[Fp]at h2 |-;have h3:Bx (JM es i m es2)<=n:=iO (by omega) (Zn wS (by omega) hdb);omega
    ·simp at h
   ·simp at h
  case clear =>
   have key:∀{zs:List DVal} {t:TypeId} {es:List (List DVal)} {i m N:Nat},tZeroE P t=some zs->Bx es<=N->Bx (Dg es i m zs)<=N:=by
    intro zs t es i m N hz rG;unfold tZeroE at hz
    split at hz
    ·unfold Dg;rw[BG,BG];have:=GN i es;have:=GO (i+m) es;have:=XQ (n:=0) (m:=m) (dO0 (MU hz));omega
    ·simp at hz
   unfold Tx at h
   split at h
   ·split at h
    ·rename_i hz
     split at h
     ·split at h
      ·rename_i e he
       split at h
       ·rename_i qW;simp only[aA0]at h;subst h;refine⟨by simp[mx,AR],Nat.le_trans (De _ _ _ _) ?_⟩;simp only at hp;obtain⟨h1,h2⟩:=Bs (AY he).1;rw[qW]at h2;simp only[Fp]at h2 |-;have h3:=hp.1;exact eA0.2 ⟨eA0.2 ⟨by omega,key hz (by omega)⟩,by omega⟩
       ·simp at h
      ·simp at h
     ·split at h
      ·rename_i e he
       split at h
       ·rename_i qW;simp only[aA0]at h;subst h;refine⟨by simp[mx,AR],Nat.le_trans (De _ _ _ _) ?_⟩;simp only at hp;obtain⟨h1,h2⟩:=Bs (AY he).1;rw[qW]at h2;simp only[Fp]at h2 |-;have h3:=hp.1;exact eA0.2 ⟨eA0.2 ⟨by omega,key hz (by omega)⟩,by omega⟩
       ·simp at h
      ·simp at h
     ·simp at h
    ·simp at h
   ·simp at h
  case delete =>
   unfold NE at h
   split at h
   ·split at h
    ·split at h
     ·rename_i e he
      split at h
      ·rename_i ks vs qW;simp only[aA0]at h;subst h;refine⟨by simp[mx,AR],Nat.le_trans (De _ _ _ _) ?_⟩;simp only at hp;obtain⟨h1,h2⟩:=Bs (AY he).1;rw[qW]at h2;simp only[Fp]at h2 |-;have h3:=hp.1;refine eA0.2 ⟨eA0.2 ⟨by omega,eA0.2 ⟨Nat.le_trans (aH _ _) (by omega),Nat.le_trans (aG _ _ _) (by omega)⟩⟩,by omega⟩
      ·simp at h
     ·simp at h
    ·simp at h
   ·simp at h
end
def FZ (e:Ent):Bool:=match e.obj with | .box _=>true | _=>false
def Aj_ (l2:List Nat) (q:Nat) (e:Ent):Bool:=l2.any fun c=>decide (1000000<=c)&&c%1000==q&&c/1000000==e.id+1
def Yd (l2:List Nat) (p q:Nat):Bool:=l2.any fun c=>decide (1000000<=c)&&c%1000==q&&c/1000%1000==p
def Ji (l1 l2:List Nat) (k:Nat) (own:List Ent):List Ent:=if l2.contains k then []else if l1.contains k then own.filter FZ else if l2.isEmpty then own else own.filter fun e=> !Aj_ l2 k e
def Di (o:Oper):Bool:=match o.op with
 | .call c=>match c.callee with | .builtin .append=>true | _=>false
 | _=>false
def Ah_ (o:Oper):Bool:=match o.op with | .indexAddr _ _ _=>true | _=>false
def DA (o:Oper):Bool:=match o.op with | .store _ _ _=>true | _=>false
def Jd : DVal->Option Nat
 | .bx id _ _=>some id
 | .rx id _ _ _ _=>some id
 | _=>none
def Ry (slots:List (Nat×DVal)) (o:Oper):Option Nat:=match o.op with
 | .store _ a _=>Jd (Bl slots a)
 | _=>none
def Rz (l2:List Nat) (k:Nat) (slots:List (Nat×DVal)) (o:Oper):Bool:=l2.all fun c=>decide (c<1000000)||c/1000%1000 != k||Ry slots o==some (c/1000000-1)
def Me (own:List Ent) (o:Oper):Bool:= !Di o||(match o.dst with | some i=>(match Ar own i with | some e=> !FZ e | none=>true) | none=>true)
def Yl (K:ContE):ContE:=⟨fun d own'=>K.f (.sel true d) own'⟩
theorem IQ_ (K:ContE) (d:DVal) (own':List Ent):(Yl K).f d own'=K.f (.sel true d) own':=id rfl
def MO_ (P:Program) (c:Bool) (o:Oper) (ed:Operand->DVal) (own:List Ent) (K:ContE):Prop:=match c with
 | true=>FL_ P o ed own (Yl K)
 | false=>K.f (.sel false .any) own
section
variable (P : Program) (nt : Nat) (ow l1 l2 : List Nat)
def Cd (ops:Array Oper):List Oper->Nat->Cont->DS->Prop
 | [],_,K,s=>K.f s
 | o::rest,k,K,s=>match o.guard with
  | none=>if Bw ow o then Cp nt o.dst=true/\(Me s.own o=true/\Rz l2 k s.slots o=true)/\FL_ P o (ev s.slots) s.own ⟨fun d own'=>Cd ops rest (k+1) K ⟨BI s.slots o.dst d,own'⟩⟩
   else MR_ P nt o ⟨s.slots,Ji l1 l2 k s.own⟩ ⟨fun s'=>Cd ops rest (k+1) K ⟨s'.slots,s.own⟩⟩
  | some (j,want)=>gOK (BP ops s j)=true/\if Bw ow o then Cp nt o.dst=true/\(Me s.own o=true/\Rz l2 k s.slots o=true)/\Kr (gB (BP ops s j) want) (ev s.slots) o.op/\MO_ P (gB (BP ops s j) want) o (Bl s.slots) s.own ⟨fun d own'=>Cd ops rest (k+1) K ⟨BI s.slots o.dst d,own'⟩⟩
   else MQ_ P nt (gB (BP ops s j) want) o ⟨s.slots,Ji l1 l2 k s.own⟩ ⟨fun s'=>Cd ops rest (k+1) K ⟨s'.slots,s.own⟩⟩
def IX_ (ops:Array Oper) (rest:List Oper) (k:Nat) (own:List Ent) (K:Cont):Cont:=⟨fun s'=>Cd P nt ow l1 l2 ops rest k K ⟨s'.slots,own⟩⟩
theorem Lm_ (ops:Array Oper) (rest:List Oper) (k:Nat) (own:List Ent) (K:Cont) (s':DS):(IX_ P nt ow l1 l2 ops rest k own K).f s'=Cd P nt ow l1 l2 ops rest k K ⟨s'.slots,own⟩:=id rfl
def IW_ (ops:Array Oper) (rest:List Oper) (k:Nat) (dst:Option Nat) (sl:List (Nat×DVal)) (K:Cont):ContE:=⟨fun d own'=>Cd P nt ow l1 l2 ops rest (k+1) K ⟨BI sl dst d,own'⟩⟩
theorem Ll_ (ops:Array Oper) (rest:List Oper) (k:Nat) (dst:Option Nat) (sl:List (Nat×DVal)) (K:Cont) (d:DVal) (own':List Ent):(IW_ P nt ow l1 l2 ops rest k dst sl K).f d own'=Cd P nt ow l1 l2 ops rest (k+1) K ⟨BI sl dst d,own'⟩:=id rfl
theorem FO_ (ops:Array Oper) (k:Nat) (K:Cont) (s:DS):Cd P nt ow l1 l2 ops [] k K s=K.f s:=id rfl
theorem AG_ (ops:Array Oper) (o:Oper) (rest:List Oper) (k:Nat) (K:Cont) (s:DS):Cd P nt ow l1 l2 ops (o::rest) k K s=match o.guard with
 | none=>if Bw ow o then Cp nt o.dst=true/\(Me s.own o=true/\Rz l2 k s.slots o=true)/\FL_ P o (ev s.slots) s.own (IW_ P nt ow l1 l2 ops rest k o.dst s.slots K)
  else MR_ P nt o ⟨s.slots,Ji l1 l2 k s.own⟩ (IX_ P nt ow l1 l2 ops rest (k+1) s.own K)
 | some (j,want)=>gOK (BP ops s j)=true/\if Bw ow o then Cp nt o.dst=true/\(Me s.own o=true/\Rz l2 k s.slots o=true)/\Kr (gB (BP ops s j) want) (ev s.slots) o.op/\MO_ P (gB (BP ops s j) want) o (Bl s.slots) s.own (IW_ P nt ow l1 l2 ops rest k o.dst s.slots K)
  else MQ_ P nt (gB (BP ops s j) want) o ⟨s.slots,Ji l1 l2 k s.own⟩ (IX_ P nt ow l1 l2 ops rest (k+1) s.own K):=id rfl
def EV (ops:Array Oper) (o:Oper) (s:DS) (d:DVal) (own':List Ent) (r:Nat):Prop:=match o.guard with
 | none=>Qz P o (ev s.slots) s.own r d own'
 | some (j,want)=>gOK (BP ops s j)=true/\Kr (gB (BP ops s j) want) (ev s.slots) o.op /\
  ((gB (BP ops s j) want=true/\∃d0,d= .sel true d0/\Qz P o (Bl s.slots) s.own r d0 own')\/(gB (BP ops s j) want=false/\d= .sel false .any/\own'=s.own))
def YF (ops:Array Oper) (k:Nat) (o:Oper) (s:DS) (d:DVal) (own':List Ent) (r:Nat):Prop :=
 (Bw ow o=true/\Cp nt o.dst=true/\(Me s.own o=true/\Rz l2 k s.slots o=true)/\EV P ops o s d own' r) \/
  (Bw ow o=false/\own'=s.own/\OX_ P nt ops o ⟨s.slots,Ji l1 l2 k s.own⟩ d)
def Ed (l:List Oper):Nat:=l.countP (Bw ow)
def DB (ops:Array Oper):Bool :=
 let m:=Eb ops.toList []
 let zs:=ops.toList.zipIdx
 AB_ ops&&zs.all fun p=> !Bw ow p.1||zs.all fun q=>p.2==q.2||(decide (p.2<q.2)&&(m.getD q.2 0).testBit p.2)||(decide (q.2<p.2)&&(m.getD p.2 0).testBit q.2) ||
  (!Bw ow q.1&&(l2.contains q.2||(l1.contains q.2&&Di p.1)||(!l1.contains q.2&&Ah_ q.1&&DA p.1)||(!l1.contains q.2&&DA p.1&&Yd l2 p.2 q.2)))
end
section
variable {P : Program} {nt : Nat} {ow l1 l2 : List Nat}
theorem Wo {ops:Array Oper} {K:Cont} (n0:Nat):∀(rest:List Oper) (k c:Nat) (s:DS),Cd P nt ow l1 l2 ops rest k K s ->
  ∃(ds:List DVal) (owns:Nat->List Ent),ds.length=rest.length/\owns 0=s.own/\K.f ⟨HL s.slots (rest.zip ds),owns rest.length⟩ /\
   ∀(j:Nat) (o:Oper),rest[j]? =some o->∃d,ds[j]? =some d/\YF P nt ow l1 l2 ops (k+j) o ⟨HL s.slots ((rest.zip ds).take j),owns j⟩ d (owns (j+1)) (n0+c+Ed ow (rest.take j))
 | [],k,c,s,h=>⟨[],fun _=>s.own,rfl,rfl,by simpa[Cd,HL]using h,by simp⟩
 | o::rest,k,c,s,h=>by
  have step:∀d own',YF P nt ow l1 l2 ops k o s d own' (n0+c)->Cd P nt ow l1 l2 ops rest (k+1) K ⟨BI s.slots o.dst d,own'⟩->∃(ds:List DVal) (owns:Nat->List Ent),ds.length=(o::rest).length/\owns 0=s.own/\K.f ⟨HL s.slots ((o::rest).zip ds),owns (o::rest).length⟩ /\
    ∀(j:Nat) (o':Oper),(o::rest)[j]? =some o'->∃d,ds[j]? =some d/\YF P nt ow l1 l2 ops (k+j) o' ⟨HL s.slots (((o::rest).zip ds).take j),owns j⟩ d (owns (j+1)) (n0+c+Ed ow ((o::rest).take j)):=by
   intro d own' qY hr;obtain⟨ds,owns,h1,h0,h2,h3⟩:=Wo n0 rest (k+1) (c+Ed ow [o]) _ hr;refine⟨d::ds,fun j=>match j with | 0=>s.own | j+1=>owns j,by simp[h1],rfl,by simpa[HL]using h2,?_⟩;intro j o' hj
   cases j with
   | zero=>simp only[bB0,aA0]at hj;subst hj;exact⟨d,by simp,by simpa[HL,Ed,h0]using qY⟩
   | succ j =>
    obtain⟨d',h4,h5⟩:=h3 j o' (by simpa using hj);refine⟨d',by simpa using h4,?_⟩
    have e1:n0+(c+Ed ow [o])+Ed ow (rest.take j)=n0+c+Ed ow ((o::rest).take (j+1)):=by
     simp only[dK0,Ed,fB0,List.countP_nil];omega
    rw[e1,show k+1+j=k+(j+1) by omega]at h5;simpa[HL]using h5
  simp only[Cd]at h
  split at h
  ·rename_i hg
   split at h
   ·rename_i he;obtain⟨hd,ha,h⟩:=h;obtain⟨d,own',h1,h2⟩:=KL h (n0+c);exact step d own' (.inl ⟨he,hd,ha,by unfold EV;rw[hg];exact h1⟩) h2
   ·rename_i he;have he:Bw ow o=false:=by simpa using he
    obtain⟨hd,h⟩:=h
    split at h
    ·rename_i c wF
     split at h
     ·rename_i g args hc;obtain⟨d,h1,h2⟩:=Lq h;exact step d _ (.inr ⟨he,rfl,hd,by rw[hg];exact .inl ⟨c,g,args,wF,hc,h1⟩⟩) h2
     ·exact step _ _ (.inr ⟨he,rfl,hd,by rw[hg];exact .inr ⟨h.1,rfl⟩⟩) h.2
    ·exact step _ _ (.inr ⟨he,rfl,hd,by rw[hg];exact .inr ⟨h.1,rfl⟩⟩) h.2
  ·rename_i j want hg;obtain⟨cW,h⟩:=h
   split at h
   ·rename_i he;obtain⟨hd,ha,qY,h⟩:=h
    cases hb:gB (BP ops s j) want with
    | true =>
     rw[hb]at h;obtain⟨d,own',h1,h2⟩:=KL (K:=Yl _) h (n0+c);exact step (.sel true d) own' (.inl ⟨he,hd,ha,by unfold EV;rw[hg];exact⟨cW,qY,.inl ⟨hb,d,rfl,h1⟩⟩⟩) h2
    | false =>
     rw[hb]at h;exact step (.sel false .any) s.own (.inl ⟨he,hd,ha,by unfold EV;rw[hg];exact⟨cW,qY,.inr ⟨hb,rfl,rfl⟩⟩⟩) h
   rename_i he;have he:Bw ow o=false:=by simpa using he
   obtain⟨hd,qY,h⟩:=h
   have mk:∀d,(gB (BP ops s j) want=true->FT P o (Ji l1 l2 k s.own) (Bl s.slots) d)->YF P nt ow l1 l2 ops k o s (.sel (gB (BP ops s j) want) d) s.own (n0+c):=by
    intro d h1;refine .inr ⟨he,rfl,hd,?_⟩;rw[hg];exact⟨cW,qY,d,rfl,h1⟩
   split at h
   ·rename_i c wF
    split at h
    ·rename_i g args hc;obtain⟨d,h1,h2⟩:=Wt h;exact step _ _ (mk d fun hq=> .inl ⟨c,g,args,wF,hc,h1 hq⟩) h2
    ·exact step _ _ (mk _ fun hq=> .inr ⟨h.1 hq,rfl⟩) h.2
   ·exact step _ _ (mk _ fun hq=> .inr ⟨h.1 hq,rfl⟩) h.2
end
theorem HR_ (l:List (Nat×DVal)) (o:Option Nat) (d:DVal):Lj (BI l o d)<=max (mx d) (Lj l):=by
 cases o<;>simp only[BI,Lj]<;>omega
theorem aB {l:List (Nat×DVal)} {S:Nat->Bool} {n:Nat} (hl:Lj l<=n):∀(zs:List (Oper×DVal)) (i:Nat),(∀(k:Nat) (z:Oper×DVal),zs[k]? =some z->S (i+k)=true->mx z.2<=n)->Lj (Et l S i zs)<=n
 | [],_,_=>hl
 | (o,d)::r,i,h=>by
  have ih:=aB (S:=S) hl r (i+1) (fun k z hz hS=>h (k+1) z (by simpa using hz) (by rwa[show i+1+k=i+(k+1) by omega]at hS));simp only[Et]
  split
  ·rename_i hS;refine Nat.le_trans (HR_ _ _ _) ?_;have:=h 0 (o,d) (by simp) (by simpa using hS);simp only at this;omega
  ·exact ih
structure EffSpec (ow l1 l2:List Nat) (ops:Array Oper):Prop where
 two:∀(k i:Nat) (o o':Oper),ops[k]? =some o->ops[i]? =some o'->Bw ow o=true->k=i\/(k<i/\((Eb ops.toList []).getD i 0).testBit k=true)\/(i<k/\((Eb ops.toList []).getD k 0).testBit i=true) \/
  (Bw ow o'=false/\(((l2.contains i=true\/(l1.contains i=true/\Di o=true))\/((l1.contains i=false/\Ah_ o'=true)/\DA o=true))\/((l1.contains i=false/\DA o=true)/\Yd l2 k i=true)))
theorem Ym {ow l1 l2:List Nat} {ops:Array Oper} (h:DB ow l1 l2 ops=true):EffSpec ow l1 l2 ops:=by
 unfold DB at h;simp only[aM0,aV0]at h;obtain⟨_,h⟩:=h
 have mem:∀(k:Nat) (o:Oper),ops[k]? =some o->(o,k)∈ops.toList.zipIdx:=by
  intro k o hk;rw[List.mem_zipIdx_iff_getElem?];simpa using hk
 refine⟨fun k i o o' hk hi he=> ?_⟩;have h1:=h (o,k) (mem k o hk);simp only[cY0,he,Bool.not_true,aU0,false_or,aV0]at h1;have h2:=h1 (o',i) (mem i o' hi);simp only[cY0,aM0,beq_iff_eq,decide_eq_true_eq,eC0]at h2
 rcases h2 with ((h2 | h2) | h2) | h2
 ·exact .inl h2
 ·exact .inr (.inl h2)
 ·exact .inr (.inr (.inl h2))
 ·exact .inr (.inr (.inr h2))
theorem iH {P:Program} {o:Oper} {l:Operand->DVal} {own:List Ent} {r:Nat} {x:ERes} (h:JS P o l own r=some x) :
  ∃id r' obj,x.own=upE own id r' obj/\(Di o=true->(∃et k bs es,obj= .row et k bs es)/\(o.dst=some id\/∃e,Ar own id=some e/\FZ e=false)):=by
 obtain⟨dst,op,type,pos,after,guard⟩:=o;unfold JS at h;simp only at h;cases op<;>simp only[reduceCtorEq]at h
 case box t y =>
  split at h
  ·simp only[aA0]at h;subst h;exact⟨_,_,_,rfl,by simp[Di]⟩
  ·simp at h
 case buildSlice t len ps =>
  split at h
  ·simp only[aA0]at h;subst h;exact⟨_,_,_,rfl,by simp[Di]⟩
  ·simp at h
 case alloc t =>
  split at h
  ·simp only[aA0]at h;subst h;exact⟨_,_,_,rfl,by simp[Di]⟩
  ·simp at h
 case store t ad y =>
  split at h
  ·split at h
   ·split at h
    ·simp only[aA0]at h;subst h;exact⟨_,_,_,rfl,by simp[Di]⟩
    ·simp at h
   ·simp at h
  ·unfold Fv at h
   split at h
   ·split at h
    ·split at h
     ·simp only[aA0]at h;subst h;exact⟨_,_,_,rfl,by simp[Di]⟩
     ·simp at h
    ·simp at h
   ·simp at h
  ·simp at h
 case makeSlice t lo co =>
  unfold iI at h
  split at h
  ·simp only[aA0]at h;subst h;exact⟨_,_,_,rfl,by simp[Di]⟩
  ·simp at h
 case makeMap t rv =>
  split at h
  ·simp only[aA0]at h;subst h;exact⟨_,_,_,rfl,by simp[Di]⟩
  ·simp at h
 case mapUpdate t m k x =>
  split at h
  ·split at h
   ·split at h
    ·simp only[aA0]at h;subst h;exact⟨_,_,_,rfl,by simp[Di]⟩
    ·simp at h
   ·simp at h
  ·simp at h
 case call c =>
  obtain⟨cal,args,ats⟩:=c;cases cal<;>simp only[reduceCtorEq]at h;rename_i b;cases b<;>simp only[reduceCtorEq]at h
  case append =>
   unfold NF at h
   split at h
   ·split at h
    ·rename_i i k bs et _ _
     split at h
     ·rename_i x gC
      split at h
      ·rename_i id es hdest;simp only[aA0]at h;subst h;refine⟨_,_,_,rfl,fun _=>⟨⟨_,_,_,_,rfl⟩,?_⟩⟩;unfold HN at hdest
       split at hdest
       ·simp only[aA0,aT0]at hdest;obtain⟨rfl,_⟩:=hdest;exact .inl rfl
       ·split at hdest
        ·rename_i e0 vI
         split at hdest
         ·split at hdest
          ·rename_i qW
           split at hdest
           ·simp only[aA0,aT0]at hdest;obtain⟨rfl,_⟩:=hdest;exact .inr ⟨e0,vI,by unfold FZ;rw[qW]⟩
           ·simp at hdest
          ·simp at hdest
         ·simp at hdest
        ·simp at hdest
       ·simp at hdest
      ·simp at h
     split at h
     ·rename_i id es k2 es2 hdest wS;simp only[aA0]at h;subst h;refine⟨_,_,_,rfl,fun _=>⟨⟨_,_,_,_,rfl⟩,?_⟩⟩;unfold HN at hdest
      split at hdest
      ·simp only[aA0,aT0]at hdest;obtain⟨rfl,_⟩:=hdest;exact .inl rfl
      ·split at hdest
       ·rename_i e0 vI
        split at hdest
        ·split at hdest
         ·rename_i qW
          split at hdest
          ·simp only[aA0,aT0]at hdest;obtain⟨rfl,_⟩:=hdest;exact .inr ⟨e0,vI,by unfold FZ;rw[qW]⟩
          ·simp at hdest
         ·simp at hdest
        ·simp at hdest
       ·simp at hdest
      ·simp at hdest
     ·simp at h
    ·simp at h
   ·simp at h
  case copy =>
   unfold iJ at h
   split at h
   ·split at h
    ·simp only[aA0]at h;subst h;exact⟨_,_,_,rfl,by simp[Di]⟩
    ·simp at h
   ·simp at h
  case clear =>
   unfold Tx at h
   split at h
   ·split at h
    ·split at h
     ·split at h
      ·split at h
       ·simp only[aA0]at h;subst h;exact⟨_,_,_,rfl,by simp[Di]⟩
       ·simp at h
      ·simp at h
     ·split at h
      ·split at h
       ·simp only[aA0]at h;subst h;exact⟨_,_,_,rfl,by simp[Di]⟩
       ·simp at h
      ·simp at h
     ·simp at h
    ·simp at h
   ·simp at h
  case delete =>
   unfold NE at h
   split at h
   ·split at h
    ·split at h
     ·split at h
      ·simp only[aA0]at h;subst h;exact⟨_,_,_,rfl,by simp[Di]⟩
      ·simp at h
     ·simp at h
    ·simp at h
   ·simp at h
theorem VL {own:List Ent} {id r:Nat} {obj:DObj} (h:(own.map (·.id)).Nodup):((upE own id r obj).map (·.id)).Nodup:=by
 simp only[upE,List.map_cons,cS0];refine⟨fun hm=> ?_,Eu h⟩;obtain⟨e,he,h1⟩:=aR0.1 hm;exact(BJ.1 he).2 h1
theorem DI_ {P:Program} {o:Oper} {l:Operand->DVal} {own:List Ent} {r:Nat} {d:DVal} {own':List Ent} (h:Qz P o l own r d own') (nd:(own.map (·.id)).Nodup):(own'.map (·.id)).Nodup:=by
 rcases h with ⟨x,hx,_,_,rfl⟩ | ⟨c,g,args,_,_,hS⟩ | ⟨c,id,r',args,e0,l0,e,A,A',b,_,_,_,_,_,_,_,_,_,_,rfl⟩
 ·obtain⟨id,r',obj,h6,_⟩:=iH hx;rw[h6];exact VL nd
 ·exact hS.2.1
 ·exact VL nd
theorem DJ_ {P:Program} {o:Oper} {l:Operand->DVal} {own:List Ent} {r n:Nat} {d:DVal} {own':List Ent} (h:Qz P o l own r d own') (ho:Hj own<=n) (hl:∀y∈o.op.operands,mx (l y)<=n) (hr:n<=r):mx d<=r+1/\Hj own'<=r+1:=by
 rcases h with ⟨x,hx,hp,rfl,rfl⟩ | ⟨c,g,args,_,_,hS⟩ | ⟨c,id,r',args,e0,l0,e,A,A',b,_,_,_,_,_,_,_,_,_,rfl,rfl⟩
 ·exact Lh_ hx hp ho hl hr
 ·exact hS.2.2.1 (by omega)
 ·refine⟨by simp[mx],Nat.le_trans (De _ _ _ _) ?_⟩;simp only[Fp];omega
theorem Jg_ {P:Program} {o:Oper} {l:Operand->DVal} {own:List Ent} {r:Nat} {x:ERes} (h:JS P o l own r=some x) (ha:Di o=true) (qY:Me own o=true) (nd:(own.map (·.id)).Nodup) {e:Ent} (hb:FZ e=true) :
  e∈own↔e∈x.own:=by
 obtain⟨id,r',obj,hx,h1⟩:=iH h;obtain⟨⟨et,k,bs,es,rfl⟩,h2⟩:=h1 ha;rw[hx];unfold upE;rw[aJ0,BJ]
 constructor
 ·intro he;refine .inr ⟨he,fun hid=> ?_⟩;have hf:=Cn nd he;rw[hid]at hf
  rcases h2 with h2 | ⟨e',h2,h3⟩
  ·unfold Me at qY;rw[ha,h2]at qY;simp only[hf,hb]at qY;simp at qY
  ·rw[hf]at h2;simp only[aA0]at h2;subst h2;rw[hb]at h3;simp at h3
 ·rintro (rfl | ⟨he,_⟩)
  ·simp[FZ]at hb
  ·exact he
theorem CB_ {P:Program} {o:Oper} {l:Operand->DVal} {own:List Ent} {r:Nat} {d:DVal} {own':List Ent} (h:Qz P o l own r d own') (ha:Di o=true) (qY:Me own o=true) (nd:(own.map (·.id)).Nodup) {e:Ent} (hb:FZ e=true) :
  e∈own↔e∈own':=by
 rcases h with ⟨x,hx,_,_,rfl⟩ | ⟨c,g,args,wF,hc,hS⟩ | ⟨c,id,r',args,e0,l0,e1,A,A',b,wF,hc,_⟩
 ·exact Jg_ hx ha qY nd hb
 ·unfold Di at ha;rw[wF]at ha;unfold callee at hc
  split at hc
  ·rename_i f hf;simp only[hf]at ha;simp at ha
  ·simp at hc
 ·unfold Di at ha;rw[wF]at ha;unfold Xz at hc
  split at hc
  ·rename_i f hf;simp only[hf]at ha;simp at ha
  ·simp at hc
theorem RE {d:DVal} (h:∀c d',d= .sel c d'->c=true):mx (JZ d)=mx d:=by
 cases d<;>try rfl
 rename_i c d';have:=h c d' rfl;subst this;simp[JZ,mx]
theorem QL {e:Operand->DVal}:∀{l:List Operand},Gu true e l->∀x∈l,∀c d',e x= .sel c d'->c=true
 | [],_,x,hx,_,_,_=>by cases hx
 | y::l,h,x,hx,c,d',he=>by
  simp only[Gu]at h
  rcases aJ0.1 hx with rfl | hx
  ·have h1:=h.1;rw[he]at h1;exact h1 rfl
  ·exact QL h.2 x hx c d' he
theorem Tw {ow:List Nat} {o:Oper} {c:Bool} {e:Operand->DVal} (he:Bw ow o=true) (h:Kr c e o.op):Gu c e o.op.operands.toList:=by
 unfold Kr at h
 split at h
 ·rename_i wF;unfold Bw at he;rw[wF]at he;simp at he
 ·exact h
theorem Rel.selTrue {B:Base} {l:List (Nat×DVal)} {own:List Ent} {a:Act} {w:World} {loc:Nat->Loc} {dst:Option Nat} {d:DVal} (R:Rel B ⟨BI l dst d,own⟩ a w loc):Rel B ⟨BI l dst (.sel true d),own⟩ a w loc where
 st:=R.st
 upd:=R.upd
 new:=R.new
 ver:=R.ver
 sl:=by
  intro i;have h:=R.sl i
  cases dst with
  | none=>exact h
  | some j =>
   simp only[BI,Bq]at h |-
   split
   ·rename_i hj;rw[if_pos hj]at h;simp only[rd];exact⟨fun _=>h,fun h'=>by simp at h'⟩
   ·rename_i hj;rw[if_neg hj]at h;exact h
 nt:=R.nt
 df:=R.df
theorem JL_ {P:Program} {ops:Array Oper} {o:Oper} {s:DS} {d:DVal} {own':List Ent} {r:Nat} (h:EV P ops o s d own' r) (nd:(s.own.map (·.id)).Nodup):(own'.map (·.id)).Nodup:=by
 unfold EV at h
 split at h
 ·exact DI_ h nd
 ·obtain⟨_,_,⟨_,d0,_,h⟩ | ⟨_,_,rfl⟩⟩:=h
  ·exact DI_ h nd
  ·exact nd
theorem Gk_ {P:Program} {ops:Array Oper} {o:Oper} {s:DS} {d:DVal} {own':List Ent} {r:Nat} (h:EV P ops o s d own' r) (ha:Di o=true) (qY:Me s.own o=true) (nd:(s.own.map (·.id)).Nodup) {e:Ent} (hb:FZ e=true):e∈s.own↔e∈own':=by
 unfold EV at h
 split at h
 ·exact CB_ h ha qY nd hb
 ·obtain⟨_,_,⟨_,d0,_,h⟩ | ⟨_,_,rfl⟩⟩:=h
  ·exact CB_ h ha qY nd hb
  ·exact Iff.rfl
theorem tO {P:Program} {ops:Array Oper} {o:Oper} {s s':DS} {d:DVal} {own':List Ent} {r:Nat} (cJ:s.own=s'.own) (kS:∀x∈o.op.operands,ev s.slots x=ev s'.slots x) (hg:∀j want,o.guard=some (j,want)->BP ops s j=BP ops s' j) (h:EV P ops o s d own' r):EV P ops o s' d own' r:=by
 unfold EV at h |-
 cases zR:o.guard with
 | none =>
  rw[zR]at h;simp only at h |-;rw[<-cJ];exact Ut kS h
 | some jw =>
  obtain⟨j,want⟩:=jw;rw[zR]at h;simp only at h |-;rw[hg j want zR]at h;obtain⟨h1,h2,h3⟩:=h;refine⟨h1,Su kS h2,?_⟩
  rcases h3 with ⟨h3,d0,h4,h5⟩ | ⟨h3,h4,h5⟩
  ·exact .inl ⟨h3,d0,h4,by rw[<-cJ];exact Ut (fun x hx=>by unfold Bl;rw[kS x hx]) h5⟩
  ·exact .inr ⟨h3,h4,by rw[h5,cJ]⟩
theorem JM_ {P:Program} {ow:List Nat} {ops:Array Oper} {o:Oper} {s:DS} {d:DVal} {own':List Ent} {r n:Nat} (he:Bw ow o=true) (h:EV P ops o s d own' r) (ho:Hj s.own<=n) (hl:Lj s.slots<=n) (hr:n<=r):mx d<=r+1/\Hj own'<=r+1:=by
 unfold EV at h
 split at h
 ·exact DJ_ h ho (fun y _=>Nat.le_trans (PT _ y) hl) hr
 ·obtain⟨_,h2,⟨h3,d0,rfl,h⟩ | ⟨_,rfl,rfl⟩⟩:=h
  ·rw[h3]at h2
   have:=DJ_ h ho (fun y hy=>by
    unfold Bl;rw[RE (QL (Tw he h2) y (by simpa using hy))]
    exact Nat.le_trans (PT _ y) hl) hr
   refine⟨?_,this.2⟩;simp only[mx];simpa using this.1
  ·exact⟨by simp[mx],by omega⟩
theorem FT.ext {P:Program} {o:Oper} {own own':List Ent} {e e':Operand->DVal} {d:DVal} (h:FT P o own e d) (hx:MN own own') (he:∀x∈o.op.operands,e x=e' x):FT P o own' e' d:=by
 rcases h with ⟨c,g,args,wF,kX,hp⟩ | ⟨hp,kU⟩
 ·refine .inl ⟨c,g,args,wF,?_,hp⟩;rw[<-NR (fun x hx=>he x (by rw[wF];exact hx))];exact kX
 ·obtain⟨c1,c2⟩:=Sy (P:=P) (own:=own) o.op he;obtain⟨h1,h2⟩:=Nx_ hx o.op (c1.1 hp);exact .inr ⟨h1,by rw[h2,<-c2];exact kU⟩
theorem FT.mx {P:Program} {o:Oper} {own:List Ent} {e:Operand->DVal} {d:DVal} {n:Nat} (h:FT P o own e d) (hn:Hj own<=n) (he:∀x∈o.op.operands,mx (e x)<=n):mx d<=n:=by
 rcases h with ⟨c,g,args,wF,kX,hp⟩ | ⟨hp,rfl⟩
 ·rw[hp.2.1];omega
 ·exact Nw_ hn o.op he
theorem KJ {own:List Ent} {id r:Nat} {obj:DObj}:Ar (upE own id r obj) id=some ⟨id,r,obj⟩:=by simp[upE,Ar]
theorem NA {own:List Ent} {id r j:Nat} {obj:DObj} (h:j≠id):Ar (upE own id r obj) j=Ar own j:=by
 have hdel:∀own:List Ent,Ar (CT own id) j=Ar own j:=by
  intro own
  induction own with
  | nil=>rfl
  | cons e t ih =>
   simp only[CT]
   split
   ·rename_i he;rw[ih];simp only[Ar];rw[if_neg (by omega)]
   ·simp only[Ar];rw[ih]
 unfold upE;simp only[Ar];rw[if_neg (by omega),hdel]
theorem uK {P:Program} {o:Oper} {l:Operand->DVal} {own:List Ent} {r id:Nat} {x:ERes} (h:JS P o l own r=some x) (ha:DA o=true) (ht:∀t a y,o.op= .store t a y->Jd (l a)=some id) {e:Ent} (he:e.id≠id):e∈own↔e∈x.own:=by
 obtain⟨dst,op,type,pos,after,guard⟩:=o;unfold DA at ha;unfold JS at h;simp only at h ha ht
 have up:∀r' obj,e∈own↔e∈upE own id r' obj:=by
  intro r' obj;unfold upE;rw[aJ0,BJ]
  constructor
  ·exact fun hh=> .inr ⟨hh,he⟩
  ·rintro (rfl | hh)
   ·exact absurd rfl he
   ·exact hh.1
 cases op<;>simp only[reduceCtorEq,aU0]at h ha
 case store t a y =>
  have ht:=ht t a y rfl
  split at h
  ·rename_i id' r' off hl;rw[hl]at ht;simp only[Jd,aA0]at ht;subst ht
   split at h
   ·split at h
    ·simp only[aA0]at h;subst h;exact up _ _
    ·simp at h
   ·simp at h
  ·rename_i id' r' k i j hl;rw[hl]at ht;simp only[Jd,aA0]at ht;subst ht;unfold Fv at h
   split at h
   ·split at h
    ·split at h
     ·simp only[aA0]at h;subst h;exact up _ _
     ·simp at h
    ·simp at h
   ·simp at h
  ·simp at h
theorem Vv {P:Program} {o:Oper} {l:Operand->DVal} {own:List Ent} {r id:Nat} {d:DVal} {own':List Ent} (h:Qz P o l own r d own') (ha:DA o=true) (ht:∀t a y,o.op= .store t a y->Jd (l a)=some id) {e:Ent} (he:e.id≠id):e∈own↔e∈own':=by
 rcases h with ⟨x,hx,hp,_,rfl⟩ | ⟨c,g,args,wF,_⟩ | ⟨c,id,r',args,e0,l0,e1,A,A',b,wF,_⟩
 ·exact uK hx ha ht he
 ·simp[DA,wF]at ha
 ·simp[DA,wF]at ha
theorem Zc {d:DVal} {id:Nat} (h:Jd (JZ d)=some id) (hs:∀c d',d≠ .sel c d'):Jd d=some id:=by
 cases d<;>simp only[JZ]at h<;>first
  | exact h
  | (rename_i c d';exact absurd rfl (hs c d'))
theorem tN {P:Program} {ops:Array Oper} {o:Oper} {s:DS} {d:DVal} {own':List Ent} {r id:Nat} (h:EV P ops o s d own' r) (ha:DA o=true) (ht:Ry s.slots o=some id) {e:Ent} (he:e.id≠id):e∈s.own↔e∈own':=by
 have jX:∀(t:TypeId) (a y:Operand),o.op= .store t a y->Jd (Bl s.slots a)=some id:=by
  intro t a y wF;unfold Ry at ht;rw[wF]at ht;exact ht
 unfold EV at h
 split at h
 ·refine Vv h ha (fun t a y wF=> ?_) he;have h1:=jX t a y wF;unfold Bl at h1;refine Zc h1 fun c d' hd=> ?_
  rcases h with ⟨x,hx,_⟩ | ⟨c,g,args,dH,_⟩ | ⟨c,id,r',args,e0,l0,e1,A,A',b,dH,_⟩
  ·unfold JS at hx;rw[wF]at hx;simp only at hx;rw[hd]at hx;simp at hx
  ·rw[wF]at dH;simp at dH
  ·rw[wF]at dH;simp at dH
 ·obtain⟨_,_,⟨_,d0,_,h⟩ | ⟨_,_,rfl⟩⟩:=h
  ·exact Vv h ha (fun t a y wF=>jX t a y wF) he
  ·exact Iff.rfl
def EG (own own':List Ent):Prop:=∀id e et k bs es,Ar own id=some e->e.obj= .row et k bs es->∃e' et' es',Ar own' id=some e'/\e'.r=e.r/\e'.obj= .row et' k bs es'/\es'.length=es.length
theorem EG.refl (own:List Ent):EG own own:=fun _ e et _ _ es h1 h2=>⟨e,et,es,h1,rfl,h2,rfl⟩
theorem EG.trans {a b c:List Ent} (h1:EG a b) (h2:EG b c):EG a c:=by
 intro id e et k bs es g1 g2;obtain⟨e',et',es',k1,k2,k3,k4⟩:=h1 id e et k bs es g1 g2;obtain⟨e'',et'',es'',l1,l2,l3,l4⟩:=h2 id e' et' k bs es' k1 k3;exact⟨e'',et'',es'',l1,l2.trans k2,l3,l4.trans k4⟩
theorem EG.upE {own:List Ent} {id r:Nat} {obj:DObj} {e0:Ent} (h0:Ar own id=some e0) (hr:e0.r=r)
  (h:(∃et et' k bs es es',e0.obj= .row et k bs es/\obj= .row et' k bs es'/\es'.length=es.length)\/(∃c c',e0.obj= .box c/\obj= .box c')):EG own (upE own id r obj)/\EG (upE own id r obj) own:=by
 constructor
 ·intro j e et k bs es h1 h2
  by_cases hj:j=id
  ·subst hj;rw[h0]at h1;simp only[aA0]at h1;subst h1
   rcases h with ⟨et1,et',k1,bs1,es1,es',g1,g2,g3⟩ | ⟨c,c',g1,g2⟩
   ·rw[h2]at g1;simp only[DObj.row.injEq]at g1;obtain⟨rfl,rfl,rfl,rfl⟩:=g1;exact⟨_,et',es',KJ,hr.symm,g2,g3⟩
   ·rw[h2]at g1;simp at g1
  ·exact⟨e,et,es,by rw[NA hj];exact h1,rfl,h2,rfl⟩
 ·intro j e et k bs es h1 h2
  by_cases hj:j=id
  ·subst hj;rw[KJ]at h1;simp only[aA0]at h1;subst h1;simp only at h2;subst h2
   rcases h with ⟨et1,et',k1,bs1,es1,es',g1,g2,g3⟩ | ⟨c,c',g1,g2⟩
   ·simp only[DObj.row.injEq]at g2;obtain⟨rfl,rfl,rfl,rfl⟩:=g2;exact⟨e0,et1,es1,h0,hr,g1,g3.symm⟩
   ·simp at g2
  ·exact⟨e,et,es,by rw[NA hj]at h1;exact h1,rfl,h2,rfl⟩
theorem EG.filt {own own':List Ent} {f:Ent->Bool} (nd:(own.map (·.id)).Nodup) (h:EG own own'):EG (own.filter f) own':=by
 intro id e et k bs es h1 h2;obtain⟨g1,g2⟩:=AN h1;have:=Cn nd (cP0.1 g1).1;rw[g2]at this;exact h id e et k bs es this h2
theorem Id_ {P:Program} {o:Oper} {l:Operand->DVal} {own:List Ent} {r:Nat} {x:ERes} (h:JS P o l own r=some x) (hp:x.pre) (ha:DA o=true):EG own x.own/\EG x.own own:=by
 obtain⟨dst,op,type,pos,after,guard⟩:=o;unfold DA at ha;unfold JS at h;simp only at h ha;cases op<;>simp only[reduceCtorEq,aU0]at h ha
 case store t a y =>
  split at h
  ·split at h
   ·rename_i e he
    split at h
    ·rename_i cs qW;simp only[aA0]at h;subst h;exact EG.upE he hp.1 (.inr ⟨_,_,qW,rfl⟩)
    ·simp at h
   ·simp at h
  ·unfold Fv at h
   split at h
   ·rename_i e he
    split at h
    ·rename_i et k' bs es qW
     split at h
     ·simp only[aA0]at h;subst h;exact EG.upE he hp.1 (.inl ⟨_,_,_,_,_,_,qW,rfl,by simp⟩)
     ·simp at h
    ·simp at h
   ·simp at h
  ·simp at h
theorem Ch_ {P:Program} {o:Oper} {l:Operand->DVal} {own:List Ent} {r:Nat} {d:DVal} {own':List Ent} (h:Qz P o l own r d own') (ha:DA o=true):EG own own'/\EG own' own:=by
 rcases h with ⟨x,hx,hp,_,rfl⟩ | ⟨c,g,args,wF,_⟩ | ⟨c,id,r',args,e0,l0,e1,A,A',b,wF,_⟩
 ·exact Id_ hx hp ha
 ·simp[DA,wF]at ha
 ·simp[DA,wF]at ha
theorem Gj_ {P:Program} {ops:Array Oper} {o:Oper} {s:DS} {d:DVal} {own':List Ent} {r:Nat} (h:EV P ops o s d own' r) (ha:DA o=true):EG s.own own'/\EG own' s.own:=by
 unfold EV at h
 split at h
 ·exact Ch_ h ha
 ·obtain⟨_,_,⟨_,d0,_,h⟩ | ⟨_,_,rfl⟩⟩:=h
  ·exact Ch_ h ha
  ·exact⟨EG.refl _,EG.refl _⟩
theorem FT.ext2 {P:Program} {o:Oper} {own own':List Ent} {e e':Operand->DVal} {d:DVal} (h:FT P o own e d) (hx:MN own own'\/(Ah_ o=true/\EG own own')) (he:∀x∈o.op.operands,e x=e' x):FT P o own' e' d:=by
 rcases hx with hx | ⟨hi,hx⟩
 ·exact h.ext hx he
 ·obtain⟨dst,op,type,pos,after,guard⟩:=o;unfold Ah_ at hi;simp only at hi he;cases op<;>simp only[aU0]at hi
  case indexAddr t x i =>
   rcases h with ⟨c,g,args,wF,_⟩ | ⟨hp,hd⟩
   ·simp at wF
   ·refine .inr ?_;simp only[FY,BR]at hp hd |-;rw[<-he x (by simp[Op.operands]),<-he i (by simp[Op.operands])]
    split at hp
    ·rename_i _ _ n kk bs0 k' bs' es yZ ht hr;rw[yZ]at hd |-;simp only at hd |-;rw[ht];cases hxx:e x<;>rw[hxx]at hr hd<;>simp only[Bn,reduceCtorEq]at hr
     case sl =>
      simp only[aA0,aT0]at hr;obtain⟨rfl,rfl,rfl⟩:=hr;exact⟨by simpa[Bn]using hp,hd⟩
     case osl id r =>
      split at hr
      ·rename_i e0 hf
       split at hr
       ·rename_i dA
        split at hr
        ·rename_i et k1 bs1 es1 qW;simp only[aA0,aT0]at hr;obtain⟨rfl,rfl,rfl⟩:=hr;obtain⟨e1,et1,es1',g1,g2,g3,g4⟩:=hx id e0 _ _ _ _ hf qW;have nC:Bn own' (.osl id r)=some (k1,bs1,es1'):=by simp[Bn,g1,g2,dA,g3]
         have vB:Bn own (.osl id r)=some (k1,bs1,es1):=by simp[Bn,hf,dA,qW]
         simp only[GW]at hd |-;rw[vB]at hd;rw[nC];simp only at hd |-;exact⟨by rw[g4];exact hp,hd⟩
        ·simp at hr
       ·simp at hr
      ·simp at hr
     case vw id r k2 bs2 i2 n2 =>
      split at hr
      ·rename_i e0 hf
       split at hr
       ·rename_i dA
        split at hr
        ·rename_i et k1 bs1 es1 qW
         split at hr
         ·rename_i hq;simp only[aA0,aT0]at hr;obtain⟨rfl,rfl,rfl⟩:=hr;obtain⟨e1,et1,es1',g1,g2,g3,g4⟩:=hx id e0 _ _ _ _ hf qW;have nC:Bn own' (.vw id r k2 bs2 i2 n2)=some (k2,bs2,(es1'.drop i2).take n2):=by simp[Bn,g1,g2,dA,g3,hq,g4]
          rw[nC];simp only[GW]at hd |-;refine⟨⟨hp.1,hp.2.1,?_⟩,hd⟩;have:=hp.2.2;simp only[bE0,bW0]at this |-;omega
         ·simp at hr
        ·simp at hr
       ·simp at hr
      ·simp at hr
    ·exact hp.elim
section
variable {P : Program} {B : Base} {s : DS}
theorem Sb (ow l1 l2:List Nat) {ops:Array Oper} {K:Cont} {nt N:Nat} (qY:DB ow l1 l2 ops=true) (hnd0:(s.own.map (·.id)).Nodup) (h:Cd P nt ow l1 l2 ops ops.toList 0 K s) :
  ∃Inv:Base->Array Bool->Act->World->Prop,
   (∀B:Base,B.nt=nt->B.N=N->∀a w loc,Rel B s a w loc->Inv B (Array.replicate ops.size false) a w.drew) /\
   (∀B listed a w,Inv B listed a w->listed.size=ops.size/\(Region.ready .any ops listed=[]->∀i,i<ops.size->listed.getD i false=true)/\((∀i,i<ops.size->listed.getD i false=true)->∃s' loc,K.f s'/\Rel B s' a w loc)) /\
   (∀(B:Base) listed a w i (C:Act->World->Prop) (Qx:Exit->Act->World->Prop),B.nt=nt->B.N=N->Inv B listed a w->i∈Region.ready .any ops listed->(∀a' w',Inv B (listed.setIfInBounds i true) a' w'->C a' w')->wpOpIn (wd B.ro) 0 P ops Qx i C a w) /\
   (∀(B:Base) (G:Base->Prop) listed a w a' w' t,Inv B listed a w->(∀o∈ops.toList,o.dst≠some t)->(∀X loc,Bq X.slots t=Bq s.slots t->Rel B X a w loc->∃B',G B'/\Rel B' X a' w' loc)->∃B',G B'/\Inv B' listed a' w'):=by
 have yS:=qY;unfold DB at yS;simp only[aM0]at yS;have spec:=KM yS.1;have spE:=Ym qY;obtain⟨ds,owns,hl,dB,hK,wX⟩:=Wo (max N (max (Lj s.slots) (Hj s.own))) _ 0 0 _ h;have qU:ops.toList.length=ops.size:=by simp
 rw[qU]at hK;have wI:ds.length=ops.size:=by simpa using hl
 have zat:∀(k:Nat) (z:Oper×DVal),(ops.toList.zip ds)[k]? =some z->ops[k]? =some z.1/\ds[k]? =some z.2:=by
  intro k z hz;rw[List.getElem?_zip_eq_some]at hz;exact⟨by simpa using hz.1,hz.2⟩
 have zat':∀(k:Nat) (o:Oper) (d:DVal),ops[k]? =some o->ds[k]? =some d->(ops.toList.zip ds)[k]? =some (o,d):=by
  intro k o d ho hd;rw[List.getElem?_zip_eq_some];exact⟨by simpa using ho,hd⟩
 have uniq:∀(t k k':Nat) (z z':Oper×DVal),(ops.toList.zip ds)[k]? =some z->z.1.dst=some t->(ops.toList.zip ds)[k']? =some z'->z'.1.dst=some t->k'=k :=
  fun t k k' z z' h1 h2 h3 h4=>spec.one k' k z'.1 z.1 t (zat _ _ h3).1 (zat _ _ h1).1 h4 h2
 -- what the slots fD behind the operations of S, and behind the first j
 have agree:∀(S:Nat->Bool) (j:Nat) (t:Nat),(∀(k:Nat) (o:Oper),ops[k]? =some o->o.dst=some t->(S k=true↔k<j)) ->
   Bq (Et s.slots S 0 (ops.toList.zip ds)) t=Bq (HL s.slots ((ops.toList.zip ds).take j)) t:=by
  intro S j t hS
  by_cases hex:∃(k:Nat) (z:Oper×DVal),(ops.toList.zip ds)[k]? =some z/\z.1.dst=some t
  ·obtain⟨k,z,hz,hd⟩:=hex;have hSk:=hS k z.1 (zat _ _ hz).1 hd
   by_cases hkj:k<j
   ·rw[DJ _ 0 k z hz hd (by rw[bS0];exact hSk.2 hkj) (fun k' z' h1 h2=>uniq t k k' z z' hz hd h1 h2)];rw[KG _ _ k z (by rw[bX0 hkj];exact hz) hd];intro k' z' h1 h2
    have:(ops.toList.zip ds)[k']? =some z':=by
     rw[eV0]at h1
     split at h1
     ·exact h1
     ·simp at h1
    exact uniq t k k' z z' hz hd this h2
   ·rw[BO _ 0 (fun k' z' h1 h2=>by
     have:=uniq t k k' z z' hz hd h1 h2;subst this;rw[bS0]
     cases hq:S k' with
     | false=>rfl
     | true=>exact absurd (hSk.1 hq) hkj)]
    rw[EO];intro z' hz' h2;obtain⟨k',zZ,rfl⟩:=bK0 hz';have qV:k'<j:=by simp at zZ;omega
    have yT:(ops.toList.zip ds)[k']? =some ((ops.toList.zip ds).take j)[k']:=by
     rw[List.getElem_take];exact aH0 _
    have:=uniq t k k' z _ hz hd yT h2;omega
  ·rw[BO _ 0 (fun k' z' h1 h2=>absurd ⟨k',z',h1,h2⟩ hex),EO];intro z' hz' h2;obtain⟨k',zZ,hq⟩:=bK0 (cG0 hz');exact hex ⟨k',z',by rw[aH0 zZ,hq],h2⟩
 -- own objects: no two with one number; what stands between two places
 have hnd:∀j,j<=ops.size->((owns j).map (·.id)).Nodup:=by
  intro j
  induction j with
  | zero=>intro _;rw[dB];exact hnd0
  | succ j ih =>
   intro hj;have qV:j<ops.size:=by omega
   obtain⟨d,_,qL⟩:=wX j ops[j] (by simp[qV])
   rcases qL with ⟨_,_,_,hx⟩ | ⟨_,h5,_⟩
   ·exact JL_ (s:=⟨_,_⟩) hx (ih (by omega))
   ·rw[h5];exact ih (by omega)
 have still:∀m i,i+m<=ops.size->(∀k o,i<=k->k<i+m->ops[k]? =some o->Bw ow o=false)->owns (i+m)=owns i:=by
  intro m
  induction m with
  | zero=>intro i _ _;rfl
  | succ m ih =>
   intro i hi hk;have qV:i+m<ops.size:=by omega
   obtain⟨d,_,qL⟩:=wX (i+m) ops[i+m] (by simp[qV]);have qC:=hk (i+m) ops[i+m] (by omega) (by omega) (by simp[qV])
   rcases qL with ⟨h1,_⟩ | ⟨_,h5,_⟩
   ·rw[qC]at h1;simp at h1
   ·rw[show i+(m+1)=i+m+1 by omega,h5];exact ih i (by omega) fun k o h1 h2 h3=>hk k o h1 (by omega) h3
 have same:∀i j,i<=ops.size->j<=ops.size->(∀k o,ops[k]? =some o->Bw ow o=true->(k<j↔k<i))->owns j=owns i:=by
  intro i j hi hj hk
  by_cases yK:i<=j
  ·have:=still (j-i) i (by omega) (fun k o h1 h2 h3=>by
    cases hq:Bw ow o with
    | false=>rfl
    | true=>have:=(hk k o h3 hq).1 (by omega);omega)
   rwa[show i+(j-i)=j by omega]at this
  ·have:=still (i-j) j (by omega) (fun k o h1 h2 h3=>by
    cases hq:Bw ow o with
    | false=>rfl
    | true=>have:=(hk k o h3 hq).2 (by omega);omega)
   rw[show j+(i-j)=i by omega]at this;exact this.symm
 have boxes:∀m i,i+m<=ops.size->(∀k o,i<=k->k<i+m->ops[k]? =some o->Bw ow o=false\/Di o=true)->∀e,FZ e=true->(e∈owns i↔e∈owns (i+m)):=by
  intro m
  induction m with
  | zero=>intro i _ _ e _;exact Iff.rfl
  | succ m ih =>
   intro i hi hk e he;have qV:i+m<ops.size:=by omega
   rw[ih i (by omega) (fun k o h1 h2 h3=>hk k o h1 (by omega) h3) e he];obtain⟨d,_,qL⟩:=wX (i+m) ops[i+m] (by simp[qV]);have qC:=hk (i+m) ops[i+m] (by omega) (by omega) (by simp[qV])
   rcases qL with ⟨h1,_,h4,hx⟩ | ⟨_,h5,_⟩
   ·rcases qC with h | h
    ·rw[h]at h1;simp at h1
    ·rw[show i+(m+1)=i+m+1 by omega];exact Gk_ hx h h4.1 (hnd _ (by omega)) he
   ·rw[show i+(m+1)=i+m+1 by omega,h5]
 have boxesE:∀i j,i<=ops.size->j<=ops.size->(∀k o,ops[k]? =some o->Bw ow o=true->¬(k<j↔k<i)->Di o=true)->MN ((owns i).filter FZ) (owns j):=by
  intro i j hi hj hk id e hf;obtain⟨h1,h2⟩:=AN hf;rw[cP0]at h1
  have qO:e∈owns j:=by
   by_cases yK:i<=j
   ·have:=(boxes (j-i) i (by omega) (fun k o h1 h2 h3=>by
     cases hq:Bw ow o with
     | false=>exact .inl rfl
     | true=>exact .inr (hk k o h3 hq (by omega))) e h1.2).1 h1.1
    rwa[show i+(j-i)=j by omega]at this
   ·have:=(boxes (i-j) j (by omega) (fun k o h1 h2 h3=>by
     cases hq:Bw ow o with
     | false=>exact .inl rfl
     | true=>exact .inr (hk k o h3 hq (by omega))) e h1.2).2
    rw[show j+(i-j)=i by omega]at this;exact this h1.1
  rw[<-h2];exact Cn (hnd j hj) qO
 have lens:∀m i,i+m<=ops.size->(∀k o,i<=k->k<i+m->ops[k]? =some o->Bw ow o=false\/DA o=true)->EG (owns i) (owns (i+m))/\EG (owns (i+m)) (owns i):=by
  intro m
  induction m with
  | zero=>intro i _ _;exact⟨EG.refl _,EG.refl _⟩
  | succ m ih =>
   intro i hi hk;have qV:i+m<ops.size:=by omega
   obtain⟨g1,g2⟩:=ih i (by omega) (fun k o h1 h2 h3=>hk k o h1 (by omega) h3);obtain⟨d,_,qL⟩:=wX (i+m) ops[i+m] (by simp[qV]);have qC:=hk (i+m) ops[i+m] (by omega) (by omega) (by simp[qV]);rw[show i+(m+1)=i+m+1 by omega]
   rcases qL with ⟨h1,_,_,hx⟩ | ⟨_,h5,_⟩
   ·rcases qC with h | h
    ·rw[h]at h1;simp at h1
    ·obtain⟨l1,l2⟩:=Gj_ hx h;exact⟨g1.trans l1,l2.trans g2⟩
   ·rw[h5];exact⟨g1,g2⟩
 have lensE:∀i j,i<=ops.size->j<=ops.size->(∀k o,ops[k]? =some o->Bw ow o=true->¬(k<j↔k<i)->DA o=true)->EG (owns i) (owns j):=by
  intro i j hi hj hk
  by_cases yK:i<=j
  ·have:=(lens (j-i) i (by omega) (fun k o h1 h2 h3=>by
    cases hq:Bw ow o with
    | false=>exact .inl rfl
    | true=>exact .inr (hk k o h3 hq (by omega)))).1
   rwa[show i+(j-i)=j by omega]at this
  ·have:=(lens (i-j) j (by omega) (fun k o h1 h2 h3=>by
    cases hq:Bw ow o with
    | false=>exact .inl rfl
    | true=>exact .inr (hk k o h3 hq (by omega)))).2
   rwa[show j+(i-j)=i by omega]at this
 -- what the stores in between do not touch
 have touch:∀k o q,ops[k]? =some o->Bw ow o=true->DA o=true->Yd l2 k q=true->∀e,Aj_ l2 q e=false->(e∈owns k↔e∈owns (k+1)):=by
  intro k o q hk he hs hq e hh;obtain⟨d,_,qL⟩:=wX k o (by simpa using hk)
  rcases qL with ⟨_,_,⟨_,htc⟩,hx⟩ | ⟨h1,_⟩
  ·unfold Yd at hq;rw[cM0]at hq;obtain⟨c,hc,vK⟩:=hq;simp only[aM0,decide_eq_true_eq,beq_iff_eq]at vK;obtain⟨⟨c1,c2⟩,c3⟩:=vK;unfold Rz at htc;have h2:=aV0.1 htc c hc;simp only[cY0,decide_eq_true_eq,bne_iff_ne,ne_eq,beq_iff_eq]at h2
   have h3:Ry (HL s.slots ((ops.toList.zip ds).take k)) o=some (c/1000000-1):=by
    rcases h2 with (h2 | h2) | h2
    ·omega
    ·simp only[bS0]at h2;exact absurd c3 h2
    ·exact h2
   refine tN (s:=⟨_,owns k⟩) hx hs h3 fun hid=> ?_
   unfold Aj_ at hh;rw[dA0]at hh;have h4:=hh c hc;simp only[aM0,decide_eq_true_eq,beq_iff_eq,not_and]at h4;exact h4 ⟨c1,c2⟩ (by omega)
  ·rw[he]at h1;simp at h1
 have others:∀q m i,i+m<=ops.size->(∀k o,i<=k->k<i+m->ops[k]? =some o->Bw ow o=false\/(DA o=true/\Yd l2 k q=true))->∀e,Aj_ l2 q e=false->(e∈owns i↔e∈owns (i+m)):=by
  intro q m
  induction m with
  | zero=>intro i _ _ e _;exact Iff.rfl
  | succ m ih =>
   intro i hi hk e he;have qV:i+m<ops.size:=by omega
   rw[ih i (by omega) (fun k o h1 h2 h3=>hk k o h1 (by omega) h3) e he,show i+(m+1)=i+m+1 by omega];have yT:ops[i+m]? =some ops[i+m]:=by simp[qV]
   cases hq:Bw ow ops[i+m]with
   | true =>
    rcases hk (i+m) ops[i+m] (by omega) (by omega) yT with h | h
    ·rw[hq]at h;simp at h
    ·exact touch _ _ q yT hq h.1 h.2 e he
   | false =>
    obtain⟨d,_,qL⟩:=wX (i+m) ops[i+m] (by simp[qV])
    rcases qL with ⟨h1,_⟩ | ⟨_,h5,_⟩
    ·rw[hq]at h1;simp at h1
    ·rw[h5]
 have othersE:∀q i j,i<=ops.size->j<=ops.size->(∀k o,ops[k]? =some o->Bw ow o=true->¬(k<j↔k<i)->(DA o=true/\Yd l2 k q=true))->MN ((owns i).filter fun e=> !Aj_ l2 q e) (owns j):=by
  intro q i j hi hj hk id e hf;obtain⟨h1,h2⟩:=AN hf;rw[cP0]at h1;have hh:Aj_ l2 q e=false:=by simpa using h1.2
  have qO:e∈owns j:=by
   by_cases yK:i<=j
   ·have:=(others q (j-i) i (by omega) (fun k o h1 h2 h3=>by
     cases hq:Bw ow o with
     | false=>exact .inl rfl
     | true=>exact .inr (hk k o h3 hq (by omega))) e hh).1 h1.1
    rwa[show i+(j-i)=j by omega]at this
   ·have:=(others q (i-j) j (by omega) (fun k o h1 h2 h3=>by
     cases hq:Bw ow o with
     | false=>exact .inl rfl
     | true=>exact .inr (hk k o h3 hq (by omega))) e hh).2
    rw[show j+(i-j)=i by omega]at this;exact this h1.1
  rw[<-h2];exact Cn (hnd j hj) qO
 have effs_le:∀i j,i<=j->Ed ow (ops.toList.take i)<=Ed ow (ops.toList.take j):=by
  intro i j yK;unfold Ed;have:(ops.toList.take i)=(ops.toList.take j).take i:=by rw[List.take_take,Nat.min_eq_left yK]
  rw[this];exact(List.take_sublist _ _).countP_le
 have fin:∀(B:Base) (listed:Array Bool) (p:Nat) (a:Act) (w:World) (loc:Nat->Loc),listed.size=ops.size->Bj_ ops (fun k=>listed.getD k false)->p<=ops.size->(∀k o,ops[k]? =some o->Bw ow o=true->(listed.getD k false=true↔k<p))->Rel B ⟨Et s.slots (fun k=>listed.getD k false) 0 (ops.toList.zip ds),owns p⟩ a w loc ->
   (∀i,i<ops.size->listed.getD i false=true)->∃s' loc,K.f s'/\Rel B s' a w loc:=by
  intro B listed p a w loc qH hc hp fN R gX
  have heq:owns p=owns ops.size:=same _ _ (Nat.le_refl _) hp fun k o h1 h2=>by
   have qV:k<ops.size:=(aF0.1 h1).1;have:=fN k o h1 h2;simp only[gX k qV,true_iff]at this;omega
  rw[heq]at R;refine⟨_,loc,hK,Rel.congr (fun t=> ?_) R⟩
  have:=agree (fun k=>listed.getD k false) (ops.toList.zip ds).length t (fun k o ho hd=>by
   have qV:k<ops.size:=(aF0.1 ho).1
   simp only[gX k qV,true_iff,List.length_zip,bQ0,wI,Nat.min_self];exact qV)
  rw[this,aY0]
 have nready:∀(listed:Array Bool),Region.ready .any ops listed=[]->listed.size=ops.size->∀i,i<ops.size->listed.getD i false=true:=by
  intro listed hr qH i
  induction i using Nat.strongRecOn with
  | _ i ih =>
   intro hi
   cases hq:listed.getD i false with
   | true=>rfl
   | false =>
    exfalso;have yT:ops[i]? =some ops[i]:=bM0 hi
    have:i∈Region.ready .any ops listed:=by
     rw[mem_ready];refine⟨?_,ops[i],yT,fun e he hb=> ?_⟩
     ·have yZ:i<listed.size:=by omega
      simp only[aK0,bM0 yZ,cB0]at hq |-;exact hq
     ·have:=spec.acy i _ yT e he hb;exact ih e.on this (by omega)
    rw[hr]at this;simp at this
 refine⟨fun B listed a w=>listed.size=ops.size/\Bj_ ops (fun k=>listed.getD k false)/\∃p loc,p<=ops.size/\(∀k o,ops[k]? =some o->Bw ow o=true->(listed.getD k false=true↔k<p)) /\
   (∀k d,ds[k]? =some d->listed.getD k false=true->mx d<=max N (max (Lj s.slots) (Hj s.own))+Ed ow (ops.toList.take p))/\Hj (owns p)<=max N (max (Lj s.slots) (Hj s.own))+Ed ow (ops.toList.take p) /\
   Rel B ⟨Et s.slots (fun k=>listed.getD k false) 0 (ops.toList.zip ds),owns p⟩ a w loc,?_,?_,?_,?_⟩
 ·intro B hBt hBN a w loc R;subst hBt hBN
  have gR:∀k,(Array.replicate ops.size false).getD k false=false:=by
   intro k;simp[aK0,dV0]
   split<;>simp
  refine⟨by simp,?_,0,loc,by omega,fun k o hk he=>by rw[gR];simp,fun k d hk hS=>by rw[gR]at hS;simp at hS,by rw[dB];omega,?_⟩
  ·intro k o hk hS;simp[aK0,dV0]at hS
   split at hS<;>simp at hS
  ·have R':=R.put (dst:=none) (v:=Go.undef) (d:= .any) (fun i hi=>by simp at hi) (Upd.drew [] w) (by simp[rd]);rw[dB];refine Rel.congr (fun t=> ?_) R'
   exact BO _ 0 (fun k z hz hd=>by
    simp[aK0,dV0]
    split<;>simp)
 ·rintro B listed a w ⟨qH,hc,p,loc,hp,fN,hbd,nY,R⟩;exact⟨qH,fun hr=>nready listed hr qH,fin B listed p a w loc qH hc hp fN R⟩
 ·rintro B listed a w i C Qx hBt hBN ⟨qH,hc,p,loc,hp,fN,hbd,nY,R⟩ hi hC;subst hBt hBN;rw[mem_ready]at hi;obtain⟨h0,o,ho,wM⟩:=hi;have qV:i<ops.size:=(aF0.1 ho).1;have yZ:i<listed.size:=by omega
  have hSi:listed.getD i false=false:=by
   simp only[aK0,bM0 yZ,cB0]at h0 |-;exact h0
  obtain⟨d,hd,qL⟩:=wX i o (by simpa using ho);simp only[bS0,dQ0]at qL
  -- what stands ahead is done; what waits is not
  have anc:∀k,((Eb ops.toList []).getD i 0).testBit k=true->listed.getD k false=true:=by
   intro k h2;rw[SD]at h2;simp only[List.length_nil,dU0,if_false,eT0]at h2;have yF:ops.toList[i]? =some o:=by simpa using ho
   rw[yF]at h2;obtain⟨e,he,hb,h3⟩:=SE _ _ _ h2;have hon:=wM e (by simpa using he) hb
   rcases h3 with rfl | h3
   ·exact hon
   ·refine TO hc e.on hon k ?_;have jJ:=spec.acy i o ho e (by simpa using he) hb
    have:((Eb ops.toList []).take i).getD e.on 0=(Eb ops.toList []).getD e.on 0:=by
     simp[bJ0,bX0 jJ]
    rwa[this]at h3
  have des:∀k,((Eb ops.toList []).getD k 0).testBit i=true->listed.getD k false=false:=by
   intro k h2
   cases hq:listed.getD k false with
   | false=>rfl
   | true =>
    have:=TO hc k hq i h2;rw[hSi]at this;simp at this
  -- the slots that the operation looks at
  have look:∀t∈o.looksAt ops,Bq (Et s.slots (fun k=>listed.getD k false) 0 (ops.toList.zip ds)) t=Bq (HL s.slots ((ops.toList.zip ds).take i)) t:=by
   intro t ht;refine agree _ i t fun k o' hk cG=> ?_
   rcases spec.ord i o t ho ht k o' hk cG with ⟨h1,h2⟩ | ⟨h1,h2⟩
   ·exact⟨fun _=>h1,fun _=>anc k h2⟩
   ·refine⟨fun zZ=> ?_,fun zZ=>by omega⟩;rw[des k h2]at zZ;simp at zZ
  have pL:(fun k=>(listed.setIfInBounds i true).getD k false)=fun k=>if k=i then true else listed.getD k false:=by
   funext k
   by_cases hk:k=i
   ·subst hk;simp[yZ]
   ·rw[if_neg hk,getD_set_ne false (Ne.symm hk)]
  have hS'':∀k,(listed.setIfInBounds i true).getD k false=if k=i then true else listed.getD k false:=fun k=>congrFun pL k
  have gI:Lj (Et s.slots (fun k=>listed.getD k false) 0 (ops.toList.zip ds))<=Co B s+Ed ow (ops.toList.take p):=by
   refine aB (by unfold Co;omega) _ _ fun k z hz hS=> ?_
   rw[bS0]at hS;exact hbd k z.2 (zat _ _ hz).2 hS
  have kS:∀x∈o.op.operands,ev (Et s.slots (fun k=>listed.getD k false) 0 (ops.toList.zip ds)) x=ev (HL s.slots ((ops.toList.zip ds).take i)) x:=by
   intro x hx;refine IM_ fun t hxt=>look t ?_
   subst hxt;exact aN0 _ (List.mem_filterMap.2 ⟨.tmp t,by simpa using hx,rfl⟩)
  have hg:∀j want,o.guard=some (j,want)->BP ops ⟨Et s.slots (fun k=>listed.getD k false) 0 (ops.toList.zip ds),owns p⟩ j=BP ops ⟨HL s.slots ((ops.toList.zip ds).take i),Ji l1 l2 i (owns i)⟩ j:=by
   intro j want zR;unfold BP
   cases ht:(ops[j]?).bind (·.dst)with
   | none=>rfl
   | some t =>
    refine look t (aP0 _ ?_);rw[zR];simp[ht]
  -- the next set
  have next:∀(p':Nat) (a':Act) (w':World) (loc:Nat->Loc),p'<=ops.size->(∀k o,ops[k]? =some o->Bw ow o=true->((listed.setIfInBounds i true).getD k false=true↔k<p'))->Ed ow (ops.toList.take p)<=Ed ow (ops.toList.take p')->mx d<=Co B s+Ed ow (ops.toList.take p')->Hj (owns p')<=Co B s+Ed ow (ops.toList.take p') ->
    Rel B ⟨BI (Et s.slots (fun k=>listed.getD k false) 0 (ops.toList.zip ds)) o.dst d,owns p'⟩ a' w' loc->C a' w':=by
   intro p' a' w' loc qN dM wY gU hmo R';refine hC a' w' ⟨by simpa using qH,?_,p',loc,qN,dM,?_,hmo,?_⟩
   ·rw[pL];intro k o' hk hS e he hb
    by_cases gO:k=i
    ·subst gO;rw[ho]at hk;simp only[aA0]at hk;subst hk;have:=wM e he hb;simp only[this];split<;>rfl
    ·simp only[if_neg gO]at hS;have:=hc k o' hk hS e he hb;simp only[this];split<;>rfl
   ·intro k d' hk hS;rw[hS'']at hS
    by_cases gO:k=i
    ·subst gO;rw[hd]at hk;simp only[aA0]at hk;subst hk;exact gU
    ·rw[if_neg gO]at hS;have:=hbd k d' hk hS;omega
   ·rw[pL];refine Rel.congr (fun t=> ?_) R';rw[Gw]
    by_cases jP:o.dst=some t
    ·rw[if_pos jP];exact DJ _ 0 i (o,d) (zat' i o d ho hd) jP (by simp) (fun k' z' h1 h2=>uniq t i k' (o,d) z' (zat' i o d ho hd) jP h1 h2)
    ·rw[if_neg jP];have e1:=fun S j hS=>agree S j t hS
     by_cases hex:∃(k:Nat) (z:Oper×DVal),(ops.toList.zip ds)[k]? =some z/\z.1.dst=some t
     ·obtain⟨k,z,hz,cG⟩:=hex
      have gO:k≠i:=by
       intro gO;subst gO;have:=(zat _ _ hz).1;rw[ho]at this;simp only[aA0]at this;exact jP (by rw[this];exact cG)
      cases hSk:listed.getD k false with
      | true =>
       rw[DJ _ 0 k z hz cG (by rw[bS0];simp[gO,hSk]) (fun k' z' h1 h2=>uniq t k k' z z' hz cG h1 h2)];rw[DJ _ 0 k z hz cG (by rw[bS0];exact hSk) (fun k' z' h1 h2=>uniq t k k' z z' hz cG h1 h2)]
      | false =>
       rw[BO _ 0 (fun k' z' h1 h2=>by
        have:=uniq t k k' z z' hz cG h1 h2;subst this
        rw[bS0];simp[gO,hSk])]
       rw[BO _ 0 (fun k' z' h1 h2=>by
        have:=uniq t k k' z z' hz cG h1 h2;subst this
        rw[bS0];exact hSk)]
     ·rw[BO _ 0 (fun k' z' h1 h2=>absurd ⟨k',z',h1,h2⟩ hex),BO _ 0 (fun k' z' h1 h2=>absurd ⟨k',z',h1,h2⟩ hex)]
  -- the operation itself
  rcases qL with ⟨fK,qI,happ,hx⟩ | ⟨hneu,cJ,yS⟩
  ·have fE:∀k o',ops[k]? =some o'->Bw ow o'=true->(k<p↔k<i):=by
    intro k o' hk he;rw[<-fN k o' hk he]
    rcases spE.two k i o' o hk ho he with h | ⟨h1,h2⟩ | ⟨h1,h2⟩ | ⟨h1,_⟩
    ·subst h;rw[hSi];simp
    ·exact⟨fun _=>h1,fun _=>anc k h2⟩
    ·rw[des k h2];simp;omega
    ·rw[fK]at h1;simp at h1
   have heq:owns p=owns i:=same i p (by omega) hp fE
   have bK:Ed ow (ops.toList.take p)=Ed ow (ops.toList.take i):=by
    have key:∀m q,q+m<=ops.size->(∀k o',q<=k->k<q+m->ops[k]? =some o'->Bw ow o'=false)->Ed ow (ops.toList.take (q+m))=Ed ow (ops.toList.take q):=by
     intro m
     induction m with
     | zero=>intro q _ _;rfl
     | succ m ihm =>
      intro q hq hk;have jJ:q+m<ops.size:=by omega
      rw[show q+(m+1)=q+m+1 by omega,bF0];have hg:ops.toList[q+m]? =some ops[q+m]:=by simp[jJ]
      have qC:=hk (q+m) ops[q+m] (by omega) (by omega) (by simp[jJ]);have:=ihm q (by omega) fun k o' h1 h2 h3=>hk k o' h1 (by omega) h3
      unfold Ed at this |-;rw[hg,List.countP_append,this];simp[fB0,qC]
    by_cases hpi:p<=i
    ·have:=key (i-p) p (by omega) (fun k o' h1 h2 h3=>by
      cases hq:Bw ow o' with
      | false=>rfl
      | true=>have:=(fE k o' h3 hq).2 (by omega);omega)
     rw[show p+(i-p)=i by omega]at this;exact this.symm
    ·have:=key (p-i) i (by omega) (fun k o' h1 h2 h3=>by
      cases hq:Bw ow o' with
      | false=>rfl
      | true=>have:=(fE k o' h3 hq).1 (by omega);omega)
     rwa[show i+(p-i)=p by omega]at this
   have hinc:Ed ow (ops.toList.take (i+1))=Ed ow (ops.toList.take i)+1:=by
    have hg:ops.toList[i]? =some o:=by simpa using ho
    rw[bF0,hg];unfold Ed;rw[List.countP_append];simp[fB0,fK]
   have qG:EV P ops o ⟨Et s.slots (fun k=>listed.getD k false) 0 (ops.toList.zip ds),owns p⟩ d (owns (i+1)) (Co B s+Ed ow (ops.toList.take i)):=by
    refine tO (s:=⟨HL s.slots ((ops.toList.zip ds).take i),owns i⟩) heq.symm (fun x hx=>(kS x hx).symm) (fun j want zR=>(hg j want zR).symm) ?_;simpa[Co]using hx
   have qF:Co B ⟨Et s.slots (fun k=>listed.getD k false) 0 (ops.toList.zip ds),owns p⟩<=Co B s+Ed ow (ops.toList.take i):=by
    rw[<-bK];have h0:B.N<=Co B s:=by unfold Co;omega
    unfold Co;simp only;have h1:=gI;have h2:=nY;have h3:Co B s+Ed ow (ops.toList.take p)=max B.N (max (Lj s.slots) (Hj s.own))+Ed ow (ops.toList.take p):=rfl;have h4:Co B s=max B.N (max (Lj s.slots) (Hj s.own)):=rfl;omega
   have hmxx:=JM_ (n:=Co B s+Ed ow (ops.toList.take i)) fK qG (by rw[<-bK];exact nY) (by rw[<-bK];exact gI) (Nat.le_refl _)
   have nx:∀(a':Act) (w':World) (loc':Nat->Loc),Rel B ⟨BI (Et s.slots (fun k=>listed.getD k false) 0 (ops.toList.zip ds)) o.dst d,owns (i+1)⟩ a' w' loc'->C a' w':=by
    intro a' w' loc' R';refine next (i+1) a' w' loc' (by omega) ?_ (by rw[bK,hinc];omega) (by rw[hinc];have:=hmxx.1;omega) (by rw[hinc];have:=hmxx.2;omega) R'
    intro k o' hk he;rw[hS'']
    by_cases gO:k=i
    ·rw[if_pos gO];simp;omega
    ·rw[if_neg gO,fN k o' hk he,fE k o' hk he];omega
   unfold wpOpIn;rw[ho];simp only;unfold EV at qG
   cases zR:o.guard with
   | none =>
    rw[zR]at qG;have hw:Region.wanted o (yielded ops a.tmps)=true:=by simp[Region.wanted,zR]
    rw[if_pos hw];exact iE (R:=R) qF qI (fun x _=>R.ev x) (fun x _=>PT _ x) qG nx
   | some jw =>
    obtain⟨j,want⟩:=jw;rw[zR]at qG;simp only at qG;obtain⟨g1,g2,g3⟩:=qG;have cW:=Td (want:=want) R g1;have hw:Region.wanted o (yielded ops a.tmps)=gB (BP ops ⟨Et s.slots (fun k=>listed.getD k false) 0 (ops.toList.zip ds),owns p⟩ j) want:=by simp only[Region.wanted,zR];exact cW
    rw[hw]
    rcases g3 with ⟨hb,d0,rfl,qG⟩ | ⟨hb,rfl,hown'⟩
    ·rw[hb]at g2 |-;rw[if_pos rfl];have jX:=QL (Tw fK g2)
     exact iE (R:=R) qF qI (fun x hx=>OQ (fun x=>R.ev x) _ (Tw fK g2) x (by simpa using hx)) (fun x hx=>by
      unfold Bl;rw[RE (jX x (by simpa using hx))]
      exact PT _ x) qG fun a' w' loc' R'=>nx a' w' loc' R'.selTrue
    ·rw[hb];rw[if_neg (by simp)];refine⟨fun _ _=>trivial,nx _ _ loc ?_⟩;rw[hown'];exact R.put (MH qI) (Upd.refl _ _) (by simp[rd])
  have hext:MN (Ji l1 l2 i (owns i)) (owns p)\/(Ah_ o=true/\EG (Ji l1 l2 i (owns i)) (owns p)):=by
   unfold Ji
   split
   ·exact .inl fun id e hf=>by simp[Ar]at hf
   ·rename_i pQ;have pQ:l2.contains i=false:=by simpa using pQ
    have fE:∀k o',ops[k]? =some o'->Bw ow o'=true->¬(k<p↔k<i)->(l1.contains i=true/\Di o'=true)\/((l1.contains i=false/\Ah_ o=true)/\DA o'=true)\/((l1.contains i=false/\DA o'=true)/\Yd l2 k i=true):=by
     intro k o' hk he qC;rw[<-fN k o' hk he]at qC
     rcases spE.two k i o' o hk ho he with h | ⟨h1,h2⟩ | ⟨h1,h2⟩ | ⟨h1,h2⟩
     ·subst h;rw[hSi]at qC;simp at qC
     ·exact absurd ⟨fun _=>h1,fun _=>anc k h2⟩ qC
     ·rw[des k h2]at qC;simp at qC;omega
     ·rcases h2 with ((h2 | h2) | h2) | h2
      ·rw[pQ]at h2;simp at h2
      ·exact .inl h2
      ·exact .inr (.inl h2)
      ·exact .inr (.inr h2)
    split
    ·rename_i cY;refine .inl (boxesE i p (by omega) hp fun k o' hk he qC=> ?_)
     rcases fE k o' hk he qC with h | h | h
     ·exact h.2
     ·rw[cY]at h;simp at h
     ·rw[cY]at h;simp at h
    ·rename_i cY;have cY:l1.contains i=false:=by simpa using cY
     cases hix:Ah_ o with
     | false =>
      refine .inl ?_
      have rE:∀k o',ops[k]? =some o'->Bw ow o'=true->¬(k<p↔k<i)->DA o'=true/\Yd l2 k i=true:=by
       intro k o' hk he hq
       rcases fE k o' hk he hq with h | h | h
       ·rw[cY]at h;simp at h
       ·rw[hix]at h;simp at h
       ·exact⟨h.1.2,h.2⟩
      split
      ·rename_i hemp;have vW:l2=[]:=by simpa using hemp
       rw[same i p (by omega) hp fun k o' hk he=>by
        by_cases hq:(k<p↔k<i)
        ·exact hq
        ·have:=(rE k o' hk he hq).2;rw[vW]at this
         simp[Yd]at this]
       exact fun _ _ h=>h
      ·exact othersE i i p (by omega) hp rE
     | true =>
      have wY:EG (owns i) (owns p):=lensE i p (by omega) hp fun k o' hk he qC=>by
       rcases fE k o' hk he qC with h | h | h
       ·rw[cY]at h;simp at h
       ·exact h.2
       ·exact h.1.2
      refine .inr ⟨rfl,?_⟩
      split
      ·exact wY
      ·exact wY.filt (hnd i (by omega))
  have dM:∀k o',ops[k]? =some o'->Bw ow o'=true->((listed.setIfInBounds i true).getD k false=true↔k<p):=by
   intro k o' hk he;rw[hS'']
   by_cases gO:k=i
   ·subst gO;rw[ho]at hk;simp only[aA0]at hk;subst hk;rw[hneu]at he;simp at he
   ·rw[if_neg gO];exact fN k o' hk he
  have evmx:∀x:Operand,mx (ev (Et s.slots (fun k=>listed.getD k false) 0 (ops.toList.zip ds)) x)<=Co B s+Ed ow (ops.toList.take p):=fun x=>Nat.le_trans (PT _ x) gI
  have run:∀(e:Operand->DVal) (d':DVal),(∀x∈o.op.operands,Bt ⟨Et s.slots (fun k=>listed.getD k false) 0 (ops.toList.zip ds),owns p⟩ loc B.M0 w (e x) (a.eval x)) ->
    (∀(w':World) (v:Value),rd (Ae (owns p) loc) (Ab (owns p) loc++B.M0) w'.heap d' v->rd (Ae (owns p) loc) (Ab (owns p) loc++B.M0) w'.heap d v)->mx d<=Co B s+Ed ow (ops.toList.take p)->FT P o (owns p) e d'->o.wpIn (wd B.ro) 0 P a w C Qx:=by
   rintro e d' he kU gU (⟨c,g,args,wF,kX,wV⟩ | ⟨wV,hq⟩)
   ·exact Ys (d':=d) (K:=fun s'=>s'=⟨BI (Et s.slots (fun k=>listed.getD k false) 0 (ops.toList.zip ds)) o.dst d,owns p⟩) R yS.1 wF he kX wV (fun _=>rfl) kU (fun s' a' w' loc' zE R'=>by
     subst zE
     exact next p a' w' loc' hp dM (Nat.le_refl _) gU nY R')
   ·exact xT (d:=d) (K:=fun s'=>s'=⟨BI (Et s.slots (fun k=>listed.getD k false) 0 (ops.toList.zip ds)) o.dst d,owns p⟩) R yS.1 he wV rfl (fun w' v h=>kU w' v (by rw[hq];exact h)) (fun s' a' w' loc' zE R'=>by
     subst zE
     exact next p a' w' loc' hp dM (Nat.le_refl _) gU nY R')
  unfold wpOpIn;rw[ho];simp only;obtain⟨qI,fC⟩:=yS;have yS:Cp B.nt o.dst=true/\True:=⟨qI,trivial⟩
  cases zR:o.guard with
  | none =>
   have hw:Region.wanted o (yielded ops a.tmps)=true:=by simp[Region.wanted,zR]
   rw[if_pos hw];rw[zR]at fC;have h1:=FT.ext2 fC hext (fun x hx=>(kS x hx).symm);exact(run _ d (fun x _=>R.ev x) (fun _ _ h=>h) (h1.mx nY fun x _=>evmx x) h1)
  | some jw =>
   obtain⟨j,want⟩:=jw;rw[zR]at fC;simp only at fC;obtain⟨g1,g2,d',rfl,g3⟩:=fC;rw[<-hg j want zR]at g1 g2 g3 next run
   have cW:=Td (want:=want) R g1;have hw:Region.wanted o (yielded ops a.tmps)=gB (BP ops ⟨Et s.slots (fun k=>listed.getD k false) 0 (ops.toList.zip ds),owns p⟩ j) want:=by simp only[Region.wanted,zR];exact cW
   rw[hw];have dK:=Su (fun x hx=>(kS x hx).symm) g2
   have hstrip:∀x∈o.op.operands,Bl (HL s.slots ((ops.toList.zip ds).take i)) x=Bl (Et s.slots (fun k=>listed.getD k false) 0 (ops.toList.zip ds)) x:=by
    intro x hx;unfold Bl;rw[kS x hx]
   split
   ·rename_i hb;rw[hb]at dK;have h1:=FT.ext2 (g3 hb) hext hstrip
    have kU:∀(w':World) (v:Value),rd (Ae (owns p) loc) (Ab (owns p) loc++B.M0) w'.heap d' v->rd (Ae (owns p) loc) (Ab (owns p) loc++B.M0) w'.heap (.sel (gB (BP ops ⟨Et s.slots (fun k=>listed.getD k false) 0 (ops.toList.zip ds),owns p⟩ j) want) d') v:=by
     intro w' v h;rw[hb];simp only[rd];exact⟨fun _=>h,fun h'=>by simp at h'⟩
    rcases h1 with ⟨c,g,args,wF,kX,wV⟩ | ⟨wV,hq⟩
    ·refine(run (Bl (Et s.slots (fun k=>listed.getD k false) 0 (ops.toList.zip ds))) d' ?_ kU (by rw[hb];simp[mx,wV.2.1]) (.inl ⟨c,g,args,wF,kX,wV⟩));rw[wF]at dK |-;exact fun x hx=>OQ (fun x=>R.ev x) _ dK x (by simpa using hx)
    ·obtain⟨e',q1,q2,q3⟩:=BW_ (fun x=>R.ev x) dK wV;exact(run e' (BR P (owns p) e' o.op) q1 (fun w' v h=>kU w' v (by rw[hq];exact q3 _ _ _ _ h)) (by rw[hb,hq];simpa[mx,Co]using Kq_ dK wV nY (fun x _=>evmx x)) (.inr ⟨q2,rfl⟩))
   ·rename_i hb;refine⟨fun _ _=>trivial,?_⟩;refine next p _ _ loc hp dM (Nat.le_refl _) (by rw[show gB (BP ops ⟨Et s.slots (fun k=>listed.getD k false) 0 (ops.toList.zip ds),owns p⟩ j) want=false by simpa using hb];simp[mx]) nY ?_
    have qD:gB (BP ops ⟨Et s.slots (fun k=>listed.getD k false) 0 (ops.toList.zip ds),owns p⟩ j) want=false:=by simpa using hb
    rw[qD];exact R.put (MH qI) (Upd.refl _ _) (by simp[rd])
 ·rintro B G listed a w a' w' t ⟨qH,hc,p,loc,hp,fN,hbd,nY,R⟩ ht hT
  have hgs:=BO (l:=s.slots) (S:=fun k=>listed.getD k false) (t:=t) (ops.toList.zip ds) 0 (fun k z hz hd=>by
   have h1:=(zat _ _ hz).1
   exact absurd hd (ht z.1 (by simpa using eK0 h1)))
  obtain⟨B',hG,R'⟩:=hT _ loc hgs R;exact⟨B',hG,qH,hc,p,loc,hp,fN,hbd,nY,R'⟩
theorem QC (ow l1 l2:List Nat) {id:Nat} {ops:Array Oper} {Q:Exit->DS->Prop} (hm:P.follows .mixedOrders=true) (qY:DB ow l1 l2 ops=true) (h:Cd P B.nt ow l1 l2 ops ops.toList 0 ⟨Q .normal⟩ s):DW P B (.region id ops true) Q s:=by
 intro a w loc R;refine wpIn_region_any hm ?_;obtain⟨Inv,h1,h2,h3,_⟩:=Sb (N:=B.N) ow l1 l2 qY R.st.nd h
 have main:∀(fuel:Nat) (listed:Array Bool) (a:Act) (w:World),(List.range ops.size).countP (fun k=>listed.getD k false)+fuel=ops.size->Inv B listed a w->wpAnyIn (wd B.ro) 0 P .any ops (QQ B Q) fuel listed a w:=by
  intro fuel
  induction fuel with
  | zero =>
   intro listed a w fP hI;obtain⟨qH,h5,h6⟩:=h2 _ _ _ _ hI
   have gX:∀i,i<ops.size->listed.getD i false=true:=by
    intro i hi;have:=(eJ0 (p:=fun k=>listed.getD k false) (l:=List.range ops.size)).1 (by simpa using fP) i (cD0.2 hi);simpa using this
   refine⟨?_,h6 gX⟩;rw[dW0];intro i hi;rw[mem_ready]at hi;obtain⟨h0,o,ho,_⟩:=hi;have qV:i<ops.size:=(aF0.1 ho).1;have h1:=gX i qV;have yZ:i<listed.size:=by omega
   simp only[aK0,bM0 yZ,cB0]at h0 h1;rw[h0]at h1;simp at h1
  | succ fuel ih =>
   intro listed a w fP hI;obtain⟨qH,h5,h6⟩:=h2 _ _ _ _ hI;refine⟨fun hr=>h6 (h5 hr),fun i hi=>h3 B listed a w i _ _ rfl rfl hI hi fun a' w' hI'=>ih _ a' w' ?_ hI'⟩;rw[mem_ready]at hi;obtain⟨h0,o,ho,wM⟩:=hi;have qV:i<ops.size:=(aF0.1 ho).1;have yZ:i<listed.size:=by omega
   have hSi:listed.getD i false=false:=by
    simp only[aK0,bM0 yZ,cB0]at h0 |-;exact h0
   have pL:(fun k=>(listed.setIfInBounds i true).getD k false)=fun k=>if k=i then true else listed.getD k false:=by
    funext k
    by_cases hk:k=i
    ·subst hk;simp[yZ]
    ·rw[if_neg hk,getD_set_ne false (Ne.symm hk)]
   rw[pL,Ra _ i hSi _ qV];omega
 refine main ops.size _ a _ ?_ (h1 B rfl rfl a w loc R)
 have:(List.range ops.size).countP (fun k=>(Array.replicate ops.size false).getD k false)=0:=by
  rw[List.countP_eq_zero];intro k _;simp[aK0,dV0]
  split<;>simp
 omega
theorem QA (ow l1 l2:List Nat) {id:Nat} {ops:Array Oper} {Q:Exit->DS->Prop} (h:Cd P B.nt ow l1 l2 ops ops.toList 0 ⟨Q .normal⟩ s):DW P B (.region id ops false) Q s:=by
 intro a w loc R;refine wpIn_region ?_;rw[List.range_eq_range']
 have ext:∀k (own:List Ent),(own.map (·.id)).Nodup->MN (Ji l1 l2 k own) own:=by
  intro k own nd;unfold Ji
  split
  ·intro id e hf;simp[Ar]at hf
  ·split
   ·intro id e hf;obtain⟨h1,h2⟩:=AN hf;rw[<-h2];exact Cn nd (cP0.1 h1).1
   ·split
    ·exact fun _ _ h=>h
    ·intro id e hf;obtain⟨h1,h2⟩:=AN hf;rw[<-h2];exact Cn nd (cP0.1 h1).1
 have key:∀(m i:Nat) (s:DS) (a:Act) (w:World) (loc:Nat->Loc),Rel B s a w loc->i+m=ops.size->Cd P B.nt ow l1 l2 ops (ops.toList.drop i) i ⟨Q .normal⟩ s->wpOpsIn (wd B.ro) 0 P ops (QQ B Q) (List.range' i m) a w:=by
  intro m
  induction m with
  | zero =>
   intro i s a w loc R hi h;rw[dE0 (by simp;omega)]at h;simp only[List.range'_zero,wpOpsIn];exact⟨s,loc,h,R⟩
  | succ m ih =>
   intro i s a w loc R hi h;have qV:i<ops.size:=by omega
   have hdr:ops.toList.drop i=ops[i]::ops.toList.drop (i+1):=by
    rw[aW0 (by simpa using qV)];simp
   rw[hdr]at h;simp only[List.range'_succ,wpOpsIn,bM0 qV];have ih':=fun s' a' w' loc' (hk:Cd P B.nt ow l1 l2 ops (ops.toList.drop (i+1)) (i+1) ⟨Q .normal⟩ s') (R':Rel B s' a' w' loc')=>ih (i+1) s' a' w' loc' R' (by omega) hk
   -- one neutral operation
   have neu:∀(e:Operand->DVal) (d d':DVal),(∀x∈ops[i].op.operands,Bt s loc B.M0 w (e x) (a.eval x))->(∀(w':World) (v:Value),rd (Ae s.own loc) (Ab s.own loc++B.M0) w'.heap d' v->rd (Ae s.own loc) (Ab s.own loc++B.M0) w'.heap d v) ->
     Cp B.nt ops[i].dst=true->FT P ops[i] (Ji l1 l2 i s.own) e d'->Cd P B.nt ow l1 l2 ops (ops.toList.drop (i+1)) (i+1) ⟨Q .normal⟩ ⟨BI s.slots ops[i].dst d,s.own⟩->ops[i].wpIn (wd B.ro) 0 P a w (wpOpsIn (wd B.ro) 0 P ops (QQ B Q) (List.range' (i+1) m)) (QQ B Q):=by
    intro e d d' he kU hd h1 hk
    rcases h1.ext (ext i s.own R.st.nd) (fun x _=>rfl)with ⟨c,g,args,wF,kX,wV⟩ | ⟨wV,hq⟩
    ·exact Ys (d':=d) (K:=fun s'=>s'=⟨BI s.slots ops[i].dst d,s.own⟩) R hd wF he kX wV (fun _=>rfl) kU (fun s' a' w' loc' zE R'=>by subst zE;exact ih' _ a' w' loc' hk R')
    ·exact xT (d:=d) (K:=fun s'=>s'=⟨BI s.slots ops[i].dst d,s.own⟩) R hd he wV rfl (fun w' v h=>kU w' v (by rw[hq];exact h)) (fun s' a' w' loc' zE R'=>by subst zE;exact ih' _ a' w' loc' hk R')
   simp only[Cd]at h
   split at h
   ·rename_i hg;have hw:Region.wanted ops[i] (yielded ops a.tmps)=true:=by simp[Region.wanted,hg]
    rw[if_pos hw]
    split at h
    ·obtain⟨hd,_,h⟩:=h;obtain⟨d,own',h1,h2⟩:=KL h (Co B s);exact iE (R:=R) (Nat.le_refl _) hd (fun x _=>R.ev x) (fun x _=>PT _ x) h1 fun a' w' loc' R'=>ih' _ a' w' loc' h2 R'
    ·obtain⟨hd,h⟩:=h
     split at h
     ·rename_i c wF
      split at h
      ·rename_i g args hc;obtain⟨d,h1,h2⟩:=Lq h;exact neu _ d d (fun x _=>R.ev x) (fun _ _ h=>h) hd (.inl ⟨c,g,args,wF,hc,h1⟩) h2
      ·exact neu _ _ _ (fun x _=>R.ev x) (fun _ _ h=>h) hd (.inr ⟨h.1,rfl⟩) h.2
     ·exact neu _ _ _ (fun x _=>R.ev x) (fun _ _ h=>h) hd (.inr ⟨h.1,rfl⟩) h.2
   ·rename_i j want hg;obtain⟨cW,h⟩:=h;have hgo':=Td (want:=want) R cW;have hw:Region.wanted ops[i] (yielded ops a.tmps)=gB (BP ops s j) want:=by simp only[Region.wanted,hg];exact hgo'
    rw[hw]
    split at h
    ·rename_i fK;obtain⟨hd,_,qY,h⟩:=h
     cases hb:gB (BP ops s j) want with
     | true =>
      rw[if_pos rfl];rw[hb]at h qY;obtain⟨d0,own',h1,h2⟩:=KL (K:=Yl _) h (Co B s);have jX:=QL (Tw fK qY)
      exact iE (R:=R) (Nat.le_refl _) hd (fun x hx=>OQ (fun x=>R.ev x) _ (Tw fK qY) x (by simpa using hx)) (fun x hx=>by
       unfold Bl;rw[RE (jX x (by simpa using hx))]
       exact PT _ x) h1 fun a' w' loc' R'=>ih' _ a' w' loc' h2 R'.selTrue
     | false =>
      rw[if_neg (by simp)];rw[hb]at h;exact⟨fun _ _=>trivial,ih' _ _ _ loc h (R.put (MH hd) (Upd.refl _ _) (by simp[rd]))⟩
    obtain⟨hd,qY,h⟩:=h
    have mk:∀d',(gB (BP ops s j) want=true->FT P ops[i] (Ji l1 l2 i s.own) (Bl s.slots) d')->Cd P B.nt ow l1 l2 ops (ops.toList.drop (i+1)) (i+1) ⟨Q .normal⟩ ⟨BI s.slots ops[i].dst (.sel (gB (BP ops s j) want) d'),s.own⟩ ->
      if gB (BP ops s j) want=true then ops[i].wpIn (wd B.ro) 0 P a w (wpOpsIn (wd B.ro) 0 P ops (QQ B Q) (List.range' (i+1) m)) (QQ B Q)else (∀f,ops[i].about P w a.eval=some f->(wd B.ro).fn f)/\wpOpsIn (wd B.ro) 0 P ops (QQ B Q) (List.range' (i+1) m) (a.put ops[i].dst Go.undef) w:=by
     intro d' h1 hk
     cases hb:gB (BP ops s j) want with
     | true =>
      rw[if_pos rfl];rw[hb]at qY h1 hk
      have kU:∀(w':World) (d'':DVal) (v:Value),rd (Ae s.own loc) (Ab s.own loc++B.M0) w'.heap d'' v->rd (Ae s.own loc) (Ab s.own loc++B.M0) w'.heap (.sel true d'') v:=by
       intro w' d'' v h;simp only[rd];exact⟨fun _=>h,fun h'=>by simp at h'⟩
      rcases h1 rfl with ⟨c,g,args,wF,kX,wV⟩ | ⟨wV,hq⟩
      ·refine neu (Bl s.slots) (.sel true d') d' ?_ (fun w' v h=>kU w' _ v h) hd (.inl ⟨c,g,args,wF,kX,wV⟩) hk;rw[wF]at qY |-;exact fun x hx=>OQ (fun x=>R.ev x) _ qY x (by simpa using hx)
      ·obtain⟨e',q1,q2,q3⟩:=BW_ (fun x=>R.ev x) qY wV;exact neu e' (.sel true d') (BR P (Ji l1 l2 i s.own) e' ops[i].op) q1 (fun w' v h=>kU w' _ v (by rw[hq];exact q3 _ _ _ _ h)) hd (.inr ⟨q2,rfl⟩) hk
     | false =>
      rw[if_neg (by simp)];rw[hb]at hk;exact⟨fun _ _=>trivial,ih' _ _ _ loc hk (R.put (MH hd) (Upd.refl _ _) (by simp[rd]))⟩
    split at h
    ·rename_i c wF
     split at h
     ·rename_i g args hc;obtain⟨d,h1,h2⟩:=Wt h;exact mk d (fun hq=> .inl ⟨c,g,args,wF,hc,h1 hq⟩) h2
     ·exact mk _ (fun hq=> .inr ⟨h.1 hq,rfl⟩) h.2
    ·exact mk _ (fun hq=> .inr ⟨h.1 hq,rfl⟩) h.2
 exact key ops.size 0 s a w loc R (by omega) (by simpa using h)
end
def IA_ (id r:Nat) (obj:DObj):DVal->DVal
 | .osl id' r'=>if id'=id/\r'=r then (match obj with | .row _ k bs es=> .sl k bs es | _=> .osl id' r')else .osl id' r'
 | .bx id' r' off=>if id'=id/\r'=r then (match obj with | .box cs=> .ref (cs.drop off) | _=> .bx id' r' off)else .bx id' r' off
 | .vw id' r' k i0 i n=>if id'=id/\r'=r then (match obj with | .row _ k' bs es=>if k'=k/\i+n<=es.length then .sl k bs ((es.drop i).take n)else .any | _=> .any)else .vw id' r' k i0 i n
 | .omp id' r'=>if id'=id/\r'=r then (match obj with | .map ks vs=> .mp ks vs | _=> .omp id' r')else .omp id' r'
 | d=>d
def As_ (id r:Nat) (obj:DObj):DVal->DVal
 | .fn f us cs=> .fn f us (cs.map (IA_ id r obj))
 | d=>IA_ id r obj d
def Ar_ (id r:Nat) (obj:DObj):DVal->DVal
 | .agg cs=> .agg (cs.map (As_ id r obj))
 | d=>As_ id r obj d
def MK_ (id r:Nat) (obj:DObj):DObj->DObj
 | .box cs=> .box (cs.map (As_ id r obj))
 | o=>o
def eO (id r:Nat) (obj:DObj) (own:List Ent):List Ent:=own.map fun e=>⟨e.id,e.r,MK_ id r obj e.obj⟩
def Fa_ (f:DVal->DVal) (l:List (Nat×DVal)):List (Nat×DVal):=l.map fun p=>(p.1,f p.2)
def freezeS (s:DS) (id:Nat):DS:=match Ar s.own id with
 | some e=>⟨Fa_ (Ar_ id e.r e.obj) s.slots,eO id e.r e.obj (CT s.own id)⟩
 | none=>s
def freezeL (s:DS):List Nat->DS
 | []=>s
 | id::ids=>freezeL (freezeS s id) ids
theorem Wc (f:DVal->DVal) (hf:f .any= .any):∀(l:List (Nat×DVal)) (i:Nat),Bq (Fa_ f l) i=f (Bq l i)
 | [],i=>by simp[Fa_,Bq,hf]
 | (j,d)::l,i=>by
  have:=Wc f hf l i;simp only[Fa_,List.map_cons,Bq]at this |-
  split
  ·rfl
  ·exact this
@[simp] theorem Iy_ (id r:Nat) (obj:DObj) (l:List (Nat×DVal)) (i:Nat):Bq (Fa_ (Ar_ id r obj) l) i=Ar_ id r obj (Bq l i):=Wc _ rfl _ _
section
variable {B : Base} {s : DS} {a : Act} {w : World} {loc : Nat -> Loc}
theorem Wg (f:Ent->Ent) (hid:∀e,(f e).id=e.id):∀(own:List Ent) (id:Nat),Ar (own.map f) id=(Ar own id).map f
 | [],id=>rfl
 | e::t,id=>by
  simp only[List.map_cons,Ar,hid]
  split
  ·rfl
  ·exact Wg f hid t id
theorem TE (id r:Nat) (obj:DObj) (own:List Ent) (loc:Nat->Loc):Ae (eO id r obj own) loc=Ae own loc:=by
 funext i k
 unfold Ae eO;rw[Wg (fun e=>⟨e.id,e.r,MK_ id r obj e.obj⟩) (fun _=>rfl)];cases Ar own i<;>rfl
theorem Ew (id r:Nat) (obj:DObj) (own:List Ent) (loc:Nat->Loc):Ab (eO id r obj own) loc=Ab own loc:=by
 unfold Ab eO
 induction own with
 | nil=>rfl
 | cons e t ih =>
  rw[List.map_cons,cO0,cO0,ih]
theorem Rel.freeze {id:Nat} {e:Ent} (R:Rel B s a w loc) (he:Ar s.own id=some e):Rel B ⟨Fa_ (Ar_ id e.r e.obj) s.slots,eO id e.r e.obj (CT s.own id)⟩ a w loc:=by
 obtain⟨qO,hid⟩:=AN he;have kN:∀x∈CT s.own id,x∈s.own:=fun x hx=>(BJ.1 hx).1
 have qT:∀b∈Ab (CT s.own id) loc,b∈Ab s.own loc:=by
  intro b hb;obtain⟨x,hx,h1⟩:=bT0.1 hb;exact bT0.2 ⟨x,kN x hx,h1⟩
 have qE:∀i r l,Ae (CT s.own id) loc i r=some l->Ae s.own loc i r=some l:=by
  intro i r l h;obtain⟨x,hx,rfl,rfl,rfl⟩:=BQ h;exact AV R.st.nd (kN x hx)
 have W:∀n,Weak (Ae s.own loc) (Ae (CT s.own id) loc) (Ab s.own loc++B.M0) (Ab (CT s.own id) loc++B.M0) w.heap w.heap n:=fun n =>
  ⟨fun id r l _ hl=>qE id r l hl,fun b o _ (_:Hi o=true) ho=>ho,fun b o hb (_:Hi o=true) _ vE=>hb (by
   rcases aI0.1 vE with h | h
   ·exact aN0 _ (qT b h)
   ·exact aP0 _ h)⟩
 have bL:Ae s.own loc id e.r=some (loc id):=by rw[<-hid];exact AV R.st.nd qO
 have zB:∀b,b∈(loc e.id).blks->b∉Ab (CT s.own id) loc++B.M0:=by
  intro b hb vE
  rcases aI0.1 vE with h | h
  ·obtain⟨x,hx,qC,h1⟩:=QW h;have:=Gj R.st.bl x hx e qO b h1 hb;subst this;exact qC hid
  ·exact R.st.ap b (Bm qO hb) h
 have wE:=R.st.ok e qO
 have k1:∀d v,rd (Ae s.own loc) (Ab s.own loc++B.M0) w.heap d v->rd (Ae (CT s.own id) loc) (Ab (CT s.own id) loc++B.M0) w.heap (IA_ id e.r e.obj d) v:=by
  intro d v h;have hw:=Cu (W _) d v (Nat.le_refl _) h;cases d<;>simp only[IA_]<;>try exact hw
  ·split
   ·rename_i hc;obtain⟨rfl,rfl⟩:=hc
    cases qW:e.obj with
    | row et k bs es=>exact hw
    | map ks vs=>exact hw
    | abs A=>exact hw
    | box cs =>
     rw[qW]at wE;obtain⟨b,arr,ty,h1,h2,h3,h4⟩:=wE;simp only[rd]at h;obtain⟨b',qD,hv⟩:=h _ bL;rw[<-hid,h1]at qD;simp only[bG0,and_true]at qD;subst qD;simp only[rd];refine⟨b,_,arr,ty,(0,0),hv,zB b (by rw[h1];simp),h2,?_⟩;have:=fun n=>GH n cs arr 0 (FH (W _) cs arr 0 (Nat.le_refl _) h4)
     simpa using this _
   ·exact hw
  ·split
   ·rename_i hc;obtain⟨rfl,rfl⟩:=hc
    cases qW:e.obj with
    | box cs=>exact hw
    | map ks vs=>exact hw
    | abs A=>exact hw
    | row et k bs es =>
     rw[qW]at wE;obtain⟨wW,wE⟩:=wE;simp only[rd]at h;have hv:=h _ bL;rw[<-hid]at hv;simp only[rd]
     rcases wE with ⟨rfl,_,h2⟩ | ⟨b,arr,cap,h1,h2,h3,h4,h5,h6,h7⟩
     ·exact⟨none,0,by rw[hv,h2];rfl,by simp,by unfold maxLen;omega,by simp,.inl ⟨rfl,fun _=>rfl⟩⟩
     ·exact⟨_,cap,by rw[hv,h2],h4,h5,wW,.inr ⟨b,0,arr,et,(0,0),rfl,zB b (by rw[h1];simp),h3,Cx (W _) k es arr 0 (Nat.le_refl _) h7⟩⟩
   ·exact hw
  ·rename_i id' r' k0 bs0 i n
   split
   ·rename_i hc;obtain⟨rfl,rfl⟩:=hc
    cases qW:e.obj with
    | box cs=>simp[rd]
    | map ks vs=>simp[rd]
    | abs A=>simp[rd]
    | row et k bs es =>
     simp only
     split
     ·rename_i hb;obtain⟨rfl,hb⟩:=hb;rw[qW]at wE;obtain⟨wW,wE⟩:=wE;simp only[rd]at h;obtain⟨a,cap,rfl,g1,g2,g3,g4,_⟩:=h _ bL;have qU:((es.drop i).take n).length=n:=by simp;omega
      simp only[rd];refine⟨a,cap,by rw[qU],by omega,g2,by rw[qU];exact Nat.le_trans (aS0 _ (by omega:n<=es.length)) wW,?_⟩
      by_cases h0:n=0
      ·subst h0;exact .inl ⟨by simp,g3⟩
      ·obtain⟨b,wQ,rfl⟩:=g4 (by omega);rw[<-hid]at wQ
       rcases wE with ⟨rfl,_⟩ | ⟨b',arr,cap',h1,h2,h3,h4,h5,h6,h7⟩
       ·simp at hb;omega
       ·rw[h1]at wQ;simp only[bG0,and_true]at wQ;subst wQ;refine .inr ⟨b',i*k,arr,et,(0,0),rfl,zB b' (by rw[h1];simp),h3,FW _ _ _ _ fun q cs hq=> ?_⟩;rw[eV0]at hq
        split at hq
        ·rw[dD0]at hq;have:=Ec k es arr 0 (i+q) cs (Cx (W _) k es arr 0 (Nat.le_refl _) h7) hq
         rwa[bU0,bS0]at this
        ·simp at hq
     ·simp[rd]
   ·exact hw
  ·split
   ·rename_i hc;obtain⟨rfl,rfl⟩:=hc
    cases qW:e.obj with
    | box cs=>exact hw
    | row et k bs es=>exact hw
    | abs A=>exact hw
    | map ks vs =>
     rw[qW]at wE;obtain⟨b,es,clk,h1,h2,h3,h4,h5⟩:=wE;simp only[rd]at h;obtain⟨b',qD,hv⟩:=h _ bL;rw[<-hid,h1]at qD;simp only[bG0,and_true]at qD;subst qD;simp only[rd];exact⟨b,es,clk,hv,zB b (by rw[h1];simp),h2,h3,Bd (W _) ks _ (Nat.le_refl _) h4,Bd (W _) vs _ (Nat.le_refl _) h5⟩
   ·exact hw
 have kV:∀(f:DVal->DVal),(∀d v,rd (Ae s.own loc) (Ab s.own loc++B.M0) w.heap d v->rd (Ae (CT s.own id) loc) (Ab (CT s.own id) loc++B.M0) w.heap (f d) v) ->
   ∀ds vs,AI (Ae s.own loc) (Ab s.own loc++B.M0) w.heap ds vs->AI (Ae (CT s.own id) loc) (Ab (CT s.own id) loc++B.M0) w.heap (ds.map f) vs:=by
  intro f hf ds
  induction ds with
  | nil=>intro vs h;simpa[AI]using h
  | cons d ds ih =>
   intro vs h;simp only[AI]at h;obtain⟨v,r,rfl,h1,h2⟩:=h;simp only[List.map_cons,AI];exact⟨v,r,rfl,hf d v h1,ih r h2⟩
 have k2:∀d v,rd (Ae s.own loc) (Ab s.own loc++B.M0) w.heap d v->rd (Ae (CT s.own id) loc) (Ab (CT s.own id) loc++B.M0) w.heap (As_ id e.r e.obj d) v:=by
  intro d v h;cases d<;>simp only[As_]<;>try exact k1 _ v h
  rename_i f us cs;simp only[rd]at h |-;obtain⟨us',cs',h1,h2,h3⟩:=h;exact⟨us',cs',h1,Bd (W _) us _ (Nat.le_refl _) h2,kV _ k1 cs _ h3⟩
 have k3:∀d v,rd (Ae s.own loc) (Ab s.own loc++B.M0) w.heap d v->rd (Ae (CT s.own id) loc) (Ab (CT s.own id) loc++B.M0) w.heap (Ar_ id e.r e.obj d) v:=by
  intro d v h;cases d<;>simp only[Ar_]<;>try exact k2 _ v h
  rename_i cs;simp only[rd]at h |-;obtain⟨us,h1,h2⟩:=h;exact⟨us,h1,kV _ k2 cs _ h2⟩
 have kC:∀(ds:List DVal) (arr:Array Value) (o:Nat),Ea (Ae s.own loc) (Ab s.own loc++B.M0) w.heap ds arr o->Ea (Ae (CT s.own id) loc) (Ab (CT s.own id) loc++B.M0) w.heap (ds.map (As_ id e.r e.obj)) arr o:=by
  intro ds
  induction ds with
  | nil=>intro arr o _;simp[Ea]
  | cons d ds ih =>
   intro arr o h;simp only[Ea,List.map_cons]at h |-;obtain⟨⟨v,h1,kT,h2⟩,h3⟩:=h;exact⟨⟨v,h1,kT,k2 d v h2⟩,ih arr _ h3⟩
 refine⟨⟨?_,?_,?_,?_,?_⟩,R.upd,?_,?_,?_,R.nt,R.df.keep rfl (Upd.refl [] w) (by simp) (fun b hb=> .inl (by
  simp only[Ew]at hb
  rcases aI0.1 hb with h | h
  ·exact aN0 _ (qT b h)
  ·exact aP0 _ h))⟩
 ·simp only[eO,cC0];exact Eu R.st.nd
 ·simp only[Ew];exact El R.st.bl _ (Eu R.st.nd) kN
 ·simp only[Ew];exact fun b hb=>R.st.ap b (qT b hb)
 ·simp only[Ew];intro b hb
  rcases aI0.1 hb with h | h
  ·exact R.st.lt b (aN0 _ (qT b h))
  ·exact R.st.lt b (aP0 _ h)
 ·intro x hx;simp only[Ew,TE];obtain⟨y,hy,rfl⟩:=aR0.1 hx;have hk:=R.st.ok y (kN y hy);simp only
  cases qW:y.obj with
  | box cs =>
   rw[qW]at hk;obtain⟨b,arr,ty,h1,h2,h3,h4⟩:=hk;exact⟨b,arr,ty,h1,h2,by simp[h3],kC cs arr 0 h4⟩
  | row et k bs es=>rw[qW]at hk;exact Bp (W (Fp (.row et k bs es))) (Nat.le_refl _) (fun _ _ _ h=>h) hk
  | map ks vs=>rw[qW]at hk;exact Bp (W (Fp (.map ks vs))) (Nat.le_refl _) (fun _ _ _ h=>h) hk
  | abs A=>rw[qW]at hk;exact Bp (W (Fp (.abs A))) (Nat.le_refl _) (fun _ _ _ h=>h) hk
 ·simp only[Ew];exact fun b hb=>R.new b (qT b hb)
 ·intro x hx hr;obtain⟨y,hy,rfl⟩:=aR0.1 hx;exact R.ver y (kN y hy) hr
 ·intro i;simp only[Ew,TE,Iy_];exact k3 _ _ (R.sl i)
theorem Sub.refl (s:DS):Sub B s s:=fun _ _ loc R=>⟨loc,R⟩
theorem Sub.trans {s' s'':DS} (h:Sub B s s') (k:Sub B s' s''):Sub B s s'':=fun a w loc R =>
 let ⟨loc',R'⟩:=h a w loc R;k a w loc' R'
theorem Sub.freezeS (s:DS) (id:Nat):Sub B s (freezeS s id):=by
 intro a w loc R;unfold Dm.freezeS
 split
 ·rename_i e he;exact⟨loc,R.freeze he⟩
 ·exact⟨loc,R⟩
theorem Sub.freezeL : ∀(ids:List Nat) (s:DS),Sub B s (freezeL s ids)
 | [],s=>Sub.refl s
 | id::ids,s=>(Sub.freezeS s id).trans (Sub.freezeL ids _)
theorem Sub.rel {s':DS} {Q:Exit->DS->Prop} {e:Exit} (h:Sub B s s') (hq:Q e s') {a:Act} {w:World} {loc:Nat->Loc} (R:Rel B s a w loc):QQ B Q e a w :=
 let ⟨loc',R'⟩:=h a w loc R;⟨s',loc',hq,R'⟩
variable {P : Program}
structure RAnn where
 id:Nat
 fz:List Nat
 l1:List Nat
 l2:List Nat
def kQ (Q:Exit->DS->Prop) (fz:List Nat):Cont:=⟨fun s'=>Q .normal (freezeL s' fz)⟩
theorem OM_ (Q:Exit->DS->Prop) (fz:List Nat) (s':DS):(kQ Q fz).f s'=Q .normal (freezeL s' fz):=id rfl
def II : List RAnn->Nat->RAnn
 | [],id=>⟨id,[],[],[]⟩
 | a::r,id=>if a.id=id then a else II r id
structure Ann where
 ow:List Nat
 rs:List RAnn
theorem Bv (A:Ann) {id:Nat} {ops:Array Oper} {draw:Bool} {Q:Exit->DS->Prop} (hm:P.follows .mixedOrders=true) (qY:(!draw||DB A.ow (II A.rs id).l1 (II A.rs id).l2 ops)=true)
  (h:Cd P B.nt A.ow (II A.rs id).l1 (II A.rs id).l2 ops ops.toList 0 (kQ Q (II A.rs id).fz) s):DW P B (.region id ops draw) Q s:=by
 have fin:∀{c:Code},DW P B c (fun e s'=>match e with | .normal=>Q .normal (freezeL s' (II A.rs id).fz) | e=>Q e s') s->DW P B c Q s:=by
  intro c h a w loc R;refine wpIn_mono (h a w loc R) ?_;rintro e a' w' ⟨s',loc',hq,R'⟩
  cases e<;>first
   | exact(Sub.freezeL _ s').rel hq R'
   | exact⟨s',loc',hq,R'⟩
 cases draw with
 | false=>exact fin (QA _ _ _ h)
 | true=>exact fin (QC _ _ _ hm (by simpa using qY) h)
end
def DK_ (P:Program) (fn:Func) (ids:List Nat) (d:DVal):Exit->DS->Prop
 | .normal,s=>match Qj P (freezeL s ids) fn.results.toList with | some d0=>wk d0 d | none=>False
 | .ret,s=>match Qj P (freezeL s ids) fn.results.toList with | some d0=>wk d0 d | none=>False
 | _,_=>False
theorem Ad.wk {P:Program} {f:FuncId} {args:List DVal} {d d':DVal} (h:Ad P f args d) (hw:wk d d') (hd:mx d'=0):Ad P f args d' :=
 ⟨h.1,hd,fun cur M w vs hM hr=>(h.2.2 cur M w vs hM hr).mono fun e w' ⟨v,h1,h2,h3⟩=>⟨v,h1,h2,Zr hw h3⟩⟩
theorem VB {cur:Fb} {M:List Nat} {h:Array Obj}:∀(a b:List DVal) (vs:List Value),AI cur M h (a++b) vs->∃us ws,vs=us++ws/\AI cur M h a us/\AI cur M h b ws
 | [],b,vs,hr=>⟨[],vs,rfl,by simp[AI],hr⟩
 | d::a,b,vs,hr=>by
  simp only[List.cons_append,AI]at hr;obtain⟨v,r,rfl,h1,h2⟩:=hr;obtain⟨us,ws,rfl,h3,h4⟩:=VB a b r h2;exact⟨v::us,ws,rfl,by simp only[AI];exact⟨v,us,rfl,h1,h3⟩,h4⟩
theorem Ux {P:Program} {f:FuncId} (pre:List DVal) {post:List DVal} {k bs:Nat} {d:DVal} (h1:Ad P f (pre++ .nilsl::post) d) (h2:Ad P f (pre++ .esl::post) d):Ad P f (pre++ .sl k bs []::post) d:=by
 refine⟨h1.1,h1.2.1,fun cur M w vs hM hr=> ?_⟩;obtain⟨us,ws,vU,h3,h4⟩:=VB _ _ _ hr;simp only[AI]at h4;obtain⟨v,r,rfl,h5,h6⟩:=h4;simp only[rd]at h5;obtain⟨a,cap,rfl,_,hc,_,h7⟩:=h5
 cases a with
 | none =>
  have:cap=0:=by
   rcases h7 with h7 | ⟨b,off,arr,ty,fz,h8,_⟩
   ·exact h7.2 rfl
   ·simp at h8
  subst this;refine h1.2.2 cur M w vs hM ?_;rw[vU];exact Cr _ _ _ _ h3 (by simp only[AI];exact⟨_,r,rfl,by simp[rd],h6⟩)
 | some ad =>
  refine h2.2.2 cur M w vs hM ?_;rw[vU];exact Cr _ _ _ _ h3 (by simp only[AI];exact⟨_,r,rfl,by simp only[rd];exact⟨ad,cap,rfl,hc⟩,h6⟩)
theorem Ow (ids:List Nat) {P:Program} {f:FuncId} {fn:Func} {c:Code} {args:List DVal} {d:DVal} (hf:P.funcs[f]? =some fn) (hb:fn.body=some c) (zW:Enters P f) (qX:args.length<=fn.ntmps)
  (hd:mx d=0) (h:IZ args->∀B:Base,B.nt=fn.ntmps/\B.ro=none->DW P B c (DK_ P fn ids d) ⟨Am args 0,[]⟩):Ad P f args d:=by
 refine YK hf hb zW qX hd fun qJ B hB=> ?_
 intro a w loc R;refine wpIn_mono (h qJ B hB a w loc R) ?_;rintro e a' w' ⟨s',loc',hq,R'⟩
 have key:(match Qj P (freezeL s' ids) fn.results.toList with | some d0=>wk d0 d | none=>False)->∃s'' loc'',(∃d0,Qj P s'' fn.results.toList=some d0/\∀cur M h v,rd cur M h d0 v->rd cur M h d v)/\Rel B s'' a' w' loc'':=by
  intro hq;obtain⟨loc'',R''⟩:=Sub.freezeL ids s' a' w' loc' R'
  split at hq
  ·rename_i d0 bH;exact⟨_,loc'',⟨d0,bH,fun cur M h v hr=>Zr hq hr⟩,R''⟩
  ·exact hq.elim
 cases e<;>simp only[DK_]at hq<;>first
  | (obtain⟨s'',loc'',h1,h2⟩:=key hq;exact⟨s'',loc'',h1,h2⟩)
  | exact hq.elim
def tP (P:Program) (fn:Func) (ids:List Nat) (ρ:List (Nat×Nat×Nat)) (d:DVal) (own':List Ent):Exit->DS->Prop
 | .normal,s=>match Qj P (freezeL s ids) fn.results.toList with
  | some d0=>XE d0/\wk (HG (Ca (freezeL s ids).own ρ) d0) d/\Mo (freezeL s ids).own (Ca (freezeL s ids).own ρ) ρ=some own'/\Nj (freezeL s ids).own ρ
  | none=>False
 | .ret,s=>match Qj P (freezeL s ids) fn.results.toList with
  | some d0=>XE d0/\wk (HG (Ca (freezeL s ids).own ρ) d0) d/\Mo (freezeL s ids).own (Ca (freezeL s ids).own ρ) ρ=some own'/\Nj (freezeL s ids).own ρ
  | none=>False
 | _,_=>False
section
variable {B : Base} {s : DS} {a : Act} {w : World} {loc : Nat -> Loc}
theorem ZC (a:Act) (i:Nat) (hi:i<a.tmps.size):a.put (some i) (a.tmps.getD i Go.undef)=a:=by
 obtain⟨tmps,defers⟩:=a;unfold Act.put;simp only
 congr 1
 apply Array.ext
 ·simp
 ·intro j h1 h2;rw[eS0 h2]
  split
  ·rename_i h;subst h;simp[aK0,bM0 h2]
  ·rfl
theorem Rel.adopt {id r et k bs:Nat} {dst:Option Nat} {v:Value} {d:DVal} (R:Rel B s a w loc) (hr:Co B s<=r) (qI:∀i,dst=some i->i<B.nt)
  (hd:rd (Ae (upE s.own id r (.row et k bs [])) (Dc loc id ⟨[],.slice none 0 0⟩)) (Ab (upE s.own id r (.row et k bs [])) (Dc loc id ⟨[],.slice none 0 0⟩)++B.M0) w.heap d v) :
  Rel B ⟨BI s.slots dst d,upE s.own id r (.row et k bs [])⟩ (a.put dst v) w (Dc loc id ⟨[],.slice none 0 0⟩) :=
 R.up (L:=⟨[],.slice none 0 0⟩) (n:=r) hr qI (Upd.refl _ _) (fun b hb _=>rfl) (fun b hb=>by simp at hb) (.inl (Nat.le_refl _)) ⟨by simp,.inl ⟨rfl,rfl,rfl⟩⟩ hd
theorem Sub.adoptSlot (i id et k bs:Nat) (h:Bq s.slots i= .nilsl) (hi:i<B.nt):Sub B s ⟨(i,.osl id (Co B s))::s.slots,upE s.own id (Co B s) (.row et k bs [])⟩:=by
 intro a w loc R;have hs:=R.sl i;rw[h]at hs;simp only[rd]at hs
 have:=R.adopt (id:=id) (et:=et) (k:=k) (bs:=bs) (dst:=some i) (v:=a.tmps.getD i Go.undef) (d:= .osl id (Co B s)) (Nat.le_refl _) (fun j hj=>by simp only[aA0]at hj;omega) (by
  simp only[rd];intro l hl;rw[DL]at hl;simp only[aA0]at hl
  rw[<-hl,hs])
 rw[ZC a i (by rw[R.nt];exact hi)]at this;exact⟨_,this⟩
theorem Rel.reBox {id:Nat} {e:Ent} {cs cs':List DVal} (R:Rel B s a w loc) (he:Ar s.own id=some e) (qW:e.obj= .box cs) (qU:cs'.length=cs.length)
  (h:∀arr,Ea (cu s loc) (hm s loc B.M0) w.heap cs arr 0->Ea (cu s loc) (hm s loc B.M0) w.heap cs' arr 0):∃loc',Rel B ⟨s.slots,upE s.own id e.r (.box cs')⟩ a w loc':=by
 obtain⟨qO,hid⟩:=AN he;have qE:Ae s.own loc id e.r=some (loc id):=by rw[<-hid];exact AV R.st.nd qO
 have hk:=R.st.ok e qO;rw[qW]at hk;obtain⟨b,arr,ty,h1,h2,h3,h4⟩:=hk;rw[hid]at h1
 have hL:∀b0,b0∈(loc id).blks->b0<w.heap.size/\((∃e∈s.own,e.id=id/\b0∈(loc id).blks)\/w.heap.size<=b0):=by
  intro b0 qR;refine⟨?_,.inl ⟨e,qO,hid,qR⟩⟩;rw[h1]at qR;simp only[aG0]at qR;subst qR;exact(aF0.1 h2).1
 have gT:Dc loc id (loc id)=loc:=by
  funext j
  unfold Dc
  split
  ·rename_i hj;rw[hj]
  ·rfl
 have W:Weak (cu s loc) (Ae (upE s.own id e.r (.box cs')) (Dc loc id (loc id))) (hm s loc B.M0) (Ab (upE s.own id e.r (.box cs')) (Dc loc id (loc id))++B.M0) w.heap w.heap (max (Co B s) (AR cs')):=by
  refine Fh (Upd.refl _ w) ?_ ?_
  ·intro b hb;obtain⟨x,hx,kT⟩:=bT0.1 hb;rw[gT]at kT
   rcases aJ0.1 hx with rfl | hx
   ·exact .inl (Bm qO (by rw[hid];exact kT))
   ·exact .inl (Bm (BJ.1 hx).1 kT)
  ·intro x hx _;rw[gT]
   rcases aJ0.1 hx with rfl | hx
   ·exact qE
   ·exact AV R.st.nd (BJ.1 hx).1
 have R':=R.up (hLn:=by rw[h1];simp) (w':=w) (id:=id) (r:=e.r) (obj:= .box cs') (L:=loc id) (v:=Go.undef) (d:= .any) (dst:=none) (n:=Co B s) (Nat.le_refl _) (fun i hi=>by simp at hi) (Upd.refl _ _) (fun _ _ _=>rfl) hL (.inr qE)
  ⟨b,arr,ty,h1,h2,by rw[qU];exact h3,FH W cs' arr 0 (by omega) (h arr h4)⟩ (by simp[rd])
 exact⟨_,R'⟩
theorem Xu {cur:Fb} {M:List Nat} {H:Array Obj} {d':DVal}:∀(cs:List DVal) (arr:Array Value) (o c:Nat),(∀v,rd cur M H (cs.getD c .any) v->rd cur M H d' v)->Ea cur M H cs arr o->Ea cur M H (cs.set c d') arr o
 | [],_,_,_,_,h=>by simpa using h
 | d::cs,arr,o,0,hd,h=>by
  simp only[Ea,eF0]at h |-;obtain⟨⟨v,h1,h2,h3⟩,h4⟩:=h;exact⟨⟨v,h1,h2,hd v (by simpa using h3)⟩,h4⟩
 | d::cs,arr,o,c+1,hd,h=>by
  simp only[Ea,List.set_cons_succ]at h |-;exact⟨h.1,Xu cs arr (o+1) c (by simpa using hd) h.2⟩
theorem Sub.adoptCell (bid c id et k bs:Nat) {rb:Nat} {cs:List DVal} (h:Ar s.own bid=some ⟨bid,rb,.box cs⟩) (hc:cs.getD c .any= .nilsl) (qC:bid≠id) :
  Sub B s ⟨s.slots,upE (upE s.own id (Co B s) (.row et k bs [])) bid rb (.box (cs.set c (.osl id (Co B s))))⟩:=by
 intro a w loc R;have R1:=R.adopt (id:=id) (et:=et) (k:=k) (bs:=bs) (dst:=none) (v:=Go.undef) (d:= .any) (Nat.le_refl _) (fun i hi=>by simp at hi) (by simp[rd])
 have hf:Ar (upE s.own id (Co B s) (.row et k bs [])) bid=some ⟨bid,rb,.box cs⟩:=by
  have hdel:∀own:List Ent,Ar (CT own id) bid=Ar own bid:=by
   intro own
   induction own with
   | nil=>rfl
   | cons x t ih =>
    simp only[CT,Ar]
    split
    ·rename_i hx;rw[ih,if_neg (by omega)]
    ·simp only[Ar];rw[ih]
  simp only[upE,Ar];rw[if_neg (fun h=>qC h.symm),hdel];exact h
 exact Rel.reBox R1 hf rfl (by simp) (fun arr hr=>Xu cs arr 0 c (by
  intro v hv;rw[hc]at hv;simp only[rd]at hv |-;intro l hl;have wI:Ae (upE s.own id (Co B s) (.row et k bs [])) (Dc loc id ⟨[],.slice none 0 0⟩) id (Co B s)=some l:=hl;rw[DL]at wI;simp only[aA0]at wI
  rw[<-wI,hv]) hr)
end
theorem LY {own:List Ent} {loc:Nat->Loc} (hn:(Ab own loc).Nodup):∀l:List Ent,(l.map (·.id)).Nodup->(∀e∈l,∃e0∈own,e0.id=e.id)->(Ab l loc).Nodup
 | [],_,_=>by simp[Ab]
 | e::l,hd,hm=>by
  simp only[List.map_cons,cS0]at hd;rw[Em,bV0];obtain⟨e0,vI,fY⟩:=hm e aE0;refine⟨by rw[<-fY];exact DM hn e0 vI,LY hn l hd.2 (fun x hx=>hm x (aC0 _ hx)),?_⟩;intro b hb b' qD jZ;subst jZ;obtain⟨e2,zX,wB⟩:=bT0.1 qD;obtain⟨e3,pU,mN⟩:=hm e2 (aC0 _ zX);have:=Gj hn e0 vI e3 pU b (by rw[fY];exact hb) (by rw[mN];exact wB);subst this;exact hd.1 (aR0.2 ⟨e2,zX,by rw[<-mN,fY]⟩)
def JJ (own:List Ent):List (Nat×Nat×Nat):=own.map fun e=>(e.id,e.id,e.r)
def RK (φ:Nat->Nat->Option (Nat×Nat)) (uA:Bool) (d d':DVal):Prop:=match d' with
 | .any=>True
 | d'=>if uA then d=d' else XE d/\HG φ d=d'
def MY (φ:Nat->Nat->Option (Nat×Nat)) (uA:Bool) (l:List (Nat×DVal)):List (Nat×DVal)->Prop
 | []=>True
 | p::ps=>RK φ uA (Bq l p.1) p.2/\MY φ uA l ps
theorem VV {own:List Ent} {i j v:Nat} (h:(i,j,v)∈JJ own):i=j/\∃e∈own,e.id=j/\e.r=v:=by
 obtain⟨e,he,h1⟩:=aR0.1 h;simp only[aT0]at h1;obtain⟨rfl,rfl,rfl⟩:=h1;exact⟨rfl,e,he,rfl,rfl⟩
theorem Sub.lit {B:Base} {s s':DS} (h:MY (Ca s.own (JJ s'.own)) s'.own.isEmpty s.slots s'.slots/\Mo s.own (Ca s.own (JJ s'.own)) (JJ s'.own)=some s'.own/\Nj s.own (JJ s'.own)/\(s'.own.map (·.id)).Nodup):Sub B s s':=by
 obtain⟨hs,ho,hk,nd⟩:=h;intro a w loc R;refine⟨loc,?_⟩
 have dC:∀e'∈s'.own,∃e,Ar s.own e'.id=some e/\tU e.obj/\e'.obj=JP (Ca s.own (JJ s'.own)) e.obj/\(e'.r=1\/(e'.r=0/\e.r=0)):=by
  intro e' zJ;obtain⟨i,j,v,e,h1,h2,h3⟩:=(Nk ho).1 e' zJ;obtain⟨yK,_⟩:=VV h1;subst yK;obtain⟨e2,g1,g2,g3⟩:=Li hk i i v h1;rw[h2]at g1;simp only[aA0]at g1;subst g1;have e1:e'.id=i:=by rw[h3]
  have e3:e'.r=v:=by rw[h3]
  have e4:e'.obj=JP (Ca s.own (JJ s'.own)) e.obj:=by rw[h3]
  refine⟨e,by rw[e1];exact h2,g2,e4,?_⟩;rw[e3]
  rcases g3 with g3 | g3
  ·exact .inl g3
  ·exact .inr ⟨g3.1,g3.2.2⟩
 have jY:∀e'∈s'.own,∃e0∈s.own,e0.id=e'.id:=by
  intro e' zJ;obtain⟨e,h1,_⟩:=dC e' zJ;obtain⟨h2,h3⟩:=AN h1;exact⟨e,h2,h3⟩
 have qT:∀b∈Ab s'.own loc,b∈Ab s.own loc:=by
  intro b hb;obtain⟨e',zJ,h1⟩:=bT0.1 hb;obtain⟨e0,h2,h3⟩:=jY e' zJ;exact Bm h2 (by rw[h3];exact h1)
 have hM:∀b∈Ab s'.own loc++B.M0,b∈Ab s.own loc++B.M0:=by
  intro b hb
  rcases aI0.1 hb with h | h
  ·exact aN0 _ (qT b h)
  ·exact aP0 _ h
 have W:Weak (cu s loc) (Ae s'.own loc) (hm s loc B.M0) (Ab s'.own loc++B.M0) w.heap w.heap 0 :=
  ⟨fun id r l hr=>by omega,fun b o _ (_:Hi o=true) ho=>ho,fun b o hb (_:Hi o=true) _ vE=>hb (hM b vE)⟩
 have L:Hf (cu s loc) (Ae s'.own loc) (Ca s.own (JJ s'.own)):=by
  intro i r p l hp hl;obtain⟨e,h1,h2,h3⟩:=Jh hp;obtain⟨yK,_⟩:=VV h1;obtain⟨e',zJ,g1,g2,g3⟩:=BQ hl;subst g3
  show Ae s.own loc i r=_
  unfold Ae;rw[h2];simp[h3,yK]
 refine⟨⟨nd,LY R.st.bl _ nd jY,fun b hb=>R.st.ap b (qT b hb),fun b hb=>R.st.lt b (hM b hb),fun e' zJ=> ?_⟩,R.upd,fun b hb=>R.new b (qT b hb),fun e' zJ hr=> ?_,?_,R.nt,R.df.keep rfl (Upd.refl [] w) (by simp) (fun b hb=> .inl (hM b hb))⟩
 ·obtain⟨e,h1,h2,h3,_⟩:=dC e' zJ;obtain⟨qO,hid⟩:=AN h1;rw[h3];exact Lw W L h2 (by rw[hid]) (fun _ _ _ h=>h) (R.st.ok e qO)
 ·obtain⟨e,h1,_,_,h4⟩:=dC e' zJ;obtain⟨qO,hid⟩:=AN h1;have hN:=B.hN
  rcases h4 with h4 | ⟨h4,h5⟩
  ·omega
  ·have:=R.ver e qO (by omega);rw[hid,h5]at this;rw[h4];exact this
 ·intro i
  have wX:∀(l:List (Nat×DVal)),MY (Ca s.own (JJ s'.own)) s'.own.isEmpty s.slots l->RK (Ca s.own (JJ s'.own)) s'.own.isEmpty (Bq s.slots i) (Bq l i):=by
   intro l
   induction l with
   | nil=>intro _;simp[RK,Bq]
   | cons p l ih =>
    intro hp;simp only[MY]at hp;simp only[Bq]
    split
    ·rename_i h;rw[h];exact hp.1
    ·exact ih hp.2
  have h1:=wX s'.slots hs;have hr:=R.sl i
  generalize Bq s'.slots i=d' at h1
  by_cases ha:d'= .any
  ·subst ha;simp[rd]
  ·have h2:if s'.own.isEmpty=true then Bq s.slots i=d' else XE (Bq s.slots i)/\HG (Ca s.own (JJ s'.own)) (Bq s.slots i)=d':=by
    unfold RK at h1
    split at h1
    ·exact absurd rfl ha
    ·exact h1
   split at h2
   ·rename_i he;rw[h2]at hr;have zJ:s'.own=[]:=by simpa using he
    exact Cu (n:=mx d') ⟨fun id r l _ hl=>by rw[zJ]at hl;simp[Ae,Ar]at hl,W.b,W.m⟩ _ _ (Nat.le_refl _) hr
   ·rw[<-h2.2];exact QK W L h2.1 hr
def Bf_ (s:DS) (n bid c id et k bs:Nat):DS:=match Ar s.own bid with
 | some e=>match e.obj with
  | .box cs=>⟨s.slots,upE (upE s.own id n (.row et k bs [])) bid e.r (.box (cs.set c (.osl id n)))⟩
  | _=>s
 | none=>s
def YE (s:DS) (bid c:Nat):Prop:=match Ar s.own bid with
 | some e=>match e.obj with
  | .box cs=>cs.getD c .any= .nilsl
  | _=>True
 | none=>True
theorem DY {P:Program} {B:Base} {Q:Exit->DS->Prop} {s:DS} {x:Code} (bid c id et k bs:Nat) (h:YE s bid c/\bid≠id) (hk:∀n,DW P B x Q (Bf_ s n bid c id et k bs)):DW P B x Q s:=by
 have hn:=hk (Co B s);unfold YE at h;unfold Bf_ at hn
 cases hf:Ar s.own bid with
 | none=>rw[hf]at hn;exact hn
 | some e =>
  rw[hf]at hn h;obtain⟨hm,hid⟩:=AN hf
  cases qW:e.obj with
  | box cs =>
   simp only[qW]at hn h;refine Hg (Sub.adoptCell bid c id et k bs (rb:=e.r) (cs:=cs) ?_ h.1 h.2) hn;rw[hf,<-hid,<-qW]
  | row _ _ _ _=>simp only[qW]at hn;exact hn
  | map _ _=>simp only[qW]at hn;exact hn
  | abs _=>simp only[qW]at hn;exact hn
theorem BY {P:Program} {B:Base} {Q:Exit->DS->Prop} {s:DS} {x:Code} (i id et k bs:Nat) (h:Bq s.slots i= .nilsl/\i<B.nt) (hk:∀n,DW P B x Q ⟨(i,.osl id n)::s.slots,upE s.own id n (.row et k bs [])⟩):DW P B x Q s :=
 Hg (Sub.adoptSlot i id et k bs h.1 h.2) (hk (Co B s))
theorem Sub.truncSlot {B:Base} {s:DS} {i id r et k bs n:Nat} {es:List (List DVal)} {e:Ent} (h:Bq s.slots i= .vw id r k bs 0 n) (he:Ar s.own id=some e) (wO:e.r=r) (qW:e.obj= .row et k bs es) (hn:n<=es.length) (hi:i<B.nt) :
  Sub B s ⟨(i,.osl id (Co B s))::s.slots,upE s.own id (Co B s) (.row et k bs (es.take n))⟩:=by
 intro a w loc R;have hs:=R.sl i;rw[h]at hs;obtain⟨qO,hid⟩:=AN he;obtain⟨qE,a0,cap0,hh,g1,g2,g3⟩:=Ng R.st he wO qW;simp only[rd]at hs;obtain⟨x,cap,hv,q1,q2,q3,q4,q5⟩:=hs _ qE;obtain⟨n1,hh1⟩:=q5 trivial;rw[hh]at hh1;simp only[Value.slice.injEq]at hh1;obtain⟨rfl,_,rfl⟩:=hh1;have qU:(es.take n).length=n:=by simp;omega
 have hk:=R.st.ok e qO;rw[qW,hid]at hk;obtain⟨wW,hk⟩:=hk
 have hL:∀b0,b0∈(⟨(loc id).blks,a.tmps.getD i Go.undef⟩:Loc).blks->b0<w.heap.size/\((∃e∈s.own,e.id=id/\b0∈(loc id).blks)\/w.heap.size<=b0):=fun b0 qR =>
  ⟨R.st.lt b0 (aN0 _ (Bm qO (by rw[hid];exact qR))),.inl ⟨e,qO,hid,qR⟩⟩
 have W:=R.weakUp (obj:= .row et k bs (es.take n)) (L:=⟨(loc id).blks,a.tmps.getD i Go.undef⟩) (Nat.le_refl (Co B s)) (Upd.refl _ w) hL (.inl (Nat.le_refl _));have vG:=(Bs qO).2;rw[qW]at vG;simp only[Fp]at vG
 have:=R.up (id:=id) (r:=Co B s) (obj:= .row et k bs (es.take n)) (L:=⟨(loc id).blks,a.tmps.getD i Go.undef⟩) (v:=a.tmps.getD i Go.undef) (d:= .osl id (Co B s)) (dst:=some i) (Nat.le_refl _) (fun j hj=>by simp only[aA0]at hj;omega) (Upd.refl _ _) (fun _ _ _=>rfl) hL (.inl (Nat.le_refl _))
  (by
   refine⟨by rw[qU];exact Nat.le_trans (aS0 _ hn) wW,?_⟩
   rcases hk with ⟨rfl,h1,h2⟩ | ⟨b,arr,cap,h1,h2,h3,h4,h5,h6,h7⟩
   ·rw[hh]at h2;simp only[Value.slice.injEq]at h2;obtain⟨rfl,_,rfl⟩:=h2;refine .inl ⟨by simp,h1,?_⟩;rw[hv];simp only[List.length_nil,Nat.le_zero]at hn;rw[hn]
   ·rw[hh]at h2;simp only[Value.slice.injEq]at h2;obtain⟨rfl,_,rfl⟩:=h2;refine .inr ⟨b,arr,_,h1,by rw[qU];exact hv,h3,by omega,h5,h6,?_⟩;refine FW _ _ _ _ fun q cs hq=> ?_
    rw[eV0]at hq
    split at hq
    ·refine Ec k es arr 0 q cs (Cx W k es arr 0 ?_ h7) hq;unfold Co;omega
    ·simp at hq)
  (by
   simp only[rd];intro l hl;rw[DL]at hl;simp only[aA0]at hl
   rw[<-hl])
  (by have:=DM R.st.bl e qO;rwa[hid]at this)
 rw[ZC a i (by rw[R.nt];exact hi)]at this;exact⟨_,this⟩
def WU (s:DS) (i:Nat):Prop:=match Bq s.slots i with
 | .vw id r k bs 0 n=>match Ar s.own id with
  | some e=>match e.obj with
   | .row _ k' bs' es=>e.r=r/\k'=k/\bs'=bs/\n<=es.length
   | _=>False
  | none=>False
 | _=>False
def uF (s:DS) (i m:Nat):DS:=match Bq s.slots i with
 | .vw id _ _ _ _ n=>match Ar s.own id with
  | some e=>match e.obj with
   | .row et k bs es=>⟨(i,.osl id m)::s.slots,upE s.own id m (.row et k bs (es.take n))⟩
   | _=>s
  | none=>s
 | _=>s
theorem IY {P:Program} {B:Base} {Q:Exit->DS->Prop} {s:DS} {x:Code} (i:Nat) (h:WU s i/\i<B.nt) (hk:∀m,DW P B x Q (uF s i m)):DW P B x Q s:=by
 have h1:=h.1;have hk:=hk (Co B s);unfold WU at h1;unfold uF at hk
 split at h1
 ·rename_i id r k bs n hg;rw[hg]at hk;simp only at hk
  split at h1
  ·rename_i e he;rw[he]at hk;simp only at hk
   split at h1
   ·rename_i et k' bs' es qW;rw[qW]at hk;obtain⟨wO,rfl,rfl,hn⟩:=h1;exact Hg (Sub.truncSlot hg he wO qW hn h.2) hk
   ·exact h1.elim
  ·exact h1.elim
 ·exact h1.elim
attribute [simp] OO_ ON_ Jc_ WL isE wk1 wkL wk GR Dh EK II BH SU Op.operands Call.operands JZ okG Gu Kr Bl Ko Jg MR_ MQ_ BI Bq ev ofV Cm FY BR Vf NV DU Bn Ar Nt_ CT callee BP gB gOK Cp GW Hl AP DG JL Mi CD EX Gc Am Bu Qu Du eqC JN_ Bh_ Gl_ Qj uX Sa IZ EI
@[simp] theorem Pc_ (n:Int):JI .i64 n↔ -9223372036854775808<=n/\n<=9223372036854775807:=Iff.rfl
theorem Af {n:Int} (h1: -9223372036854775808<=n) (h2:n<=9223372036854775807):IntKind.i64.wrap n=n:=by
 simp only[IntKind.wrap,IntKind.bits,IntKind.signed];simp
 split<;>omega
@[simp] theorem OP_ (n:Int):JI .u64 n↔0<=n/\n<=18446744073709551615:=Iff.rfl
@[simp] theorem Pb_ (n:Int):JI .u8 n↔0<=n/\n<=255:=Iff.rfl
@[simp] theorem OQ_ (n:Int):JI .u32 n↔0<=n/\n<=4294967295:=Iff.rfl
@[simp] theorem OR_ (n:Int):JI .i32 n↔ -2147483648<=n/\n<=2147483647:=Iff.rfl
def isB : DVal->Bool
 | .bool _=>true
 | _=>false
def IY_ : DVal->Bool
 | .bool b=>b
 | _=>false
attribute [simp] isB IY_
theorem AW {P:Program} {B:Base} {Q:Exit->DS->Prop} {s:DS} {c:Operand} {x y:Code} (h:isB (ev s.slots c)=true) (ht:IY_ (ev s.slots c)=true->DW P B x Q s) (hf:IY_ (ev s.slots c)=false->DW P B y Q s):DW P B (.cond c x y) Q s:=by
 cases he:ev s.slots c<;>rw[he]at h<;>simp at h;rename_i b;rw[he]at ht hf;exact LI_ he (fun hb=>ht hb) (fun hb=>hf hb)
attribute [simp] OM_ Lm_ FO_ AG_ Bw JS NF strOf Fv iI Tx NE iJ BR_ MO_ IQ_ Xz HN Kh upE Me Di FZ Ji Rz Ry Jd Aj_ freezeL freezeS IA_ As_ Ar_ MK_ eO DK_ LC okR ZO Qk ok2 Sv Xq ok3 ZP HG XE JP tU xN Kl Ca Mo Nj tP JJ RK MY Bf_ YE uF WU
attribute [simp] mx AR Bx BG Jm
@[simp] theorem Nf_ {l:List (List DVal)} {k:Nat} (h:Bx l=0):Bx (l.take k)=0:=Nat.le_zero.1 (h▸GN k l)
@[simp] theorem Ng_ {l:List (List DVal)} {k:Nat} (h:Bx l=0):Bx (l.drop k)=0:=Nat.le_zero.1 (h▸GO k l)
@[simp] theorem OE_ : List.range 3=[0,1,2]:=rfl
@[simp] theorem OD_ : List.range 4=[0,1,2,3]:=rfl
@[simp] theorem OC_ : List.range 5=[0,1,2,3,4]:=rfl
@[simp] theorem OB_ : List.range 6=[0,1,2,3,4,5]:=rfl
theorem St.out {own own':List Ent} {loc:Nat->Loc} {M:List Nat} {h:Array Obj} (ρ:List (Nat×Nat×Nat)) (S:St own loc M h) (hρ:(ρ.map (·.2.1)).Nodup/\(ρ.map (·.1)).Nodup)
  (ho:Mo own (Ca own ρ) ρ=some own') (hk:Nj own ρ) :
  ∃loc',St own' loc' M h/\(∀b∈Ab own' loc',b∈Ab own loc)/\(∀x∈own',∃i e,(i,x.id,x.r)∈ρ/\Ar own i=some e/\loc' x.id=loc i/\(x.r=1\/(x.r=0/\i=x.id/\e.r=0))) /\
   (∀d v,XE d->rd (Ae own loc) (Ab own loc++M) h d v->rd (Ae own' loc') (Ab own' loc'++M) h (HG (Ca own ρ) d) v):=by
 have h2:((ρ.map fun p=>(p.1,p.2.1)).map (·.2)).Nodup:=by rw[cC0];exact hρ.1
 have gT:∀i j v,(i,j,v)∈ρ->loc ((BN (ρ.map fun p=>(p.1,p.2.1)) j).getD 0)=loc i:=by
  intro i j v hm;rw[CA h2 (aR0.2 ⟨(i,j,v),hm,rfl⟩)];rfl
 obtain⟨hm,jY⟩:=Nk ho
 have hx:∀x∈own',∃i e,(i,x.id,x.r)∈ρ/\Ar own i=some e/\x.obj=JP (Ca own ρ) e.obj:=by
  intro x hx;obtain⟨i,j,v,e,h1,h2,rfl⟩:=hm x hx;exact⟨i,e,h1,h2,rfl⟩
 have hnd:(own'.map (·.id)).Nodup:=by rw[jY];exact hρ.1
 have jX:Ab own' (fun j=>loc ((BN (ρ.map fun p=>(p.1,p.2.1)) j).getD 0))=Ab (own'.map fun x=>⟨(BN (ρ.map fun p=>(p.1,p.2.1)) x.id).getD 0,0,x.obj⟩) loc:=by
  simp[Ab,List.flatMap_map]
 have gK:((own'.map fun x=>(⟨(BN (ρ.map fun p=>(p.1,p.2.1)) x.id).getD 0,0,x.obj⟩:Ent)).map (·.id)).Nodup:=by
  rw[cC0]
  have:own'.map ((·.id)∘fun x=>(⟨(BN (ρ.map fun p=>(p.1,p.2.1)) x.id).getD 0,0,x.obj⟩:Ent))=ρ.map (·.1):=by
   have e1:own'.map ((·.id)∘fun x=>(⟨(BN (ρ.map fun p=>(p.1,p.2.1)) x.id).getD 0,0,x.obj⟩:Ent))=(own'.map (·.id)).map (fun j=>(BN (ρ.map fun p=>(p.1,p.2.1)) j).getD 0):=by
    rw[cC0];rfl
   rw[e1,jY,cC0];refine cN0 fun p hp=> ?_
   simp only[Function.comp_def];rw[CA h2 (aR0.2 ⟨p,hp,rfl⟩)];rfl
  rw[this];exact hρ.2
 have vV:∀b∈Ab own' (fun j=>loc ((BN (ρ.map fun p=>(p.1,p.2.1)) j).getD 0)),b∈Ab own loc:=by
  intro b hb;obtain⟨x,qG,hb⟩:=bT0.1 hb;obtain⟨i,e,h1,h2,_⟩:=hx x qG;simp only[gT i _ _ h1]at hb;obtain⟨k1,k2⟩:=AN h2;rw[<-k2]at hb;exact Bm k1 hb
 have hM:∀b,b∈Ab own' (fun j=>loc ((BN (ρ.map fun p=>(p.1,p.2.1)) j).getD 0))++M->b∈Ab own loc++M:=by
  intro b hb
  rcases aI0.1 hb with hb | hb
  ·exact aN0 _ (vV b hb)
  ·exact aP0 _ hb
 have W:Weak (Ae own loc) (Ae own' fun j=>loc ((BN (ρ.map fun p=>(p.1,p.2.1)) j).getD 0)) (Ab own loc++M) (Ab own' (fun j=>loc ((BN (ρ.map fun p=>(p.1,p.2.1)) j).getD 0))++M) h h 0 :=
  ⟨fun id r l hr=>by omega,fun b o _ (_:Hi o=true) ho=>ho,fun b o hb (_:Hi o=true) _ hm=>hb (hM b hm)⟩
 have L:Hf (Ae own loc) (Ae own' fun j=>loc ((BN (ρ.map fun p=>(p.1,p.2.1)) j).getD 0)) (Ca own ρ):=by
  intro i r p lc hp hl;obtain⟨e,h1,h2,h3⟩:=Jh hp;obtain⟨e0,_,g1,_,g3⟩:=BQ hl;obtain⟨k1,k2⟩:=AN h2;rw[<-h3,<-k2,AV S.nd k1,g3,gT i p.1 p.2 h1,k2]
 refine⟨fun j=>loc ((BN (ρ.map fun p=>(p.1,p.2.1)) j).getD 0),⟨hnd,?_,fun b hb=>S.ap b (vV b hb),fun b hb=>S.lt b (hM b hb),?_⟩,vV,?_,fun d v hd hr=>QK W L hd hr⟩
 ·rw[jX];refine GX S.bl _ gK fun e he=> ?_
  obtain⟨x,qG,rfl⟩:=aR0.1 he;obtain⟨i,e,h1,jG,_⟩:=hx x qG;simp only[CA h2 (aR0.2 ⟨_,h1,rfl⟩),cB0];exact⟨e,AN jG⟩
 ·intro x qG;obtain⟨i,e,h1,jG,h3⟩:=hx x qG;obtain⟨e',h4,h5,_⟩:=Li hk i _ _ h1;rw[jG]at h4;simp only[aA0]at h4;subst h4;obtain⟨k1,k2⟩:=AN jG;rw[h3];exact Lw W L (l:=loc i) h5 (gT i _ _ h1) (fun b o _ ho=>ho) (by have:=S.ok e k1;rwa[k2]at this)
 ·intro x qG;obtain⟨i,e,h1,jG,h3⟩:=hx x qG;obtain⟨e',h4,_,h5⟩:=Li hk i _ _ h1;rw[jG]at h4;simp only[aA0]at h4;subst h4;exact⟨i,e,h1,jG,gT i _ _ h1,h5⟩
def Vi : List Ent->Prop
 | []=>True
 | e::t=>(match e.obj with
  | .row _ _ bs es=>es.length*bs<=150000000000000/\es.length<=maxLen/\wfR es
  | .box cs=>IZ cs
  | .map ks vs=>IZ ks/\IZ vs
  | .abs _=>True)/\Vi t
theorem Ma_ {own:List Ent} {loc:Nat->Loc} {M:List Nat} {h:Array Obj} (S:St own loc M h):Vi own:=by
 have key:∀l:List Ent,(∀e∈l,e∈own)->Vi l:=by
  intro l
  induction l with
  | nil=>intro _;trivial
  | cons e t ih =>
   intro hm;refine⟨?_,ih fun x hx=>hm x (aC0 _ hx)⟩;have hk:=S.ok e (hm e aE0)
   cases qW:e.obj with
   | box cs=>rw[qW]at hk;obtain⟨b,arr,ty,_,_,_,h4⟩:=hk;exact Xt cs arr 0 h4
   | row et k bs es =>
    rw[qW]at hk;obtain⟨h0,⟨rfl,_⟩ | ⟨b,arr,cap,_,_,_,h4,h5,_,h7⟩⟩:=hk
    ·exact⟨by simp,by simp,by simp[wfR]⟩
    ·exact⟨h0,Nat.le_trans h4 h5,uZ _ _ _ _ h7⟩
   | map ks vs=>rw[qW]at hk;obtain⟨b,es,clk,_,_,_,h4,h5⟩:=hk;exact⟨GF _ _ h4,GF _ _ h5⟩
   | abs A=>trivial
 exact key own fun _ h=>h
theorem Gq (ids:List Nat) (ρ:List (Nat×Nat×Nat)) {P:Program} {f:FuncId} {fn:Func} {c:Code} {args:List DVal} {own own':List Ent} {d:DVal} (hf:P.funcs[f]? =some fn) (hb:fn.body=some c) (zW:Enters P f) (qX:args.length<=fn.ntmps)
  (hρ:(ρ.map (·.2.1)).Nodup/\(ρ.map (·.1)).Nodup) (hv:own'.all (fun e=>decide (e.r<=1))=true)
  (h:IZ args->Vi own->∀B:Base,B.nt=fn.ntmps/\B.ro=none->DW P B c (tP P fn ids ρ d own') ⟨Am args 0,own⟩):AS P (.func f) args own d own':=by
 refine⟨fun e he=>by simpa using aV0.1 hv e he,zW,fun M w loc vs S hr=> ?_⟩
 have key:∀B:Base,B.nt=fn.ntmps/\B.ro=none->DW P B c (Gl_ P fn fun s d0=>XE d0/\wk (HG (Ca s.own ρ) d0) d/\Mo s.own (Ca s.own ρ) ρ=some own'/\Nj s.own ρ) ⟨Am args 0,own⟩:=by
  intro B hB a w loc R;refine wpIn_mono (h (GF _ _ hr) (Ma_ S) B hB a w loc R) ?_;rintro e a' w' ⟨s',loc',hq,R'⟩;obtain⟨loc'',R''⟩:=Sub.freezeL ids s' a' w' loc' R';refine⟨freezeL s' ids,loc'',?_,R''⟩
  cases e<;>simp only[tP]at hq<;>first
   |(split at hq
     ·rename_i d0 bH;exact⟨d0,bH,hq⟩
     ·exact hq.elim)
   | exact hq.elim
 refine Ov (N:=1) (Nat.le_refl 1) hf hb zW qX S (fun _ _ _=>trivial) hr key ?_;intro s loc' w' d0 v ⟨hd,hw,ho,hk⟩ S' hu wD zV vT;obtain⟨loc1,S1,h1,h2,h3⟩:=S'.out ρ hρ ho hk;refine⟨loc1,S1,hu,fun b hb=>wD b (h1 b hb),fun x hx qV=> ?_,Zr hw (h3 d0 v hd vT)⟩;obtain⟨i,e,g1,g2,g3,g4⟩:=h2 x hx
 rcases g4 with g4 | ⟨g4,g5,g6⟩
 ·omega
 ·obtain⟨k1,k2⟩:=AN g2;have:=zV e k1 (by omega);rw[k2,g6]at this;rw[g3,g4,<-g5];exact this
theorem tR (ids:List Nat) (ρ:List (Nat×Nat×Nat)) {P:Program} {f:FuncId} {fn:Func} {c:Code} {args:List DVal} {own own':List Ent} {d:DVal} (hf:P.funcs[f]? =some fn) (hb:fn.body=some c) (zW:Enters P f) (qX:args.length<=fn.ntmps)
  (hρ:(ρ.map (·.2.1)).Nodup/\(ρ.map (·.1)).Nodup) (hv:own'.all (fun e=>decide (e.r<=1))=true)
  (h:IZ args->∀B:Base,B.nt=fn.ntmps/\B.ro=none->DW P B c (tP P fn ids ρ d own') ⟨Am args 0,own⟩):AS P (.func f) args own d own' :=
 Gq ids ρ hf hb zW qX hρ hv fun qJ _=>h qJ
theorem AK (ρ ν:List (Nat×Nat)) {P:Program} {g:FuncId} {args args0:List DVal} {own own0 own0':List Ent} {d0:DVal} {K:ContE} (hS:AS P (.func g) args0 own0 d0 own0')
  (wM:Mo own (Ca own (Ej ρ)) (Ej ρ)=some own0/\Yb own ρ/\(XD args/\WL (args.map (HG (Ca own (Ej ρ)))) args0)/\(((ρ++ν).map (·.1)).Nodup/\(ρ.map (·.2)).Nodup)/\XC own0'/\XE d0)
  (hk:∀r,match IG (DN own ρ ν r) own0' with
   | some l=>((Bo own ((ρ++ν).map (·.1))++l).map (·.id)).Nodup/\K.f (HG (DN own ρ ν r) d0) (Bo own ((ρ++ν).map (·.1))++l)
   | none=>False):Bk P g args own K:=by
 intro r;have h:=hk r
 split at h
 ·rename_i l hl;exact⟨_,_,Qy ρ ν hS wM.1 wM.2.1 wM.2.2.1 wM.2.2.2.1 hl wM.2.2.2.2.1 wM.2.2.2.2.2 h.1,h.2⟩
 ·exact h.elim
attribute [simp] Ej BN DN IG Bo XC XD Yb FL_ Lg_ Ll_ UB UA AQ Ck
end Go.Dm
end
section
namespace Go.Proofs.Wy
open Go Go.Dm Tryz
variable [DMode]
attribute [local irreducible] DW Bi Bk
structure Sym where
 label:Bool
 n:Int
 deriving DecidableEq
def Az (s:Sym):List DVal:=[.bool s.label,.int .i64 s.n]
abbrev Br (l:List Sym):DVal:= .sl 2 16 (l.map Az)
structure Prod where
 head:Int
 body:List Sym
 deriving DecidableEq
def Ag (p:Prod):List DVal:=[.int .i64 p.head,Br p.body]
abbrev BT (l:List Prod):DVal:= .sl 2 32 (l.map Ag)
structure Cnf where
 nts:Int
 prods:List Prod
 deriving DecidableEq
def Av (c:Cnf):List DVal:=[.int .i64 c.nts,BT c.prods]
theorem mxd : Tryz.prog.follows .mixedOrders=true:=by kernel_rfl
theorem Im {α:Type} (f:α->List DVal) (h:∀x,AR (f x)=0) (l:List α):Bx (l.map f)=0:=by
 induction l with
 | nil=>rfl
 | cons x l ih=>simp[Bx,h,ih]
@[simp] theorem KD_ (s:Sym):AR (Az s)=0:=by simp[Az,AR,mx]
@[simp] theorem HL_ (l:List Sym):Bx (l.map Az)=0:=Im _ KD_ l
@[simp] theorem HM_ (p:Prod):AR (Ag p)=0:=by simp[Ag,AR,mx]
@[simp] theorem ER_ (l:List Prod):Bx (l.map Ag)=0:=Im _ HM_ l
@[simp] theorem Ov_ (c:Cnf):AR (Av c)=0:=by simp[Av,AR,mx]
theorem WP {α:Type} {f:α->List DVal}:∀{l:List α} {k:Nat} {x:α},wfR (l.map f)->l[k]? =some x->IZ (f x)
 | a::l,0,x,h,hx=>by
  simp only[bB0,aA0]at hx;subst hx;simp only[List.map_cons,wfR]at h;exact h.1
 | a::l,k+1,x,h,hx=>by
  simp only[List.map_cons,wfR]at h;exact WP h.2 (by simpa using hx)
def Vk (l:List Sym):Prop:=l.length*16<=150000000000000/\l.length<=9223372036854775807/\∀s∈l,JI .i64 s.n
def LJ_ (p:Prod):Prop:=JI .i64 p.head/\Vk p.body
def uC (l:List Prod):Prop:=l.length*32<=150000000000000/\l.length<=9223372036854775807/\∀p∈l,LJ_ p
def Ka_ (c:Cnf):Prop:=JI .i64 c.nts/\uC c.prods
theorem Bl_ {α:Type} {f:α->List DVal} {l:List α} {x:α} (h:wfR (l.map f)) (hx:x∈l):IZ (f x):=by
 obtain⟨k,hk,rfl⟩:=bK0 hx;exact WP h (aH0 hk)
theorem Rr {l:List Sym} (h:EI (Br l)):Vk l:=by
 simp only[EI,aL0,maxLen]at h;exact⟨h.1,by omega,fun s hs=>by have:=Bl_ h.2.2 hs;simp only[Az,IZ,EI]at this;exact this.2.1⟩
theorem Md_ {p:Prod} (h:IZ (Ag p)):LJ_ p:=by
 simp only[Ag,IZ,EI]at h;exact⟨h.1,Rr (by simp only[EI];exact h.2.1)⟩
theorem Bp_ {l:List Prod} (h:EI (BT l)):uC l:=by
 simp only[EI,aL0,maxLen]at h;exact⟨h.1,by omega,fun p hp=>Md_ (Bl_ h.2.2 hp)⟩
theorem GB_ {c:Cnf} (h:IZ (Av c)):Ka_ c:=by
 simp only[Av,IZ]at h;exact⟨by simpa[EI]using h.1,Bp_ h.2.1⟩
theorem Aw {α:Type} {l:List α} {k:Nat} (h:k<l.length):∃x,l[k]? =some x/\l[k]=x/\x∈l:=⟨l[k],aH0 h,rfl,dG0 h⟩
end Go.Proofs.Wy
end
section
namespace Go.Proofs.Wy
open Go Go.Dm Tryz
variable [DMode]
instance : LawfulBEq ByteArray where
 eq_of_beq {a b} h:=by
  rw[<-NI]at h;have h:=eq_of_beq h;cases a;cases b;simp only at h;rw[h]
 rfl {a}:=by rw[<-NI];exact beq_self_eq_true _
structure Edge where
 fr:ByteArray
 lb:ByteArray
 to:ByteArray
 deriving DecidableEq
structure Edges where
 nodes:List ByteArray
 edges:List Edge
 deriving DecidableEq
def Bh (s:ByteArray):List DVal:=[.str s]
def Cy_ (e:Edge):List DVal:=[.str e.fr,.str e.lb,.str e.to]
abbrev Bg (l:List ByteArray):DVal:= .sl 1 16 (l.map Bh)
abbrev NY_ (l:List Edge):DVal:= .sl 3 48 (l.map Cy_)
def dGr (g:Edges):List DVal:=[Bg g.nodes,NY_ g.edges]
@[simp] theorem KE_ (s:ByteArray):AR (Bh s)=0:=by simp[Bh,AR,mx]
@[simp] theorem HO_ (s:Edge):AR (Cy_ s)=0:=by simp[Cy_,AR,mx]
@[simp] theorem NC_ (l:List ByteArray):Bx (l.map Bh)=0:=Im _ KE_ l
@[simp] theorem Ou_ (l:List Edge):Bx (l.map Cy_)=0:=Im _ HO_ l
@[simp] theorem OL_ (g:Edges):AR (dGr g)=0:=by simp[dGr,AR,mx]
def CV (a b:ByteArray):Bool:=Op.bytesLess a.data.toList b.data.toList
theorem Jl_ : ∀l:List UInt8,Op.bytesLess l l=false
 | []=>rfl
 | a::l=>by simp[Op.bytesLess,Jl_ l]
theorem iY : ∀{a b c:List UInt8},Op.bytesLess a b=true->Op.bytesLess b c=true->Op.bytesLess a c=true
 | _,[],_,h,_=>by cases ‹List UInt8› <;>simp[Op.bytesLess]at h
 | _,_::_,[],_,h=>by simp[Op.bytesLess]at h
 | [],_::_,_::_,_,_=>by simp[Op.bytesLess]
 | x::a,y::b,z::c,h1,h2=>by
  simp only[Op.bytesLess,cY0,aM0,decide_eq_true_eq,beq_iff_eq]at h1 h2 |-
  rcases h1 with h1 | ⟨rfl,h1⟩
  ·rcases h2 with h2 | ⟨rfl,h2⟩
   ·exact .inl (UInt8.lt_trans h1 h2)
   ·exact .inl h1
  ·rcases h2 with h2 | ⟨rfl,h2⟩
   ·exact .inl h2
   ·exact .inr ⟨rfl,iY h1 h2⟩
theorem Jk_ : ∀{a b:List UInt8},Op.bytesLess a b=false->Op.bytesLess b a=false->a=b
 | [],[],_,_=>rfl
 | [],_::_,h,_=>by simp[Op.bytesLess]at h
 | _::_,[],_,h=>by simp[Op.bytesLess]at h
 | x::a,y::b,h1,h2=>by
  simp only[Op.bytesLess,Bool.or_eq_false_iff,Bool.and_eq_false_iff,decide_eq_false_iff_not,beq_eq_false_iff_ne]at h1 h2;have bT:x=y:=UInt8.le_antisymm (UInt8.not_lt.1 h2.1) (UInt8.not_lt.1 h1.1);subst bT;rw[Jk_ (h1.2.resolve_left (by simp)) (h2.2.resolve_left (by simp))]
theorem Fl (a:ByteArray):CV a a=false:=Jl_ _
theorem Kd {a b c:ByteArray} (h1:CV a b=true) (h2:CV b c=true):CV a c=true:=iY h1 h2
theorem ID {a b:ByteArray} (h:a.data.toList=b.data.toList):a=b:=by
 obtain⟨⟨x⟩⟩:=a;obtain⟨⟨y⟩⟩:=b;simp only at h;subst h;rfl
theorem Lb {a b:ByteArray} (h1:CV a b=false) (h2:CV b a=false):a=b:=ID (Jk_ h1 h2)
theorem RL {a b:ByteArray} (h:CV a b=true):CV b a=false:=by
 cases hb:CV b a
 ·rfl
 ·have:=Kd h hb;rw[Fl]at this;simp at this
theorem GZ_ {a b:ByteArray} (h:CV a b=true):a≠b:=fun e=>by subst e;rw[Fl]at h;simp at h
def OG (a b:ByteArray):Int:=if CV a b then -1 else if CV b a then 1 else 0
theorem Ei_ {a b:ByteArray}:OG a b=0↔a=b:=by
 unfold OG
 constructor
 ·intro h
  split at h
  ·simp at h
  ·split at h
   ·simp at h
   ·rename_i h1 h2;exact Lb (by simpa using h1) (by simpa using h2)
 ·rintro rfl;rw[Fl];simp
theorem GC {a b:ByteArray}:OG a b<0↔CV a b=true:=by
 unfold OG
 split
 ·simp_all
 ·split<;>simp_all
end Go.Proofs.Wy
end
