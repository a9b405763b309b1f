/- Parts of a proof, laid together: EnL, EnM, EnN, EnO, EnP, EnS, EnT, EnV, W0, WA. -/
import Derived.Test.YtchgnpnbcjflcaaGreatqCr3
set_option linter.unusedSimpArgs false
set_option maxHeartbeats 8000000
set_option linter.unusedVariables false
set_option linter.unusedSectionVars false
section
namespace Go.Dm
variable [DMode]
section
variable {P : Program} {o : Oper} {l l' : List (Nat × DVal)} {own : List Ent} {r n : Nat}
theorem GP_ {e1 e2:Operand->DVal} (h:∀x∈o.op.operands,e1 x=e2 x):LU P o e1 own r=LU P o e2 own r:=by
 unfold LU;obtain⟨dst,op,type,pos,after,guard⟩:=o;simp only at h |-;cases op<;>simp only[Op.operands]at h<;>simp only
 case box t x=>rw[h x (by simp)]
 case store t a x=>rw[h a (by simp),h x (by simp)]
 case mapUpdate t m k x=>rw[h m (by simp),h k (by simp),h x (by simp)]
 case makeSlice t l c=>rw[h l (by simp),h c (by simp)]
 case buildSlice t n ps =>
  have hc:=(Vs (P:=P) (own:=own) (e:=e1) (e':=e2) (.buildSlice t n ps) h).1;have e1:(ps.toList.map fun p=>AU (e1 p.2))=ps.toList.map fun p=>AU (e2 p.2):=cR0 fun p hm=>by rw[h p.2 (by simpa using ⟨p.1,by simpa using hm⟩)]
  rw[propext hc,e1]
 case call c =>
  obtain⟨cal,args,ts⟩:=c
  cases cal with
  | builtin b =>
   have:args.toList.map (e1)=args.toList.map (e2):=cR0 fun x hx=>h x (by simp[Call.operands];simpa using hx)
   cases b<;>simp only[this]
  | value f=>rfl
  | invoke a b=>rfl
theorem FP_ {e1 e2:Operand->DVal} {c:Call} (h:∀x∈c.operands,e1 x=e2 x):iE e1 c=iE e2 c:=by
 obtain⟨cal,args,ts⟩:=c
 cases cal with
 | value f =>
  have h1:args.toList.map e1=args.toList.map e2:=cR0 fun x hx=>h x (by simp[Call.operands];simp at hx;exact .inr hx)
  have h2:=h f (by simp[Call.operands]);simp only[iE,h1,h2]
 | builtin b=>rfl
 | invoke a b=>rfl
theorem Xv {e1 e2:Operand->DVal} {d:DVal} {own':List Ent} (h:∀x∈o.op.operands,e1 x=e2 x) (hx:Tx P o e1 own r d own'):Tx P o e2 own r d own':=by
 rcases hx with ⟨x,h1,h2⟩ | ⟨c,g,args,h1,h2,h3⟩ | ⟨c,id,r',args,e0,l,e,A,A',b,h1,h2,h3⟩
 ·exact .inl ⟨x,by rw[<-GP_ h];exact h1,h2⟩
 ·exact .inr (.inl ⟨c,g,args,h1,by rw[<-Qt (fun x hx=>h x (by rw[h1];exact hx))];exact h2,h3⟩)
 ·exact .inr (.inr ⟨c,id,r',args,e0,l,e,A,A',b,h1,by rw[<-FP_ (fun x hx=>h x (by rw[h1];exact hx))];exact h2,h3⟩)
theorem DQ (own:List Ent) (id r:Nat) (obj:DObj):Jc (upE own id r obj)<=max (max (r+1) (GC obj)) (Jc own):=by
 have:Jc (DH own id)<=Jc own:=by
  induction own with
  | nil=>simp[DH]
  | cons e t ih =>
   simp only[DH]
   split
   ·simp only[Jc];omega
   ·simp only[Jc];omega
 simp only[upE,Jc];omega
theorem RC_ {x:ERes} {ed:Operand->DVal} (h:LU P o ed own r=some x) (hp:x.pre) (ho:Jc own<=n) (fX:∀y∈o.op.operands,mx (ed y)<=n) (hr:n<=r):mx x.d<=r+1/\Jc x.own<=r+1:=by
 obtain⟨dst,op,type,pos,after,guard⟩:=o;unfold LU at h;simp only at h;cases op<;>simp only[reduceCtorEq]at h
 case box t y =>
  split at h
  ·rename_i i;simp only[aA0]at h;subst h;refine⟨by simp[mx],Nat.le_trans (DQ _ _ _ _) ?_⟩;have:=fX y (by simp[Op.operands]);simp only[GC,DC];omega
  ·simp at h
 case buildSlice t len ps =>
  split at h
  ·simp only[aA0]at h;subst h;refine⟨by simp[mx],Nat.le_trans (DQ _ _ _ _) ?_⟩
   have:BK (ps.toList.map fun p=>AU (ed p.2))<=n:=Gf_ fun cs hm=>by
    obtain⟨p,qI,rfl⟩:=aU0.1 hm;rw[DC];exact fX p.2 (by simpa[Op.operands]using ⟨p.1,by simpa using qI⟩)
   simp only[GC];omega
  ·simp at h
 case alloc t =>
  split at h
  ·rename_i i z hi hz;simp only[aA0]at h;subst h;refine⟨by simp[mx],Nat.le_trans (DQ _ _ _ _) ?_⟩;simp only[GC,Pn hz];omega
  ·simp at h
 case store t ad y =>
  split at h
  ·rename_i id r' off had
   split at h
   ·rename_i e he
    split at h
    ·rename_i cs qA;simp only[aA0]at h;subst h;refine⟨by simp[mx],Nat.le_trans (DQ _ _ _ _) ?_⟩;simp only at hp;obtain⟨h1,h2⟩:=BG (Bf he).1;rw[qA]at h2;simp only[GC]at h2 |-;have h3:=Nm cs off (AU (ed y));have h4:=fX y (by simp[Op.operands,Call.operands]);rw[DC]at h3;have:=hp.1;omega
    ·simp at h
   ·simp at h
  ·unfold GI at h
   split at h
   ·rename_i e he
    split at h
    ·rename_i qA
     split at h
     ·rename_i c0 yG;simp only[aA0]at h;subst h;refine⟨by simp[mx],Nat.le_trans (DQ _ _ _ _) ?_⟩;simp only at hp;obtain⟨h1,h2⟩:=BG (Bf he).1;rw[qA]at h2;simp only[GC]at h2 |-;have h3:=Nm c0;have h4:=fX y (by simp[Op.operands,Call.operands]);have h5:=hp.1;have h6:=Ox_ yG;refine eL0.2 ⟨eL0.2 ⟨by omega,iZ _ _ (by omega) (Nat.le_trans (h3 _ _) ?_)⟩,by omega⟩;rw[DC];omega
     ·simp at h
    ·simp at h
   ·simp at h
  ·simp at h
 case makeSlice t lo co =>
  unfold BG_ at h
  split at h
  ·rename_i hz _ _;simp only[aA0]at h;subst h;refine⟨by simp[mx],Nat.le_trans (DQ _ _ _ _) ?_⟩;simp only[GC];unfold tZeroE at hz
   split at hz
   ·refine eL0.2 ⟨eL0.2 ⟨by omega,Nat.le_trans (lA (dP0 (Pn hz))) (by omega)⟩,by omega⟩
   ·simp at hz
  ·simp at h
 case makeMap t rv =>
  split at h
  ·simp only[aA0]at h;subst h;refine⟨by simp[mx],Nat.le_trans (DQ _ _ _ _) ?_⟩;simp only[GC,AV];omega
  ·simp at h
 case mapUpdate t m k x =>
  split at h
  ·split at h
   ·rename_i e he
    split at h
    ·rename_i ks vs qA;simp only[aA0]at h;subst h;refine⟨by simp[mx],Nat.le_trans (DQ _ _ _ _) ?_⟩;simp only at hp;obtain⟨h1,h2⟩:=BG (Bf he).1;rw[qA]at h2;simp only[GC]at h2 |-;have h3:=AC_ ks (ed k);have h4:=AB_ ks vs (ed k) (ed x);have h5:=fX k (by simp[Op.operands,Call.operands]);have h6:=fX x (by simp[Op.operands,Call.operands]);have:=hp.1;omega
    ·simp at h
   ·simp at h
  ·simp at h
 case call c =>
  obtain⟨cal,args,ats⟩:=c;cases cal<;>simp only[reduceCtorEq]at h;rename_i b;cases b<;>simp only[reduceCtorEq]at h
  case append =>
   unfold Ql at h
   split at h
   ·rename_i da db t t' qF zH
    split at h
    ·rename_i i k bs et _ _
     split at h
     ·rename_i x cU
      split at h
      ·rename_i id es hdest;simp only[aA0]at h;subst h;refine⟨by simp[mx],Nat.le_trans (DQ _ _ _ _) ?_⟩;simp only[GC,BX,HY];have h1:BK es<=n:=Mb_ hdest (by omega);omega
      ·simp at h
     split at h
     ·rename_i id es k2 es2 hdest vZ;simp only[aA0]at h;subst h
      have hda:mx da<=n:=by
       have:da∈args.toList.map (ed):=by rw[qF];simp
       obtain⟨y,hy,rfl⟩:=aU0.1 this;exact fX y (by simpa[Op.operands,Call.operands]using hy)
      have hdb:mx db<=n:=by
       have:db∈args.toList.map (ed):=by rw[qF];simp
       obtain⟨y,hy,rfl⟩:=aU0.1 this;exact fX y (by simpa[Op.operands,Call.operands]using hy)
      refine⟨by simp[mx],Nat.le_trans (DQ _ _ _ _) ?_⟩;simp only[GC,BX]
      have h1:BK es<=n:=by
       unfold JP at hdest
       split at hdest
       ·simp only[aA0,aY0]at hdest;obtain⟨_,rfl⟩:=hdest;simp[BK]
       ·split at hdest
        ·rename_i e0 zG
         split at hdest
         ·split at hdest
          ·rename_i qA
           split at hdest
           ·simp only[aA0,aY0]at hdest;obtain⟨_,rfl⟩:=hdest;have:=(BG (Bf zG).1).2;rw[qA]at this;simp only[GC]at this;omega
           ·simp at hdest
          ·simp at hdest
         ·simp at hdest
        ·simp at hdest
       ·simp at hdest
      have h2:BK es2<=n:=by
       unfold Mh at vZ
       split at vZ
       ·simp only[aA0,aY0]at vZ;obtain⟨_,rfl⟩:=vZ;simp[BK]
       ·simp only[aA0,aY0]at vZ;obtain⟨_,rfl⟩:=vZ;simp[BK]
       ·rw[bH0]at vZ;obtain⟨⟨k',b',es'⟩,h1,h2⟩:=vZ;simp only[aY0]at h2;obtain⟨_,rfl⟩:=h2;have:=Rj h1;omega
      omega
     ·simp at h
    ·simp at h
   ·simp at h
  case copy =>
   unfold BH_ at h
   split at h
   ·rename_i d sd t t' qF zH
    split at h
    ·rename_i k k0 id r' i m et k' bs es k2 es2 ht nO vZ;simp only[aA0]at h;subst h;obtain⟨e,bs0,he,wB,qA,hdd⟩:=Ai_ nO
     have hdb:mx sd<=n:=by
      have:sd∈args.toList.map (ed):=by rw[qF];simp
      obtain⟨y,hy,rfl⟩:=aU0.1 this;exact fX y (by simpa[Op.operands,Call.operands]using hy)
     refine⟨by simp[mx],Nat.le_trans (DQ _ _ _ _) ?_⟩;obtain⟨h1,h2⟩:=BG (Bf he).1;rw[qA]at h2;simp only[GC]at h2 |-;have h3:BK (LL es i m es2)<=n:=BL_ (by omega) (xL vZ (by omega) hdb);omega
    ·simp at h
   ·simp at h
  case clear =>
   have key:∀{zs:List DVal} {t:TypeId} {es:List (List DVal)} {i m N:Nat},tZeroE P t=some zs->BK es<=N->BK (CY es i m zs)<=N:=by
    intro zs t es i m N hz tN;unfold tZeroE at hz
    split at hz
    ·unfold CY;rw[BX,BX];have:=Ix i es;have:=Iy (i+m) es;have:=lA (n:=0) (m:=m) (dP0 (Pn hz));omega
    ·simp at hz
   unfold Wq at h
   split at h
   ·split at h
    ·rename_i hz
     split at h
     ·split at h
      ·rename_i e he
       split at h
       ·rename_i qA;simp only[aA0]at h;subst h;refine⟨by simp[mx,AV],Nat.le_trans (DQ _ _ _ _) ?_⟩;simp only at hp;obtain⟨h1,h2⟩:=BG (Bf he).1;rw[qA]at h2;simp only[GC]at h2 |-;have h3:=hp.1;exact eL0.2 ⟨eL0.2 ⟨by omega,key hz (by omega)⟩,by omega⟩
       ·simp at h
      ·simp at h
     ·split at h
      ·rename_i e he
       split at h
       ·rename_i qA;simp only[aA0]at h;subst h;refine⟨by simp[mx,AV],Nat.le_trans (DQ _ _ _ _) ?_⟩;simp only at hp;obtain⟨h1,h2⟩:=BG (Bf he).1;rw[qA]at h2;simp only[GC]at h2 |-;have h3:=hp.1;exact eL0.2 ⟨eL0.2 ⟨by omega,key hz (by omega)⟩,by omega⟩
       ·simp at h
      ·simp at h
     ·simp at h
    ·simp at h
   ·simp at h
  case delete =>
   unfold Qk at h
   split at h
   ·split at h
    ·split at h
     ·rename_i e he
      split at h
      ·rename_i ks vs qA;simp only[aA0]at h;subst h;refine⟨by simp[mx,AV],Nat.le_trans (DQ _ _ _ _) ?_⟩;simp only at hp;obtain⟨h1,h2⟩:=BG (Bf he).1;rw[qA]at h2;simp only[GC]at h2 |-;have h3:=hp.1;refine eL0.2 ⟨eL0.2 ⟨by omega,eL0.2 ⟨Nat.le_trans (AF_ _ _) (by omega),Nat.le_trans (AE_ _ _ _) (by omega)⟩⟩,by omega⟩
      ·simp at h
     ·simp at h
    ·simp at h
   ·simp at h
end
def Hw (e:Ent):Bool:=match e.obj with | .box _=>true | _=>false
def Gz_ (l2:List Nat) (q:Nat) (e:Ent):Bool:=l2.any fun c=>decide (1000000<=c)&&c%1000==q&&c/1000000==e.id+1
def lR (l2:List Nat) (p q:Nat):Bool:=l2.any fun c=>decide (1000000<=c)&&c%1000==q&&c/1000%1000==p
def NT (l1 l2:List Nat) (k:Nat) (own:List Ent):List Ent:=if l2.contains k then []else if l1.contains k then own.filter Hw else if l2.isEmpty then own else own.filter fun e=> !Gz_ l2 k e
def DZ (o:Oper):Bool:=match o.op with
 | .call c=>match c.callee with | .builtin .append=>true | _=>false
 | _=>false
def Gw_ (o:Oper):Bool:=match o.op with | .indexAddr _ _ _=>true | _=>false
def Et (o:Oper):Bool:=match o.op with | .store _ _ _=>true | _=>false
def KW : DVal->Option Nat
 | .bx id _ _=>some id
 | .rx id _ _ _ _=>some id
 | _=>none
def Ux (slots:List (Nat×DVal)) (o:Oper):Option Nat:=match o.op with
 | .store _ a _=>KW (Bt slots a)
 | _=>none
def UA (l2:List Nat) (k:Nat) (slots:List (Nat×DVal)) (o:Oper):Bool:=l2.all fun c=>decide (c<1000000)||c/1000%1000 != k||Ux slots o==some (c/1000000-1)
def OC (own:List Ent) (o:Oper):Bool:= !DZ o||(match o.dst with | some i=>(match Ax own i with | some e=> !Hw e | none=>true) | none=>true)
def oI (K:ContE):ContE:=⟨fun d own'=>K.f (.sel true d) own'⟩
theorem Py_ (K:ContE) (d:DVal) (own':List Ent):(oI K).f d own'=K.f (.sel true d) own':=id rfl
def SX_ (P:Program) (c:Bool) (o:Oper) (ed:Operand->DVal) (own:List Ent) (K:ContE):Prop:=match c with
 | true=>LY_ P o ed own (oI K)
 | false=>K.f (.sel false .any) own
section
variable (P : Program) (nt : Nat) (ow l1 l2 : List Nat)
def Dw (ops:Array Oper):List Oper->Nat->Cont->DS->Prop
 | [],_,K,s=>K.f s
 | o::rest,k,K,s=>match o.guard with
  | none=>if BQ ow o then CX nt o.dst=true/\(OC s.own o=true/\UA l2 k s.slots o=true)/\LY_ P o (ev s.slots) s.own ⟨fun d own'=>Dw ops rest (k+1) K ⟨Ce s.slots o.dst d,own'⟩⟩
   else Ta_ P nt o ⟨s.slots,NT l1 l2 k s.own⟩ ⟨fun s'=>Dw ops rest (k+1) K ⟨s'.slots,s.own⟩⟩
  | some (j,want)=>gOK (Ci ops s j)=true/\if BQ ow o then CX nt o.dst=true/\(OC s.own o=true/\UA l2 k s.slots o=true)/\Mu (gB (Ci ops s j) want) (ev s.slots) o.op/\SX_ P (gB (Ci ops s j) want) o (Bt s.slots) s.own ⟨fun d own'=>Dw ops rest (k+1) K ⟨Ce s.slots o.dst d,own'⟩⟩
   else SZ_ P nt (gB (Ci ops s j) want) o ⟨s.slots,NT l1 l2 k s.own⟩ ⟨fun s'=>Dw ops rest (k+1) K ⟨s'.slots,s.own⟩⟩
def PD_ (ops:Array Oper) (rest:List Oper) (k:Nat) (own:List Ent) (K:Cont):Cont:=⟨fun s'=>Dw P nt ow l1 l2 ops rest k K ⟨s'.slots,own⟩⟩
theorem RH_ (ops:Array Oper) (rest:List Oper) (k:Nat) (own:List Ent) (K:Cont) (s':DS):(PD_ P nt ow l1 l2 ops rest k own K).f s'=Dw P nt ow l1 l2 ops rest k K ⟨s'.slots,own⟩:=id rfl
def PC_ (ops:Array Oper) (rest:List Oper) (k:Nat) (dst:Option Nat) (sl:List (Nat×DVal)) (K:Cont):ContE:=⟨fun d own'=>Dw P nt ow l1 l2 ops rest (k+1) K ⟨Ce sl dst d,own'⟩⟩
theorem RG_ (ops:Array Oper) (rest:List Oper) (k:Nat) (dst:Option Nat) (sl:List (Nat×DVal)) (K:Cont) (d:DVal) (own':List Ent):(PC_ P nt ow l1 l2 ops rest k dst sl K).f d own'=Dw P nt ow l1 l2 ops rest (k+1) K ⟨Ce sl dst d,own'⟩:=id rfl
theorem Mc_ (ops:Array Oper) (k:Nat) (K:Cont) (s:DS):Dw P nt ow l1 l2 ops [] k K s=K.f s:=id rfl
theorem Wt (ops:Array Oper) (o:Oper) (rest:List Oper) (k:Nat) (K:Cont) (s:DS):Dw P nt ow l1 l2 ops (o::rest) k K s=match o.guard with
 | none=>if BQ ow o then CX nt o.dst=true/\(OC s.own o=true/\UA l2 k s.slots o=true)/\LY_ P o (ev s.slots) s.own (PC_ P nt ow l1 l2 ops rest k o.dst s.slots K)
  else Ta_ P nt o ⟨s.slots,NT l1 l2 k s.own⟩ (PD_ P nt ow l1 l2 ops rest (k+1) s.own K)
 | some (j,want)=>gOK (Ci ops s j)=true/\if BQ ow o then CX nt o.dst=true/\(OC s.own o=true/\UA l2 k s.slots o=true)/\Mu (gB (Ci ops s j) want) (ev s.slots) o.op/\SX_ P (gB (Ci ops s j) want) o (Bt s.slots) s.own (PC_ P nt ow l1 l2 ops rest k o.dst s.slots K)
  else SZ_ P nt (gB (Ci ops s j) want) o ⟨s.slots,NT l1 l2 k s.own⟩ (PD_ P nt ow l1 l2 ops rest (k+1) s.own K):=id rfl
def Gh (ops:Array Oper) (o:Oper) (s:DS) (d:DVal) (own':List Ent) (r:Nat):Prop:=match o.guard with
 | none=>Tx P o (ev s.slots) s.own r d own'
 | some (j,want)=>gOK (Ci ops s j)=true/\Mu (gB (Ci ops s j) want) (ev s.slots) o.op /\
  ((gB (Ci ops s j) want=true/\∃d0,d= .sel true d0/\Tx P o (Bt s.slots) s.own r d0 own')\/(gB (Ci ops s j) want=false/\d= .sel false .any/\own'=s.own))
def uC (ops:Array Oper) (k:Nat) (o:Oper) (s:DS) (d:DVal) (own':List Ent) (r:Nat):Prop :=
 (BQ ow o=true/\CX nt o.dst=true/\(OC s.own o=true/\UA l2 k s.slots o=true)/\Gh P ops o s d own' r) \/
  (BQ ow o=false/\own'=s.own/\UT_ P nt ops o ⟨s.slots,NT l1 l2 k s.own⟩ d)
def EX (l:List Oper):Nat:=l.countP (BQ ow)
def GS (ops:Array Oper):Bool :=
 let m:=EU ops.toList []
 let zs:=ops.toList.zipIdx
 GQ_ ops&&zs.all fun p=> !BQ ow p.1||zs.all fun q=>p.2==q.2||(decide (p.2<q.2)&&(m.getD q.2 0).testBit p.2)||(decide (q.2<p.2)&&(m.getD p.2 0).testBit q.2) ||
  (!BQ ow q.1&&(l2.contains q.2||(l1.contains q.2&&DZ p.1)||(!l1.contains q.2&&Gw_ q.1&&Et p.1)||(!l1.contains q.2&&Et p.1&&lR l2 p.2 q.2)))
end
section
variable {P : Program} {nt : Nat} {ow l1 l2 : List Nat}
theorem Zz {ops:Array Oper} {K:Cont} (n0:Nat):∀(rest:List Oper) (k c:Nat) (s:DS),Dw P nt ow l1 l2 ops rest k K s ->
  ∃(ds:List DVal) (owns:Nat->List Ent),ds.length=rest.length/\owns 0=s.own/\K.f ⟨JM s.slots (rest.zip ds),owns rest.length⟩ /\
   ∀(j:Nat) (o:Oper),rest[j]? =some o->∃d,ds[j]? =some d/\uC P nt ow l1 l2 ops (k+j) o ⟨JM s.slots ((rest.zip ds).take j),owns j⟩ d (owns (j+1)) (n0+c+EX ow (rest.take j))
 | [],k,c,s,h=>⟨[],fun _=>s.own,rfl,rfl,by simpa[Dw,JM]using h,by simp⟩
 | o::rest,k,c,s,h=>by
  have step:∀d own',uC P nt ow l1 l2 ops k o s d own' (n0+c)->Dw P nt ow l1 l2 ops rest (k+1) K ⟨Ce s.slots o.dst d,own'⟩->∃(ds:List DVal) (owns:Nat->List Ent),ds.length=(o::rest).length/\owns 0=s.own/\K.f ⟨JM s.slots ((o::rest).zip ds),owns (o::rest).length⟩ /\
    ∀(j:Nat) (o':Oper),(o::rest)[j]? =some o'->∃d,ds[j]? =some d/\uC P nt ow l1 l2 ops (k+j) o' ⟨JM s.slots (((o::rest).zip ds).take j),owns j⟩ d (owns (j+1)) (n0+c+EX ow ((o::rest).take j)):=by
   intro d own' qL hr;obtain⟨ds,owns,h1,h0,h2,h3⟩:=Zz n0 rest (k+1) (c+EX ow [o]) _ hr;refine⟨d::ds,fun j=>match j with | 0=>s.own | j+1=>owns j,by simp[h1],rfl,by simpa[JM]using h2,?_⟩;intro j o' hj
   cases j with
   | zero=>simp only[bF0,aA0]at hj;subst hj;exact⟨d,by simp,by simpa[JM,EX,h0]using qL⟩
   | succ j =>
    obtain⟨d',h4,h5⟩:=h3 j o' (by simpa using hj);refine⟨d',by simpa using h4,?_⟩
    have e1:n0+(c+EX ow [o])+EX ow (rest.take j)=n0+c+EX ow ((o::rest).take (j+1)):=by
     simp only[dL0,EX,fR0,List.countP_nil];omega
    rw[e1,show k+1+j=k+(j+1) by omega]at h5;simpa[JM]using h5
  simp only[Dw]at h
  split at h
  ·rename_i hg
   split at h
   ·rename_i he;obtain⟨hd,ha,h⟩:=h;obtain⟨d,own',h1,h2⟩:=MU h (n0+c);exact step d own' (.inl ⟨he,hd,ha,by unfold Gh;rw[hg];exact h1⟩) h2
   ·rename_i he;have he:BQ ow o=false:=by simpa using he
    obtain⟨hd,h⟩:=h
    split at h
    ·rename_i c vG
     split at h
     ·rename_i g args hc;obtain⟨d,h1,h2⟩:=Sb h;exact step d _ (.inr ⟨he,rfl,hd,by rw[hg];exact .inl ⟨c,g,args,vG,hc,h1⟩⟩) h2
     ·exact step _ _ (.inr ⟨he,rfl,hd,by rw[hg];exact .inr ⟨h.1,rfl⟩⟩) h.2
    ·exact step _ _ (.inr ⟨he,rfl,hd,by rw[hg];exact .inr ⟨h.1,rfl⟩⟩) h.2
  ·rename_i j want hg;obtain⟨yY,h⟩:=h
   split at h
   ·rename_i he;obtain⟨hd,ha,qL,h⟩:=h
    cases hb:gB (Ci ops s j) want with
    | true =>
     rw[hb]at h;obtain⟨d,own',h1,h2⟩:=MU (K:=oI _) h (n0+c);exact step (.sel true d) own' (.inl ⟨he,hd,ha,by unfold Gh;rw[hg];exact⟨yY,qL,.inl ⟨hb,d,rfl,h1⟩⟩⟩) h2
    | false =>
     rw[hb]at h;exact step (.sel false .any) s.own (.inl ⟨he,hd,ha,by unfold Gh;rw[hg];exact⟨yY,qL,.inr ⟨hb,rfl,rfl⟩⟩⟩) h
   rename_i he;have he:BQ ow o=false:=by simpa using he
   obtain⟨hd,qL,h⟩:=h
   have mk:∀d,(gB (Ci ops s j) want=true->HG P o (NT l1 l2 k s.own) (Bt s.slots) d)->uC P nt ow l1 l2 ops k o s (.sel (gB (Ci ops s j) want) d) s.own (n0+c):=by
    intro d h1;refine .inr ⟨he,rfl,hd,?_⟩;rw[hg];exact⟨yY,qL,d,rfl,h1⟩
   split at h
   ·rename_i c vG
    split at h
    ·rename_i g args hc;obtain⟨d,h1,h2⟩:=ZG h;exact step _ _ (mk d fun hq=> .inl ⟨c,g,args,vG,hc,h1 hq⟩) h2
    ·exact step _ _ (mk _ fun hq=> .inr ⟨h.1 hq,rfl⟩) h.2
   ·exact step _ _ (mk _ fun hq=> .inr ⟨h.1 hq,rfl⟩) h.2
end
theorem Ov_ (l:List (Nat×DVal)) (o:Option Nat) (d:DVal):Nv (Ce l o d)<=max (mx d) (Nv l):=by
 cases o<;>simp only[Ce,Nv]<;>omega
theorem Az_ {l:List (Nat×DVal)} {S:Nat->Bool} {n:Nat} (hl:Nv l<=n):∀(zs:List (Oper×DVal)) (i:Nat),(∀(k:Nat) (z:Oper×DVal),zs[k]? =some z->S (i+k)=true->mx z.2<=n)->Nv (Fs l S i zs)<=n
 | [],_,_=>hl
 | (o,d)::r,i,h=>by
  have ih:=Az_ (S:=S) hl r (i+1) (fun k z hz hS=>h (k+1) z (by simpa using hz) (by rwa[show i+1+k=i+(k+1) by omega]at hS));simp only[Fs]
  split
  ·rename_i hS;refine Nat.le_trans (Ov_ _ _ _) ?_;have:=h 0 (o,d) (by simp) (by simpa using hS);simp only at this;omega
  ·exact ih
structure EffSpec (ow l1 l2:List Nat) (ops:Array Oper):Prop where
 two:∀(k i:Nat) (o o':Oper),ops[k]? =some o->ops[i]? =some o'->BQ ow o=true->k=i\/(k<i/\((EU ops.toList []).getD i 0).testBit k=true)\/(i<k/\((EU ops.toList []).getD k 0).testBit i=true) \/
  (BQ ow o'=false/\(((l2.contains i=true\/(l1.contains i=true/\DZ o=true))\/((l1.contains i=false/\Gw_ o'=true)/\Et o=true))\/((l1.contains i=false/\Et o=true)/\lR l2 k i=true)))
theorem oJ {ow l1 l2:List Nat} {ops:Array Oper} (h:GS ow l1 l2 ops=true):EffSpec ow l1 l2 ops:=by
 unfold GS at h;simp only[aM0,bA0]at h;obtain⟨_,h⟩:=h
 have mem:∀(k:Nat) (o:Oper),ops[k]? =some o->(o,k)∈ops.toList.zipIdx:=by
  intro k o hk;rw[List.mem_zipIdx_iff_getElem?];simpa using hk
 refine⟨fun k i o o' hk hi he=> ?_⟩;have h1:=h (o,k) (mem k o hk);simp only[dI0,he,Bool.not_true,aK0,false_or,bA0]at h1;have h2:=h1 (o',i) (mem i o' hi);simp only[dI0,aM0,beq_iff_eq,decide_eq_true_eq,eN0]at h2
 rcases h2 with ((h2 | h2) | h2) | h2
 ·exact .inl h2
 ·exact .inr (.inl h2)
 ·exact .inr (.inr (.inl h2))
 ·exact .inr (.inr (.inr h2))
theorem BF_ {P:Program} {o:Oper} {l:Operand->DVal} {own:List Ent} {r:Nat} {x:ERes} (h:LU P o l own r=some x) :
  ∃id r' obj,x.own=upE own id r' obj/\(DZ o=true->(∃et k bs es,obj= .row et k bs es)/\(o.dst=some id\/∃e,Ax own id=some e/\Hw e=false)):=by
 obtain⟨dst,op,type,pos,after,guard⟩:=o;unfold LU at h;simp only at h;cases op<;>simp only[reduceCtorEq]at h
 case box t y =>
  split at h
  ·simp only[aA0]at h;subst h;exact⟨_,_,_,rfl,by simp[DZ]⟩
  ·simp at h
 case buildSlice t len ps =>
  split at h
  ·simp only[aA0]at h;subst h;exact⟨_,_,_,rfl,by simp[DZ]⟩
  ·simp at h
 case alloc t =>
  split at h
  ·simp only[aA0]at h;subst h;exact⟨_,_,_,rfl,by simp[DZ]⟩
  ·simp at h
 case store t ad y =>
  split at h
  ·split at h
   ·split at h
    ·simp only[aA0]at h;subst h;exact⟨_,_,_,rfl,by simp[DZ]⟩
    ·simp at h
   ·simp at h
  ·unfold GI at h
   split at h
   ·split at h
    ·split at h
     ·simp only[aA0]at h;subst h;exact⟨_,_,_,rfl,by simp[DZ]⟩
     ·simp at h
    ·simp at h
   ·simp at h
  ·simp at h
 case makeSlice t lo co =>
  unfold BG_ at h
  split at h
  ·simp only[aA0]at h;subst h;exact⟨_,_,_,rfl,by simp[DZ]⟩
  ·simp at h
 case makeMap t rv =>
  split at h
  ·simp only[aA0]at h;subst h;exact⟨_,_,_,rfl,by simp[DZ]⟩
  ·simp at h
 case mapUpdate t m k x =>
  split at h
  ·split at h
   ·split at h
    ·simp only[aA0]at h;subst h;exact⟨_,_,_,rfl,by simp[DZ]⟩
    ·simp at h
   ·simp at h
  ·simp at h
 case call c =>
  obtain⟨cal,args,ats⟩:=c;cases cal<;>simp only[reduceCtorEq]at h;rename_i b;cases b<;>simp only[reduceCtorEq]at h
  case append =>
   unfold Ql at h
   split at h
   ·split at h
    ·rename_i i k bs et _ _
     split at h
     ·rename_i x cU
      split at h
      ·rename_i id es hdest;simp only[aA0]at h;subst h;refine⟨_,_,_,rfl,fun _=>⟨⟨_,_,_,_,rfl⟩,?_⟩⟩;unfold JP at hdest
       split at hdest
       ·simp only[aA0,aY0]at hdest;obtain⟨rfl,_⟩:=hdest;exact .inl rfl
       ·split at hdest
        ·rename_i e0 zG
         split at hdest
         ·split at hdest
          ·rename_i qA
           split at hdest
           ·simp only[aA0,aY0]at hdest;obtain⟨rfl,_⟩:=hdest;exact .inr ⟨e0,zG,by unfold Hw;rw[qA]⟩
           ·simp at hdest
          ·simp at hdest
         ·simp at hdest
        ·simp at hdest
       ·simp at hdest
      ·simp at h
     split at h
     ·rename_i id es k2 es2 hdest vZ;simp only[aA0]at h;subst h;refine⟨_,_,_,rfl,fun _=>⟨⟨_,_,_,_,rfl⟩,?_⟩⟩;unfold JP at hdest
      split at hdest
      ·simp only[aA0,aY0]at hdest;obtain⟨rfl,_⟩:=hdest;exact .inl rfl
      ·split at hdest
       ·rename_i e0 zG
        split at hdest
        ·split at hdest
         ·rename_i qA
          split at hdest
          ·simp only[aA0,aY0]at hdest;obtain⟨rfl,_⟩:=hdest;exact .inr ⟨e0,zG,by unfold Hw;rw[qA]⟩
          ·simp at hdest
         ·simp at hdest
        ·simp at hdest
       ·simp at hdest
      ·simp at hdest
     ·simp at h
    ·simp at h
   ·simp at h
  case copy =>
   unfold BH_ at h
   split at h
   ·split at h
    ·simp only[aA0]at h;subst h;exact⟨_,_,_,rfl,by simp[DZ]⟩
    ·simp at h
   ·simp at h
  case clear =>
   unfold Wq at h
   split at h
   ·split at h
    ·split at h
     ·split at h
      ·split at h
       ·simp only[aA0]at h;subst h;exact⟨_,_,_,rfl,by simp[DZ]⟩
       ·simp at h
      ·simp at h
     ·split at h
      ·split at h
       ·simp only[aA0]at h;subst h;exact⟨_,_,_,rfl,by simp[DZ]⟩
       ·simp at h
      ·simp at h
     ·simp at h
    ·simp at h
   ·simp at h
  case delete =>
   unfold Qk at h
   split at h
   ·split at h
    ·split at h
     ·split at h
      ·simp only[aA0]at h;subst h;exact⟨_,_,_,rfl,by simp[DZ]⟩
      ·simp at h
     ·simp at h
    ·simp at h
   ·simp at h
theorem YT {own:List Ent} {id r:Nat} {obj:DObj} (h:(own.map (·.id)).Nodup):((upE own id r obj).map (·.id)).Nodup:=by
 simp only[upE,List.map_cons,cW0];refine⟨fun hm=> ?_,Ft h⟩;obtain⟨e,he,h1⟩:=aU0.1 hm;exact(BZ.1 he).2 h1
theorem Ke_ {P:Program} {o:Oper} {l:Operand->DVal} {own:List Ent} {r:Nat} {d:DVal} {own':List Ent} (h:Tx P o l own r d own') (nd:(own.map (·.id)).Nodup):(own'.map (·.id)).Nodup:=by
 rcases h with ⟨x,hx,_,_,rfl⟩ | ⟨c,g,args,_,_,hS⟩ | ⟨c,id,r',args,e0,l0,e,A,A',b,_,_,_,_,_,_,_,_,_,_,rfl⟩
 ·obtain⟨id,r',obj,h6,_⟩:=BF_ hx;rw[h6];exact YT nd
 ·exact hS.2.1
 ·exact YT nd
theorem Kf_ {P:Program} {o:Oper} {l:Operand->DVal} {own:List Ent} {r n:Nat} {d:DVal} {own':List Ent} (h:Tx P o l own r d own') (ho:Jc own<=n) (hl:∀y∈o.op.operands,mx (l y)<=n) (hr:n<=r):mx d<=r+1/\Jc own'<=r+1:=by
 rcases h with ⟨x,hx,hp,rfl,rfl⟩ | ⟨c,g,args,_,_,hS⟩ | ⟨c,id,r',args,e0,l0,e,A,A',b,_,_,_,_,_,_,_,_,_,rfl,rfl⟩
 ·exact RC_ hx hp ho hl hr
 ·exact hS.2.2.1 (by omega)
 ·refine⟨by simp[mx],Nat.le_trans (DQ _ _ _ _) ?_⟩;simp only[GC];omega
theorem PM_ {P:Program} {o:Oper} {l:Operand->DVal} {own:List Ent} {r:Nat} {x:ERes} (h:LU P o l own r=some x) (ha:DZ o=true) (qL:OC own o=true) (nd:(own.map (·.id)).Nodup) {e:Ent} (hb:Hw e=true) :
  e∈own↔e∈x.own:=by
 obtain⟨id,r',obj,hx,h1⟩:=BF_ h;obtain⟨⟨et,k,bs,es,rfl⟩,h2⟩:=h1 ha;rw[hx];unfold upE;rw[aL0,BZ]
 constructor
 ·intro he;refine .inr ⟨he,fun hid=> ?_⟩;have hf:=CP nd he;rw[hid]at hf
  rcases h2 with h2 | ⟨e',h2,h3⟩
  ·unfold OC at qL;rw[ha,h2]at qL;simp only[hf,hb]at qL;simp at qL
  ·rw[hf]at h2;simp only[aA0]at h2;subst h2;rw[hb]at h3;simp at h3
 ·rintro (rfl | ⟨he,_⟩)
  ·simp[Hw]at hb
  ·exact he
theorem IK_ {P:Program} {o:Oper} {l:Operand->DVal} {own:List Ent} {r:Nat} {d:DVal} {own':List Ent} (h:Tx P o l own r d own') (ha:DZ o=true) (qL:OC own o=true) (nd:(own.map (·.id)).Nodup) {e:Ent} (hb:Hw e=true) :
  e∈own↔e∈own':=by
 rcases h with ⟨x,hx,_,_,rfl⟩ | ⟨c,g,args,vG,hc,hS⟩ | ⟨c,id,r',args,e0,l0,e1,A,A',b,vG,hc,_⟩
 ·exact PM_ hx ha qL nd hb
 ·unfold DZ at ha;rw[vG]at ha;unfold callee at hc
  split at hc
  ·rename_i f hf;simp only[hf]at ha;simp at ha
  ·simp at hc
 ·unfold DZ at ha;rw[vG]at ha;unfold iE at hc
  split at hc
  ·rename_i f hf;simp only[hf]at ha;simp at ha
  ·simp at hc
theorem UF {d:DVal} (h:∀c d',d= .sel c d'->c=true):mx (LZ d)=mx d:=by
 cases d<;>try rfl
 rename_i c d';have:=h c d' rfl;subst this;simp[LZ,mx]
theorem TM {e:Operand->DVal}:∀{l:List Operand},HA true e l->∀x∈l,∀c d',e x= .sel c d'->c=true
 | [],_,x,hx,_,_,_=>by cases hx
 | y::l,h,x,hx,c,d',he=>by
  simp only[HA]at h
  rcases aL0.1 hx with rfl | hx
  ·have h1:=h.1;rw[he]at h1;exact h1 rfl
  ·exact TM h.2 x hx c d' he
theorem Wp {ow:List Nat} {o:Oper} {c:Bool} {e:Operand->DVal} (he:BQ ow o=true) (h:Mu c e o.op):HA c e o.op.operands.toList:=by
 unfold Mu at h
 split at h
 ·rename_i vG;unfold BQ at he;rw[vG]at he;simp at he
 ·exact h
theorem Rel.selTrue {B:Base} {l:List (Nat×DVal)} {own:List Ent} {a:Act} {w:World} {loc:Nat->Loc} {dst:Option Nat} {d:DVal} (R:Rel B ⟨Ce l dst d,own⟩ a w loc):Rel B ⟨Ce l dst (.sel true d),own⟩ a w loc where
 st:=R.st
 upd:=R.upd
 new:=R.new
 ver:=R.ver
 sl:=by
  intro i;have h:=R.sl i
  cases dst with
  | none=>exact h
  | some j =>
   simp only[Ce,BL]at h |-
   split
   ·rename_i hj;rw[if_pos hj]at h;simp only[rd];exact⟨fun _=>h,fun h'=>by simp at h'⟩
   ·rename_i hj;rw[if_neg hj]at h;exact h
 nt:=R.nt
 df:=R.df
theorem Qr_ {P:Program} {ops:Array Oper} {o:Oper} {s:DS} {d:DVal} {own':List Ent} {r:Nat} (h:Gh P ops o s d own' r) (nd:(s.own.map (·.id)).Nodup):(own'.map (·.id)).Nodup:=by
 unfold Gh at h
 split at h
 ·exact Ke_ h nd
 ·obtain⟨_,_,⟨_,d0,_,h⟩ | ⟨_,_,rfl⟩⟩:=h
  ·exact Ke_ h nd
  ·exact nd
theorem MG_ {P:Program} {ops:Array Oper} {o:Oper} {s:DS} {d:DVal} {own':List Ent} {r:Nat} (h:Gh P ops o s d own' r) (ha:DZ o=true) (qL:OC s.own o=true) (nd:(s.own.map (·.id)).Nodup) {e:Ent} (hb:Hw e=true):e∈s.own↔e∈own':=by
 unfold Gh at h
 split at h
 ·exact IK_ h ha qL nd hb
 ·obtain⟨_,_,⟨_,d0,_,h⟩ | ⟨_,_,rfl⟩⟩:=h
  ·exact IK_ h ha qL nd hb
  ·exact Iff.rfl
theorem EQ_ {P:Program} {ops:Array Oper} {o:Oper} {s s':DS} {d:DVal} {own':List Ent} {r:Nat} (dR:s.own=s'.own) (fX:∀x∈o.op.operands,ev s.slots x=ev s'.slots x) (hg:∀j want,o.guard=some (j,want)->Ci ops s j=Ci ops s' j) (h:Gh P ops o s d own' r):Gh P ops o s' d own' r:=by
 unfold Gh at h |-
 cases kL:o.guard with
 | none =>
  rw[kL]at h;simp only at h |-;rw[<-dR];exact Xv fX h
 | some jw =>
  obtain⟨j,want⟩:=jw;rw[kL]at h;simp only at h |-;rw[hg j want kL]at h;obtain⟨h1,h2,h3⟩:=h;refine⟨h1,Vo fX h2,?_⟩
  rcases h3 with ⟨h3,d0,h4,h5⟩ | ⟨h3,h4,h5⟩
  ·exact .inl ⟨h3,d0,h4,by rw[<-dR];exact Xv (fun x hx=>by unfold Bt;rw[fX x hx]) h5⟩
  ·exact .inr ⟨h3,h4,by rw[h5,dR]⟩
theorem Qs_ {P:Program} {ow:List Nat} {ops:Array Oper} {o:Oper} {s:DS} {d:DVal} {own':List Ent} {r n:Nat} (he:BQ ow o=true) (h:Gh P ops o s d own' r) (ho:Jc s.own<=n) (hl:Nv s.slots<=n) (hr:n<=r):mx d<=r+1/\Jc own'<=r+1:=by
 unfold Gh at h
 split at h
 ·exact Kf_ h ho (fun y _=>Nat.le_trans (SL _ y) hl) hr
 ·obtain⟨_,h2,⟨h3,d0,rfl,h⟩ | ⟨_,rfl,rfl⟩⟩:=h
  ·rw[h3]at h2
   have:=Kf_ h ho (fun y hy=>by
    unfold Bt;rw[UF (TM (Wp he h2) y (by simpa using hy))]
    exact Nat.le_trans (SL _ y) hl) hr
   refine⟨?_,this.2⟩;simp only[mx];simpa using this.1
  ·exact⟨by simp[mx],by omega⟩
theorem HG.ext {P:Program} {o:Oper} {own own':List Ent} {e e':Operand->DVal} {d:DVal} (h:HG P o own e d) (hx:Re own own') (he:∀x∈o.op.operands,e x=e' x):HG P o own' e' d:=by
 rcases h with ⟨c,g,args,vG,fG,hp⟩ | ⟨hp,fA⟩
 ·refine .inl ⟨c,g,args,vG,?_,hp⟩;rw[<-Qt (fun x hx=>he x (by rw[vG];exact hx))];exact fG
 ·obtain⟨c1,c2⟩:=Vs (P:=P) (own:=own) o.op he;obtain⟨h1,h2⟩:=Tz_ hx o.op (c1.1 hp);exact .inr ⟨h1,by rw[h2,<-c2];exact fA⟩
theorem HG.mx {P:Program} {o:Oper} {own:List Ent} {e:Operand->DVal} {d:DVal} {n:Nat} (h:HG P o own e d) (hn:Jc own<=n) (he:∀x∈o.op.operands,mx (e x)<=n):mx d<=n:=by
 rcases h with ⟨c,g,args,vG,fG,hp⟩ | ⟨hp,rfl⟩
 ·rw[hp.2.1];omega
 ·exact Ty_ hn o.op he
theorem MN {own:List Ent} {id r:Nat} {obj:DObj}:Ax (upE own id r obj) id=some ⟨id,r,obj⟩:=by simp[upE,Ax]
theorem Qe {own:List Ent} {id r j:Nat} {obj:DObj} (h:j≠id):Ax (upE own id r obj) j=Ax own j:=by
 have hdel:∀own:List Ent,Ax (DH own id) j=Ax own j:=by
  intro own
  induction own with
  | nil=>rfl
  | cons e t ih =>
   simp only[DH]
   split
   ·rename_i he;rw[ih];simp only[Ax];rw[if_neg (by omega)]
   ·simp only[Ax];rw[ih]
 unfold upE;simp only[Ax];rw[if_neg (by omega),hdel]
theorem Fo_ {P:Program} {o:Oper} {l:Operand->DVal} {own:List Ent} {r id:Nat} {x:ERes} (h:LU P o l own r=some x) (ha:Et o=true) (ht:∀t a y,o.op= .store t a y->KW (l a)=some id) {e:Ent} (he:e.id≠id):e∈own↔e∈x.own:=by
 obtain⟨dst,op,type,pos,after,guard⟩:=o;unfold Et at ha;unfold LU at h;simp only at h ha ht
 have up:∀r' obj,e∈own↔e∈upE own id r' obj:=by
  intro r' obj;unfold upE;rw[aL0,BZ]
  constructor
  ·exact fun hh=> .inr ⟨hh,he⟩
  ·rintro (rfl | hh)
   ·exact absurd rfl he
   ·exact hh.1
 cases op<;>simp only[reduceCtorEq,aK0]at h ha
 case store t a y =>
  have ht:=ht t a y rfl
  split at h
  ·rename_i id' r' off hl;rw[hl]at ht;simp only[KW,aA0]at ht;subst ht
   split at h
   ·split at h
    ·simp only[aA0]at h;subst h;exact up _ _
    ·simp at h
   ·simp at h
  ·rename_i id' r' k i j hl;rw[hl]at ht;simp only[KW,aA0]at ht;subst ht;unfold GI at h
   split at h
   ·split at h
    ·split at h
     ·simp only[aA0]at h;subst h;exact up _ _
     ·simp at h
    ·simp at h
   ·simp at h
  ·simp at h
theorem YA {P:Program} {o:Oper} {l:Operand->DVal} {own:List Ent} {r id:Nat} {d:DVal} {own':List Ent} (h:Tx P o l own r d own') (ha:Et o=true) (ht:∀t a y,o.op= .store t a y->KW (l a)=some id) {e:Ent} (he:e.id≠id):e∈own↔e∈own':=by
 rcases h with ⟨x,hx,hp,_,rfl⟩ | ⟨c,g,args,vG,_⟩ | ⟨c,id,r',args,e0,l0,e1,A,A',b,vG,_⟩
 ·exact Fo_ hx ha ht he
 ·simp[Et,vG]at ha
 ·simp[Et,vG]at ha
theorem uZ {d:DVal} {id:Nat} (h:KW (LZ d)=some id) (hs:∀c d',d≠ .sel c d'):KW d=some id:=by
 cases d<;>simp only[LZ]at h<;>first
  | exact h
  | (rename_i c d';exact absurd rfl (hs c d'))
theorem EP_ {P:Program} {ops:Array Oper} {o:Oper} {s:DS} {d:DVal} {own':List Ent} {r id:Nat} (h:Gh P ops o s d own' r) (ha:Et o=true) (ht:Ux s.slots o=some id) {e:Ent} (he:e.id≠id):e∈s.own↔e∈own':=by
 have fO:∀(t:TypeId) (a y:Operand),o.op= .store t a y->KW (Bt s.slots a)=some id:=by
  intro t a y vG;unfold Ux at ht;rw[vG]at ht;exact ht
 unfold Gh at h
 split at h
 ·refine YA h ha (fun t a y vG=> ?_) he;have h1:=fO t a y vG;unfold Bt at h1;refine uZ h1 fun c d' hd=> ?_
  rcases h with ⟨x,hx,_⟩ | ⟨c,g,args,nL,_⟩ | ⟨c,id,r',args,e0,l0,e1,A,A',b,nL,_⟩
  ·unfold LU at hx;rw[vG]at hx;simp only at hx;rw[hd]at hx;simp at hx
  ·rw[vG]at nL;simp at nL
  ·rw[vG]at nL;simp at nL
 ·obtain⟨_,_,⟨_,d0,_,h⟩ | ⟨_,_,rfl⟩⟩:=h
  ·exact YA h ha (fun t a y vG=>fO t a y vG) he
  ·exact Iff.rfl
def FK (own own':List Ent):Prop:=∀id e et k bs es,Ax own id=some e->e.obj= .row et k bs es->∃e' et' es',Ax own' id=some e'/\e'.r=e.r/\e'.obj= .row et' k bs es'/\es'.length=es.length
theorem FK.refl (own:List Ent):FK own own:=fun _ e et _ _ es h1 h2=>⟨e,et,es,h1,rfl,h2,rfl⟩
theorem FK.trans {a b c:List Ent} (h1:FK a b) (h2:FK b c):FK a c:=by
 intro id e et k bs es g1 g2;obtain⟨e',et',es',k1,k2,k3,k4⟩:=h1 id e et k bs es g1 g2;obtain⟨e'',et'',es'',l1,l2,l3,l4⟩:=h2 id e' et' k bs es' k1 k3;exact⟨e'',et'',es'',l1,l2.trans k2,l3,l4.trans k4⟩
theorem FK.upE {own:List Ent} {id r:Nat} {obj:DObj} {e0:Ent} (h0:Ax own id=some e0) (hr:e0.r=r)
  (h:(∃et et' k bs es es',e0.obj= .row et k bs es/\obj= .row et' k bs es'/\es'.length=es.length)\/(∃c c',e0.obj= .box c/\obj= .box c')):FK own (upE own id r obj)/\FK (upE own id r obj) own:=by
 constructor
 ·intro j e et k bs es h1 h2
  by_cases hj:j=id
  ·subst hj;rw[h0]at h1;simp only[aA0]at h1;subst h1
   rcases h with ⟨et1,et',k1,bs1,es1,es',g1,g2,g3⟩ | ⟨c,c',g1,g2⟩
   ·rw[h2]at g1;simp only[DObj.row.injEq]at g1;obtain⟨rfl,rfl,rfl,rfl⟩:=g1;exact⟨_,et',es',MN,hr.symm,g2,g3⟩
   ·rw[h2]at g1;simp at g1
  ·exact⟨e,et,es,by rw[Qe hj];exact h1,rfl,h2,rfl⟩
 ·intro j e et k bs es h1 h2
  by_cases hj:j=id
  ·subst hj;rw[MN]at h1;simp only[aA0]at h1;subst h1;simp only at h2;subst h2
   rcases h with ⟨et1,et',k1,bs1,es1,es',g1,g2,g3⟩ | ⟨c,c',g1,g2⟩
   ·simp only[DObj.row.injEq]at g2;obtain⟨rfl,rfl,rfl,rfl⟩:=g2;exact⟨e0,et1,es1,h0,hr,g1,g3.symm⟩
   ·simp at g2
  ·exact⟨e,et,es,by rw[Qe hj]at h1;exact h1,rfl,h2,rfl⟩
theorem FK.filt {own own':List Ent} {f:Ent->Bool} (nd:(own.map (·.id)).Nodup) (h:FK own own'):FK (own.filter f) own':=by
 intro id e et k bs es h1 h2;obtain⟨g1,g2⟩:=AN h1;have:=CP nd (cQ0.1 g1).1;rw[g2]at this;exact h id e et k bs es this h2
theorem OH_ {P:Program} {o:Oper} {l:Operand->DVal} {own:List Ent} {r:Nat} {x:ERes} (h:LU P o l own r=some x) (hp:x.pre) (ha:Et o=true):FK own x.own/\FK x.own own:=by
 obtain⟨dst,op,type,pos,after,guard⟩:=o;unfold Et at ha;unfold LU at h;simp only at h ha;cases op<;>simp only[reduceCtorEq,aK0]at h ha
 case store t a y =>
  split at h
  ·split at h
   ·rename_i e he
    split at h
    ·rename_i cs qA;simp only[aA0]at h;subst h;exact FK.upE he hp.1 (.inr ⟨_,_,qA,rfl⟩)
    ·simp at h
   ·simp at h
  ·unfold GI at h
   split at h
   ·rename_i e he
    split at h
    ·rename_i et k' bs es qA
     split at h
     ·simp only[aA0]at h;subst h;exact FK.upE he hp.1 (.inl ⟨_,_,_,_,_,_,qA,rfl,by simp⟩)
     ·simp at h
    ·simp at h
   ·simp at h
  ·simp at h
theorem Is_ {P:Program} {o:Oper} {l:Operand->DVal} {own:List Ent} {r:Nat} {d:DVal} {own':List Ent} (h:Tx P o l own r d own') (ha:Et o=true):FK own own'/\FK own' own:=by
 rcases h with ⟨x,hx,hp,_,rfl⟩ | ⟨c,g,args,vG,_⟩ | ⟨c,id,r',args,e0,l0,e1,A,A',b,vG,_⟩
 ·exact OH_ hx hp ha
 ·simp[Et,vG]at ha
 ·simp[Et,vG]at ha
theorem MF_ {P:Program} {ops:Array Oper} {o:Oper} {s:DS} {d:DVal} {own':List Ent} {r:Nat} (h:Gh P ops o s d own' r) (ha:Et o=true):FK s.own own'/\FK own' s.own:=by
 unfold Gh at h
 split at h
 ·exact Is_ h ha
 ·obtain⟨_,_,⟨_,d0,_,h⟩ | ⟨_,_,rfl⟩⟩:=h
  ·exact Is_ h ha
  ·exact⟨FK.refl _,FK.refl _⟩
theorem HG.ext2 {P:Program} {o:Oper} {own own':List Ent} {e e':Operand->DVal} {d:DVal} (h:HG P o own e d) (hx:Re own own'\/(Gw_ o=true/\FK own own')) (he:∀x∈o.op.operands,e x=e' x):HG P o own' e' d:=by
 rcases hx with hx | ⟨hi,hx⟩
 ·exact h.ext hx he
 ·obtain⟨dst,op,type,pos,after,guard⟩:=o;unfold Gw_ at hi;simp only at hi he;cases op<;>simp only[aK0]at hi
  case indexAddr t x i =>
   rcases h with ⟨c,g,args,vG,_⟩ | ⟨hp,hd⟩
   ·simp at vG
   ·refine .inr ?_;simp only[Hu,Ck]at hp hd |-;rw[<-he x (by simp[Op.operands]),<-he i (by simp[Op.operands])]
    split at hp
    ·rename_i _ _ n kk bs0 k' bs' es kI ht hr;rw[kI]at hd |-;simp only at hd |-;rw[ht];cases hxx:e x<;>rw[hxx]at hr hd<;>simp only[Bz,reduceCtorEq]at hr
     case sl =>
      simp only[aA0,aY0]at hr;obtain⟨rfl,rfl,rfl⟩:=hr;exact⟨by simpa[Bz]using hp,hd⟩
     case osl id r =>
      split at hr
      ·rename_i e0 hf
       split at hr
       ·rename_i fC
        split at hr
        ·rename_i et k1 bs1 es1 qA;simp only[aA0,aY0]at hr;obtain⟨rfl,rfl,rfl⟩:=hr;obtain⟨e1,et1,es1',g1,g2,g3,g4⟩:=hx id e0 _ _ _ _ hf qA;have dB:Bz own' (.osl id r)=some (k1,bs1,es1'):=by simp[Bz,g1,g2,fC,g3]
         have zS:Bz own (.osl id r)=some (k1,bs1,es1):=by simp[Bz,hf,fC,qA]
         simp only[IF]at hd |-;rw[zS]at hd;rw[dB];simp only at hd |-;exact⟨by rw[g4];exact hp,hd⟩
        ·simp at hr
       ·simp at hr
      ·simp at hr
     case vw id r k2 bs2 i2 n2 =>
      split at hr
      ·rename_i e0 hf
       split at hr
       ·rename_i fC
        split at hr
        ·rename_i et k1 bs1 es1 qA
         split at hr
         ·rename_i hq;simp only[aA0,aY0]at hr;obtain⟨rfl,rfl,rfl⟩:=hr;obtain⟨e1,et1,es1',g1,g2,g3,g4⟩:=hx id e0 _ _ _ _ hf qA;have dB:Bz own' (.vw id r k2 bs2 i2 n2)=some (k2,bs2,(es1'.drop i2).take n2):=by simp[Bz,g1,g2,fC,g3,hq,g4]
          rw[dB];simp only[IF]at hd |-;refine⟨⟨hp.1,hp.2.1,?_⟩,hd⟩;have:=hp.2.2;simp only[aT0,cD0]at this |-;omega
         ·simp at hr
        ·simp at hr
       ·simp at hr
      ·simp at hr
    ·exact hp.elim
section
variable {P : Program} {B : Base} {s : DS}
theorem US (ow l1 l2:List Nat) {ops:Array Oper} {K:Cont} {nt N:Nat} (qL:GS ow l1 l2 ops=true) (hnd0:(s.own.map (·.id)).Nodup) (h:Dw P nt ow l1 l2 ops ops.toList 0 K s) :
  ∃Inv:Base->Array Bool->Act->World->Prop,
   (∀B:Base,B.nt=nt->B.N=N->∀a w loc,Rel B s a w loc->Inv B (Array.replicate ops.size false) a w.drew) /\
   (∀B listed a w,Inv B listed a w->listed.size=ops.size/\(Region.ready .any ops listed=[]->∀i,i<ops.size->listed.getD i false=true)/\((∀i,i<ops.size->listed.getD i false=true)->∃s' loc,K.f s'/\Rel B s' a w loc)) /\
   (∀(B:Base) listed a w i (C:Act->World->Prop) (Qx:Exit->Act->World->Prop),B.nt=nt->B.N=N->Inv B listed a w->i∈Region.ready .any ops listed->(∀a' w',Inv B (listed.setIfInBounds i true) a' w'->C a' w')->wpOpIn (wd B.ro) 0 P ops Qx i C a w) /\
   (∀(B:Base) (G:Base->Prop) listed a w a' w' t,Inv B listed a w->(∀o∈ops.toList,o.dst≠some t)->(∀X loc,BL X.slots t=BL s.slots t->Rel B X a w loc->∃B',G B'/\Rel B' X a' w' loc)->∃B',G B'/\Inv B' listed a' w'):=by
 have kB:=qL;unfold GS at kB;simp only[aM0]at kB;have spec:=SQ kB.1;have spE:=oJ qL;obtain⟨ds,owns,hl,nN,hK,wT⟩:=Zz (max N (max (Nv s.slots) (Jc s.own))) _ 0 0 _ h;have qZ:ops.toList.length=ops.size:=by simp
 rw[qZ]at hK;have wD:ds.length=ops.size:=by simpa using hl
 have zat:∀(k:Nat) (z:Oper×DVal),(ops.toList.zip ds)[k]? =some z->ops[k]? =some z.1/\ds[k]? =some z.2:=by
  intro k z hz;rw[List.getElem?_zip_eq_some]at hz;exact⟨by simpa using hz.1,hz.2⟩
 have zat':∀(k:Nat) (o:Oper) (d:DVal),ops[k]? =some o->ds[k]? =some d->(ops.toList.zip ds)[k]? =some (o,d):=by
  intro k o d ho hd;rw[List.getElem?_zip_eq_some];exact⟨by simpa using ho,hd⟩
 have uniq:∀(t k k':Nat) (z z':Oper×DVal),(ops.toList.zip ds)[k]? =some z->z.1.dst=some t->(ops.toList.zip ds)[k']? =some z'->z'.1.dst=some t->k'=k :=
  fun t k k' z z' h1 h2 h3 h4=>spec.one k' k z'.1 z.1 t (zat _ _ h3).1 (zat _ _ h1).1 h4 h2
 -- what the slots bQ behind the operations of S, and behind the first j
 have agree:∀(S:Nat->Bool) (j:Nat) (t:Nat),(∀(k:Nat) (o:Oper),ops[k]? =some o->o.dst=some t->(S k=true↔k<j)) ->
   BL (Fs s.slots S 0 (ops.toList.zip ds)) t=BL (JM s.slots ((ops.toList.zip ds).take j)) t:=by
  intro S j t hS
  by_cases hex:∃(k:Nat) (z:Oper×DVal),(ops.toList.zip ds)[k]? =some z/\z.1.dst=some t
  ·obtain⟨k,z,hz,hd⟩:=hex;have hSk:=hS k z.1 (zat _ _ hz).1 hd
   by_cases hkj:k<j
   ·rw[EJ _ 0 k z hz hd (by rw[bX0];exact hSk.2 hkj) (fun k' z' h1 h2=>uniq t k k' z z' hz hd h1 h2)];rw[MK _ _ k z (by rw[cE0 hkj];exact hz) hd];intro k' z' h1 h2
    have:(ops.toList.zip ds)[k']? =some z':=by
     rw[fH0]at h1
     split at h1
     ·exact h1
     ·simp at h1
    exact uniq t k k' z z' hz hd this h2
   ·rw[Ch _ 0 (fun k' z' h1 h2=>by
     have:=uniq t k k' z z' hz hd h1 h2;subst this;rw[bX0]
     cases hq:S k' with
     | false=>rfl
     | true=>exact absurd (hSk.1 hq) hkj)]
    rw[Ga];intro z' sD h2;obtain⟨k',zO,rfl⟩:=bJ0 sD;have qV:k'<j:=by simp at zO;omega
    have kK:(ops.toList.zip ds)[k']? =some ((ops.toList.zip ds).take j)[k']:=by
     rw[List.getElem_take];exact aD0 _
    have:=uniq t k k' z _ hz hd kK h2;omega
  ·rw[Ch _ 0 (fun k' z' h1 h2=>absurd ⟨k',z',h1,h2⟩ hex),Ga];intro z' sD h2;obtain⟨k',zO,hq⟩:=bJ0 (cK0 sD);exact hex ⟨k',z',by rw[aD0 zO,hq],h2⟩
 -- own objects: no two with one number; what stands between two places
 have hnd:∀j,j<=ops.size->((owns j).map (·.id)).Nodup:=by
  intro j
  induction j with
  | zero=>intro _;rw[nN];exact hnd0
  | succ j ih =>
   intro hj;have qV:j<ops.size:=by omega
   obtain⟨d,_,qD⟩:=wT j ops[j] (by simp[qV])
   rcases qD with ⟨_,_,_,hx⟩ | ⟨_,h5,_⟩
   ·exact Qr_ (s:=⟨_,_⟩) hx (ih (by omega))
   ·rw[h5];exact ih (by omega)
 have still:∀m i,i+m<=ops.size->(∀k o,i<=k->k<i+m->ops[k]? =some o->BQ ow o=false)->owns (i+m)=owns i:=by
  intro m
  induction m with
  | zero=>intro i _ _;rfl
  | succ m ih =>
   intro i hi hk;have qV:i+m<ops.size:=by omega
   obtain⟨d,_,qD⟩:=wT (i+m) ops[i+m] (by simp[qV]);have qK:=hk (i+m) ops[i+m] (by omega) (by omega) (by simp[qV])
   rcases qD with ⟨h1,_⟩ | ⟨_,h5,_⟩
   ·rw[qK]at h1;simp at h1
   ·rw[show i+(m+1)=i+m+1 by omega,h5];exact ih i (by omega) fun k o h1 h2 h3=>hk k o h1 (by omega) h3
 have same:∀i j,i<=ops.size->j<=ops.size->(∀k o,ops[k]? =some o->BQ ow o=true->(k<j↔k<i))->owns j=owns i:=by
  intro i j hi hj hk
  by_cases zJ:i<=j
  ·have:=still (j-i) i (by omega) (fun k o h1 h2 h3=>by
    cases hq:BQ ow o with
    | false=>rfl
    | true=>have:=(hk k o h3 hq).1 (by omega);omega)
   rwa[show i+(j-i)=j by omega]at this
  ·have:=still (i-j) j (by omega) (fun k o h1 h2 h3=>by
    cases hq:BQ ow o with
    | false=>rfl
    | true=>have:=(hk k o h3 hq).2 (by omega);omega)
   rw[show j+(i-j)=i by omega]at this;exact this.symm
 have boxes:∀m i,i+m<=ops.size->(∀k o,i<=k->k<i+m->ops[k]? =some o->BQ ow o=false\/DZ o=true)->∀e,Hw e=true->(e∈owns i↔e∈owns (i+m)):=by
  intro m
  induction m with
  | zero=>intro i _ _ e _;exact Iff.rfl
  | succ m ih =>
   intro i hi hk e he;have qV:i+m<ops.size:=by omega
   rw[ih i (by omega) (fun k o h1 h2 h3=>hk k o h1 (by omega) h3) e he];obtain⟨d,_,qD⟩:=wT (i+m) ops[i+m] (by simp[qV]);have qK:=hk (i+m) ops[i+m] (by omega) (by omega) (by simp[qV])
   rcases qD with ⟨h1,_,h4,hx⟩ | ⟨_,h5,_⟩
   ·rcases qK with h | h
    ·rw[h]at h1;simp at h1
    ·rw[show i+(m+1)=i+m+1 by omega];exact MG_ hx h h4.1 (hnd _ (by omega)) he
   ·rw[show i+(m+1)=i+m+1 by omega,h5]
 have boxesE:∀i j,i<=ops.size->j<=ops.size->(∀k o,ops[k]? =some o->BQ ow o=true->¬(k<j↔k<i)->DZ o=true)->Re ((owns i).filter Hw) (owns j):=by
  intro i j hi hj hk id e hf;obtain⟨h1,h2⟩:=AN hf;rw[cQ0]at h1
  have qO:e∈owns j:=by
   by_cases zJ:i<=j
   ·have:=(boxes (j-i) i (by omega) (fun k o h1 h2 h3=>by
     cases hq:BQ ow o with
     | false=>exact .inl rfl
     | true=>exact .inr (hk k o h3 hq (by omega))) e h1.2).1 h1.1
    rwa[show i+(j-i)=j by omega]at this
   ·have:=(boxes (i-j) j (by omega) (fun k o h1 h2 h3=>by
     cases hq:BQ ow o with
     | false=>exact .inl rfl
     | true=>exact .inr (hk k o h3 hq (by omega))) e h1.2).2
    rw[show j+(i-j)=i by omega]at this;exact this h1.1
  rw[<-h2];exact CP (hnd j hj) qO
 have lens:∀m i,i+m<=ops.size->(∀k o,i<=k->k<i+m->ops[k]? =some o->BQ ow o=false\/Et o=true)->FK (owns i) (owns (i+m))/\FK (owns (i+m)) (owns i):=by
  intro m
  induction m with
  | zero=>intro i _ _;exact⟨FK.refl _,FK.refl _⟩
  | succ m ih =>
   intro i hi hk;have qV:i+m<ops.size:=by omega
   obtain⟨g1,g2⟩:=ih i (by omega) (fun k o h1 h2 h3=>hk k o h1 (by omega) h3);obtain⟨d,_,qD⟩:=wT (i+m) ops[i+m] (by simp[qV]);have qK:=hk (i+m) ops[i+m] (by omega) (by omega) (by simp[qV]);rw[show i+(m+1)=i+m+1 by omega]
   rcases qD with ⟨h1,_,_,hx⟩ | ⟨_,h5,_⟩
   ·rcases qK with h | h
    ·rw[h]at h1;simp at h1
    ·obtain⟨l1,l2⟩:=MF_ hx h;exact⟨g1.trans l1,l2.trans g2⟩
   ·rw[h5];exact⟨g1,g2⟩
 have lensE:∀i j,i<=ops.size->j<=ops.size->(∀k o,ops[k]? =some o->BQ ow o=true->¬(k<j↔k<i)->Et o=true)->FK (owns i) (owns j):=by
  intro i j hi hj hk
  by_cases zJ:i<=j
  ·have:=(lens (j-i) i (by omega) (fun k o h1 h2 h3=>by
    cases hq:BQ ow o with
    | false=>exact .inl rfl
    | true=>exact .inr (hk k o h3 hq (by omega)))).1
   rwa[show i+(j-i)=j by omega]at this
  ·have:=(lens (i-j) j (by omega) (fun k o h1 h2 h3=>by
    cases hq:BQ ow o with
    | false=>exact .inl rfl
    | true=>exact .inr (hk k o h3 hq (by omega)))).2
   rwa[show j+(i-j)=i by omega]at this
 -- what the stores in between do not touch
 have touch:∀k o q,ops[k]? =some o->BQ ow o=true->Et o=true->lR l2 k q=true->∀e,Gz_ l2 q e=false->(e∈owns k↔e∈owns (k+1)):=by
  intro k o q hk he hs hq e hh;obtain⟨d,_,qD⟩:=wT k o (by simpa using hk)
  rcases qD with ⟨_,_,⟨_,htc⟩,hx⟩ | ⟨h1,_⟩
  ·unfold lR at hq;rw[bW0]at hq;obtain⟨c,hc,wU⟩:=hq;simp only[aM0,decide_eq_true_eq,beq_iff_eq]at wU;obtain⟨⟨c1,c2⟩,c3⟩:=wU;unfold UA at htc;have h2:=bA0.1 htc c hc;simp only[dI0,decide_eq_true_eq,bne_iff_ne,ne_eq,beq_iff_eq]at h2
   have h3:Ux (JM s.slots ((ops.toList.zip ds).take k)) o=some (c/1000000-1):=by
    rcases h2 with (h2 | h2) | h2
    ·omega
    ·simp only[bX0]at h2;exact absurd c3 h2
    ·exact h2
   refine EP_ (s:=⟨_,owns k⟩) hx hs h3 fun hid=> ?_
   unfold Gz_ at hh;rw[cZ0]at hh;have h4:=hh c hc;simp only[aM0,decide_eq_true_eq,beq_iff_eq,not_and]at h4;exact h4 ⟨c1,c2⟩ (by omega)
  ·rw[he]at h1;simp at h1
 have others:∀q m i,i+m<=ops.size->(∀k o,i<=k->k<i+m->ops[k]? =some o->BQ ow o=false\/(Et o=true/\lR l2 k q=true))->∀e,Gz_ l2 q e=false->(e∈owns i↔e∈owns (i+m)):=by
  intro q m
  induction m with
  | zero=>intro i _ _ e _;exact Iff.rfl
  | succ m ih =>
   intro i hi hk e he;have qV:i+m<ops.size:=by omega
   rw[ih i (by omega) (fun k o h1 h2 h3=>hk k o h1 (by omega) h3) e he,show i+(m+1)=i+m+1 by omega];have kK:ops[i+m]? =some ops[i+m]:=by simp[qV]
   cases hq:BQ ow ops[i+m]with
   | true =>
    rcases hk (i+m) ops[i+m] (by omega) (by omega) kK with h | h
    ·rw[hq]at h;simp at h
    ·exact touch _ _ q kK hq h.1 h.2 e he
   | false =>
    obtain⟨d,_,qD⟩:=wT (i+m) ops[i+m] (by simp[qV])
    rcases qD with ⟨h1,_⟩ | ⟨_,h5,_⟩
    ·rw[hq]at h1;simp at h1
    ·rw[h5]
 have othersE:∀q i j,i<=ops.size->j<=ops.size->(∀k o,ops[k]? =some o->BQ ow o=true->¬(k<j↔k<i)->(Et o=true/\lR l2 k q=true))->Re ((owns i).filter fun e=> !Gz_ l2 q e) (owns j):=by
  intro q i j hi hj hk id e hf;obtain⟨h1,h2⟩:=AN hf;rw[cQ0]at h1;have hh:Gz_ l2 q e=false:=by simpa using h1.2
  have qO:e∈owns j:=by
   by_cases zJ:i<=j
   ·have:=(others q (j-i) i (by omega) (fun k o h1 h2 h3=>by
     cases hq:BQ ow o with
     | false=>exact .inl rfl
     | true=>exact .inr (hk k o h3 hq (by omega))) e hh).1 h1.1
    rwa[show i+(j-i)=j by omega]at this
   ·have:=(others q (i-j) j (by omega) (fun k o h1 h2 h3=>by
     cases hq:BQ ow o with
     | false=>exact .inl rfl
     | true=>exact .inr (hk k o h3 hq (by omega))) e hh).2
    rw[show j+(i-j)=i by omega]at this;exact this h1.1
  rw[<-h2];exact CP (hnd j hj) qO
 have effs_le:∀i j,i<=j->EX ow (ops.toList.take i)<=EX ow (ops.toList.take j):=by
  intro i j zJ;unfold EX;have:(ops.toList.take i)=(ops.toList.take j).take i:=by rw[fJ0,Nat.min_eq_left zJ]
  rw[this];exact(List.take_sublist _ _).countP_le
 have fin:∀(B:Base) (listed:Array Bool) (p:Nat) (a:Act) (w:World) (loc:Nat->Loc),listed.size=ops.size->HA_ ops (fun k=>listed.getD k false)->p<=ops.size->(∀k o,ops[k]? =some o->BQ ow o=true->(listed.getD k false=true↔k<p))->Rel B ⟨Fs s.slots (fun k=>listed.getD k false) 0 (ops.toList.zip ds),owns p⟩ a w loc ->
   (∀i,i<ops.size->listed.getD i false=true)->∃s' loc,K.f s'/\Rel B s' a w loc:=by
  intro B listed p a w loc qM hc hp dP R bE
  have heq:owns p=owns ops.size:=same _ _ (Nat.le_refl _) hp fun k o h1 h2=>by
   have qV:k<ops.size:=(aH0.1 h1).1;have:=dP k o h1 h2;simp only[bE k qV,true_iff]at this;omega
  rw[heq]at R;refine⟨_,loc,hK,Rel.congr (fun t=> ?_) R⟩
  have:=agree (fun k=>listed.getD k false) (ops.toList.zip ds).length t (fun k o ho hd=>by
   have qV:k<ops.size:=(aH0.1 ho).1
   simp only[bE k qV,true_iff,List.length_zip,bU0,wD,Nat.min_self];exact qV)
  rw[this,aN0]
 have nready:∀(listed:Array Bool),Region.ready .any ops listed=[]->listed.size=ops.size->∀i,i<ops.size->listed.getD i false=true:=by
  intro listed hr qM i
  induction i using Nat.strongRecOn with
  | _ i ih =>
   intro hi
   cases hq:listed.getD i false with
   | true=>rfl
   | false =>
    exfalso;have kK:ops[i]? =some ops[i]:=cJ0 hi
    have:i∈Region.ready .any ops listed:=by
     rw[mem_ready];refine⟨?_,ops[i],kK,fun e he hb=> ?_⟩
     ·have kI:i<listed.size:=by omega
      simp only[aW0,cJ0 kI,cC0]at hq |-;exact hq
     ·have:=spec.acy i _ kK e he hb;exact ih e.on this (by omega)
    rw[hr]at this;simp at this
 refine⟨fun B listed a w=>listed.size=ops.size/\HA_ ops (fun k=>listed.getD k false)/\∃p loc,p<=ops.size/\(∀k o,ops[k]? =some o->BQ ow o=true->(listed.getD k false=true↔k<p)) /\
   (∀k d,ds[k]? =some d->listed.getD k false=true->mx d<=max N (max (Nv s.slots) (Jc s.own))+EX ow (ops.toList.take p))/\Jc (owns p)<=max N (max (Nv s.slots) (Jc s.own))+EX ow (ops.toList.take p) /\
   Rel B ⟨Fs s.slots (fun k=>listed.getD k false) 0 (ops.toList.zip ds),owns p⟩ a w loc,?_,?_,?_,?_⟩
 ·intro B hBt hBN a w loc R;subst hBt hBN
  have fN:∀k,(Array.replicate ops.size false).getD k false=false:=by
   intro k;simp[aW0,eU0]
   split<;>simp
  refine⟨by simp,?_,0,loc,by omega,fun k o hk he=>by rw[fN];simp,fun k d hk hS=>by rw[fN]at hS;simp at hS,by rw[nN];omega,?_⟩
  ·intro k o hk hS;simp[aW0,eU0]at hS
   split at hS<;>simp at hS
  ·have R':=R.put (dst:=none) (v:=Go.undef) (d:= .any) (fun i hi=>by simp at hi) (Upd.drew [] w) (by simp[rd]);rw[nN];refine Rel.congr (fun t=> ?_) R'
   exact Ch _ 0 (fun k z hz hd=>by
    simp[aW0,eU0]
    split<;>simp)
 ·rintro B listed a w ⟨qM,hc,p,loc,hp,dP,hbd,rO,R⟩;exact⟨qM,fun hr=>nready listed hr qM,fin B listed p a w loc qM hc hp dP R⟩
 ·rintro B listed a w i C Qx hBt hBN ⟨qM,hc,p,loc,hp,dP,hbd,rO,R⟩ hi hC;subst hBt hBN;rw[mem_ready]at hi;obtain⟨h0,o,ho,wK⟩:=hi;have qV:i<ops.size:=(aH0.1 ho).1;have kI:i<listed.size:=by omega
  have hSi:listed.getD i false=false:=by
   simp only[aW0,cJ0 kI,cC0]at h0 |-;exact h0
  obtain⟨d,hd,qD⟩:=wT i o (by simpa using ho);simp only[bX0,cT0]at qD
  -- what stands ahead is done; what waits is not
  have anc:∀k,((EU ops.toList []).getD i 0).testBit k=true->listed.getD k false=true:=by
   intro k h2;rw[Vw]at h2;simp only[List.length_nil,eV0,if_false,eT0]at h2;have bV:ops.toList[i]? =some o:=by simpa using ho
   rw[bV]at h2;obtain⟨e,he,hb,h3⟩:=Vx _ _ _ h2;have hon:=wK e (by simpa using he) hb
   rcases h3 with rfl | h3
   ·exact hon
   ·refine WM hc e.on hon k ?_;have wQ:=spec.acy i o ho e (by simpa using he) hb
    have:((EU ops.toList []).take i).getD e.on 0=(EU ops.toList []).getD e.on 0:=by
     simp[aZ0,cE0 wQ]
    rwa[this]at h3
  have des:∀k,((EU ops.toList []).getD k 0).testBit i=true->listed.getD k false=false:=by
   intro k h2
   cases hq:listed.getD k false with
   | false=>rfl
   | true =>
    have:=WM hc k hq i h2;rw[hSi]at this;simp at this
  -- the slots that the operation looks at
  have look:∀t∈o.looksAt ops,BL (Fs s.slots (fun k=>listed.getD k false) 0 (ops.toList.zip ds)) t=BL (JM s.slots ((ops.toList.zip ds).take i)) t:=by
   intro t ht;refine agree _ i t fun k o' hk mU=> ?_
   rcases spec.ord i o t ho ht k o' hk mU with ⟨h1,h2⟩ | ⟨h1,h2⟩
   ·exact⟨fun _=>h1,fun _=>anc k h2⟩
   ·refine⟨fun zO=> ?_,fun zO=>by omega⟩;rw[des k h2]at zO;simp at zO
  have hS':(fun k=>(listed.setIfInBounds i true).getD k false)=fun k=>if k=i then true else listed.getD k false:=by
   funext k
   by_cases hk:k=i
   ·subst hk;simp[kI]
   ·rw[if_neg hk,getD_set_ne false (Ne.symm hk)]
  have hS'':∀k,(listed.setIfInBounds i true).getD k false=if k=i then true else listed.getD k false:=fun k=>congrFun hS' k
  have cO:Nv (Fs s.slots (fun k=>listed.getD k false) 0 (ops.toList.zip ds))<=CL B s+EX ow (ops.toList.take p):=by
   refine Az_ (by unfold CL;omega) _ _ fun k z hz hS=> ?_
   rw[bX0]at hS;exact hbd k z.2 (zat _ _ hz).2 hS
  have fX:∀x∈o.op.operands,ev (Fs s.slots (fun k=>listed.getD k false) 0 (ops.toList.zip ds)) x=ev (JM s.slots ((ops.toList.zip ds).take i)) x:=by
   intro x hx;refine Pu_ fun t hxt=>look t ?_
   subst hxt;exact aS0 _ (List.mem_filterMap.2 ⟨.tmp t,by simpa using hx,rfl⟩)
  have hg:∀j want,o.guard=some (j,want)->Ci ops ⟨Fs s.slots (fun k=>listed.getD k false) 0 (ops.toList.zip ds),owns p⟩ j=Ci ops ⟨JM s.slots ((ops.toList.zip ds).take i),NT l1 l2 i (owns i)⟩ j:=by
   intro j want kL;unfold Ci
   cases ht:(ops[j]?).bind (·.dst)with
   | none=>rfl
   | some t =>
    refine look t (aV0 _ ?_);rw[kL];simp[ht]
  -- the next set
  have next:∀(p':Nat) (a':Act) (w':World) (loc:Nat->Loc),p'<=ops.size->(∀k o,ops[k]? =some o->BQ ow o=true->((listed.setIfInBounds i true).getD k false=true↔k<p'))->EX ow (ops.toList.take p)<=EX ow (ops.toList.take p')->mx d<=CL B s+EX ow (ops.toList.take p')->Jc (owns p')<=CL B s+EX ow (ops.toList.take p') ->
    Rel B ⟨Ce (Fs s.slots (fun k=>listed.getD k false) 0 (ops.toList.zip ds)) o.dst d,owns p'⟩ a' w' loc->C a' w':=by
   intro p' a' w' loc qI nU vS bT hmo R';refine hC a' w' ⟨by simpa using qM,?_,p',loc,qI,nU,?_,hmo,?_⟩
   ·rw[hS'];intro k o' hk hS e he hb
    by_cases fQ:k=i
    ·subst fQ;rw[ho]at hk;simp only[aA0]at hk;subst hk;have:=wK e he hb;simp only[this];split<;>rfl
    ·simp only[if_neg fQ]at hS;have:=hc k o' hk hS e he hb;simp only[this];split<;>rfl
   ·intro k d' hk hS;rw[hS'']at hS
    by_cases fQ:k=i
    ·subst fQ;rw[hd]at hk;simp only[aA0]at hk;subst hk;exact bT
    ·rw[if_neg fQ]at hS;have:=hbd k d' hk hS;omega
   ·rw[hS'];refine Rel.congr (fun t=> ?_) R';rw[Ia]
    by_cases gC:o.dst=some t
    ·rw[if_pos gC];exact EJ _ 0 i (o,d) (zat' i o d ho hd) gC (by simp) (fun k' z' h1 h2=>uniq t i k' (o,d) z' (zat' i o d ho hd) gC h1 h2)
    ·rw[if_neg gC];have e1:=fun S j hS=>agree S j t hS
     by_cases hex:∃(k:Nat) (z:Oper×DVal),(ops.toList.zip ds)[k]? =some z/\z.1.dst=some t
     ·obtain⟨k,z,hz,mU⟩:=hex
      have fQ:k≠i:=by
       intro fQ;subst fQ;have:=(zat _ _ hz).1;rw[ho]at this;simp only[aA0]at this;exact gC (by rw[this];exact mU)
      cases hSk:listed.getD k false with
      | true =>
       rw[EJ _ 0 k z hz mU (by rw[bX0];simp[fQ,hSk]) (fun k' z' h1 h2=>uniq t k k' z z' hz mU h1 h2)];rw[EJ _ 0 k z hz mU (by rw[bX0];exact hSk) (fun k' z' h1 h2=>uniq t k k' z z' hz mU h1 h2)]
      | false =>
       rw[Ch _ 0 (fun k' z' h1 h2=>by
        have:=uniq t k k' z z' hz mU h1 h2;subst this
        rw[bX0];simp[fQ,hSk])]
       rw[Ch _ 0 (fun k' z' h1 h2=>by
        have:=uniq t k k' z z' hz mU h1 h2;subst this
        rw[bX0];exact hSk)]
     ·rw[Ch _ 0 (fun k' z' h1 h2=>absurd ⟨k',z',h1,h2⟩ hex),Ch _ 0 (fun k' z' h1 h2=>absurd ⟨k',z',h1,h2⟩ hex)]
  -- the operation itself
  rcases qD with ⟨bZ,wY,pD,hx⟩ | ⟨hneu,dR,kB⟩
  ·have gT:∀k o',ops[k]? =some o'->BQ ow o'=true->(k<p↔k<i):=by
    intro k o' hk he;rw[<-dP k o' hk he]
    rcases spE.two k i o' o hk ho he with h | ⟨h1,h2⟩ | ⟨h1,h2⟩ | ⟨h1,_⟩
    ·subst h;rw[hSi];simp
    ·exact⟨fun _=>h1,fun _=>anc k h2⟩
    ·rw[des k h2];simp;omega
    ·rw[bZ]at h1;simp at h1
   have heq:owns p=owns i:=same i p (by omega) hp gT
   have dA:EX ow (ops.toList.take p)=EX ow (ops.toList.take i):=by
    have key:∀m q,q+m<=ops.size->(∀k o',q<=k->k<q+m->ops[k]? =some o'->BQ ow o'=false)->EX ow (ops.toList.take (q+m))=EX ow (ops.toList.take q):=by
     intro m
     induction m with
     | zero=>intro q _ _;rfl
     | succ m ihm =>
      intro q hq hk;have wQ:q+m<ops.size:=by omega
      rw[show q+(m+1)=q+m+1 by omega,bD0];have hg:ops.toList[q+m]? =some ops[q+m]:=by simp[wQ]
      have qK:=hk (q+m) ops[q+m] (by omega) (by omega) (by simp[wQ]);have:=ihm q (by omega) fun k o' h1 h2 h3=>hk k o' h1 (by omega) h3
      unfold EX at this |-;rw[hg,List.countP_append,this];simp[fR0,qK]
    by_cases hpi:p<=i
    ·have:=key (i-p) p (by omega) (fun k o' h1 h2 h3=>by
      cases hq:BQ ow o' with
      | false=>rfl
      | true=>have:=(gT k o' h3 hq).2 (by omega);omega)
     rw[show p+(i-p)=i by omega]at this;exact this.symm
    ·have:=key (p-i) i (by omega) (fun k o' h1 h2 h3=>by
      cases hq:BQ ow o' with
      | false=>rfl
      | true=>have:=(gT k o' h3 hq).1 (by omega);omega)
     rwa[show i+(p-i)=p by omega]at this
   have hinc:EX ow (ops.toList.take (i+1))=EX ow (ops.toList.take i)+1:=by
    have hg:ops.toList[i]? =some o:=by simpa using ho
    rw[bD0,hg];unfold EX;rw[List.countP_append];simp[fR0,bZ]
   have qU:Gh P ops o ⟨Fs s.slots (fun k=>listed.getD k false) 0 (ops.toList.zip ds),owns p⟩ d (owns (i+1)) (CL B s+EX ow (ops.toList.take i)):=by
    refine EQ_ (s:=⟨JM s.slots ((ops.toList.zip ds).take i),owns i⟩) heq.symm (fun x hx=>(fX x hx).symm) (fun j want kL=>(hg j want kL).symm) ?_;simpa[CL]using hx
   have qS:CL B ⟨Fs s.slots (fun k=>listed.getD k false) 0 (ops.toList.zip ds),owns p⟩<=CL B s+EX ow (ops.toList.take i):=by
    rw[<-dA];have h0:B.N<=CL B s:=by unfold CL;omega
    unfold CL;simp only;have h1:=cO;have h2:=rO;have h3:CL B s+EX ow (ops.toList.take p)=max B.N (max (Nv s.slots) (Jc s.own))+EX ow (ops.toList.take p):=rfl;have h4:CL B s=max B.N (max (Nv s.slots) (Jc s.own)):=rfl;omega
   have hmxx:=Qs_ (n:=CL B s+EX ow (ops.toList.take i)) bZ qU (by rw[<-dA];exact rO) (by rw[<-dA];exact cO) (Nat.le_refl _)
   have nx:∀(a':Act) (w':World) (loc':Nat->Loc),Rel B ⟨Ce (Fs s.slots (fun k=>listed.getD k false) 0 (ops.toList.zip ds)) o.dst d,owns (i+1)⟩ a' w' loc'->C a' w':=by
    intro a' w' loc' R';refine next (i+1) a' w' loc' (by omega) ?_ (by rw[dA,hinc];omega) (by rw[hinc];have:=hmxx.1;omega) (by rw[hinc];have:=hmxx.2;omega) R'
    intro k o' hk he;rw[hS'']
    by_cases fQ:k=i
    ·rw[if_pos fQ];simp;omega
    ·rw[if_neg fQ,dP k o' hk he,gT k o' hk he];omega
   unfold wpOpIn;rw[ho];simp only;unfold Gh at qU
   cases kL:o.guard with
   | none =>
    rw[kL]at qU;have hw:Region.wanted o (yielded ops a.tmps)=true:=by simp[Region.wanted,kL]
    rw[if_pos hw];exact BA_ (R:=R) qS wY (fun x _=>R.ev x) (fun x _=>SL _ x) qU nx
   | some jw =>
    obtain⟨j,want⟩:=jw;rw[kL]at qU;simp only at qU;obtain⟨g1,g2,g3⟩:=qU;have yY:=VW (want:=want) R g1;have hw:Region.wanted o (yielded ops a.tmps)=gB (Ci ops ⟨Fs s.slots (fun k=>listed.getD k false) 0 (ops.toList.zip ds),owns p⟩ j) want:=by simp only[Region.wanted,kL];exact yY
    rw[hw]
    rcases g3 with ⟨hb,d0,rfl,qU⟩ | ⟨hb,rfl,hown'⟩
    ·rw[hb]at g2 |-;rw[if_pos rfl];have fO:=TM (Wp bZ g2)
     exact BA_ (R:=R) qS wY (fun x hx=>Rs (fun x=>R.ev x) _ (Wp bZ g2) x (by simpa using hx)) (fun x hx=>by
      unfold Bt;rw[UF (fO x (by simpa using hx))]
      exact SL _ x) qU fun a' w' loc' R'=>nx a' w' loc' R'.selTrue
    ·rw[hb];rw[if_neg (by simp)];refine⟨fun _ _=>trivial,nx _ _ loc ?_⟩;rw[hown'];exact R.put (OX wY) (Upd.refl _ _) (by simp[rd])
  have hext:Re (NT l1 l2 i (owns i)) (owns p)\/(Gw_ o=true/\FK (NT l1 l2 i (owns i)) (owns p)):=by
   unfold NT
   split
   ·exact .inl fun id e hf=>by simp[Ax]at hf
   ·rename_i jV;have jV:l2.contains i=false:=by simpa using jV
    have gT:∀k o',ops[k]? =some o'->BQ ow o'=true->¬(k<p↔k<i)->(l1.contains i=true/\DZ o'=true)\/((l1.contains i=false/\Gw_ o=true)/\Et o'=true)\/((l1.contains i=false/\Et o'=true)/\lR l2 k i=true):=by
     intro k o' hk he qK;rw[<-dP k o' hk he]at qK
     rcases spE.two k i o' o hk ho he with h | ⟨h1,h2⟩ | ⟨h1,h2⟩ | ⟨h1,h2⟩
     ·subst h;rw[hSi]at qK;simp at qK
     ·exact absurd ⟨fun _=>h1,fun _=>anc k h2⟩ qK
     ·rw[des k h2]at qK;simp at qK;omega
     ·rcases h2 with ((h2 | h2) | h2) | h2
      ·rw[jV]at h2;simp at h2
      ·exact .inl h2
      ·exact .inr (.inl h2)
      ·exact .inr (.inr h2)
    split
    ·rename_i zP;refine .inl (boxesE i p (by omega) hp fun k o' hk he qK=> ?_)
     rcases gT k o' hk he qK with h | h | h
     ·exact h.2
     ·rw[zP]at h;simp at h
     ·rw[zP]at h;simp at h
    ·rename_i zP;have zP:l1.contains i=false:=by simpa using zP
     cases hix:Gw_ o with
     | false =>
      refine .inl ?_
      have tA:∀k o',ops[k]? =some o'->BQ ow o'=true->¬(k<p↔k<i)->Et o'=true/\lR l2 k i=true:=by
       intro k o' hk he hq
       rcases gT k o' hk he hq with h | h | h
       ·rw[zP]at h;simp at h
       ·rw[hix]at h;simp at h
       ·exact⟨h.1.2,h.2⟩
      split
      ·rename_i hemp;have wS:l2=[]:=by simpa using hemp
       rw[same i p (by omega) hp fun k o' hk he=>by
        by_cases hq:(k<p↔k<i)
        ·exact hq
        ·have:=(tA k o' hk he hq).2;rw[wS]at this
         simp[lR]at this]
       exact fun _ _ h=>h
      ·exact othersE i i p (by omega) hp tA
     | true =>
      have vS:FK (owns i) (owns p):=lensE i p (by omega) hp fun k o' hk he qK=>by
       rcases gT k o' hk he qK with h | h | h
       ·rw[zP]at h;simp at h
       ·exact h.2
       ·exact h.1.2
      refine .inr ⟨rfl,?_⟩
      split
      ·exact vS
      ·exact vS.filt (hnd i (by omega))
  have nU:∀k o',ops[k]? =some o'->BQ ow o'=true->((listed.setIfInBounds i true).getD k false=true↔k<p):=by
   intro k o' hk he;rw[hS'']
   by_cases fQ:k=i
   ·subst fQ;rw[ho]at hk;simp only[aA0]at hk;subst hk;rw[hneu]at he;simp at he
   ·rw[if_neg fQ];exact dP k o' hk he
  have evmx:∀x:Operand,mx (ev (Fs s.slots (fun k=>listed.getD k false) 0 (ops.toList.zip ds)) x)<=CL B s+EX ow (ops.toList.take p):=fun x=>Nat.le_trans (SL _ x) cO
  have run:∀(e:Operand->DVal) (d':DVal),(∀x∈o.op.operands,BJ ⟨Fs s.slots (fun k=>listed.getD k false) 0 (ops.toList.zip ds),owns p⟩ loc B.M0 w (e x) (a.eval x)) ->
    (∀(w':World) (v:Value),rd (Aj (owns p) loc) (Ad (owns p) loc++B.M0) w'.heap d' v->rd (Aj (owns p) loc) (Ad (owns p) loc++B.M0) w'.heap d v)->mx d<=CL B s+EX ow (ops.toList.take p)->HG P o (owns p) e d'->o.wpIn (wd B.ro) 0 P a w C Qx:=by
   rintro e d' he fA bT (⟨c,g,args,vG,fG,vQ⟩ | ⟨vQ,hq⟩)
   ·exact IJ_ (d':=d) (K:=fun s'=>s'=⟨Ce (Fs s.slots (fun k=>listed.getD k false) 0 (ops.toList.zip ds)) o.dst d,owns p⟩) R kB.1 vG he fG vQ (fun _=>rfl) fA (fun s' a' w' loc' zM R'=>by
     subst zM
     exact next p a' w' loc' hp nU (Nat.le_refl _) bT rO R')
   ·exact Ok_ (d:=d) (K:=fun s'=>s'=⟨Ce (Fs s.slots (fun k=>listed.getD k false) 0 (ops.toList.zip ds)) o.dst d,owns p⟩) R kB.1 he vQ rfl (fun w' v h=>fA w' v (by rw[hq];exact h)) (fun s' a' w' loc' zM R'=>by
     subst zM
     exact next p a' w' loc' hp nU (Nat.le_refl _) bT rO R')
  unfold wpOpIn;rw[ho];simp only;obtain⟨wY,bJ⟩:=kB;have kB:CX B.nt o.dst=true/\True:=⟨wY,trivial⟩
  cases kL:o.guard with
  | none =>
   have hw:Region.wanted o (yielded ops a.tmps)=true:=by simp[Region.wanted,kL]
   rw[if_pos hw];rw[kL]at bJ;have h1:=HG.ext2 bJ hext (fun x hx=>(fX x hx).symm);exact(run _ d (fun x _=>R.ev x) (fun _ _ h=>h) (h1.mx rO fun x _=>evmx x) h1)
  | some jw =>
   obtain⟨j,want⟩:=jw;rw[kL]at bJ;simp only at bJ;obtain⟨g1,g2,d',rfl,g3⟩:=bJ;rw[<-hg j want kL]at g1 g2 g3 next run
   have yY:=VW (want:=want) R g1;have hw:Region.wanted o (yielded ops a.tmps)=gB (Ci ops ⟨Fs s.slots (fun k=>listed.getD k false) 0 (ops.toList.zip ds),owns p⟩ j) want:=by simp only[Region.wanted,kL];exact yY
   rw[hw];have nG:=Vo (fun x hx=>(fX x hx).symm) g2
   have hstrip:∀x∈o.op.operands,Bt (JM s.slots ((ops.toList.zip ds).take i)) x=Bt (Fs s.slots (fun k=>listed.getD k false) 0 (ops.toList.zip ds)) x:=by
    intro x hx;unfold Bt;rw[fX x hx]
   split
   ·rename_i hb;rw[hb]at nG;have h1:=HG.ext2 (g3 hb) hext hstrip
    have fA:∀(w':World) (v:Value),rd (Aj (owns p) loc) (Ad (owns p) loc++B.M0) w'.heap d' v->rd (Aj (owns p) loc) (Ad (owns p) loc++B.M0) w'.heap (.sel (gB (Ci ops ⟨Fs s.slots (fun k=>listed.getD k false) 0 (ops.toList.zip ds),owns p⟩ j) want) d') v:=by
     intro w' v h;rw[hb];simp only[rd];exact⟨fun _=>h,fun h'=>by simp at h'⟩
    rcases h1 with ⟨c,g,args,vG,fG,vQ⟩ | ⟨vQ,hq⟩
    ·refine(run (Bt (Fs s.slots (fun k=>listed.getD k false) 0 (ops.toList.zip ds))) d' ?_ fA (by rw[hb];simp[mx,vQ.2.1]) (.inl ⟨c,g,args,vG,fG,vQ⟩));rw[vG]at nG |-;exact fun x hx=>Rs (fun x=>R.ev x) _ nG x (by simpa using hx)
    ·obtain⟨e',q1,q2,q3⟩:=Ie_ (fun x=>R.ev x) nG vQ;exact(run e' (Ck P (owns p) e' o.op) q1 (fun w' v h=>fA w' v (by rw[hq];exact q3 _ _ _ _ h)) (by rw[hb,hq];simpa[mx,CL]using QW_ nG vQ rO (fun x _=>evmx x)) (.inr ⟨q2,rfl⟩))
   ·rename_i hb;refine⟨fun _ _=>trivial,?_⟩;refine next p _ _ loc hp nU (Nat.le_refl _) (by rw[show gB (Ci ops ⟨Fs s.slots (fun k=>listed.getD k false) 0 (ops.toList.zip ds),owns p⟩ j) want=false by simpa using hb];simp[mx]) rO ?_
    have qG:gB (Ci ops ⟨Fs s.slots (fun k=>listed.getD k false) 0 (ops.toList.zip ds),owns p⟩ j) want=false:=by simpa using hb
    rw[qG];exact R.put (OX wY) (Upd.refl _ _) (by simp[rd])
 ·rintro B G listed a w a' w' t ⟨qM,hc,p,loc,hp,dP,hbd,rO,R⟩ ht hT
  have hgs:=Ch (l:=s.slots) (S:=fun k=>listed.getD k false) (t:=t) (ops.toList.zip ds) 0 (fun k z hz hd=>by
   have h1:=(zat _ _ hz).1
   exact absurd hd (ht z.1 (by simpa using Array.mem_of_getElem? h1)))
  obtain⟨B',hG,R'⟩:=hT _ loc hgs R;exact⟨B',hG,qM,hc,p,loc,hp,dP,hbd,rO,R'⟩
theorem TB (ow l1 l2:List Nat) {id:Nat} {ops:Array Oper} {Q:Exit->DS->Prop} (hm:P.follows .mixedOrders=true) (qL:GS ow l1 l2 ops=true) (h:Dw P B.nt ow l1 l2 ops ops.toList 0 ⟨Q .normal⟩ s):DW P B (.region id ops true) Q s:=by
 intro a w loc R;refine wpIn_region_any hm ?_;obtain⟨Inv,h1,h2,h3,_⟩:=US (N:=B.N) ow l1 l2 qL R.st.nd h
 have main:∀(fuel:Nat) (listed:Array Bool) (a:Act) (w:World),(List.range ops.size).countP (fun k=>listed.getD k false)+fuel=ops.size->Inv B listed a w->wpAnyIn (wd B.ro) 0 P .any ops (QQ B Q) fuel listed a w:=by
  intro fuel
  induction fuel with
  | zero =>
   intro listed a w pN hI;obtain⟨qM,h5,h6⟩:=h2 _ _ _ _ hI
   have bE:∀i,i<ops.size->listed.getD i false=true:=by
    intro i hi;have:=(List.countP_eq_length (p:=fun k=>listed.getD k false) (l:=List.range ops.size)).1 (by simpa using pN) i (cP0.2 hi);simpa using this
   refine⟨?_,h6 bE⟩;rw[List.eq_nil_iff_forall_not_mem];intro i hi;rw[mem_ready]at hi;obtain⟨h0,o,ho,_⟩:=hi;have qV:i<ops.size:=(aH0.1 ho).1;have h1:=bE i qV;have kI:i<listed.size:=by omega
   simp only[aW0,cJ0 kI,cC0]at h0 h1;rw[h0]at h1;simp at h1
  | succ fuel ih =>
   intro listed a w pN hI;obtain⟨qM,h5,h6⟩:=h2 _ _ _ _ hI;refine⟨fun hr=>h6 (h5 hr),fun i hi=>h3 B listed a w i _ _ rfl rfl hI hi fun a' w' hI'=>ih _ a' w' ?_ hI'⟩;rw[mem_ready]at hi;obtain⟨h0,o,ho,wK⟩:=hi;have qV:i<ops.size:=(aH0.1 ho).1;have kI:i<listed.size:=by omega
   have hSi:listed.getD i false=false:=by
    simp only[aW0,cJ0 kI,cC0]at h0 |-;exact h0
   have hS':(fun k=>(listed.setIfInBounds i true).getD k false)=fun k=>if k=i then true else listed.getD k false:=by
    funext k
    by_cases hk:k=i
    ·subst hk;simp[kI]
    ·rw[if_neg hk,getD_set_ne false (Ne.symm hk)]
   rw[hS',oO _ i hSi _ qV];omega
 refine main ops.size _ a _ ?_ (h1 B rfl rfl a w loc R)
 have:(List.range ops.size).countP (fun k=>(Array.replicate ops.size false).getD k false)=0:=by
  rw[List.countP_eq_zero];intro k _;simp[aW0,eU0]
  split<;>simp
 omega
theorem Tz (ow l1 l2:List Nat) {id:Nat} {ops:Array Oper} {Q:Exit->DS->Prop} (h:Dw P B.nt ow l1 l2 ops ops.toList 0 ⟨Q .normal⟩ s):DW P B (.region id ops false) Q s:=by
 intro a w loc R;refine wpIn_region ?_;rw[List.range_eq_range']
 have ext:∀k (own:List Ent),(own.map (·.id)).Nodup->Re (NT l1 l2 k own) own:=by
  intro k own nd;unfold NT
  split
  ·intro id e hf;simp[Ax]at hf
  ·split
   ·intro id e hf;obtain⟨h1,h2⟩:=AN hf;rw[<-h2];exact CP nd (cQ0.1 h1).1
   ·split
    ·exact fun _ _ h=>h
    ·intro id e hf;obtain⟨h1,h2⟩:=AN hf;rw[<-h2];exact CP nd (cQ0.1 h1).1
 have key:∀(m i:Nat) (s:DS) (a:Act) (w:World) (loc:Nat->Loc),Rel B s a w loc->i+m=ops.size->Dw P B.nt ow l1 l2 ops (ops.toList.drop i) i ⟨Q .normal⟩ s->wpOpsIn (wd B.ro) 0 P ops (QQ B Q) (List.range' i m) a w:=by
  intro m
  induction m with
  | zero =>
   intro i s a w loc R hi h;rw[cU0 (by simp;omega)]at h;simp only[List.range'_zero,wpOpsIn];exact⟨s,loc,h,R⟩
  | succ m ih =>
   intro i s a w loc R hi h;have qV:i<ops.size:=by omega
   have hdr:ops.toList.drop i=ops[i]::ops.toList.drop (i+1):=by
    rw[aP0 (by simpa using qV)];simp
   rw[hdr]at h;simp only[List.range'_succ,wpOpsIn,cJ0 qV];have ih':=fun s' a' w' loc' (hk:Dw P B.nt ow l1 l2 ops (ops.toList.drop (i+1)) (i+1) ⟨Q .normal⟩ s') (R':Rel B s' a' w' loc')=>ih (i+1) s' a' w' loc' R' (by omega) hk
   -- one neutral operation
   have neu:∀(e:Operand->DVal) (d d':DVal),(∀x∈ops[i].op.operands,BJ s loc B.M0 w (e x) (a.eval x))->(∀(w':World) (v:Value),rd (Aj s.own loc) (Ad s.own loc++B.M0) w'.heap d' v->rd (Aj s.own loc) (Ad s.own loc++B.M0) w'.heap d v) ->
     CX B.nt ops[i].dst=true->HG P ops[i] (NT l1 l2 i s.own) e d'->Dw P B.nt ow l1 l2 ops (ops.toList.drop (i+1)) (i+1) ⟨Q .normal⟩ ⟨Ce s.slots ops[i].dst d,s.own⟩->ops[i].wpIn (wd B.ro) 0 P a w (wpOpsIn (wd B.ro) 0 P ops (QQ B Q) (List.range' (i+1) m)) (QQ B Q):=by
    intro e d d' he fA hd h1 hk
    rcases h1.ext (ext i s.own R.st.nd) (fun x _=>rfl)with ⟨c,g,args,vG,fG,vQ⟩ | ⟨vQ,hq⟩
    ·exact IJ_ (d':=d) (K:=fun s'=>s'=⟨Ce s.slots ops[i].dst d,s.own⟩) R hd vG he fG vQ (fun _=>rfl) fA (fun s' a' w' loc' zM R'=>by subst zM;exact ih' _ a' w' loc' hk R')
    ·exact Ok_ (d:=d) (K:=fun s'=>s'=⟨Ce s.slots ops[i].dst d,s.own⟩) R hd he vQ rfl (fun w' v h=>fA w' v (by rw[hq];exact h)) (fun s' a' w' loc' zM R'=>by subst zM;exact ih' _ a' w' loc' hk R')
   simp only[Dw]at h
   split at h
   ·rename_i hg;have hw:Region.wanted ops[i] (yielded ops a.tmps)=true:=by simp[Region.wanted,hg]
    rw[if_pos hw]
    split at h
    ·obtain⟨hd,_,h⟩:=h;obtain⟨d,own',h1,h2⟩:=MU h (CL B s);exact BA_ (R:=R) (Nat.le_refl _) hd (fun x _=>R.ev x) (fun x _=>SL _ x) h1 fun a' w' loc' R'=>ih' _ a' w' loc' h2 R'
    ·obtain⟨hd,h⟩:=h
     split at h
     ·rename_i c vG
      split at h
      ·rename_i g args hc;obtain⟨d,h1,h2⟩:=Sb h;exact neu _ d d (fun x _=>R.ev x) (fun _ _ h=>h) hd (.inl ⟨c,g,args,vG,hc,h1⟩) h2
      ·exact neu _ _ _ (fun x _=>R.ev x) (fun _ _ h=>h) hd (.inr ⟨h.1,rfl⟩) h.2
     ·exact neu _ _ _ (fun x _=>R.ev x) (fun _ _ h=>h) hd (.inr ⟨h.1,rfl⟩) h.2
   ·rename_i j want hg;obtain⟨yY,h⟩:=h;have hgo':=VW (want:=want) R yY;have hw:Region.wanted ops[i] (yielded ops a.tmps)=gB (Ci ops s j) want:=by simp only[Region.wanted,hg];exact hgo'
    rw[hw]
    split at h
    ·rename_i bZ;obtain⟨hd,_,qL,h⟩:=h
     cases hb:gB (Ci ops s j) want with
     | true =>
      rw[if_pos rfl];rw[hb]at h qL;obtain⟨d0,own',h1,h2⟩:=MU (K:=oI _) h (CL B s);have fO:=TM (Wp bZ qL)
      exact BA_ (R:=R) (Nat.le_refl _) hd (fun x hx=>Rs (fun x=>R.ev x) _ (Wp bZ qL) x (by simpa using hx)) (fun x hx=>by
       unfold Bt;rw[UF (fO x (by simpa using hx))]
       exact SL _ x) h1 fun a' w' loc' R'=>ih' _ a' w' loc' h2 R'.selTrue
     | false =>
      rw[if_neg (by simp)];rw[hb]at h;exact⟨fun _ _=>trivial,ih' _ _ _ loc h (R.put (OX hd) (Upd.refl _ _) (by simp[rd]))⟩
    obtain⟨hd,qL,h⟩:=h
    have mk:∀d',(gB (Ci ops s j) want=true->HG P ops[i] (NT l1 l2 i s.own) (Bt s.slots) d')->Dw P B.nt ow l1 l2 ops (ops.toList.drop (i+1)) (i+1) ⟨Q .normal⟩ ⟨Ce s.slots ops[i].dst (.sel (gB (Ci ops s j) want) d'),s.own⟩ ->
      if gB (Ci ops s j) want=true then ops[i].wpIn (wd B.ro) 0 P a w (wpOpsIn (wd B.ro) 0 P ops (QQ B Q) (List.range' (i+1) m)) (QQ B Q)else (∀f,ops[i].about P w a.eval=some f->(wd B.ro).fn f)/\wpOpsIn (wd B.ro) 0 P ops (QQ B Q) (List.range' (i+1) m) (a.put ops[i].dst Go.undef) w:=by
     intro d' h1 hk
     cases hb:gB (Ci ops s j) want with
     | true =>
      rw[if_pos rfl];rw[hb]at qL h1 hk
      have fA:∀(w':World) (d'':DVal) (v:Value),rd (Aj s.own loc) (Ad s.own loc++B.M0) w'.heap d'' v->rd (Aj s.own loc) (Ad s.own loc++B.M0) w'.heap (.sel true d'') v:=by
       intro w' d'' v h;simp only[rd];exact⟨fun _=>h,fun h'=>by simp at h'⟩
      rcases h1 rfl with ⟨c,g,args,vG,fG,vQ⟩ | ⟨vQ,hq⟩
      ·refine neu (Bt s.slots) (.sel true d') d' ?_ (fun w' v h=>fA w' _ v h) hd (.inl ⟨c,g,args,vG,fG,vQ⟩) hk;rw[vG]at qL |-;exact fun x hx=>Rs (fun x=>R.ev x) _ qL x (by simpa using hx)
      ·obtain⟨e',q1,q2,q3⟩:=Ie_ (fun x=>R.ev x) qL vQ;exact neu e' (.sel true d') (Ck P (NT l1 l2 i s.own) e' ops[i].op) q1 (fun w' v h=>fA w' _ v (by rw[hq];exact q3 _ _ _ _ h)) hd (.inr ⟨q2,rfl⟩) hk
     | false =>
      rw[if_neg (by simp)];rw[hb]at hk;exact⟨fun _ _=>trivial,ih' _ _ _ loc hk (R.put (OX hd) (Upd.refl _ _) (by simp[rd]))⟩
    split at h
    ·rename_i c vG
     split at h
     ·rename_i g args hc;obtain⟨d,h1,h2⟩:=ZG h;exact mk d (fun hq=> .inl ⟨c,g,args,vG,hc,h1 hq⟩) h2
     ·exact mk _ (fun hq=> .inr ⟨h.1 hq,rfl⟩) h.2
    ·exact mk _ (fun hq=> .inr ⟨h.1 hq,rfl⟩) h.2
 exact key ops.size 0 s a w loc R (by omega) (by simpa using h)
end
def Pe_ (id r:Nat) (obj:DObj):DVal->DVal
 | .osl id' r'=>if id'=id/\r'=r then (match obj with | .row _ k bs es=> .sl k bs es | _=> .osl id' r')else .osl id' r'
 | .bx id' r' off=>if id'=id/\r'=r then (match obj with | .box cs=> .ref (cs.drop off) | _=> .bx id' r' off)else .bx id' r' off
 | .vw id' r' k i0 i n=>if id'=id/\r'=r then (match obj with | .row _ k' bs es=>if k'=k/\i+n<=es.length then .sl k bs ((es.drop i).take n)else .any | _=> .any)else .vw id' r' k i0 i n
 | .omp id' r'=>if id'=id/\r'=r then (match obj with | .map ks vs=> .mp ks vs | _=> .omp id' r')else .omp id' r'
 | d=>d
def GH_ (id r:Nat) (obj:DObj):DVal->DVal
 | .fn f us cs=> .fn f us (cs.map (Pe_ id r obj))
 | d=>Pe_ id r obj d
def GG_ (id r:Nat) (obj:DObj):DVal->DVal
 | .agg cs=> .agg (cs.map (GH_ id r obj))
 | d=>GH_ id r obj d
def SU_ (id r:Nat) (obj:DObj):DObj->DObj
 | .box cs=> .box (cs.map (GH_ id r obj))
 | o=>o
def Bk_ (id r:Nat) (obj:DObj) (own:List Ent):List Ent:=own.map fun e=>⟨e.id,e.r,SU_ id r obj e.obj⟩
def Ls_ (f:DVal->DVal) (l:List (Nat×DVal)):List (Nat×DVal):=l.map fun p=>(p.1,f p.2)
def freezeS (s:DS) (id:Nat):DS:=match Ax s.own id with
 | some e=>⟨Ls_ (GG_ id e.r e.obj) s.slots,Bk_ id e.r e.obj (DH s.own id)⟩
 | none=>s
def freezeL (s:DS):List Nat->DS
 | []=>s
 | id::ids=>freezeL (freezeS s id) ids
theorem Zl (f:DVal->DVal) (hf:f .any= .any):∀(l:List (Nat×DVal)) (i:Nat),BL (Ls_ f l) i=f (BL l i)
 | [],i=>by simp[Ls_,BL,hf]
 | (j,d)::l,i=>by
  have:=Zl f hf l i;simp only[Ls_,List.map_cons,BL]at this |-
  split
  ·rfl
  ·exact this
@[simp] theorem Pc_ (id r:Nat) (obj:DObj) (l:List (Nat×DVal)) (i:Nat):BL (Ls_ (GG_ id r obj) l) i=GG_ id r obj (BL l i):=Zl _ rfl _ _
section
variable {B : Base} {s : DS} {a : Act} {w : World} {loc : Nat -> Loc}
theorem Zq (f:Ent->Ent) (hid:∀e,(f e).id=e.id):∀(own:List Ent) (id:Nat),Ax (own.map f) id=(Ax own id).map f
 | [],id=>rfl
 | e::t,id=>by
  simp only[List.map_cons,Ax,hid]
  split
  ·rfl
  ·exact Zq f hid t id
theorem Ww (id r:Nat) (obj:DObj) (own:List Ent) (loc:Nat->Loc):Aj (Bk_ id r obj own) loc=Aj own loc:=by
 funext i k
 unfold Aj Bk_;rw[Zq (fun e=>⟨e.id,e.r,SU_ id r obj e.obj⟩) (fun _=>rfl)];cases Ax own i<;>rfl
theorem Fu (id r:Nat) (obj:DObj) (own:List Ent) (loc:Nat->Loc):Ad (Bk_ id r obj own) loc=Ad own loc:=by
 unfold Ad Bk_
 induction own with
 | nil=>rfl
 | cons e t ih =>
  rw[List.map_cons,cS0,cS0,ih]
theorem Rel.freeze {id:Nat} {e:Ent} (R:Rel B s a w loc) (he:Ax s.own id=some e):Rel B ⟨Ls_ (GG_ id e.r e.obj) s.slots,Bk_ id e.r e.obj (DH s.own id)⟩ a w loc:=by
 obtain⟨qO,hid⟩:=AN he;have jN:∀x∈DH s.own id,x∈s.own:=fun x hx=>(BZ.1 hx).1
 have wO:∀b∈Ad (DH s.own id) loc,b∈Ad s.own loc:=by
  intro b hb;obtain⟨x,hx,h1⟩:=bV0.1 hb;exact bV0.2 ⟨x,jN x hx,h1⟩
 have qB:∀i r l,Aj (DH s.own id) loc i r=some l->Aj s.own loc i r=some l:=by
  intro i r l h;obtain⟨x,hx,rfl,rfl,rfl⟩:=Cj h;exact Ba R.st.nd (jN x hx)
 have W:∀n,Weak (Aj s.own loc) (Aj (DH s.own id) loc) (Ad s.own loc++B.M0) (Ad (DH s.own id) loc++B.M0) w.heap w.heap n:=fun n =>
  ⟨fun id r l _ hl=>qB id r l hl,fun b o _ (_:IZ o=true) ho=>ho,fun b o hb (_:IZ o=true) _ zA=>hb (by
   rcases aI0.1 zA with h | h
   ·exact aS0 _ (wO b h)
   ·exact aV0 _ h)⟩
 have cP:Aj s.own loc id e.r=some (loc id):=by rw[<-hid];exact Ba R.st.nd qO
 have yW:∀b,b∈(loc e.id).blks->b∉Ad (DH s.own id) loc++B.M0:=by
  intro b hb zA
  rcases aI0.1 zA with h | h
  ·obtain⟨x,hx,qK,h1⟩:=TY h;have:=HP R.st.bl x hx e qO b h1 hb;subst this;exact qK hid
  ·exact R.st.ap b (Bw qO hb) h
 have vX:=R.st.ok e qO
 have k1:∀d v,rd (Aj s.own loc) (Ad s.own loc++B.M0) w.heap d v->rd (Aj (DH s.own id) loc) (Ad (DH s.own id) loc++B.M0) w.heap (Pe_ id e.r e.obj d) v:=by
  intro d v h;have hw:=Db (W _) d v (Nat.le_refl _) h;cases d<;>simp only[Pe_]<;>try exact hw
  ·split
   ·rename_i hc;obtain⟨rfl,rfl⟩:=hc
    cases qA:e.obj with
    | row et k bs es=>exact hw
    | map ks vs=>exact hw
    | abs A=>exact hw
    | box cs =>
     rw[qA]at vX;obtain⟨b,arr,ty,h1,h2,h3,h4⟩:=vX;simp only[rd]at h;obtain⟨b',qG,hv⟩:=h _ cP;rw[<-hid,h1]at qG;simp only[bL0,and_true]at qG;subst qG;simp only[rd];refine⟨b,_,arr,ty,(0,0),hv,yW b (by rw[h1];simp),h2,?_⟩;have:=fun n=>Ir n cs arr 0 (GX (W _) cs arr 0 (Nat.le_refl _) h4)
     simpa using this _
   ·exact hw
  ·split
   ·rename_i hc;obtain⟨rfl,rfl⟩:=hc
    cases qA:e.obj with
    | box cs=>exact hw
    | map ks vs=>exact hw
    | abs A=>exact hw
    | row et k bs es =>
     rw[qA]at vX;obtain⟨wC,vX⟩:=vX;simp only[rd]at h;have hv:=h _ cP;rw[<-hid]at hv;simp only[rd]
     rcases vX with ⟨rfl,_,h2⟩ | ⟨b,arr,cap,h1,h2,h3,h4,h5,h6,h7⟩
     ·exact⟨none,0,by rw[hv,h2];rfl,by simp,by unfold maxLen;omega,by simp,.inl ⟨rfl,fun _=>rfl⟩⟩
     ·exact⟨_,cap,by rw[hv,h2],h4,h5,wC,.inr ⟨b,0,arr,et,(0,0),rfl,yW b (by rw[h1];simp),h3,Dk (W _) k es arr 0 (Nat.le_refl _) h7⟩⟩
   ·exact hw
  ·rename_i id' r' k0 bs0 i n
   split
   ·rename_i hc;obtain⟨rfl,rfl⟩:=hc
    cases qA:e.obj with
    | box cs=>simp[rd]
    | map ks vs=>simp[rd]
    | abs A=>simp[rd]
    | row et k bs es =>
     simp only
     split
     ·rename_i hb;obtain⟨rfl,hb⟩:=hb;rw[qA]at vX;obtain⟨wC,vX⟩:=vX;simp only[rd]at h;obtain⟨a,cap,rfl,g1,g2,g3,g4,_⟩:=h _ cP;have qZ:((es.drop i).take n).length=n:=by simp;omega
      simp only[rd];refine⟨a,cap,by rw[qZ],by omega,g2,by rw[qZ];exact Nat.le_trans (aQ0 _ (by omega:n<=es.length)) wC,?_⟩
      by_cases h0:n=0
      ·subst h0;exact .inl ⟨by simp,g3⟩
      ·obtain⟨b,qE,rfl⟩:=g4 (by omega);rw[<-hid]at qE
       rcases vX with ⟨rfl,_⟩ | ⟨b',arr,cap',h1,h2,h3,h4,h5,h6,h7⟩
       ·simp at hb;omega
       ·rw[h1]at qE;simp only[bL0,and_true]at qE;subst qE;refine .inr ⟨b',i*k,arr,et,(0,0),rfl,yW b' (by rw[h1];simp),h3,Hq _ _ _ _ fun q cs hq=> ?_⟩;rw[fH0]at hq
        split at hq
        ·rw[dB0]at hq;have:=EW k es arr 0 (i+q) cs (Dk (W _) k es arr 0 (Nat.le_refl _) h7) hq
         rwa[cA0,bX0]at this
        ·simp at hq
     ·simp[rd]
   ·exact hw
  ·split
   ·rename_i hc;obtain⟨rfl,rfl⟩:=hc
    cases qA:e.obj with
    | box cs=>exact hw
    | row et k bs es=>exact hw
    | abs A=>exact hw
    | map ks vs =>
     rw[qA]at vX;obtain⟨b,es,clk,h1,h2,h3,h4,h5⟩:=vX;simp only[rd]at h;obtain⟨b',qG,hv⟩:=h _ cP;rw[<-hid,h1]at qG;simp only[bL0,and_true]at qG;subst qG;simp only[rd];exact⟨b,es,clk,hv,yW b (by rw[h1];simp),h2,h3,Bn (W _) ks _ (Nat.le_refl _) h4,Bn (W _) vs _ (Nat.le_refl _) h5⟩
   ·exact hw
 have kV:∀(f:DVal->DVal),(∀d v,rd (Aj s.own loc) (Ad s.own loc++B.M0) w.heap d v->rd (Aj (DH s.own id) loc) (Ad (DH s.own id) loc++B.M0) w.heap (f d) v) ->
   ∀ds vs,AL (Aj s.own loc) (Ad s.own loc++B.M0) w.heap ds vs->AL (Aj (DH s.own id) loc) (Ad (DH s.own id) loc++B.M0) w.heap (ds.map f) vs:=by
  intro f hf ds
  induction ds with
  | nil=>intro vs h;simpa[AL]using h
  | cons d ds ih =>
   intro vs h;simp only[AL]at h;obtain⟨v,r,rfl,h1,h2⟩:=h;simp only[List.map_cons,AL];exact⟨v,r,rfl,hf d v h1,ih r h2⟩
 have k2:∀d v,rd (Aj s.own loc) (Ad s.own loc++B.M0) w.heap d v->rd (Aj (DH s.own id) loc) (Ad (DH s.own id) loc++B.M0) w.heap (GH_ id e.r e.obj d) v:=by
  intro d v h;cases d<;>simp only[GH_]<;>try exact k1 _ v h
  rename_i f us cs;simp only[rd]at h |-;obtain⟨us',cs',h1,h2,h3⟩:=h;exact⟨us',cs',h1,Bn (W _) us _ (Nat.le_refl _) h2,kV _ k1 cs _ h3⟩
 have k3:∀d v,rd (Aj s.own loc) (Ad s.own loc++B.M0) w.heap d v->rd (Aj (DH s.own id) loc) (Ad (DH s.own id) loc++B.M0) w.heap (GG_ id e.r e.obj d) v:=by
  intro d v h;cases d<;>simp only[GG_]<;>try exact k2 _ v h
  rename_i cs;simp only[rd]at h |-;obtain⟨us,h1,h2⟩:=h;exact⟨us,h1,kV _ k2 cs _ h2⟩
 have kC:∀(ds:List DVal) (arr:Array Value) (o:Nat),ET (Aj s.own loc) (Ad s.own loc++B.M0) w.heap ds arr o->ET (Aj (DH s.own id) loc) (Ad (DH s.own id) loc++B.M0) w.heap (ds.map (GH_ id e.r e.obj)) arr o:=by
  intro ds
  induction ds with
  | nil=>intro arr o _;simp[ET]
  | cons d ds ih =>
   intro arr o h;simp only[ET,List.map_cons]at h |-;obtain⟨⟨v,h1,kY,h2⟩,h3⟩:=h;exact⟨⟨v,h1,kY,k2 d v h2⟩,ih arr _ h3⟩
 refine⟨⟨?_,?_,?_,?_,?_⟩,R.upd,?_,?_,?_,R.nt,R.df.keep rfl (Upd.refl [] w) (by simp) (fun b hb=> .inl (by
  simp only[Fu]at hb
  rcases aI0.1 hb with h | h
  ·exact aS0 _ (wO b h)
  ·exact aV0 _ h))⟩
 ·simp only[Bk_,cF0];exact Ft R.st.nd
 ·simp only[Fu];exact Fg R.st.bl _ (Ft R.st.nd) jN
 ·simp only[Fu];exact fun b hb=>R.st.ap b (wO b hb)
 ·simp only[Fu];intro b hb
  rcases aI0.1 hb with h | h
  ·exact R.st.lt b (aS0 _ (wO b h))
  ·exact R.st.lt b (aV0 _ h)
 ·intro x hx;simp only[Fu,Ww];obtain⟨y,hy,rfl⟩:=aU0.1 hx;have hk:=R.st.ok y (jN y hy);simp only
  cases qA:y.obj with
  | box cs =>
   rw[qA]at hk;obtain⟨b,arr,ty,h1,h2,h3,h4⟩:=hk;exact⟨b,arr,ty,h1,h2,by simp[h3],kC cs arr 0 h4⟩
  | row et k bs es=>rw[qA]at hk;exact BF (W (GC (.row et k bs es))) (Nat.le_refl _) (fun _ _ _ h=>h) hk
  | map ks vs=>rw[qA]at hk;exact BF (W (GC (.map ks vs))) (Nat.le_refl _) (fun _ _ _ h=>h) hk
  | abs A=>rw[qA]at hk;exact BF (W (GC (.abs A))) (Nat.le_refl _) (fun _ _ _ h=>h) hk
 ·simp only[Fu];exact fun b hb=>R.new b (wO b hb)
 ·intro x hx hr;obtain⟨y,hy,rfl⟩:=aU0.1 hx;exact R.ver y (jN y hy) hr
 ·intro i;simp only[Fu,Ww,Pc_];exact k3 _ _ (R.sl i)
theorem Sub.refl (s:DS):Sub B s s:=fun _ _ loc R=>⟨loc,R⟩
theorem Sub.trans {s' s'':DS} (h:Sub B s s') (k:Sub B s' s''):Sub B s s'':=fun a w loc R =>
 let ⟨loc',R'⟩:=h a w loc R;k a w loc' R'
theorem Sub.freezeS (s:DS) (id:Nat):Sub B s (freezeS s id):=by
 intro a w loc R;unfold Dm.freezeS
 split
 ·rename_i e he;exact⟨loc,R.freeze he⟩
 ·exact⟨loc,R⟩
theorem Sub.freezeL : ∀(ids:List Nat) (s:DS),Sub B s (freezeL s ids)
 | [],s=>Sub.refl s
 | id::ids,s=>(Sub.freezeS s id).trans (Sub.freezeL ids _)
theorem Sub.rel {s':DS} {Q:Exit->DS->Prop} {e:Exit} (h:Sub B s s') (hq:Q e s') {a:Act} {w:World} {loc:Nat->Loc} (R:Rel B s a w loc):QQ B Q e a w :=
 let ⟨loc',R'⟩:=h a w loc R;⟨s',loc',hq,R'⟩
variable {P : Program}
structure RAnn where
 id:Nat
 fz:List Nat
 l1:List Nat
 l2:List Nat
def kQ (Q:Exit->DS->Prop) (fz:List Nat):Cont:=⟨fun s'=>Q .normal (freezeL s' fz)⟩
theorem UJ_ (Q:Exit->DS->Prop) (fz:List Nat) (s':DS):(kQ Q fz).f s'=Q .normal (freezeL s' fz):=id rfl
def KE : List RAnn->Nat->RAnn
 | [],id=>⟨id,[],[],[]⟩
 | a::r,id=>if a.id=id then a else KE r id
structure Ann where
 ow:List Nat
 rs:List RAnn
theorem BR (A:Ann) {id:Nat} {ops:Array Oper} {draw:Bool} {Q:Exit->DS->Prop} (hm:P.follows .mixedOrders=true) (qL:(!draw||GS A.ow (KE A.rs id).l1 (KE A.rs id).l2 ops)=true)
  (h:Dw P B.nt A.ow (KE A.rs id).l1 (KE A.rs id).l2 ops ops.toList 0 (kQ Q (KE A.rs id).fz) s):DW P B (.region id ops draw) Q s:=by
 have fin:∀{c:Code},DW P B c (fun e s'=>match e with | .normal=>Q .normal (freezeL s' (KE A.rs id).fz) | e=>Q e s') s->DW P B c Q s:=by
  intro c h a w loc R;refine wpIn_mono (h a w loc R) ?_;rintro e a' w' ⟨s',loc',hq,R'⟩
  cases e<;>first
   | exact(Sub.freezeL _ s').rel hq R'
   | exact⟨s',loc',hq,R'⟩
 cases draw with
 | false=>exact fin (Tz _ _ _ h)
 | true=>exact fin (TB _ _ _ hm (by simpa using qL) h)
end
def Kg_ (P:Program) (fn:Func) (ids:List Nat) (d:DVal):Exit->DS->Prop
 | .normal,s=>match Td P (freezeL s ids) fn.results.toList with | some d0=>wk d0 d | none=>False
 | .ret,s=>match Td P (freezeL s ids) fn.results.toList with | some d0=>wk d0 d | none=>False
 | _,_=>False
theorem Ac.wk {P:Program} {f:FuncId} {args:List DVal} {d d':DVal} (h:Ac P f args d) (hw:wk d d') (hd:mx d'=0):Ac P f args d' :=
 ⟨h.1,hd,fun cur M w vs hM hr=>(h.2.2 cur M w vs hM hr).mono fun e w' ⟨v,h1,h2,h3⟩=>⟨v,h1,h2,xS hw h3⟩⟩
theorem YI {cur:Gp} {M:List Nat} {h:Array Obj}:∀(a b:List DVal) (vs:List Value),AL cur M h (a++b) vs->∃us ws,vs=us++ws/\AL cur M h a us/\AL cur M h b ws
 | [],b,vs,hr=>⟨[],vs,rfl,by simp[AL],hr⟩
 | d::a,b,vs,hr=>by
  simp only[List.cons_append,AL]at hr;obtain⟨v,r,rfl,h1,h2⟩:=hr;obtain⟨us,ws,rfl,h3,h4⟩:=YI a b r h2;exact⟨v::us,ws,rfl,by simp only[AL];exact⟨v,us,rfl,h1,h3⟩,h4⟩
theorem Xy {P:Program} {f:FuncId} (pre:List DVal) {post:List DVal} {k bs:Nat} {d:DVal} (h1:Ac P f (pre++ .nilsl::post) d) (h2:Ac P f (pre++ .esl::post) d):Ac P f (pre++ .sl k bs []::post) d:=by
 refine⟨h1.1,h1.2.1,fun cur M w vs hM hr=> ?_⟩;obtain⟨us,ws,vN,h3,h4⟩:=YI _ _ _ hr;simp only[AL]at h4;obtain⟨v,r,rfl,h5,h6⟩:=h4;simp only[rd]at h5;obtain⟨a,cap,rfl,_,hc,_,h7⟩:=h5
 cases a with
 | none =>
  have:cap=0:=by
   rcases h7 with h7 | ⟨b,off,arr,ty,fz,h8,_⟩
   ·exact h7.2 rfl
   ·simp at h8
  subst this;refine h1.2.2 cur M w vs hM ?_;rw[vN];exact CU _ _ _ _ h3 (by simp only[AL];exact⟨_,r,rfl,by simp[rd],h6⟩)
 | some ad =>
  refine h2.2.2 cur M w vs hM ?_;rw[vN];exact CU _ _ _ _ h3 (by simp only[AL];exact⟨_,r,rfl,by simp only[rd];exact⟨ad,cap,rfl,hc⟩,h6⟩)
theorem Ly (ids:List Nat) {P:Program} {f:FuncId} {fn:Func} {c:Code} {args:List DVal} {d:DVal} (hf:P.funcs[f]? =some fn) (hb:fn.body=some c) (zZ:Enters P f) (qX:args.length<=fn.ntmps)
  (hd:mx d=0) (h:Gj args->∀B:Base,B.nt=fn.ntmps/\B.ro=none->DW P B c (Kg_ P fn ids d) ⟨Ak args 0,[]⟩):Ac P f args d:=by
 refine uG hf hb zZ qX hd fun qJ B hB=> ?_
 intro a w loc R;refine wpIn_mono (h qJ B hB a w loc R) ?_;rintro e a' w' ⟨s',loc',hq,R'⟩
 have key:(match Td P (freezeL s' ids) fn.results.toList with | some d0=>wk d0 d | none=>False)->∃s'' loc'',(∃d0,Td P s'' fn.results.toList=some d0/\∀cur M h v,rd cur M h d0 v->rd cur M h d v)/\Rel B s'' a' w' loc'':=by
  intro hq;obtain⟨loc'',R''⟩:=Sub.freezeL ids s' a' w' loc' R'
  split at hq
  ·rename_i d0 bN;exact⟨_,loc'',⟨d0,bN,fun cur M h v hr=>xS hq hr⟩,R''⟩
  ·exact hq.elim
 cases e<;>simp only[Kg_]at hq<;>first
  | (obtain⟨s'',loc'',h1,h2⟩:=key hq;exact⟨s'',loc'',h1,h2⟩)
  | exact hq.elim
def ER_ (P:Program) (fn:Func) (ids:List Nat) (ρ:List (Nat×Nat×Nat)) (d:DVal) (own':List Ent):Exit->DS->Prop
 | .normal,s=>match Td P (freezeL s ids) fn.results.toList with
  | some d0=>iK d0/\wk (JG (Cv (freezeL s ids).own ρ) d0) d/\OL (freezeL s ids).own (Cv (freezeL s ids).own ρ) ρ=some own'/\PH (freezeL s ids).own ρ
  | none=>False
 | .ret,s=>match Td P (freezeL s ids) fn.results.toList with
  | some d0=>iK d0/\wk (JG (Cv (freezeL s ids).own ρ) d0) d/\OL (freezeL s ids).own (Cv (freezeL s ids).own ρ) ρ=some own'/\PH (freezeL s ids).own ρ
  | none=>False
 | _,_=>False
section
variable {B : Base} {s : DS} {a : Act} {w : World} {loc : Nat -> Loc}
theorem Ad_ (a:Act) (i:Nat) (hi:i<a.tmps.size):a.put (some i) (a.tmps.getD i Go.undef)=a:=by
 obtain⟨tmps,defers⟩:=a;unfold Act.put;simp only
 congr 1
 apply Array.ext
 ·simp
 ·intro j h1 h2;rw[Array.getElem_setIfInBounds h2]
  split
  ·rename_i h;subst h;simp[aW0,cJ0 h2]
  ·rfl
theorem Rel.adopt {id r et k bs:Nat} {dst:Option Nat} {v:Value} {d:DVal} (R:Rel B s a w loc) (hr:CL B s<=r) (wY:∀i,dst=some i->i<B.nt)
  (hd:rd (Aj (upE s.own id r (.row et k bs [])) (DM loc id ⟨[],.slice none 0 0⟩)) (Ad (upE s.own id r (.row et k bs [])) (DM loc id ⟨[],.slice none 0 0⟩)++B.M0) w.heap d v) :
  Rel B ⟨Ce s.slots dst d,upE s.own id r (.row et k bs [])⟩ (a.put dst v) w (DM loc id ⟨[],.slice none 0 0⟩) :=
 R.up (L:=⟨[],.slice none 0 0⟩) (n:=r) hr wY (Upd.refl _ _) (fun b hb _=>rfl) (fun b hb=>by simp at hb) (.inl (Nat.le_refl _)) ⟨by simp,.inl ⟨rfl,rfl,rfl⟩⟩ hd
theorem Sub.adoptSlot (i id et k bs:Nat) (h:BL s.slots i= .nilsl) (hi:i<B.nt):Sub B s ⟨(i,.osl id (CL B s))::s.slots,upE s.own id (CL B s) (.row et k bs [])⟩:=by
 intro a w loc R;have hs:=R.sl i;rw[h]at hs;simp only[rd]at hs
 have:=R.adopt (id:=id) (et:=et) (k:=k) (bs:=bs) (dst:=some i) (v:=a.tmps.getD i Go.undef) (d:= .osl id (CL B s)) (Nat.le_refl _) (fun j hj=>by simp only[aA0]at hj;omega) (by
  simp only[rd];intro l hl;rw[EL]at hl;simp only[aA0]at hl
  rw[<-hl,hs])
 rw[Ad_ a i (by rw[R.nt];exact hi)]at this;exact⟨_,this⟩
theorem Rel.reBox {id:Nat} {e:Ent} {cs cs':List DVal} (R:Rel B s a w loc) (he:Ax s.own id=some e) (qA:e.obj= .box cs) (qZ:cs'.length=cs.length)
  (h:∀arr,ET (cu s loc) (hm s loc B.M0) w.heap cs arr 0->ET (cu s loc) (hm s loc B.M0) w.heap cs' arr 0):∃loc',Rel B ⟨s.slots,upE s.own id e.r (.box cs')⟩ a w loc':=by
 obtain⟨qO,hid⟩:=AN he;have qB:Aj s.own loc id e.r=some (loc id):=by rw[<-hid];exact Ba R.st.nd qO
 have hk:=R.st.ok e qO;rw[qA]at hk;obtain⟨b,arr,ty,h1,h2,h3,h4⟩:=hk;rw[hid]at h1
 have hL:∀b0,b0∈(loc id).blks->b0<w.heap.size/\((∃e∈s.own,e.id=id/\b0∈(loc id).blks)\/w.heap.size<=b0):=by
  intro b0 wJ;refine⟨?_,.inl ⟨e,qO,hid,wJ⟩⟩;rw[h1]at wJ;simp only[aG0]at wJ;subst wJ;exact(aH0.1 h2).1
 have cA:DM loc id (loc id)=loc:=by
  funext j
  unfold DM
  split
  ·rename_i hj;rw[hj]
  ·rfl
 have W:Weak (cu s loc) (Aj (upE s.own id e.r (.box cs')) (DM loc id (loc id))) (hm s loc B.M0) (Ad (upE s.own id e.r (.box cs')) (DM loc id (loc id))++B.M0) w.heap w.heap (max (CL B s) (AV cs')):=by
  refine Gt (Upd.refl _ w) ?_ ?_
  ·intro b hb;obtain⟨x,hx,kY⟩:=bV0.1 hb;rw[cA]at kY
   rcases aL0.1 hx with rfl | hx
   ·exact .inl (Bw qO (by rw[hid];exact kY))
   ·exact .inl (Bw (BZ.1 hx).1 kY)
  ·intro x hx _;rw[cA]
   rcases aL0.1 hx with rfl | hx
   ·exact qB
   ·exact Ba R.st.nd (BZ.1 hx).1
 have R':=R.up (hLn:=by rw[h1];simp) (w':=w) (id:=id) (r:=e.r) (obj:= .box cs') (L:=loc id) (v:=Go.undef) (d:= .any) (dst:=none) (n:=CL B s) (Nat.le_refl _) (fun i hi=>by simp at hi) (Upd.refl _ _) (fun _ _ _=>rfl) hL (.inr qB)
  ⟨b,arr,ty,h1,h2,by rw[qZ];exact h3,GX W cs' arr 0 (by omega) (h arr h4)⟩ (by simp[rd])
 exact⟨_,R'⟩
theorem iB {cur:Gp} {M:List Nat} {H:Array Obj} {d':DVal}:∀(cs:List DVal) (arr:Array Value) (o c:Nat),(∀v,rd cur M H (cs.getD c .any) v->rd cur M H d' v)->ET cur M H cs arr o->ET cur M H (cs.set c d') arr o
 | [],_,_,_,_,h=>by simpa using h
 | d::cs,arr,o,0,hd,h=>by
  simp only[ET,eW0]at h |-;obtain⟨⟨v,h1,h2,h3⟩,h4⟩:=h;exact⟨⟨v,h1,h2,hd v (by simpa using h3)⟩,h4⟩
 | d::cs,arr,o,c+1,hd,h=>by
  simp only[ET,List.set_cons_succ]at h |-;exact⟨h.1,iB cs arr (o+1) c (by simpa using hd) h.2⟩
theorem Sub.adoptCell (bid c id et k bs:Nat) {rb:Nat} {cs:List DVal} (h:Ax s.own bid=some ⟨bid,rb,.box cs⟩) (hc:cs.getD c .any= .nilsl) (qK:bid≠id) :
  Sub B s ⟨s.slots,upE (upE s.own id (CL B s) (.row et k bs [])) bid rb (.box (cs.set c (.osl id (CL B s))))⟩:=by
 intro a w loc R;have R1:=R.adopt (id:=id) (et:=et) (k:=k) (bs:=bs) (dst:=none) (v:=Go.undef) (d:= .any) (Nat.le_refl _) (fun i hi=>by simp at hi) (by simp[rd])
 have hf:Ax (upE s.own id (CL B s) (.row et k bs [])) bid=some ⟨bid,rb,.box cs⟩:=by
  have hdel:∀own:List Ent,Ax (DH own id) bid=Ax own bid:=by
   intro own
   induction own with
   | nil=>rfl
   | cons x t ih =>
    simp only[DH,Ax]
    split
    ·rename_i hx;rw[ih,if_neg (by omega)]
    ·simp only[Ax];rw[ih]
  simp only[upE,Ax];rw[if_neg (fun h=>qK h.symm),hdel];exact h
 exact Rel.reBox R1 hf rfl (by simp) (fun arr hr=>iB cs arr 0 c (by
  intro v hv;rw[hc]at hv;simp only[rd]at hv |-;intro l hl;have wD:Aj (upE s.own id (CL B s) (.row et k bs [])) (DM loc id ⟨[],.slice none 0 0⟩) id (CL B s)=some l:=hl;rw[EL]at wD;simp only[aA0]at wD
  rw[<-wD,hv]) hr)
end
theorem Ow {own:List Ent} {loc:Nat->Loc} (hn:(Ad own loc).Nodup):∀l:List Ent,(l.map (·.id)).Nodup->(∀e∈l,∃e0∈own,e0.id=e.id)->(Ad l loc).Nodup
 | [],_,_=>by simp[Ad]
 | e::l,hd,hm=>by
  simp only[List.map_cons,cW0]at hd;rw[Fh,cB0];obtain⟨e0,zG,gZ⟩:=hm e aF0;refine⟨by rw[<-gZ];exact EM hn e0 zG,Ow hn l hd.2 (fun x hx=>hm x (aE0 _ hx)),?_⟩;intro b hb b' qG fM;subst fM;obtain⟨e2,zN,qP⟩:=bV0.1 qG;obtain⟨e3,pY,pQ⟩:=hm e2 (aE0 _ zN);have:=HP hn e0 zG e3 pY b (by rw[gZ];exact hb) (by rw[pQ];exact qP);subst this;exact hd.1 (aU0.2 ⟨e2,zN,by rw[<-pQ,gZ]⟩)
def LI (own:List Ent):List (Nat×Nat×Nat):=own.map fun e=>(e.id,e.id,e.r)
def UJ (φ:Nat->Nat->Option (Nat×Nat)) (emp:Bool) (d d':DVal):Prop:=match d' with
 | .any=>True
 | d'=>if emp then d=d' else iK d/\JG φ d=d'
def Ps (φ:Nat->Nat->Option (Nat×Nat)) (emp:Bool) (l:List (Nat×DVal)):List (Nat×DVal)->Prop
 | []=>True
 | p::ps=>UJ φ emp (BL l p.1) p.2/\Ps φ emp l ps
theorem Ze {own:List Ent} {i j v:Nat} (h:(i,j,v)∈LI own):i=j/\∃e∈own,e.id=j/\e.r=v:=by
 obtain⟨e,he,h1⟩:=aU0.1 h;simp only[aY0]at h1;obtain⟨rfl,rfl,rfl⟩:=h1;exact⟨rfl,e,he,rfl,rfl⟩
theorem Sub.lit {B:Base} {s s':DS} (h:Ps (Cv s.own (LI s'.own)) s'.own.isEmpty s.slots s'.slots/\OL s.own (Cv s.own (LI s'.own)) (LI s'.own)=some s'.own/\PH s.own (LI s'.own)/\(s'.own.map (·.id)).Nodup):Sub B s s':=by
 obtain⟨hs,ho,hk,nd⟩:=h;intro a w loc R;refine⟨loc,?_⟩
 have nW:∀e'∈s'.own,∃e,Ax s.own e'.id=some e/\okO e.obj/\e'.obj=LQ (Cv s.own (LI s'.own)) e.obj/\(e'.r=1\/(e'.r=0/\e.r=0)):=by
  intro e' zT;obtain⟨i,j,v,e,h1,h2,h3⟩:=(PI ho).1 e' zT;obtain⟨zJ,_⟩:=Ze h1;subst zJ;obtain⟨e2,g1,g2,g3⟩:=Nt hk i i v h1;rw[h2]at g1;simp only[aA0]at g1;subst g1;have e1:e'.id=i:=by rw[h3]
  have e3:e'.r=v:=by rw[h3]
  have e4:e'.obj=LQ (Cv s.own (LI s'.own)) e.obj:=by rw[h3]
  refine⟨e,by rw[e1];exact h2,g2,e4,?_⟩;rw[e3]
  rcases g3 with g3 | g3
  ·exact .inl g3
  ·exact .inr ⟨g3.1,g3.2.2⟩
 have fL:∀e'∈s'.own,∃e0∈s.own,e0.id=e'.id:=by
  intro e' zT;obtain⟨e,h1,_⟩:=nW e' zT;obtain⟨h2,h3⟩:=AN h1;exact⟨e,h2,h3⟩
 have wO:∀b∈Ad s'.own loc,b∈Ad s.own loc:=by
  intro b hb;obtain⟨e',zT,h1⟩:=bV0.1 hb;obtain⟨e0,h2,h3⟩:=fL e' zT;exact Bw h2 (by rw[h3];exact h1)
 have hM:∀b∈Ad s'.own loc++B.M0,b∈Ad s.own loc++B.M0:=by
  intro b hb
  rcases aI0.1 hb with h | h
  ·exact aS0 _ (wO b h)
  ·exact aV0 _ h
 have W:Weak (cu s loc) (Aj s'.own loc) (hm s loc B.M0) (Ad s'.own loc++B.M0) w.heap w.heap 0 :=
  ⟨fun id r l hr=>by omega,fun b o _ (_:IZ o=true) ho=>ho,fun b o hb (_:IZ o=true) _ zA=>hb (hM b zA)⟩
 have L:IY (cu s loc) (Aj s'.own loc) (Cv s.own (LI s'.own)):=by
  intro i r p l hp hl;obtain⟨e,h1,h2,h3⟩:=Lb hp;obtain⟨zJ,_⟩:=Ze h1;obtain⟨e',zT,g1,g2,g3⟩:=Cj hl;subst g3
  show Aj s.own loc i r=_
  unfold Aj;rw[h2];simp[h3,zJ]
 refine⟨⟨nd,Ow R.st.bl _ nd fL,fun b hb=>R.st.ap b (wO b hb),fun b hb=>R.st.lt b (hM b hb),fun e' zT=> ?_⟩,R.upd,fun b hb=>R.new b (wO b hb),fun e' zT hr=> ?_,?_,R.nt,R.df.keep rfl (Upd.refl [] w) (by simp) (fun b hb=> .inl (hM b hb))⟩
 ·obtain⟨e,h1,h2,h3,_⟩:=nW e' zT;obtain⟨qO,hid⟩:=AN h1;rw[h3];exact NO W L h2 (by rw[hid]) (fun _ _ _ h=>h) (R.st.ok e qO)
 ·obtain⟨e,h1,_,_,h4⟩:=nW e' zT;obtain⟨qO,hid⟩:=AN h1;have hN:=B.hN
  rcases h4 with h4 | ⟨h4,h5⟩
  ·omega
  ·have:=R.ver e qO (by omega);rw[hid,h5]at this;rw[h4];exact this
 ·intro i
  have wT:∀(l:List (Nat×DVal)),Ps (Cv s.own (LI s'.own)) s'.own.isEmpty s.slots l->UJ (Cv s.own (LI s'.own)) s'.own.isEmpty (BL s.slots i) (BL l i):=by
   intro l
   induction l with
   | nil=>intro _;simp[UJ,BL]
   | cons p l ih =>
    intro hp;simp only[Ps]at hp;simp only[BL]
    split
    ·rename_i h;rw[h];exact hp.1
    ·exact ih hp.2
  have h1:=wT s'.slots hs;have hr:=R.sl i
  generalize BL s'.slots i=d' at h1
  by_cases ha:d'= .any
  ·subst ha;simp[rd]
  ·have h2:if s'.own.isEmpty=true then BL s.slots i=d' else iK (BL s.slots i)/\JG (Cv s.own (LI s'.own)) (BL s.slots i)=d':=by
    unfold UJ at h1
    split at h1
    ·exact absurd rfl ha
    ·exact h1
   split at h2
   ·rename_i he;rw[h2]at hr;have zT:s'.own=[]:=by simpa using he
    exact Db (n:=mx d') ⟨fun id r l _ hl=>by rw[zT]at hl;simp[Aj,Ax]at hl,W.b,W.m⟩ _ _ (Nat.le_refl _) hr
   ·rw[<-h2.2];exact TJ W L h2.1 hr
def Hw_ (s:DS) (n bid c id et k bs:Nat):DS:=match Ax s.own bid with
 | some e=>match e.obj with
  | .box cs=>⟨s.slots,upE (upE s.own id n (.row et k bs [])) bid e.r (.box (cs.set c (.osl id n)))⟩
  | _=>s
 | none=>s
def uB (s:DS) (bid c:Nat):Prop:=match Ax s.own bid with
 | some e=>match e.obj with
  | .box cs=>cs.getD c .any= .nilsl
  | _=>True
 | none=>True
theorem BT {P:Program} {B:Base} {Q:Exit->DS->Prop} {s:DS} {x:Code} (bid c id et k bs:Nat) (h:uB s bid c/\bid≠id) (hk:∀n,DW P B x Q (Hw_ s n bid c id et k bs)):DW P B x Q s:=by
 have hn:=hk (CL B s);unfold uB at h;unfold Hw_ at hn
 cases hf:Ax s.own bid with
 | none=>rw[hf]at hn;exact hn
 | some e =>
  rw[hf]at hn h;obtain⟨hm,hid⟩:=AN hf
  cases qA:e.obj with
  | box cs =>
   simp only[qA]at hn h;refine Fw (Sub.adoptCell bid c id et k bs (rb:=e.r) (cs:=cs) ?_ h.1 h.2) hn;rw[hf,<-hid,<-qA]
  | row _ _ _ _=>simp only[qA]at hn;exact hn
  | map _ _=>simp only[qA]at hn;exact hn
  | abs _=>simp only[qA]at hn;exact hn
theorem Bk {P:Program} {B:Base} {Q:Exit->DS->Prop} {s:DS} {x:Code} (i id et k bs:Nat) (h:BL s.slots i= .nilsl/\i<B.nt) (hk:∀n,DW P B x Q ⟨(i,.osl id n)::s.slots,upE s.own id n (.row et k bs [])⟩):DW P B x Q s :=
 Fw (Sub.adoptSlot i id et k bs h.1 h.2) (hk (CL B s))
theorem Sub.truncSlot {B:Base} {s:DS} {i id r et k bs n:Nat} {es:List (List DVal)} {e:Ent} (h:BL s.slots i= .vw id r k bs 0 n) (he:Ax s.own id=some e) (wB:e.r=r) (qA:e.obj= .row et k bs es) (hn:n<=es.length) (hi:i<B.nt) :
  Sub B s ⟨(i,.osl id (CL B s))::s.slots,upE s.own id (CL B s) (.row et k bs (es.take n))⟩:=by
 intro a w loc R;have hs:=R.sl i;rw[h]at hs;obtain⟨qO,hid⟩:=AN he;obtain⟨qB,a0,cap0,hh,g1,g2,g3⟩:=PA R.st he wB qA;simp only[rd]at hs;obtain⟨x,cap,hv,q1,q2,q3,q4,q5⟩:=hs _ qB;obtain⟨n1,dW⟩:=q5 trivial;rw[hh]at dW;simp only[Value.slice.injEq]at dW;obtain⟨rfl,_,rfl⟩:=dW;have qZ:(es.take n).length=n:=by simp;omega
 have hk:=R.st.ok e qO;rw[qA,hid]at hk;obtain⟨wC,hk⟩:=hk
 have hL:∀b0,b0∈(⟨(loc id).blks,a.tmps.getD i Go.undef⟩:Loc).blks->b0<w.heap.size/\((∃e∈s.own,e.id=id/\b0∈(loc id).blks)\/w.heap.size<=b0):=fun b0 wJ =>
  ⟨R.st.lt b0 (aS0 _ (Bw qO (by rw[hid];exact wJ))),.inl ⟨e,qO,hid,wJ⟩⟩
 have W:=R.weakUp (obj:= .row et k bs (es.take n)) (L:=⟨(loc id).blks,a.tmps.getD i Go.undef⟩) (Nat.le_refl (CL B s)) (Upd.refl _ w) hL (.inl (Nat.le_refl _));have zY:=(BG qO).2;rw[qA]at zY;simp only[GC]at zY
 have:=R.up (id:=id) (r:=CL B s) (obj:= .row et k bs (es.take n)) (L:=⟨(loc id).blks,a.tmps.getD i Go.undef⟩) (v:=a.tmps.getD i Go.undef) (d:= .osl id (CL B s)) (dst:=some i) (Nat.le_refl _) (fun j hj=>by simp only[aA0]at hj;omega) (Upd.refl _ _) (fun _ _ _=>rfl) hL (.inl (Nat.le_refl _))
  (by
   refine⟨by rw[qZ];exact Nat.le_trans (aQ0 _ hn) wC,?_⟩
   rcases hk with ⟨rfl,h1,h2⟩ | ⟨b,arr,cap,h1,h2,h3,h4,h5,h6,h7⟩
   ·rw[hh]at h2;simp only[Value.slice.injEq]at h2;obtain⟨rfl,_,rfl⟩:=h2;refine .inl ⟨by simp,h1,?_⟩;rw[hv];simp only[List.length_nil,Nat.le_zero]at hn;rw[hn]
   ·rw[hh]at h2;simp only[Value.slice.injEq]at h2;obtain⟨rfl,_,rfl⟩:=h2;refine .inr ⟨b,arr,_,h1,by rw[qZ];exact hv,h3,by omega,h5,h6,?_⟩;refine Hq _ _ _ _ fun q cs hq=> ?_
    rw[fH0]at hq
    split at hq
    ·refine EW k es arr 0 q cs (Dk W k es arr 0 ?_ h7) hq;unfold CL;omega
    ·simp at hq)
  (by
   simp only[rd];intro l hl;rw[EL]at hl;simp only[aA0]at hl
   rw[<-hl])
  (by have:=EM R.st.bl e qO;rwa[hid]at this)
 rw[Ad_ a i (by rw[R.nt];exact hi)]at this;exact⟨_,this⟩
def aO (s:DS) (i:Nat):Prop:=match BL s.slots i with
 | .vw id r k bs 0 n=>match Ax s.own id with
  | some e=>match e.obj with
   | .row _ k' bs' es=>e.r=r/\k'=k/\bs'=bs/\n<=es.length
   | _=>False
  | none=>False
 | _=>False
def Fi_ (s:DS) (i m:Nat):DS:=match BL s.slots i with
 | .vw id _ _ _ _ n=>match Ax s.own id with
  | some e=>match e.obj with
   | .row et k bs es=>⟨(i,.osl id m)::s.slots,upE s.own id m (.row et k bs (es.take n))⟩
   | _=>s
  | none=>s
 | _=>s
theorem ZZ {P:Program} {B:Base} {Q:Exit->DS->Prop} {s:DS} {x:Code} (i:Nat) (h:aO s i/\i<B.nt) (hk:∀m,DW P B x Q (Fi_ s i m)):DW P B x Q s:=by
 have h1:=h.1;have hk:=hk (CL B s);unfold aO at h1;unfold Fi_ at hk
 split at h1
 ·rename_i id r k bs n hg;rw[hg]at hk;simp only at hk
  split at h1
  ·rename_i e he;rw[he]at hk;simp only at hk
   split at h1
   ·rename_i et k' bs' es qA;rw[qA]at hk;obtain⟨wB,rfl,rfl,hn⟩:=h1;exact Fw (Sub.truncSlot hg he wB qA hn h.2) hk
   ·exact h1.elim
  ·exact h1.elim
 ·exact h1.elim
attribute [simp] UL_ UK_ PJ_ aE isE wk1 wkL wk IB DY FS KE BY VM Op.operands Call.operands LZ okG HA Mu Bt Mq La Ta_ SZ_ Ce BL ev ofV CO Hu Ck Yn Qw EQ Bz Ax Tu_ DH callee Ci gB gOK CX IF Jf AU EF LK OH Dr Hs HC Ak BI Tq Ek eqC Qt_ Hz_ MH_ Td FG_ UR Gj Dq
@[simp] theorem UY_ (n:Int):MF .i64 n↔ -9223372036854775808<=n/\n<=9223372036854775807:=Iff.rfl
theorem Ao {n:Int} (h1: -9223372036854775808<=n) (h2:n<=9223372036854775807):IntKind.i64.wrap n=n:=by
 simp only[IntKind.wrap,IntKind.bits,IntKind.signed];simp
 split<;>omega
@[simp] theorem UM_ (n:Int):MF .u64 n↔0<=n/\n<=18446744073709551615:=Iff.rfl
@[simp] theorem UX_ (n:Int):MF .u8 n↔0<=n/\n<=255:=Iff.rfl
@[simp] theorem UN_ (n:Int):MF .u32 n↔0<=n/\n<=4294967295:=Iff.rfl
@[simp] theorem UO_ (n:Int):MF .i32 n↔ -2147483648<=n/\n<=2147483647:=Iff.rfl
def isB : DVal->Bool
 | .bool _=>true
 | _=>false
def PE_ : DVal->Bool
 | .bool b=>b
 | _=>false
attribute [simp] isB PE_
theorem Bb {P:Program} {B:Base} {Q:Exit->DS->Prop} {s:DS} {c:Operand} {x y:Code} (h:isB (ev s.slots c)=true) (ht:PE_ (ev s.slots c)=true->DW P B x Q s) (hf:PE_ (ev s.slots c)=false->DW P B y Q s):DW P B (.cond c x y) Q s:=by
 cases he:ev s.slots c<;>rw[he]at h<;>simp at h;rename_i b;rw[he]at ht hf;exact RZ_ he (fun hb=>ht hb) (fun hb=>hf hb)
attribute [simp] UJ_ RH_ Mc_ Wt BQ LU Ql strOf GI BG_ Wq Qk BH_ Ib_ SX_ Py_ iE JP Mh upE OC DZ Hw NT UA Ux KW Gz_ freezeL freezeS Pe_ GH_ GG_ SU_ Bk_ Kg_ NS okR Al_ Te XR Vp eX ok3 Am_ JG iK LQ okO FY_ Mm Cv OL PH ER_ LI UJ Ps Hw_ uB Fi_ aO
attribute [simp] mx AV BK BX Ld
@[simp] theorem Tj_ {l:List (List DVal)} {k:Nat} (h:BK l=0):BK (l.take k)=0:=Nat.le_zero.1 (h▸Ix k l)
@[simp] theorem Tk_ {l:List (List DVal)} {k:Nat} (h:BK l=0):BK (l.drop k)=0:=Nat.le_zero.1 (h▸Iy k l)
@[simp] theorem UC_ : List.range 3=[0,1,2]:=rfl
@[simp] theorem UB_ : List.range 4=[0,1,2,3]:=rfl
@[simp] theorem UA_ : List.range 5=[0,1,2,3,4]:=rfl
@[simp] theorem Uz_ : List.range 6=[0,1,2,3,4,5]:=rfl
theorem St.out {own own':List Ent} {loc:Nat->Loc} {M:List Nat} {h:Array Obj} (ρ:List (Nat×Nat×Nat)) (S:St own loc M h) (hρ:(ρ.map (·.2.1)).Nodup/\(ρ.map (·.1)).Nodup)
  (ho:OL own (Cv own ρ) ρ=some own') (hk:PH own ρ) :
  ∃loc',St own' loc' M h/\(∀b∈Ad own' loc',b∈Ad own loc)/\(∀x∈own',∃i e,(i,x.id,x.r)∈ρ/\Ax own i=some e/\loc' x.id=loc i/\(x.r=1\/(x.r=0/\i=x.id/\e.r=0))) /\
   (∀d v,iK d->rd (Aj own loc) (Ad own loc++M) h d v->rd (Aj own' loc') (Ad own' loc'++M) h (JG (Cv own ρ) d) v):=by
 have h2:((ρ.map fun p=>(p.1,p.2.1)).map (·.2)).Nodup:=by rw[cF0];exact hρ.1
 have cA:∀i j v,(i,j,v)∈ρ->loc ((Cg (ρ.map fun p=>(p.1,p.2.1)) j).getD 0)=loc i:=by
  intro i j v hm;rw[Dn h2 (aU0.2 ⟨(i,j,v),hm,rfl⟩)];rfl
 obtain⟨hm,fL⟩:=PI ho
 have hx:∀x∈own',∃i e,(i,x.id,x.r)∈ρ/\Ax own i=some e/\x.obj=LQ (Cv own ρ) e.obj:=by
  intro x hx;obtain⟨i,j,v,e,h1,h2,rfl⟩:=hm x hx;exact⟨i,e,h1,h2,rfl⟩
 have hnd:(own'.map (·.id)).Nodup:=by rw[fL];exact hρ.1
 have fO:Ad own' (fun j=>loc ((Cg (ρ.map fun p=>(p.1,p.2.1)) j).getD 0))=Ad (own'.map fun x=>⟨(Cg (ρ.map fun p=>(p.1,p.2.1)) x.id).getD 0,0,x.obj⟩) loc:=by
  simp[Ad,List.flatMap_map]
 have cZ:((own'.map fun x=>(⟨(Cg (ρ.map fun p=>(p.1,p.2.1)) x.id).getD 0,0,x.obj⟩:Ent)).map (·.id)).Nodup:=by
  rw[cF0]
  have:own'.map ((·.id)∘fun x=>(⟨(Cg (ρ.map fun p=>(p.1,p.2.1)) x.id).getD 0,0,x.obj⟩:Ent))=ρ.map (·.1):=by
   have e1:own'.map ((·.id)∘fun x=>(⟨(Cg (ρ.map fun p=>(p.1,p.2.1)) x.id).getD 0,0,x.obj⟩:Ent))=(own'.map (·.id)).map (fun j=>(Cg (ρ.map fun p=>(p.1,p.2.1)) j).getD 0):=by
    rw[cF0];rfl
   rw[e1,fL,cF0];refine cR0 fun p hp=> ?_
   simp only[Function.comp_def];rw[Dn h2 (aU0.2 ⟨p,hp,rfl⟩)];rfl
  rw[this];exact hρ.2
 have wR:∀b∈Ad own' (fun j=>loc ((Cg (ρ.map fun p=>(p.1,p.2.1)) j).getD 0)),b∈Ad own loc:=by
  intro b hb;obtain⟨x,qU,hb⟩:=bV0.1 hb;obtain⟨i,e,h1,h2,_⟩:=hx x qU;simp only[cA i _ _ h1]at hb;obtain⟨k1,k2⟩:=AN h2;rw[<-k2]at hb;exact Bw k1 hb
 have hM:∀b,b∈Ad own' (fun j=>loc ((Cg (ρ.map fun p=>(p.1,p.2.1)) j).getD 0))++M->b∈Ad own loc++M:=by
  intro b hb
  rcases aI0.1 hb with hb | hb
  ·exact aS0 _ (wR b hb)
  ·exact aV0 _ hb
 have W:Weak (Aj own loc) (Aj own' fun j=>loc ((Cg (ρ.map fun p=>(p.1,p.2.1)) j).getD 0)) (Ad own loc++M) (Ad own' (fun j=>loc ((Cg (ρ.map fun p=>(p.1,p.2.1)) j).getD 0))++M) h h 0 :=
  ⟨fun id r l hr=>by omega,fun b o _ (_:IZ o=true) ho=>ho,fun b o hb (_:IZ o=true) _ hm=>hb (hM b hm)⟩
 have L:IY (Aj own loc) (Aj own' fun j=>loc ((Cg (ρ.map fun p=>(p.1,p.2.1)) j).getD 0)) (Cv own ρ):=by
  intro i r p lc hp hl;obtain⟨e,h1,h2,h3⟩:=Lb hp;obtain⟨e0,_,g1,_,g3⟩:=Cj hl;obtain⟨k1,k2⟩:=AN h2;rw[<-h3,<-k2,Ba S.nd k1,g3,cA i p.1 p.2 h1,k2]
 refine⟨fun j=>loc ((Cg (ρ.map fun p=>(p.1,p.2.1)) j).getD 0),⟨hnd,?_,fun b hb=>S.ap b (wR b hb),fun b hb=>S.lt b (hM b hb),?_⟩,wR,?_,fun d v hd hr=>TJ W L hd hr⟩
 ·rw[fO];refine IH S.bl _ cZ fun e he=> ?_
  obtain⟨x,qU,rfl⟩:=aU0.1 he;obtain⟨i,e,h1,yU,_⟩:=hx x qU;simp only[Dn h2 (aU0.2 ⟨_,h1,rfl⟩),cC0];exact⟨e,AN yU⟩
 ·intro x qU;obtain⟨i,e,h1,yU,h3⟩:=hx x qU;obtain⟨e',h4,h5,_⟩:=Nt hk i _ _ h1;rw[yU]at h4;simp only[aA0]at h4;subst h4;obtain⟨k1,k2⟩:=AN yU;rw[h3];exact NO W L (l:=loc i) h5 (cA i _ _ h1) (fun b o _ ho=>ho) (by have:=S.ok e k1;rwa[k2]at this)
 ·intro x qU;obtain⟨i,e,h1,yU,h3⟩:=hx x qU;obtain⟨e',h4,_,h5⟩:=Nt hk i _ _ h1;rw[yU]at h4;simp only[aA0]at h4;subst h4;exact⟨i,e,h1,yU,cA i _ _ h1,h5⟩
def Up : List Ent->Prop
 | []=>True
 | e::t=>(match e.obj with
  | .row _ _ bs es=>es.length*bs<=150000000000000/\es.length<=maxLen/\wfR es
  | .box cs=>Gj cs
  | .map ks vs=>Gj ks/\Gj vs
  | .abs _=>True)/\Up t
theorem Sn_ {own:List Ent} {loc:Nat->Loc} {M:List Nat} {h:Array Obj} (S:St own loc M h):Up own:=by
 have key:∀l:List Ent,(∀e∈l,e∈own)->Up l:=by
  intro l
  induction l with
  | nil=>intro _;trivial
  | cons e t ih =>
   intro hm;refine⟨?_,ih fun x hx=>hm x (aE0 _ hx)⟩;have hk:=S.ok e (hm e aF0)
   cases qA:e.obj with
   | box cs=>rw[qA]at hk;obtain⟨b,arr,ty,_,_,_,h4⟩:=hk;exact iA cs arr 0 h4
   | row et k bs es =>
    rw[qA]at hk;obtain⟨h0,⟨rfl,_⟩ | ⟨b,arr,cap,_,_,_,h4,h5,_,h7⟩⟩:=hk
    ·exact⟨by simp,by simp,by simp[wfR]⟩
    ·exact⟨h0,Nat.le_trans h4 h5,FI_ _ _ _ _ h7⟩
   | map ks vs=>rw[qA]at hk;obtain⟨b,es,clk,_,_,_,h4,h5⟩:=hk;exact⟨Ip _ _ h4,Ip _ _ h5⟩
   | abs A=>trivial
 exact key own fun _ h=>h
theorem Gi (ids:List Nat) (ρ:List (Nat×Nat×Nat)) {P:Program} {f:FuncId} {fn:Func} {c:Code} {args:List DVal} {own own':List Ent} {d:DVal} (hf:P.funcs[f]? =some fn) (hb:fn.body=some c) (zZ:Enters P f) (qX:args.length<=fn.ntmps)
  (hρ:(ρ.map (·.2.1)).Nodup/\(ρ.map (·.1)).Nodup) (hv:own'.all (fun e=>decide (e.r<=1))=true)
  (h:Gj args->Up own->∀B:Base,B.nt=fn.ntmps/\B.ro=none->DW P B c (ER_ P fn ids ρ d own') ⟨Ak args 0,own⟩):AS P (.func f) args own d own':=by
 refine⟨fun e he=>by simpa using bA0.1 hv e he,zZ,fun M w loc vs S hr=> ?_⟩
 have key:∀B:Base,B.nt=fn.ntmps/\B.ro=none->DW P B c (MH_ P fn fun s d0=>iK d0/\wk (JG (Cv s.own ρ) d0) d/\OL s.own (Cv s.own ρ) ρ=some own'/\PH s.own ρ) ⟨Ak args 0,own⟩:=by
  intro B hB a w loc R;refine wpIn_mono (h (Ip _ _ hr) (Sn_ S) B hB a w loc R) ?_;rintro e a' w' ⟨s',loc',hq,R'⟩;obtain⟨loc'',R''⟩:=Sub.freezeL ids s' a' w' loc' R';refine⟨freezeL s' ids,loc'',?_,R''⟩
  cases e<;>simp only[ER_]at hq<;>first
   |(split at hq
     ·rename_i d0 bN;exact⟨d0,bN,hq⟩
     ·exact hq.elim)
   | exact hq.elim
 refine Rc (N:=1) (Nat.le_refl 1) hf hb zZ qX S (fun _ _ _=>trivial) hr key ?_;intro s loc' w' d0 v ⟨hd,hw,ho,hk⟩ S' hu wV yQ zK;obtain⟨loc1,S1,h1,h2,h3⟩:=S'.out ρ hρ ho hk;refine⟨loc1,S1,hu,fun b hb=>wV b (h1 b hb),fun x hx qV=> ?_,xS hw (h3 d0 v hd zK)⟩;obtain⟨i,e,g1,g2,g3,g4⟩:=h2 x hx
 rcases g4 with g4 | ⟨g4,g5,g6⟩
 ·omega
 ·obtain⟨k1,k2⟩:=AN g2;have:=yQ e k1 (by omega);rw[k2,g6]at this;rw[g3,g4,<-g5];exact this
theorem EU_ (ids:List Nat) (ρ:List (Nat×Nat×Nat)) {P:Program} {f:FuncId} {fn:Func} {c:Code} {args:List DVal} {own own':List Ent} {d:DVal} (hf:P.funcs[f]? =some fn) (hb:fn.body=some c) (zZ:Enters P f) (qX:args.length<=fn.ntmps)
  (hρ:(ρ.map (·.2.1)).Nodup/\(ρ.map (·.1)).Nodup) (hv:own'.all (fun e=>decide (e.r<=1))=true)
  (h:Gj args->∀B:Base,B.nt=fn.ntmps/\B.ro=none->DW P B c (ER_ P fn ids ρ d own') ⟨Ak args 0,own⟩):AS P (.func f) args own d own' :=
 Gi ids ρ hf hb zZ qX hρ hv fun qJ _=>h qJ
theorem AP (ρ ν:List (Nat×Nat)) {P:Program} {g:FuncId} {args args0:List DVal} {own own0 own0':List Ent} {d0:DVal} {K:ContE} (hS:AS P (.func g) args0 own0 d0 own0')
  (wK:OL own (Cv own (Ff ρ)) (Ff ρ)=some own0/\lO own ρ/\(iJ args/\aE (args.map (JG (Cv own (Ff ρ)))) args0)/\(((ρ++ν).map (·.1)).Nodup/\(ρ.map (·.2)).Nodup)/\iI own0'/\iK d0)
  (hk:∀r,match KB (EN own ρ ν r) own0' with
   | some l=>((BE own ((ρ++ν).map (·.1))++l).map (·.id)).Nodup/\K.f (JG (EN own ρ ν r) d0) (BE own ((ρ++ν).map (·.1))++l)
   | none=>False):Bv P g args own K:=by
 intro r;have h:=hk r
 split at h
 ·rename_i l hl;exact⟨_,_,Tw ρ ν hS wK.1 wK.2.1 wK.2.2.1 wK.2.2.2.1 hl wK.2.2.2.2.1 wK.2.2.2.2.2 h.1,h.2⟩
 ·exact h.elim
attribute [simp] Ff Cg EN KB BE iI iJ lO LY_ RB_ RG_ XF XD AZ CS
end Go.Dm
end
section
namespace Go.Proofs.Wy
open Go Go.Dm Tryz
variable [DMode]
attribute [local irreducible] DW Bs Bv
structure Sym where
 label:Bool
 n:Int
 deriving DecidableEq
def AA (s:Sym):List DVal:=[.bool s.label,.int .i64 s.n]
abbrev AY (l:List Sym):DVal:= .sl 2 16 (l.map AA)
structure Prod where
 head:Int
 body:List Sym
 deriving DecidableEq
def Ah (p:Prod):List DVal:=[.int .i64 p.head,AY p.body]
abbrev Bq (l:List Prod):DVal:= .sl 2 32 (l.map Ah)
structure Cnf where
 nts:Int
 prods:List Prod
 deriving DecidableEq
def Ar (c:Cnf):List DVal:=[.int .i64 c.nts,Bq c.prods]
theorem mxd : Tryz.prog.follows .mixedOrders=true:=by kernel_rfl
theorem Jb {α:Type} (f:α->List DVal) (h:∀x,AV (f x)=0) (l:List α):BK (l.map f)=0:=by
 induction l with
 | nil=>rfl
 | cons x l ih=>simp[BK,h,ih]
@[simp] theorem Ri_ (s:Sym):AV (AA s)=0:=by simp[AA,AV,mx]
@[simp] theorem Oo_ (l:List Sym):BK (l.map AA)=0:=Jb _ Ri_ l
@[simp] theorem Oq_ (p:Prod):AV (Ah p)=0:=by simp[Ah,AV,mx]
@[simp] theorem Lk_ (l:List Prod):BK (l.map Ah)=0:=Jb _ Oq_ l
@[simp] theorem Uu_ (c:Cnf):AV (Ar c)=0:=by simp[Ar,AV,mx]
theorem aH {α:Type} {f:α->List DVal}:∀{l:List α} {k:Nat} {x:α},wfR (l.map f)->l[k]? =some x->Gj (f x)
 | a::l,0,x,h,hx=>by
  simp only[bF0,aA0]at hx;subst hx;simp only[List.map_cons,wfR]at h;exact h.1
 | a::l,k+1,x,h,hx=>by
  simp only[List.map_cons,wfR]at h;exact aH h.2 (by simpa using hx)
def Yp (l:List Sym):Prop:=l.length*16<=150000000000000/\l.length<=9223372036854775807/\∀s∈l,MF .i64 s.n
def Na_ (p:Prod):Prop:=MF .i64 p.head/\Yp p.body
def aK (l:List Prod):Prop:=l.length*32<=150000000000000/\l.length<=9223372036854775807/\∀p∈l,Na_ p
def uN (c:Cnf):Prop:=MF .i64 c.nts/\aK c.prods
theorem HC_ {α:Type} {f:α->List DVal} {l:List α} {x:α} (h:wfR (l.map f)) (hx:x∈l):Gj (f x):=by
 obtain⟨k,hk,rfl⟩:=bJ0 hx;exact aH h (aD0 hk)
theorem Us {l:List Sym} (h:Dq (AY l)):Yp l:=by
 simp only[Dq,aJ0,maxLen]at h;exact⟨h.1,by omega,fun s hs=>by have:=HC_ h.2.2 hs;simp only[AA,Gj,Dq]at this;exact this.2.1⟩
theorem MZ_ {p:Prod} (h:Gj (Ah p)):Na_ p:=by
 simp only[Ah,Gj,Dq]at h;exact⟨h.1,Us (by simp only[Dq];exact h.2.1)⟩
theorem aJ {l:List Prod} (h:Dq (Bq l)):aK l:=by
 simp only[Dq,aJ0,maxLen]at h;exact⟨h.1,by omega,fun p hp=>MZ_ (HC_ h.2.2 hp)⟩
theorem Ut {c:Cnf} (h:Gj (Ar c)):uN c:=by
 simp only[Ar,Gj]at h;exact⟨by simpa[Dq]using h.1,aJ h.2.1⟩
theorem Ai {α:Type} {l:List α} {k:Nat} (h:k<l.length):∃x,l[k]? =some x/\l[k]=x/\x∈l:=⟨l[k],aD0 h,rfl,cY0 h⟩
end Go.Proofs.Wy
end
section
namespace Go.Proofs.Wy
open Go Go.Dm Tryz
variable [DMode]
instance : LawfulBEq ByteArray where
 eq_of_beq {a b} h:=by
  rw[<-Qm]at h;have h:=eq_of_beq h;cases a;cases b;simp only at h;rw[h]
 rfl {a}:=by rw[<-Qm];exact beq_self_eq_true _
structure Edge where
 fr:ByteArray
 lb:ByteArray
 to:ByteArray
 deriving DecidableEq
structure Edges where
 nodes:List ByteArray
 edges:List Edge
 deriving DecidableEq
def AG (s:ByteArray):List DVal:=[.str s]
def AO (e:Edge):List DVal:=[.str e.fr,.str e.lb,.str e.to]
abbrev AJ (l:List ByteArray):DVal:= .sl 1 16 (l.map AG)
abbrev Cq (l:List Edge):DVal:= .sl 3 48 (l.map AO)
def BU (g:Edges):List DVal:=[AJ g.nodes,Cq g.edges]
@[simp] theorem Rj_ (s:ByteArray):AV (AG s)=0:=by simp[AG,AV,mx]
@[simp] theorem Os_ (s:Edge):AV (AO s)=0:=by simp[AO,AV,mx]
@[simp] theorem Op_ (l:List ByteArray):BK (l.map AG)=0:=Jb _ Rj_ l
@[simp] theorem Ut_ (l:List Edge):BK (l.map AO)=0:=Jb _ Os_ l
@[simp] theorem UI_ (g:Edges):AV (BU g)=0:=by simp[BU,AV,mx]
def Br (a b:ByteArray):Bool:=Op.bytesLess a.data.toList b.data.toList
theorem PQ_ : ∀l:List UInt8,Op.bytesLess l l=false
 | []=>rfl
 | a::l=>by simp[Op.bytesLess,PQ_ l]
theorem BX_ : ∀{a b c:List UInt8},Op.bytesLess a b=true->Op.bytesLess b c=true->Op.bytesLess a c=true
 | _,[],_,h,_=>by cases ‹List UInt8› <;>simp[Op.bytesLess]at h
 | _,_::_,[],_,h=>by simp[Op.bytesLess]at h
 | [],_::_,_::_,_,_=>by simp[Op.bytesLess]
 | x::a,y::b,z::c,h1,h2=>by
  simp only[Op.bytesLess,dI0,aM0,decide_eq_true_eq,beq_iff_eq]at h1 h2 |-
  rcases h1 with h1 | ⟨rfl,h1⟩
  ·rcases h2 with h2 | ⟨rfl,h2⟩
   ·exact .inl (UInt8.lt_trans h1 h2)
   ·exact .inl h1
  ·rcases h2 with h2 | ⟨rfl,h2⟩
   ·exact .inl h2
   ·exact .inr ⟨rfl,BX_ h1 h2⟩
theorem PP_ : ∀{a b:List UInt8},Op.bytesLess a b=false->Op.bytesLess b a=false->a=b
 | [],[],_,_=>rfl
 | [],_::_,h,_=>by simp[Op.bytesLess]at h
 | _::_,[],_,h=>by simp[Op.bytesLess]at h
 | x::a,y::b,h1,h2=>by
  simp only[Op.bytesLess,Bool.or_eq_false_iff,Bool.and_eq_false_iff,decide_eq_false_iff_not,beq_eq_false_iff_ne]at h1 h2;have fY:x=y:=UInt8.le_antisymm (UInt8.not_lt.1 h2.1) (UInt8.not_lt.1 h1.1);subst fY;rw[PP_ (h1.2.resolve_left (by simp)) (h2.2.resolve_left (by simp))]
theorem Ef (a:ByteArray):Br a a=false:=PQ_ _
theorem DI {a b c:ByteArray} (h1:Br a b=true) (h2:Br b c=true):Br a c=true:=BX_ h1 h2
theorem Ic {a b:ByteArray} (h:a.data.toList=b.data.toList):a=b:=by
 obtain⟨⟨x⟩⟩:=a;obtain⟨⟨y⟩⟩:=b;simp only at h;subst h;rfl
theorem JY {a b:ByteArray} (h1:Br a b=false) (h2:Br b a=false):a=b:=Ic (PP_ h1 h2)
theorem UK {a b:ByteArray} (h:Br a b=true):Br b a=false:=by
 cases hb:Br b a
 ·rfl
 ·have:=DI h hb;rw[Ef]at this;simp at this
theorem NB_ {a b:ByteArray} (h:Br a b=true):a≠b:=fun e=>by subst e;rw[Ef]at h;simp at h
def HK (a b:ByteArray):Int:=if Br a b then -1 else if Br b a then 1 else 0
theorem YE {a b:ByteArray}:HK a b=0↔a=b:=by
 unfold HK
 constructor
 ·intro h
  split at h
  ·simp at h
  ·split at h
   ·simp at h
   ·rename_i h1 h2;exact JY (by simpa using h1) (by simpa using h2)
 ·rintro rfl;rw[Ef];simp
def IP (a b:Edge):Bool:=if a.fr≠b.fr then Br a.fr b.fr else if a.lb≠b.lb then Br a.lb b.lb else Br a.to b.to
def LZ_ (a b:Edge):Int:=if HK a.fr b.fr≠0 then HK a.fr b.fr else if HK a.lb b.lb≠0 then HK a.lb b.lb else HK a.to b.to
theorem DX {a b:ByteArray}:HK a b<0↔Br a b=true:=by
 unfold HK
 split
 ·simp_all
 ·split<;>simp_all
theorem BI_ {a b:Edge}:LZ_ a b<0↔IP a b=true:=by
 unfold LZ_ IP;simp only[ne_eq,YE,ite_not]
 split
 ·split
  ·exact DX
  ·exact DX
 ·exact DX
end Go.Proofs.Wy
end
