/- Parts of a proof, laid together: EnM. -/
import Derived.Test.YtbpmiknobocjoaaGreatqAp14
set_option linter.unusedSimpArgs false
set_option maxHeartbeats 8000000
set_option linter.unusedVariables false
set_option linter.unusedSectionVars false
section
namespace Go.Dm
variable [DMode]
structure EffSpec (ow l1 l2:List Nat) (ops:Array Oper):Prop where
 two:∀(k i:Nat) (o o':Oper),ops[k]? =some o->ops[i]? =some o'->Bw ow o=true->k=i\/(k<i/\((DL ops.toList []).getD i 0).testBit k=true)\/(i<k/\((DL ops.toList []).getD k 0).testBit i=true) \/
  (Bw ow o'=false/\(((l2.contains i=true\/(l1.contains i=true/\Da o=true))\/((l1.contains i=false/\iW o'=true)/\Dp o=true))\/((l1.contains i=false/\Dp o=true)/\VT l2 k i=true)))
theorem Wm {ow l1 l2:List Nat} {ops:Array Oper} (h:Ei ow l1 l2 ops=true):EffSpec ow l1 l2 ops:=by
 unfold Ei at h;simp only[aL0,aZ0]at h;obtain⟨_,h⟩:=h
 have mem:∀(k:Nat) (o:Oper),ops[k]? =some o->(o,k)∈ops.toList.zipIdx:=by
  intro k o hk;rw[List.mem_zipIdx_iff_getElem?];simpa using hk
 refine⟨fun k i o o' hk hi he=> ?_⟩;have h1:=h (o,k) (mem k o hk);simp only[dB0,he,Bool.not_true,aQ0,false_or,aZ0]at h1;have h2:=h1 (o',i) (mem i o' hi);simp only[dB0,aL0,beq_iff_eq,decide_eq_true_eq,Bool.not_eq_true']at h2
 rcases h2 with ((h2 | h2) | h2) | h2
 ·exact .inl h2
 ·exact .inr (.inl h2)
 ·exact .inr (.inr (.inl h2))
 ·exact .inr (.inr (.inr h2))
theorem YU {P:Program} {o:Oper} {l:Operand->DVal} {own:List Ent} {r:Nat} {x:ERes} (h:JD P o l own r=some x) :
  ∃id r' obj,x.own=upE own id r' obj/\(Da o=true->(∃et k bs es,obj= .row et k bs es)/\(o.dst=some id\/∃e,Ah own id=some e/\FM e=false)):=by
 obtain⟨dst,op,type,Fx,after,guard⟩:=o;unfold JD at h;simp only at h;cases op<;>simp only[reduceCtorEq]at h
 case box t y =>
  split at h
  ·simp only[aA0]at h;subst h;exact⟨_,_,_,rfl,by simp[Da]⟩
  ·simp at h
 case buildSlice t len ps =>
  split at h
  ·simp only[aA0]at h;subst h;exact⟨_,_,_,rfl,by simp[Da]⟩
  ·simp at h
 case alloc t =>
  split at h
  ·simp only[aA0]at h;subst h;exact⟨_,_,_,rfl,by simp[Da]⟩
  ·simp at h
 case store t ad y =>
  split at h
  ·split at h
   ·split at h
    ·simp only[aA0]at h;subst h;exact⟨_,_,_,rfl,by simp[Da]⟩
    ·simp at h
   ·simp at h
  ·unfold Fl at h
   split at h
   ·split at h
    ·split at h
     ·simp only[aA0]at h;subst h;exact⟨_,_,_,rfl,by simp[Da]⟩
     ·simp at h
    ·simp at h
   ·simp at h
  ·simp at h
 case makeSlice t lo co =>
  unfold YV at h
  split at h
  ·simp only[aA0]at h;subst h;exact⟨_,_,_,rfl,by simp[Da]⟩
  ·simp at h
 case makeMap t rv =>
  split at h
  ·simp only[aA0]at h;subst h;exact⟨_,_,_,rfl,by simp[Da]⟩
  ·simp at h
 case mapUpdate t m k x =>
  split at h
  ·split at h
   ·split at h
    ·simp only[aA0]at h;subst h;exact⟨_,_,_,rfl,by simp[Da]⟩
    ·simp at h
   ·simp at h
  ·simp at h
 case call c =>
  obtain⟨cal,args,ats⟩:=c;cases cal<;>simp only[reduceCtorEq]at h;rename_i b;cases b<;>simp only[reduceCtorEq]at h
  case append =>
   unfold Nh at h
   split at h
   ·split at h
    ·rename_i i k bs et _ _
     split at h
     ·rename_i x gJ
      split at h
      ·rename_i id es hdest;simp only[aA0]at h;subst h;refine⟨_,_,_,rfl,fun _=>⟨⟨_,_,_,_,rfl⟩,?_⟩⟩
       rcases Hq hdest with ⟨_,rfl,_⟩ | ⟨i2,e0,es0,m,rfl,vL,qN,_⟩
       ·exact .inl rfl
       ·exact .inr ⟨e0,vL,by unfold FM;rw[qN]⟩
      ·simp at h
     split at h
     ·rename_i id es k2 es2 hdest wH;simp only[aA0]at h;subst h;refine⟨_,_,_,rfl,fun _=>⟨⟨_,_,_,_,rfl⟩,?_⟩⟩
      rcases Hq hdest with ⟨_,rfl,_⟩ | ⟨i2,e0,es0,m,rfl,vL,qN,_⟩
      ·exact .inl rfl
      ·exact .inr ⟨e0,vL,by unfold FM;rw[qN]⟩
     ·simp at h
    ·simp at h
   ·simp at h
  case copy =>
   unfold YW at h
   split at h
   ·split at h
    ·simp only[aA0]at h;subst h;exact⟨_,_,_,rfl,by simp[Da]⟩
    ·simp at h
   ·simp at h
  case clear =>
   unfold RY at h
   split at h
   ·split at h
    ·split at h
     ·split at h
      ·split at h
       ·simp only[aA0]at h;subst h;exact⟨_,_,_,rfl,by simp[Da]⟩
       ·simp at h
      ·simp at h
     ·split at h
      ·split at h
       ·simp only[aA0]at h;subst h;exact⟨_,_,_,rfl,by simp[Da]⟩
       ·simp at h
      ·simp at h
     ·simp at h
    ·simp at h
   ·simp at h
  case delete =>
   unfold Ng at h
   split at h
   ·split at h
    ·split at h
     ·split at h
      ·simp only[aA0]at h;subst h;exact⟨_,_,_,rfl,by simp[Da]⟩
      ·simp at h
     ·simp at h
    ·simp at h
   ·simp at h
theorem TS {own:List Ent} {id r:Nat} {obj:DObj} (h:(own.map (·.id)).Nodup):((upE own id r obj).map (·.id)).Nodup:=by
 simp only[upE,List.map_cons,cV0];refine⟨fun hm=> ?_,Dy h⟩;obtain⟨e,he,h1⟩:=aT0.1 hm;exact(Bv.1 he).2 h1
theorem xP {P:Program} {o:Oper} {l:Operand->DVal} {own:List Ent} {r:Nat} {d:DVal} {own':List Ent} (h:PF P o l own r d own') (nd:(own.map (·.id)).Nodup):(own'.map (·.id)).Nodup:=by
 rcases h with ⟨x,hx,_,_,rfl⟩ | ⟨c,g,args,_,_,hS⟩ | ⟨c,id,r',args,e0,l0,e,A,A',b,_,_,_,_,_,_,_,_,_,_,rfl⟩
 ·obtain⟨id,r',obj,h6,_⟩:=YU hx;rw[h6];exact TS nd
 ·exact hS.2.1
 ·exact TS nd
theorem xQ {P:Program} {o:Oper} {l:Operand->DVal} {own:List Ent} {r n:Nat} {d:DVal} {own':List Ent} (h:PF P o l own r d own') (ho:GY own<=n) (hl:∀y∈o.op.operands,mx (l y)<=n) (hr:n<=r):mx d<=r+1/\GY own'<=r+1:=by
 rcases h with ⟨x,hx,hp,rfl,rfl⟩ | ⟨c,g,args,_,_,hS⟩ | ⟨c,id,r',args,e0,l0,e,A,A',b,_,_,_,_,_,_,_,_,_,rfl,rfl⟩
 ·exact FW_ hx hp ho hl hr
 ·exact hS.2.2.1 (by omega)
 ·refine⟨by simp[mx],Nat.le_trans (CU _ _ _ _) ?_⟩;simp only[Em];omega
theorem Ew_ {P:Program} {o:Oper} {l:Operand->DVal} {own:List Ent} {r:Nat} {x:ERes} (h:JD P o l own r=some x) (ha:Da o=true) (qG:LO own o=true) (nd:(own.map (·.id)).Nodup) {e:Ent} (hb:FM e=true) :
  e∈own↔e∈x.own:=by
 obtain⟨id,r',obj,hx,h1⟩:=YU h;obtain⟨⟨et,k,bs,es,rfl⟩,h2⟩:=h1 ha;rw[hx];unfold upE;rw[aK0,Bv]
 constructor
 ·intro he;refine .inr ⟨he,fun hid=> ?_⟩;have hf:=BJ nd he;rw[hid]at hf
  rcases h2 with h2 | ⟨e',h2,h3⟩
  ·unfold LO at qG;rw[ha,h2]at qG;simp only[hf,hb]at qG;simp at qG
  ·rw[hf]at h2;simp only[aA0]at h2;subst h2;rw[hb]at h3;simp at h3
 ·rintro (rfl | ⟨he,_⟩)
  ·simp[FM]at hb
  ·exact he
theorem sV {P:Program} {o:Oper} {l:Operand->DVal} {own:List Ent} {r:Nat} {d:DVal} {own':List Ent} (h:PF P o l own r d own') (ha:Da o=true) (qG:LO own o=true) (nd:(own.map (·.id)).Nodup) {e:Ent} (hb:FM e=true) :
  e∈own↔e∈own':=by
 rcases h with ⟨x,hx,_,_,rfl⟩ | ⟨c,g,args,wD,hc,hS⟩ | ⟨c,id,r',args,e0,l0,e1,A,A',b,wD,hc,_⟩
 ·exact Ew_ hx ha qG nd hb
 ·unfold Da at ha;rw[wD]at ha;unfold callee at hc
  split at hc
  ·rename_i f hf;simp only[hf]at ha;simp at ha
  ·simp at hc
 ·unfold Da at ha;rw[wD]at ha;unfold Vp at hc
  split at hc
  ·rename_i f hf;simp only[hf]at ha;simp at ha
  ·simp at hc
theorem Qw {d:DVal} (h:∀c d',d= .sel c d'->c=true):mx (JI d)=mx d:=by
 cases d<;>try rfl
 rename_i c d';have:=h c d' rfl;subst this;simp[JI,mx]
theorem PP {e:Operand->DVal}:∀{l:List Operand},FQ true e l->∀x∈l,∀c d',e x= .sel c d'->c=true
 | [],_,x,hx,_,_,_=>by cases hx
 | y::l,h,x,hx,c,d',he=>by
  simp only[FQ]at h
  rcases aK0.1 hx with rfl | hx
  ·have h1:=h.1;rw[he]at h1;exact h1 rfl
  ·exact PP h.2 x hx c d' he
theorem RW {ow:List Nat} {o:Oper} {c:Bool} {e:Operand->DVal} (he:Bw ow o=true) (h:Kb c e o.op):FQ c e o.op.operands.toList:=by
 unfold Kb at h
 split at h
 ·rename_i wD;unfold Bw at he;rw[wD]at he;simp at he
 ·exact h
theorem Rel.selTrue {B:Base} {l:List (Nat×DVal)} {own:List Ent} {a:Act} {w:World} {loc:Nat->Loc} {dst:Option Nat} {d:DVal} (R:Rel B ⟨putS l dst d,own⟩ a w loc):Rel B ⟨putS l dst (.sel true d),own⟩ a w loc where
 st:=R.st
 upd:=R.upd
 new:=R.new
 ver:=R.ver
 sl:=by
  intro i;have h:=R.sl i
  cases dst with
  | none=>exact h
  | some j =>
   simp only[putS,getS]at h |-
   split
   ·rename_i hj;rw[if_pos hj]at h;simp only[rd];exact⟨fun _=>h,fun h'=>by simp at h'⟩
   ·rename_i hj;rw[if_neg hj]at h;exact h
 nt:=R.nt
 df:=R.df
theorem ET_ {P:Program} {ops:Array Oper} {o:Oper} {s:DS} {d:DVal} {own':List Ent} {r:Nat} (h:EQ P ops o s d own' r) (nd:(s.own.map (·.id)).Nodup):(own'.map (·.id)).Nodup:=by
 unfold EQ at h
 split at h
 ·exact xP h nd
 ·obtain⟨_,_,⟨_,d0,_,h⟩ | ⟨_,_,rfl⟩⟩:=h
  ·exact xP h nd
  ·exact nd
theorem BT_ {P:Program} {ops:Array Oper} {o:Oper} {s:DS} {d:DVal} {own':List Ent} {r:Nat} (h:EQ P ops o s d own' r) (ha:Da o=true) (qG:LO s.own o=true) (nd:(s.own.map (·.id)).Nodup) {e:Ent} (hb:FM e=true):e∈s.own↔e∈own':=by
 unfold EQ at h
 split at h
 ·exact sV h ha qG nd hb
 ·obtain⟨_,_,⟨_,d0,_,h⟩ | ⟨_,_,rfl⟩⟩:=h
  ·exact sV h ha qG nd hb
  ·exact Iff.rfl
theorem aF {P:Program} {ops:Array Oper} {o:Oper} {s s':DS} {d:DVal} {own':List Ent} {r:Nat} (bE:s.own=s'.own) (kW:∀x∈o.op.operands,ev s.slots x=ev s'.slots x) (hg:∀j want,o.guard=some (j,want)->BI ops s j=BI ops s' j) (h:EQ P ops o s d own' r):EQ P ops o s' d own' r:=by
 unfold EQ at h |-
 cases yC:o.guard with
 | none =>
  rw[yC]at h;simp only at h |-;rw[<-bE];exact SH kW h
 | some jw =>
  obtain⟨j,want⟩:=jw;rw[yC]at h;simp only at h |-;rw[hg j want yC]at h;obtain⟨h1,h2,h3⟩:=h;refine⟨h1,QX kW h2,?_⟩
  rcases h3 with ⟨h3,d0,h4,h5⟩ | ⟨h3,h4,h5⟩
  ·exact .inl ⟨h3,d0,h4,by rw[<-bE];exact SH (fun x hx=>by unfold Bf;rw[kW x hx]) h5⟩
  ·exact .inr ⟨h3,h4,by rw[h5,bE]⟩
theorem EU_ {P:Program} {ow:List Nat} {ops:Array Oper} {o:Oper} {s:DS} {d:DVal} {own':List Ent} {r n:Nat} (he:Bw ow o=true) (h:EQ P ops o s d own' r) (ho:GY s.own<=n) (hl:Hk s.slots<=n) (hr:n<=r):mx d<=r+1/\GY own'<=r+1:=by
 unfold EQ at h
 split at h
 ·exact xQ h ho (fun y _=>Nat.le_trans (Pa _ y) hl) hr
 ·obtain⟨_,h2,⟨h3,d0,rfl,h⟩ | ⟨_,rfl,rfl⟩⟩:=h
  ·rw[h3]at h2
   have:=xQ h ho (fun y hy=>by
    unfold Bf;rw[Qw (PP (RW he h2) y (by simpa using hy))]
    exact Nat.le_trans (Pa _ y) hl) hr
   refine⟨?_,this.2⟩;simp only[mx];simpa using this.1
  ·exact⟨by simp[mx],by omega⟩
theorem FK.ext {P:Program} {o:Oper} {own own':List Ent} {e e':Operand->DVal} {d:DVal} (h:FK P o own e d) (hx:Mm own own') (he:∀x∈o.op.operands,e x=e' x):FK P o own' e' d:=by
 rcases h with ⟨c,g,args,wD,yL,hp⟩ | ⟨hp,yF⟩
 ·refine .inl ⟨c,g,args,wD,?_,hp⟩;rw[<-Nq (fun x hx=>he x (by rw[wD];exact hx))];exact yL
 ·obtain⟨c1,c2⟩:=Ra (P:=P) (own:=own) o.op he;obtain⟨h1,h2⟩:=HT_ hx o.op (c1.1 hp);exact .inr ⟨h1,by rw[h2,<-c2];exact yF⟩
theorem FK.mx {P:Program} {o:Oper} {own:List Ent} {e:Operand->DVal} {d:DVal} {n:Nat} (h:FK P o own e d) (hn:GY own<=n) (he:∀x∈o.op.operands,mx (e x)<=n):mx d<=n:=by
 rcases h with ⟨c,g,args,wD,yL,hp⟩ | ⟨hp,rfl⟩
 ·rw[hp.2.1];omega
 ·exact HS_ hn o.op he
theorem EK {own:List Ent} {id r:Nat} {obj:DObj}:Ah (upE own id r obj) id=some ⟨id,r,obj⟩:=by simp[upE,Ah]
theorem FZ {own:List Ent} {id r j:Nat} {obj:DObj} (h:j≠id):Ah (upE own id r obj) j=Ah own j:=by
 have hdel:∀own:List Ent,Ah (Bp own id) j=Ah own j:=by
  intro own
  induction own with
  | nil=>rfl
  | cons e t ih =>
   simp only[Bp]
   split
   ·rename_i he;rw[ih];simp only[Ah];rw[if_neg (by omega)]
   ·simp only[Ah];rw[ih]
 unfold upE;simp only[Ah];rw[if_neg (by omega),hdel]
theorem aZ {P:Program} {o:Oper} {l:Operand->DVal} {own:List Ent} {r id:Nat} {x:ERes} (h:JD P o l own r=some x) (ha:Dp o=true) (ht:∀t a y,o.op= .store t a y->IK (l a)=some id) {e:Ent} (he:e.id≠id):e∈own↔e∈x.own:=by
 obtain⟨dst,op,type,Fx,after,guard⟩:=o;unfold Dp at ha;unfold JD at h;simp only at h ha ht
 have up:∀r' obj,e∈own↔e∈upE own id r' obj:=by
  intro r' obj;unfold upE;rw[aK0,Bv]
  constructor
  ·exact fun hh=> .inr ⟨hh,he⟩
  ·rintro (rfl | hh)
   ·exact absurd rfl he
   ·exact hh.1
 cases op<;>simp only[reduceCtorEq,aQ0]at h ha
 case store t a y =>
  have ht:=ht t a y rfl
  split at h
  ·rename_i id' r' off hl;rw[hl]at ht;simp only[IK,aA0]at ht;subst ht
   split at h
   ·split at h
    ·simp only[aA0]at h;subst h;exact up _ _
    ·simp at h
   ·simp at h
  ·rename_i id' r' k i j hl;rw[hl]at ht;simp only[IK,aA0]at ht;subst ht;unfold Fl at h
   split at h
   ·split at h
    ·split at h
     ·simp only[aA0]at h;subst h;exact up _ _
     ·simp at h
    ·simp at h
   ·simp at h
  ·simp at h
theorem TD {P:Program} {o:Oper} {l:Operand->DVal} {own:List Ent} {r id:Nat} {d:DVal} {own':List Ent} (h:PF P o l own r d own') (ha:Dp o=true) (ht:∀t a y,o.op= .store t a y->IK (l a)=some id) {e:Ent} (he:e.id≠id):e∈own↔e∈own':=by
 rcases h with ⟨x,hx,hp,_,rfl⟩ | ⟨c,g,args,wD,_⟩ | ⟨c,id,r',args,e0,l0,e1,A,A',b,wD,_⟩
 ·exact aZ hx ha ht he
 ·simp[Dp,wD]at ha
 ·simp[Dp,wD]at ha
theorem Xg {d:DVal} {id:Nat} (h:IK (JI d)=some id) (hs:∀c d',d≠ .sel c d'):IK d=some id:=by
 cases d<;>simp only[JI]at h<;>first
  | exact h
  | (rename_i c d';exact absurd rfl (hs c d'))
theorem aE {P:Program} {ops:Array Oper} {o:Oper} {s:DS} {d:DVal} {own':List Ent} {r id:Nat} (h:EQ P ops o s d own' r) (ha:Dp o=true) (ht:Qr s.slots o=some id) {e:Ent} (he:e.id≠id):e∈s.own↔e∈own':=by
 have kE:∀(t:TypeId) (a y:Operand),o.op= .store t a y->IK (Bf s.slots a)=some id:=by
  intro t a y wD;unfold Qr at ht;rw[wD]at ht;exact ht
 unfold EQ at h
 split at h
 ·refine TD h ha (fun t a y wD=> ?_) he;have h1:=kE t a y wD;unfold Bf at h1;refine Xg h1 fun c d' hd=> ?_
  rcases h with ⟨x,hx,_⟩ | ⟨c,g,args,cP,_⟩ | ⟨c,id,r',args,e0,l0,e1,A,A',b,cP,_⟩
  ·unfold JD at hx;rw[wD]at hx;simp only at hx;rw[hd]at hx;simp at hx
  ·rw[wD]at cP;simp at cP
  ·rw[wD]at cP;simp at cP
 ·obtain⟨_,_,⟨_,d0,_,h⟩ | ⟨_,_,rfl⟩⟩:=h
  ·exact TD h ha (fun t a y wD=>kE t a y wD) he
  ·exact Iff.rfl
structure LenE (own own':List Ent):Prop where
 l:∀id e et k bs es,Ah own id=some e->e.obj= .row et k bs es->∃e' et' es',Ah own' id=some e'/\e'.r=e.r/\e'.obj= .row et' k bs es'/\es'.length=es.length
 v:∀id e,Ah own id=some e->∃e',Ah own' id=some e'/\e'.r=e.r
theorem LenE.refl (own:List Ent):LenE own own:=⟨fun _ e et _ _ es h1 h2=>⟨e,et,es,h1,rfl,h2,rfl⟩,fun _ e h=>⟨e,h,rfl⟩⟩
theorem LenE.trans {a b c:List Ent} (h1:LenE a b) (h2:LenE b c):LenE a c:=by
 refine⟨fun id e et k bs es g1 g2=> ?_,fun id e g=> ?_⟩
 ·obtain⟨e',et',es',k1,k2,k3,k4⟩:=h1.l id e et k bs es g1 g2;obtain⟨e'',et'',es'',l1,l2,l3,l4⟩:=h2.l id e' et' k bs es' k1 k3;exact⟨e'',et'',es'',l1,l2.trans k2,l3,l4.trans k4⟩
 ·obtain⟨e',k1,k2⟩:=h1.v id e g;obtain⟨e'',l1,l2⟩:=h2.v id e' k1;exact⟨e'',l1,l2.trans k2⟩
theorem LenE.upE {own:List Ent} {id r:Nat} {obj:DObj} {e0:Ent} (h0:Ah own id=some e0) (hr:e0.r=r)
  (h:(∃et et' k bs es es',e0.obj= .row et k bs es/\obj= .row et' k bs es'/\es'.length=es.length)\/(∃c c',e0.obj= .box c/\obj= .box c')):LenE own (upE own id r obj)/\LenE (upE own id r obj) own:=by
 refine⟨⟨?_,fun j e h1=> ?_⟩,?_,fun j e h1=> ?_⟩
 rotate_left
 ·by_cases hj:j=id
  ·subst hj;rw[h0]at h1;simp only[aA0]at h1;subst h1;exact⟨_,EK,hr.symm⟩
  ·exact⟨e,by rw[FZ hj];exact h1,rfl⟩
 rotate_left
 ·by_cases hj:j=id
  ·subst hj;rw[EK]at h1;simp only[aA0]at h1;subst h1;exact⟨e0,h0,hr⟩
  ·exact⟨e,by rw[FZ hj]at h1;exact h1,rfl⟩
 ·intro j e et k bs es h1 h2
  by_cases hj:j=id
  ·subst hj;rw[h0]at h1;simp only[aA0]at h1;subst h1
   rcases h with ⟨et1,et',k1,bs1,es1,es',g1,g2,g3⟩ | ⟨c,c',g1,g2⟩
   ·rw[h2]at g1;simp only[DObj.row.injEq]at g1;obtain⟨rfl,rfl,rfl,rfl⟩:=g1;exact⟨_,et',es',EK,hr.symm,g2,g3⟩
   ·rw[h2]at g1;simp at g1
  ·exact⟨e,et,es,by rw[FZ hj];exact h1,rfl,h2,rfl⟩
 ·intro j e et k bs es h1 h2
  by_cases hj:j=id
  ·subst hj;rw[EK]at h1;simp only[aA0]at h1;subst h1;simp only at h2;subst h2
   rcases h with ⟨et1,et',k1,bs1,es1,es',g1,g2,g3⟩ | ⟨c,c',g1,g2⟩
   ·simp only[DObj.row.injEq]at g2;obtain⟨rfl,rfl,rfl,rfl⟩:=g2;exact⟨e0,et1,es1,h0,hr,g1,g3.symm⟩
   ·simp at g2
  ·exact⟨e,et,es,by rw[FZ hj]at h1;exact h1,rfl,h2,rfl⟩
theorem LenE.filt {own own':List Ent} {f:Ent->Bool} (nd:(own.map (·.id)).Nodup) (h:LenE own own'):LenE (own.filter f) own':=by
 have key:∀id e,Ah (own.filter f) id=some e->Ah own id=some e:=fun id e h1=>by
  obtain⟨g1,g2⟩:=Ar h1;have:=BJ nd (cG0.1 g1).1;rw[g2]at this;exact this
 exact⟨fun id e et k bs es h1 h2=>h.l id e et k bs es (key id e h1) h2,fun id e h1=>h.v id e (key id e h1)⟩
theorem Du_ {P:Program} {o:Oper} {l:Operand->DVal} {own:List Ent} {r:Nat} {x:ERes} (h:JD P o l own r=some x) (hp:x.pre) (ha:Dp o=true):LenE own x.own/\LenE x.own own:=by
 obtain⟨dst,op,type,Fx,after,guard⟩:=o;unfold Dp at ha;unfold JD at h;simp only at h ha;cases op<;>simp only[reduceCtorEq,aQ0]at h ha
 case store t a y =>
  split at h
  ·split at h
   ·rename_i e he
    split at h
    ·rename_i cs qN;simp only[aA0]at h;subst h;exact LenE.upE he hp.1 (.inr ⟨_,_,qN,rfl⟩)
    ·simp at h
   ·simp at h
  ·unfold Fl at h
   split at h
   ·rename_i e he
    split at h
    ·rename_i et k' bs es qN
     split at h
     ·simp only[aA0]at h;subst h;exact LenE.upE he hp.1 (.inl ⟨_,_,_,_,_,_,qN,rfl,by simp⟩)
     ·simp at h
    ·simp at h
   ·simp at h
  ·simp at h
theorem sF {P:Program} {o:Oper} {l:Operand->DVal} {own:List Ent} {r:Nat} {d:DVal} {own':List Ent} (h:PF P o l own r d own') (ha:Dp o=true):LenE own own'/\LenE own' own:=by
 rcases h with ⟨x,hx,hp,_,rfl⟩ | ⟨c,g,args,wD,_⟩ | ⟨c,id,r',args,e0,l0,e1,A,A',b,wD,_⟩
 ·exact Du_ hx hp ha
 ·simp[Dp,wD]at ha
 ·simp[Dp,wD]at ha
theorem BS_ {P:Program} {ops:Array Oper} {o:Oper} {s:DS} {d:DVal} {own':List Ent} {r:Nat} (h:EQ P ops o s d own' r) (ha:Dp o=true):LenE s.own own'/\LenE own' s.own:=by
 unfold EQ at h
 split at h
 ·exact sF h ha
 ·obtain⟨_,_,⟨_,d0,_,h⟩ | ⟨_,_,rfl⟩⟩:=h
  ·exact sF h ha
  ·exact⟨LenE.refl _,LenE.refl _⟩
theorem FK.ext2 {P:Program} {o:Oper} {own own':List Ent} {e e':Operand->DVal} {d:DVal} (h:FK P o own e d) (hx:Mm own own'\/(iW o=true/\LenE own own')) (he:∀x∈o.op.operands,e x=e' x):FK P o own' e' d:=by
 rcases hx with hx | ⟨hi,hx⟩
 ·exact h.ext hx he
 ·obtain⟨dst,op,type,Fx,after,guard⟩:=o;unfold iW at hi;simp only at hi he;cases op<;>simp only[aQ0]at hi
  case indexAddr t x i =>
   rcases h with ⟨c,g,args,wD,_⟩ | ⟨hp,hd⟩
   ·simp at wD
   ·refine .inr ?_;simp only[DV,Bm]at hp hd |-;rw[<-he x (by simp[Op.operands]),<-he i (by simp[Op.operands])]
    split at hp
    ·rename_i _ _ n kk bs0 k' bs' es zP ht hr;rw[zP,ht]at hd |-;simp only at hd |-;cases hxx:e x<;>rw[hxx]at hr hd<;>simp only[Bi,reduceCtorEq]at hr
     case sl =>
      simp only[aA0,aV0]at hr;obtain⟨rfl,rfl,rfl⟩:=hr;exact⟨by simpa[Bi]using hp,hd⟩
     case osl id r =>
      split at hr
      ·rename_i e0 hf
       split at hr
       ·rename_i yP
        split at hr
        ·rename_i et k1 bs1 es1 qN;simp only[aA0,aV0]at hr;obtain⟨rfl,rfl,rfl⟩:=hr;obtain⟨e1,et1,es1',g1,g2,g3,g4⟩:=hx.l id e0 _ _ _ _ hf qN;have hr1:Bi own' (.osl id r)=some (k1,bs1,es1'):=by simp[Bi,g1,g2,yP,g3]
         have bA:Bi own (.osl id r)=some (k1,bs1,es1):=by simp[Bi,hf,yP,qN]
         simp only[GF]at hd |-;rw[bA]at hd;rw[hr1];simp only at hd |-;exact⟨by rw[g4];exact hp,hd⟩
        ·simp at hr
       ·simp at hr
      ·simp at hr
     case vw id r k2 bs2 i2 n2 =>
      split at hr
      ·rename_i e0 hf
       split at hr
       ·rename_i yP
        split at hr
        ·rename_i et k1 bs1 es1 qN
         split at hr
         ·rename_i hq;simp only[aA0,aV0]at hr;obtain⟨rfl,rfl,rfl⟩:=hr;obtain⟨e1,et1,es1',g1,g2,g3,g4⟩:=hx.l id e0 _ _ _ _ hf qN
          have hr1:Bi own' (.vw id r k2 bs2 i2 n2)=some (k2,bs1,(es1'.drop i2).take n2):=by
           have yE:=hq.2.2;rw[<-g4]at yE;simp only[Bi,g1,g2,yP,if_true,g3];rw[if_pos ⟨hq.1,hq.2.1,yE⟩]
          rw[hr1];simp only[GF]at hd |-;refine⟨⟨hp.1,hp.2.1,?_⟩,hd⟩;have:=hp.2.2;simp only[aY0,cD0]at this |-;omega
         ·simp at hr
        ·simp at hr
       ·simp at hr
      ·simp at hr
    ·rename_i _ n zP ht;rw[zP,ht]at hd |-;simp only at hd |-
     split at hp
     ·rename_i len k h3;rw[h3]at hd;obtain⟨p1,p2,p3⟩:=hp
      have cu:∀id r,Ea own id r=true->Ea own' id r=true:=fun id r h=>by
       unfold Ea at h |-
       split at h
       ·rename_i e0 hf;obtain⟨e1,g1,g2⟩:=hx.v id e0 hf;rw[g1];simp only[g2];exact h
       ·simp at h
      refine⟨⟨p1,p2,?_⟩,hd⟩;cases qB:e x<;>rw[qB]at p3<;>simp only at p3 |- <;>exact cu _ _ p3
     ·exact hp.elim
    ·exact hp.elim
section
variable {P : Program} {B : Base} {s : DS}
theorem QJ (ow l1 l2:List Nat) {ops:Array Oper} {K:Cont} {nt N:Nat} (qG:Ei ow l1 l2 ops=true) (hnd0:(s.own.map (·.id)).Nodup) (h:Ci P nt ow l1 l2 ops ops.toList 0 K s) :
  ∃Inv:Base->Array Bool->Act->World->Prop,
   (∀B:Base,B.nt=nt->B.N=N->∀a w loc,Rel B s a w loc->Inv B (Array.replicate ops.size false) a w.drew) /\
   (∀B listed a w,Inv B listed a w->listed.size=ops.size/\(Region.ready .any ops listed=[]->∀i,i<ops.size->listed.getD i false=true)/\((∀i,i<ops.size->listed.getD i false=true)->∃s' loc,K.f s'/\Rel B s' a w loc)) /\
   (∀(B:Base) listed a w i (C:Act->World->Prop) (Qx:Exit->Act->World->Prop),B.nt=nt->B.N=N->Inv B listed a w->i∈Region.ready .any ops listed->(∀a' w',Inv B (listed.setIfInBounds i true) a' w'->C a' w')->wpOpIn (wd B.ro) 0 P ops Qx i C a w) /\
   (∀(B:Base) (G:Base->Prop) listed a w a' w' t,Inv B listed a w->(∀o∈ops.toList,o.dst≠some t)->(∀X loc,getS X.slots t=getS s.slots t->Rel B X a w loc->∃B',G B'/\Rel B' X a' w' loc)->∃B',G B'/\Inv B' listed a' w'):=by
 have yO:=qG;unfold Ei at yO;simp only[aL0]at yO;have spec:=Pd yO.1;have spE:=Wm qG;obtain⟨ds,owns,hl,cH,hK,wZ⟩:=Uw (max N (max (Hk s.slots) (GY s.own))) _ 0 0 _ h;have qU:ops.toList.length=ops.size:=by simp
 rw[qU]at hK;have wW:ds.length=ops.size:=by simpa using hl
 have zat:∀(k:Nat) (z:Oper×DVal),(ops.toList.zip ds)[k]? =some z->ops[k]? =some z.1/\ds[k]? =some z.2:=by
  intro k z hz;rw[eP0]at hz;exact⟨by simpa using hz.1,hz.2⟩
 have zat':∀(k:Nat) (o:Oper) (d:DVal),ops[k]? =some o->ds[k]? =some d->(ops.toList.zip ds)[k]? =some (o,d):=by
  intro k o d ho hd;rw[eP0];exact⟨by simpa using ho,hd⟩
 have uniq:∀(t k k':Nat) (z z':Oper×DVal),(ops.toList.zip ds)[k]? =some z->z.1.dst=some t->(ops.toList.zip ds)[k']? =some z'->z'.1.dst=some t->k'=k :=
  fun t k k' z z' h1 h2 h3 h4=>spec.one k' k z'.1 z.1 t (zat _ _ h3).1 (zat _ _ h1).1 h4 h2
 -- what the slots yS behind the operations of S, and behind the first j
 have agree:∀(S:Nat->Bool) (j:Nat) (t:Nat),(∀(k:Nat) (o:Oper),ops[k]? =some o->o.dst=some t->(S k=true↔k<j)) ->
   getS (Ek s.slots S 0 (ops.toList.zip ds)) t=getS (HF s.slots ((ops.toList.zip ds).take j)) t:=by
  intro S j t hS
  by_cases hex:∃(k:Nat) (z:Oper×DVal),(ops.toList.zip ds)[k]? =some z/\z.1.dst=some t
  ·obtain⟨k,z,hz,hd⟩:=hex;have hSk:=hS k z.1 (zat _ _ hz).1 hd
   by_cases hkj:k<j
   ·rw[DC _ 0 k z hz hd (by rw[bQ0];exact hSk.2 hkj) (fun k' z' h1 h2=>uniq t k k' z z' hz hd h1 h2)];rw[Ko _ _ k z (by rw[bT0 hkj];exact hz) hd];intro k' z' h1 h2
    have:(ops.toList.zip ds)[k']? =some z':=by
     rw[dZ0]at h1
     split at h1
     ·exact h1
     ·simp at h1
    exact uniq t k k' z z' hz hd this h2
   ·rw[BH _ 0 (fun k' z' h1 h2=>by
     have:=uniq t k k' z z' hz hd h1 h2;subst this;rw[bQ0]
     cases hq:S k' with
     | false=>rfl
     | true=>exact absurd (hSk.1 hq) hkj)]
    rw[EJ];intro z' hz' h2;obtain⟨k',vH,rfl⟩:=bW0 hz';have qV:k'<j:=by simp at vH;omega
    have yN:(ops.toList.zip ds)[k']? =some ((ops.toList.zip ds).take j)[k']:=by
     rw[List.getElem_take];exact aI0 _
    have:=uniq t k k' z _ hz hd yN h2;omega
  ·rw[BH _ 0 (fun k' z' h1 h2=>absurd ⟨k',z',h1,h2⟩ hex),EJ];intro z' hz' h2;obtain⟨k',vH,hq⟩:=bW0 (cZ0 hz');exact hex ⟨k',z',by rw[aI0 vH,hq],h2⟩
 -- own objects: no two with one number; what stands between two places
 have hnd:∀j,j<=ops.size->((owns j).map (·.id)).Nodup:=by
  intro j
  induction j with
  | zero=>intro _;rw[cH];exact hnd0
  | succ j ih =>
   intro hj;have qV:j<ops.size:=by omega
   obtain⟨d,_,wO⟩:=wZ j ops[j] (by simp[qV])
   rcases wO with ⟨_,_,_,hx⟩ | ⟨_,h5,_⟩
   ·exact ET_ (s:=⟨_,_⟩) hx (ih (by omega))
   ·rw[h5];exact ih (by omega)
 have still:∀m i,i+m<=ops.size->(∀k o,i<=k->k<i+m->ops[k]? =some o->Bw ow o=false)->owns (i+m)=owns i:=by
  intro m
  induction m with
  | zero=>intro i _ _;rfl
  | succ m ih =>
   intro i hi hk;have qV:i+m<ops.size:=by omega
   obtain⟨d,_,wO⟩:=wZ (i+m) ops[i+m] (by simp[qV]);have qF:=hk (i+m) ops[i+m] (by omega) (by omega) (by simp[qV])
   rcases wO with ⟨h1,_⟩ | ⟨_,h5,_⟩
   ·rw[qF]at h1;simp at h1
   ·rw[show i+(m+1)=i+m+1 by omega,h5];exact ih i (by omega) fun k o h1 h2 h3=>hk k o h1 (by omega) h3
 have same:∀i j,i<=ops.size->j<=ops.size->(∀k o,ops[k]? =some o->Bw ow o=true->(k<j↔k<i))->owns j=owns i:=by
  intro i j hi hj hk
  by_cases yB:i<=j
  ·have:=still (j-i) i (by omega) (fun k o h1 h2 h3=>by
    cases hq:Bw ow o with
    | false=>rfl
    | true=>have:=(hk k o h3 hq).1 (by omega);omega)
   rwa[show i+(j-i)=j by omega]at this
  ·have:=still (i-j) j (by omega) (fun k o h1 h2 h3=>by
    cases hq:Bw ow o with
    | false=>rfl
    | true=>have:=(hk k o h3 hq).2 (by omega);omega)
   rw[show j+(i-j)=i by omega]at this;exact this.symm
 have boxes:∀m i,i+m<=ops.size->(∀k o,i<=k->k<i+m->ops[k]? =some o->Bw ow o=false\/Da o=true)->∀e,FM e=true->(e∈owns i↔e∈owns (i+m)):=by
  intro m
  induction m with
  | zero=>intro i _ _ e _;exact Iff.rfl
  | succ m ih =>
   intro i hi hk e he;have qV:i+m<ops.size:=by omega
   rw[ih i (by omega) (fun k o h1 h2 h3=>hk k o h1 (by omega) h3) e he];obtain⟨d,_,wO⟩:=wZ (i+m) ops[i+m] (by simp[qV]);have qF:=hk (i+m) ops[i+m] (by omega) (by omega) (by simp[qV])
   rcases wO with ⟨h1,_,h4,hx⟩ | ⟨_,h5,_⟩
   ·rcases qF with h | h
    ·rw[h]at h1;simp at h1
    ·rw[show i+(m+1)=i+m+1 by omega];exact BT_ hx h h4.1 (hnd _ (by omega)) he
   ·rw[show i+(m+1)=i+m+1 by omega,h5]
 have boxesE:∀i j,i<=ops.size->j<=ops.size->(∀k o,ops[k]? =some o->Bw ow o=true->¬(k<j↔k<i)->Da o=true)->Mm ((owns i).filter FM) (owns j):=by
  intro i j hi hj hk id e hf;obtain⟨h1,h2⟩:=Ar hf;rw[cG0]at h1
  have qY:e∈owns j:=by
   by_cases yB:i<=j
   ·have:=(boxes (j-i) i (by omega) (fun k o h1 h2 h3=>by
     cases hq:Bw ow o with
     | false=>exact .inl rfl
     | true=>exact .inr (hk k o h3 hq (by omega))) e h1.2).1 h1.1
    rwa[show i+(j-i)=j by omega]at this
   ·have:=(boxes (i-j) j (by omega) (fun k o h1 h2 h3=>by
     cases hq:Bw ow o with
     | false=>exact .inl rfl
     | true=>exact .inr (hk k o h3 hq (by omega))) e h1.2).2
    rw[show j+(i-j)=i by omega]at this;exact this h1.1
  rw[<-h2];exact BJ (hnd j hj) qY
 have lens:∀m i,i+m<=ops.size->(∀k o,i<=k->k<i+m->ops[k]? =some o->Bw ow o=false\/Dp o=true)->LenE (owns i) (owns (i+m))/\LenE (owns (i+m)) (owns i):=by
  intro m
  induction m with
  | zero=>intro i _ _;exact⟨LenE.refl _,LenE.refl _⟩
  | succ m ih =>
   intro i hi hk;have qV:i+m<ops.size:=by omega
   obtain⟨g1,g2⟩:=ih i (by omega) (fun k o h1 h2 h3=>hk k o h1 (by omega) h3);obtain⟨d,_,wO⟩:=wZ (i+m) ops[i+m] (by simp[qV]);have qF:=hk (i+m) ops[i+m] (by omega) (by omega) (by simp[qV]);rw[show i+(m+1)=i+m+1 by omega]
   rcases wO with ⟨h1,_,_,hx⟩ | ⟨_,h5,_⟩
   ·rcases qF with h | h
    ·rw[h]at h1;simp at h1
    ·obtain⟨l1,l2⟩:=BS_ hx h;exact⟨g1.trans l1,l2.trans g2⟩
   ·rw[h5];exact⟨g1,g2⟩
 have lensE:∀i j,i<=ops.size->j<=ops.size->(∀k o,ops[k]? =some o->Bw ow o=true->¬(k<j↔k<i)->Dp o=true)->LenE (owns i) (owns j):=by
  intro i j hi hj hk
  by_cases yB:i<=j
  ·have:=(lens (j-i) i (by omega) (fun k o h1 h2 h3=>by
    cases hq:Bw ow o with
    | false=>exact .inl rfl
    | true=>exact .inr (hk k o h3 hq (by omega)))).1
   rwa[show i+(j-i)=j by omega]at this
  ·have:=(lens (i-j) j (by omega) (fun k o h1 h2 h3=>by
    cases hq:Bw ow o with
    | false=>exact .inl rfl
    | true=>exact .inr (hk k o h3 hq (by omega)))).2
   rwa[show j+(i-j)=i by omega]at this
 -- what the stores in between do not touch
 have touch:∀k o q,ops[k]? =some o->Bw ow o=true->Dp o=true->VT l2 k q=true->∀e,iY l2 q e=false->(e∈owns k↔e∈owns (k+1)):=by
  intro k o q hk he hs hq e hh;obtain⟨d,_,wO⟩:=wZ k o (by simpa using hk)
  rcases wO with ⟨_,_,⟨_,htc⟩,hx⟩ | ⟨h1,_⟩
  ·unfold VT at hq;rw[cF0]at hq;obtain⟨c,hc,wE⟩:=hq;simp only[aL0,decide_eq_true_eq,beq_iff_eq]at wE;obtain⟨⟨c1,c2⟩,c3⟩:=wE;unfold Qs at htc;have h2:=aZ0.1 htc c hc;simp only[dB0,decide_eq_true_eq,bne_iff_ne,ne_eq,beq_iff_eq]at h2
   have h3:Qr (HF s.slots ((ops.toList.zip ds).take k)) o=some (c/1000000-1):=by
    rcases h2 with (h2 | h2) | h2
    ·omega
    ·simp only[bQ0]at h2;exact absurd c3 h2
    ·exact h2
   refine aE (s:=⟨_,owns k⟩) hx hs h3 fun hid=> ?_
   unfold iY at hh;rw[eS0]at hh;have h4:=hh c hc;simp only[aL0,decide_eq_true_eq,beq_iff_eq,not_and]at h4;exact h4 ⟨c1,c2⟩ (by omega)
  ·rw[he]at h1;simp at h1
 have others:∀q m i,i+m<=ops.size->(∀k o,i<=k->k<i+m->ops[k]? =some o->Bw ow o=false\/(Dp o=true/\VT l2 k q=true))->∀e,iY l2 q e=false->(e∈owns i↔e∈owns (i+m)):=by
  intro q m
  induction m with
  | zero=>intro i _ _ e _;exact Iff.rfl
  | succ m ih =>
   intro i hi hk e he;have qV:i+m<ops.size:=by omega
   rw[ih i (by omega) (fun k o h1 h2 h3=>hk k o h1 (by omega) h3) e he,show i+(m+1)=i+m+1 by omega];have yN:ops[i+m]? =some ops[i+m]:=by simp[qV]
   cases hq:Bw ow ops[i+m]with
   | true =>
    rcases hk (i+m) ops[i+m] (by omega) (by omega) yN with h | h
    ·rw[hq]at h;simp at h
    ·exact touch _ _ q yN hq h.1 h.2 e he
   | false =>
    obtain⟨d,_,wO⟩:=wZ (i+m) ops[i+m] (by simp[qV])
    rcases wO with ⟨h1,_⟩ | ⟨_,h5,_⟩
    ·rw[hq]at h1;simp at h1
    ·rw[h5]
 have othersE:∀q i j,i<=ops.size->j<=ops.size->(∀k o,ops[k]? =some o->Bw ow o=true->¬(k<j↔k<i)->(Dp o=true/\VT l2 k q=true))->Mm ((owns i).filter fun e=> !iY l2 q e) (owns j):=by
  intro q i j hi hj hk id e hf;obtain⟨h1,h2⟩:=Ar hf;rw[cG0]at h1;have hh:iY l2 q e=false:=by simpa using h1.2
  have qY:e∈owns j:=by
   by_cases yB:i<=j
   ·have:=(others q (j-i) i (by omega) (fun k o h1 h2 h3=>by
     cases hq:Bw ow o with
     | false=>exact .inl rfl
     | true=>exact .inr (hk k o h3 hq (by omega))) e hh).1 h1.1
    rwa[show i+(j-i)=j by omega]at this
   ·have:=(others q (i-j) j (by omega) (fun k o h1 h2 h3=>by
     cases hq:Bw ow o with
     | false=>exact .inl rfl
     | true=>exact .inr (hk k o h3 hq (by omega))) e hh).2
    rw[show j+(i-j)=i by omega]at this;exact this h1.1
  rw[<-h2];exact BJ (hnd j hj) qY
 have effs_le:∀i j,i<=j->DN ow (ops.toList.take i)<=DN ow (ops.toList.take j):=by
  intro i j yB;unfold DN;have:(ops.toList.take i)=(ops.toList.take j).take i:=by rw[List.take_take,Nat.min_eq_left yB]
  rw[this];exact(List.take_sublist _ _).countP_le
 have fin:∀(B:Base) (listed:Array Bool) (p:Nat) (a:Act) (w:World) (loc:Nat->Loc),listed.size=ops.size->oP ops (fun k=>listed.getD k false)->p<=ops.size->(∀k o,ops[k]? =some o->Bw ow o=true->(listed.getD k false=true↔k<p))->Rel B ⟨Ek s.slots (fun k=>listed.getD k false) 0 (ops.toList.zip ds),owns p⟩ a w loc ->
   (∀i,i<ops.size->listed.getD i false=true)->∃s' loc,K.f s'/\Rel B s' a w loc:=by
  intro B listed p a w loc qI hc hp fD R fA
  have heq:owns p=owns ops.size:=same _ _ (Nat.le_refl _) hp fun k o h1 h2=>by
   have qV:k<ops.size:=(aC0.1 h1).1;have:=fD k o h1 h2;simp only[fA k qV,true_iff]at this;omega
  rw[heq]at R;refine⟨_,loc,hK,Rel.congr (fun t=> ?_) R⟩
  have:=agree (fun k=>listed.getD k false) (ops.toList.zip ds).length t (fun k o ho hd=>by
   have qV:k<ops.size:=(aC0.1 ho).1
   simp only[fA k qV,true_iff,List.length_zip,bI0,wW,Nat.min_self];exact qV)
  rw[this,aU0]
 have nready:∀(listed:Array Bool),Region.ready .any ops listed=[]->listed.size=ops.size->∀i,i<ops.size->listed.getD i false=true:=by
  intro listed hr qI i
  induction i using Nat.strongRecOn with
  | _ i ih =>
   intro hi
   cases hq:listed.getD i false with
   | true=>rfl
   | false =>
    exfalso;have yN:ops[i]? =some ops[i]:=bO0 hi
    have:i∈Region.ready .any ops listed:=by
     rw[mem_ready];refine⟨?_,ops[i],yN,fun e he hb=> ?_⟩
     ·have zP:i<listed.size:=by omega
      simp only[aO0,bO0 zP,bY0]at hq |-;exact hq
     ·have:=spec.acy i _ yN e he hb;exact ih e.on this (by omega)
    rw[hr]at this;simp at this
 refine⟨fun B listed a w=>listed.size=ops.size/\oP ops (fun k=>listed.getD k false)/\∃p loc,p<=ops.size/\(∀k o,ops[k]? =some o->Bw ow o=true->(listed.getD k false=true↔k<p)) /\
   (∀k d,ds[k]? =some d->listed.getD k false=true->mx d<=max N (max (Hk s.slots) (GY s.own))+DN ow (ops.toList.take p))/\GY (owns p)<=max N (max (Hk s.slots) (GY s.own))+DN ow (ops.toList.take p) /\
   Rel B ⟨Ek s.slots (fun k=>listed.getD k false) 0 (ops.toList.zip ds),owns p⟩ a w loc,?_,?_,?_,?_⟩
 ·intro B hBt hBN a w loc R;subst hBt hBN
  have gZ:∀k,(Array.replicate ops.size false).getD k false=false:=by
   intro k;simp[aO0,dX0]
   split<;>simp
  refine⟨by simp,?_,0,loc,by omega,fun k o hk he=>by rw[gZ];simp,fun k d hk hS=>by rw[gZ]at hS;simp at hS,by rw[cH];omega,?_⟩
  ·intro k o hk hS;simp[aO0,dX0]at hS
   split at hS<;>simp at hS
  ·have R':=R.put (dst:=none) (v:=Go.undef) (d:= .any) (fun i hi=>by simp at hi) (Upd.drew [] w) (by simp[rd]);rw[cH];refine Rel.congr (fun t=> ?_) R'
   exact BH _ 0 (fun k z hz hd=>by
    simp[aO0,dX0]
    split<;>simp)
 ·rintro B listed a w ⟨qI,hc,p,loc,hp,fD,nF,mM,R⟩;exact⟨qI,fun hr=>nready listed hr qI,fin B listed p a w loc qI hc hp fD R⟩
 ·rintro B listed a w i C Qx hBt hBN ⟨qI,hc,p,loc,hp,fD,nF,mM,R⟩ hi hC;subst hBt hBN;rw[mem_ready]at hi;obtain⟨h0,o,ho,wL⟩:=hi;have qV:i<ops.size:=(aC0.1 ho).1;have zP:i<listed.size:=by omega
  have hSi:listed.getD i false=false:=by
   simp only[aO0,bO0 zP,bY0]at h0 |-;exact h0
  obtain⟨d,hd,wO⟩:=wZ i o (by simpa using ho);simp only[bQ0,dH0]at wO
  -- what stands ahead is done; what waits is not
  have anc:∀k,((DL ops.toList []).getD i 0).testBit k=true->listed.getD k false=true:=by
   intro k h2;rw[Rh]at h2;simp only[List.length_nil,Nat.not_lt_zero,if_false,eE0]at h2;have fV:ops.toList[i]? =some o:=by simpa using ho
   rw[fV]at h2;obtain⟨e,he,hb,h3⟩:=Ri _ _ _ h2;have hon:=wL e (by simpa using he) hb
   rcases h3 with rfl | h3
   ·exact hon
   ·refine Sk hc e.on hon k ?_;have bH:=spec.acy i o ho e (by simpa using he) hb
    have:((DL ops.toList []).take i).getD e.on 0=(DL ops.toList []).getD e.on 0:=by
     simp[bK0,bT0 bH]
    rwa[this]at h3
  have des:∀k,((DL ops.toList []).getD k 0).testBit i=true->listed.getD k false=false:=by
   intro k h2
   cases hq:listed.getD k false with
   | false=>rfl
   | true =>
    have:=Sk hc k hq i h2;rw[hSi]at this;simp at this
  -- the slots that the operation looks at
  have look:∀t∈o.looksAt ops,getS (Ek s.slots (fun k=>listed.getD k false) 0 (ops.toList.zip ds)) t=getS (HF s.slots ((ops.toList.zip ds).take i)) t:=by
   intro t ht;refine agree _ i t fun k o' hk gE=> ?_
   rcases spec.ord i o t ho ht k o' hk gE with ⟨h1,h2⟩ | ⟨h1,h2⟩
   ·exact⟨fun _=>h1,fun _=>anc k h2⟩
   ·refine⟨fun vH=> ?_,fun vH=>by omega⟩;rw[des k h2]at vH;simp at vH
  have hS':(fun k=>(listed.setIfInBounds i true).getD k false)=fun k=>if k=i then true else listed.getD k false:=by
   funext k
   by_cases hk:k=i
   ·subst hk;simp[zP]
   ·rw[if_neg hk,getD_set_ne false (Ne.symm hk)]
  have hS'':∀k,(listed.setIfInBounds i true).getD k false=if k=i then true else listed.getD k false:=fun k=>congrFun hS' k
  have gY:Hk (Ek s.slots (fun k=>listed.getD k false) 0 (ops.toList.zip ds))<=Cd B s+DN ow (ops.toList.take p):=by
   refine XZ (by unfold Cd;omega) _ _ fun k z hz hS=> ?_
   rw[bQ0]at hS;exact nF k z.2 (zat _ _ hz).2 hS
  have kW:∀x∈o.op.operands,ev (Ek s.slots (fun k=>listed.getD k false) 0 (ops.toList.zip ds)) x=ev (HF s.slots ((ops.toList.zip ds).take i)) x:=by
   intro x hx;refine Ed_ fun t hxt=>look t ?_
   subst hxt;exact aM0 _ (List.mem_filterMap.2 ⟨.tmp t,by simpa using hx,rfl⟩)
  have hg:∀j want,o.guard=some (j,want)->BI ops ⟨Ek s.slots (fun k=>listed.getD k false) 0 (ops.toList.zip ds),owns p⟩ j=BI ops ⟨HF s.slots ((ops.toList.zip ds).take i),IU l1 l2 i (owns i)⟩ j:=by
   intro j want yC;unfold BI
   cases ht:(ops[j]?).bind (·.dst)with
   | none=>rfl
   | some t =>
    refine look t (aN0 _ ?_);rw[yC];simp[ht]
  -- the next set
  have next:∀(p':Nat) (a':Act) (w':World) (loc:Nat->Loc),p'<=ops.size->(∀k o,ops[k]? =some o->Bw ow o=true->((listed.setIfInBounds i true).getD k false=true↔k<p'))->DN ow (ops.toList.take p)<=DN ow (ops.toList.take p')->mx d<=Cd B s+DN ow (ops.toList.take p')->GY (owns p')<=Cd B s+DN ow (ops.toList.take p') ->
    Rel B ⟨putS (Ek s.slots (fun k=>listed.getD k false) 0 (ops.toList.zip ds)) o.dst d,owns p'⟩ a' w' loc->C a' w':=by
   intro p' a' w' loc zM cB yD fB hmo R';refine hC a' w' ⟨by simpa using qI,?_,p',loc,zM,cB,?_,hmo,?_⟩
   ·rw[hS'];intro k o' hk hS e he hb
    by_cases fF:k=i
    ·subst fF;rw[ho]at hk;simp only[aA0]at hk;subst hk;have:=wL e he hb;simp only[this];split<;>rfl
    ·simp only[if_neg fF]at hS;have:=hc k o' hk hS e he hb;simp only[this];split<;>rfl
   ·intro k d' hk hS;rw[hS'']at hS
    by_cases fF:k=i
    ·subst fF;rw[hd]at hk;simp only[aA0]at hk;subst hk;exact fB
    ·rw[if_neg fF]at hS;have:=nF k d' hk hS;omega
   ·rw[hS'];refine Rel.congr (fun t=> ?_) R';rw[Gl]
    by_cases jO:o.dst=some t
    ·rw[if_pos jO];exact DC _ 0 i (o,d) (zat' i o d ho hd) jO (by simp) (fun k' z' h1 h2=>uniq t i k' (o,d) z' (zat' i o d ho hd) jO h1 h2)
    ·rw[if_neg jO];have e1:=fun S j hS=>agree S j t hS
     by_cases hex:∃(k:Nat) (z:Oper×DVal),(ops.toList.zip ds)[k]? =some z/\z.1.dst=some t
     ·obtain⟨k,z,hz,gE⟩:=hex
      have fF:k≠i:=by
       intro fF;subst fF;have:=(zat _ _ hz).1;rw[ho]at this;simp only[aA0]at this;exact jO (by rw[this];exact gE)
      cases hSk:listed.getD k false with
      | true =>
       rw[DC _ 0 k z hz gE (by rw[bQ0];simp[fF,hSk]) (fun k' z' h1 h2=>uniq t k k' z z' hz gE h1 h2)];rw[DC _ 0 k z hz gE (by rw[bQ0];exact hSk) (fun k' z' h1 h2=>uniq t k k' z z' hz gE h1 h2)]
      | false =>
       rw[BH _ 0 (fun k' z' h1 h2=>by
        have:=uniq t k k' z z' hz gE h1 h2;subst this
        rw[bQ0];simp[fF,hSk])]
       rw[BH _ 0 (fun k' z' h1 h2=>by
        have:=uniq t k k' z z' hz gE h1 h2;subst this
        rw[bQ0];exact hSk)]
     ·rw[BH _ 0 (fun k' z' h1 h2=>absurd ⟨k',z',h1,h2⟩ hex),BH _ 0 (fun k' z' h1 h2=>absurd ⟨k',z',h1,h2⟩ hex)]
  -- the operation itself
  rcases wO with ⟨fO,qT,happ,hx⟩ | ⟨dJ,bE,yO⟩
  ·have fQ:∀k o',ops[k]? =some o'->Bw ow o'=true->(k<p↔k<i):=by
    intro k o' hk he;rw[<-fD k o' hk he]
    rcases spE.two k i o' o hk ho he with h | ⟨h1,h2⟩ | ⟨h1,h2⟩ | ⟨h1,_⟩
    ·subst h;rw[hSi];simp
    ·exact⟨fun _=>h1,fun _=>anc k h2⟩
    ·rw[des k h2];simp;omega
    ·rw[fO]at h1;simp at h1
   have heq:owns p=owns i:=same i p (by omega) hp fQ
   have bU:DN ow (ops.toList.take p)=DN ow (ops.toList.take i):=by
    have key:∀m q,q+m<=ops.size->(∀k o',q<=k->k<q+m->ops[k]? =some o'->Bw ow o'=false)->DN ow (ops.toList.take (q+m))=DN ow (ops.toList.take q):=by
     intro m
     induction m with
     | zero=>intro q _ _;rfl
     | succ m ihm =>
      intro q hq hk;have bH:q+m<ops.size:=by omega
      rw[show q+(m+1)=q+m+1 by omega,bM0];have hg:ops.toList[q+m]? =some ops[q+m]:=by simp[bH]
      have qF:=hk (q+m) ops[q+m] (by omega) (by omega) (by simp[bH]);have:=ihm q (by omega) fun k o' h1 h2 h3=>hk k o' h1 (by omega) h3
      unfold DN at this |-;rw[hg,List.countP_append,this];simp[eY0,qF]
    by_cases hpi:p<=i
    ·have:=key (i-p) p (by omega) (fun k o' h1 h2 h3=>by
      cases hq:Bw ow o' with
      | false=>rfl
      | true=>have:=(fQ k o' h3 hq).2 (by omega);omega)
     rw[show p+(i-p)=i by omega]at this;exact this.symm
    ·have:=key (p-i) i (by omega) (fun k o' h1 h2 h3=>by
      cases hq:Bw ow o' with
      | false=>rfl
      | true=>have:=(fQ k o' h3 hq).1 (by omega);omega)
     rwa[show i+(p-i)=p by omega]at this
   have hinc:DN ow (ops.toList.take (i+1))=DN ow (ops.toList.take i)+1:=by
    have hg:ops.toList[i]? =some o:=by simpa using ho
    rw[bM0,hg];unfold DN;rw[List.countP_append];simp[eY0,fO]
   have qB:EQ P ops o ⟨Ek s.slots (fun k=>listed.getD k false) 0 (ops.toList.zip ds),owns p⟩ d (owns (i+1)) (Cd B s+DN ow (ops.toList.take i)):=by
    refine aF (s:=⟨HF s.slots ((ops.toList.zip ds).take i),owns i⟩) heq.symm (fun x hx=>(kW x hx).symm) (fun j want yC=>(hg j want yC).symm) ?_;simpa[Cd]using hx
   have qP:Cd B ⟨Ek s.slots (fun k=>listed.getD k false) 0 (ops.toList.zip ds),owns p⟩<=Cd B s+DN ow (ops.toList.take i):=by
    rw[<-bU];have h0:B.N<=Cd B s:=by unfold Cd;omega
    unfold Cd;simp only;have h1:=gY;have h2:=mM;have h3:Cd B s+DN ow (ops.toList.take p)=max B.N (max (Hk s.slots) (GY s.own))+DN ow (ops.toList.take p):=rfl;have h4:Cd B s=max B.N (max (Hk s.slots) (GY s.own)):=rfl;omega
   have hmxx:=EU_ (n:=Cd B s+DN ow (ops.toList.take i)) fO qB (by rw[<-bU];exact mM) (by rw[<-bU];exact gY) (Nat.le_refl _)
   have nx:∀(a':Act) (w':World) (loc':Nat->Loc),Rel B ⟨putS (Ek s.slots (fun k=>listed.getD k false) 0 (ops.toList.zip ds)) o.dst d,owns (i+1)⟩ a' w' loc'->C a' w':=by
    intro a' w' loc' R';refine next (i+1) a' w' loc' (by omega) ?_ (by rw[bU,hinc];omega) (by rw[hinc];have:=hmxx.1;omega) (by rw[hinc];have:=hmxx.2;omega) R'
    intro k o' hk he;rw[hS'']
    by_cases fF:k=i
    ·rw[if_pos fF];simp;omega
    ·rw[if_neg fF,fD k o' hk he,fQ k o' hk he];omega
   unfold wpOpIn;rw[ho];simp only;unfold EQ at qB
   cases yC:o.guard with
   | none =>
    rw[yC]at qB;have hw:Region.wanted o (yielded ops a.tmps)=true:=by simp[Region.wanted,yC]
    rw[if_pos hw];exact YR (R:=R) qP qT (fun x _=>R.ev x) (fun x _=>Pa _ x) qB nx
   | some jw =>
    obtain⟨j,want⟩:=jw;rw[yC]at qB;simp only at qB;obtain⟨g1,g2,g3⟩:=qB;have zZ:=RE (want:=want) R g1;have hw:Region.wanted o (yielded ops a.tmps)=gB (BI ops ⟨Ek s.slots (fun k=>listed.getD k false) 0 (ops.toList.zip ds),owns p⟩ j) want:=by simp only[Region.wanted,yC];exact zZ
    rw[hw]
    rcases g3 with ⟨hb,d0,rfl,qB⟩ | ⟨hb,rfl,hown'⟩
    ·rw[hb]at g2 |-;rw[if_pos rfl];have kE:=PP (RW fO g2)
     exact YR (R:=R) qP qT (fun x hx=>Oe (fun x=>R.ev x) _ (RW fO g2) x (by simpa using hx)) (fun x hx=>by
      unfold Bf;rw[Qw (kE x (by simpa using hx))]
      exact Pa _ x) qB fun a' w' loc' R'=>nx a' w' loc' R'.selTrue
    ·rw[hb];rw[if_neg (by simp)];refine⟨fun _ _=>trivial,nx _ _ loc ?_⟩;rw[hown'];exact R.put (Jh qT) (Upd.refl _ _) (by simp[rd])
  have hext:Mm (IU l1 l2 i (owns i)) (owns p)\/(iW o=true/\LenE (IU l1 l2 i (owns i)) (owns p)):=by
   unfold IU
   split
   ·exact .inl fun id e hf=>by simp[Ah]at hf
   ·rename_i hn2;have hn2:l2.contains i=false:=by simpa using hn2
    have fQ:∀k o',ops[k]? =some o'->Bw ow o'=true->¬(k<p↔k<i)->(l1.contains i=true/\Da o'=true)\/((l1.contains i=false/\iW o=true)/\Dp o'=true)\/((l1.contains i=false/\Dp o'=true)/\VT l2 k i=true):=by
     intro k o' hk he qF;rw[<-fD k o' hk he]at qF
     rcases spE.two k i o' o hk ho he with h | ⟨h1,h2⟩ | ⟨h1,h2⟩ | ⟨h1,h2⟩
     ·subst h;rw[hSi]at qF;simp at qF
     ·exact absurd ⟨fun _=>h1,fun _=>anc k h2⟩ qF
     ·rw[des k h2]at qF;simp at qF;omega
     ·rcases h2 with ((h2 | h2) | h2) | h2
      ·rw[hn2]at h2;simp at h2
      ·exact .inl h2
      ·exact .inr (.inl h2)
      ·exact .inr (.inr h2)
    split
    ·rename_i cJ;refine .inl (boxesE i p (by omega) hp fun k o' hk he qF=> ?_)
     rcases fQ k o' hk he qF with h | h | h
     ·exact h.2
     ·rw[cJ]at h;simp at h
     ·rw[cJ]at h;simp at h
    ·rename_i cJ;have cJ:l1.contains i=false:=by simpa using cJ
     cases hix:iW o with
     | false =>
      refine .inl ?_
      have pP:∀k o',ops[k]? =some o'->Bw ow o'=true->¬(k<p↔k<i)->Dp o'=true/\VT l2 k i=true:=by
       intro k o' hk he hq
       rcases fQ k o' hk he hq with h | h | h
       ·rw[cJ]at h;simp at h
       ·rw[hix]at h;simp at h
       ·exact⟨h.1.2,h.2⟩
      split
      ·rename_i hemp;have vR:l2=[]:=by simpa using hemp
       rw[same i p (by omega) hp fun k o' hk he=>by
        by_cases hq:(k<p↔k<i)
        ·exact hq
        ·have:=(pP k o' hk he hq).2;rw[vR]at this
         simp[VT]at this]
       exact fun _ _ h=>h
      ·exact othersE i i p (by omega) hp pP
     | true =>
      have yD:LenE (owns i) (owns p):=lensE i p (by omega) hp fun k o' hk he qF=>by
       rcases fQ k o' hk he qF with h | h | h
       ·rw[cJ]at h;simp at h
       ·exact h.2
       ·exact h.1.2
      refine .inr ⟨rfl,?_⟩
      split
      ·exact yD
      ·exact yD.filt (hnd i (by omega))
  have cB:∀k o',ops[k]? =some o'->Bw ow o'=true->((listed.setIfInBounds i true).getD k false=true↔k<p):=by
   intro k o' hk he;rw[hS'']
   by_cases fF:k=i
   ·subst fF;rw[ho]at hk;simp only[aA0]at hk;subst hk;rw[dJ]at he;simp at he
   ·rw[if_neg fF];exact fD k o' hk he
  have evmx:∀x:Operand,mx (ev (Ek s.slots (fun k=>listed.getD k false) 0 (ops.toList.zip ds)) x)<=Cd B s+DN ow (ops.toList.take p):=fun x=>Nat.le_trans (Pa _ x) gY
  have run:∀(e:Operand->DVal) (d':DVal),(∀x∈o.op.operands,Bg ⟨Ek s.slots (fun k=>listed.getD k false) 0 (ops.toList.zip ds),owns p⟩ loc B.M0 w (e x) (a.eval x)) ->
    (∀(w':World) (v:Value),rd (Ac (owns p) loc) (Aa (owns p) loc++B.M0) w'.heap d' v->rd (Ac (owns p) loc) (Aa (owns p) loc++B.M0) w'.heap d v)->mx d<=Cd B s+DN ow (ops.toList.take p)->FK P o (owns p) e d'->o.wpIn (wd B.ro) 0 P a w C Qx:=by
   rintro e d' he yF fB (⟨c,g,args,wD,yL,wM⟩ | ⟨wM,hq⟩)
   ·exact Wq (d':=d) (K:=fun s'=>s'=⟨putS (Ek s.slots (fun k=>listed.getD k false) 0 (ops.toList.zip ds)) o.dst d,owns p⟩) R yO.1 wD he yL wM (fun _=>rfl) yF (fun s' a' w' loc' gI R'=>by
     subst gI
     exact next p a' w' loc' hp cB (Nat.le_refl _) fB mM R')
   ·exact VC (d:=d) (K:=fun s'=>s'=⟨putS (Ek s.slots (fun k=>listed.getD k false) 0 (ops.toList.zip ds)) o.dst d,owns p⟩) R yO.1 he wM rfl (fun w' v h=>yF w' v (by rw[hq];exact h)) (fun s' a' w' loc' gI R'=>by
     subst gI
     exact next p a' w' loc' hp cB (Nat.le_refl _) fB mM R')
  unfold wpOpIn;rw[ho];simp only;obtain⟨qT,fJ⟩:=yO;have yO:Bs B.nt o.dst=true/\True:=⟨qT,trivial⟩
  cases yC:o.guard with
  | none =>
   have hw:Region.wanted o (yielded ops a.tmps)=true:=by simp[Region.wanted,yC]
   rw[if_pos hw];rw[yC]at fJ;have h1:=FK.ext2 fJ hext (fun x hx=>(kW x hx).symm);exact(run _ d (fun x _=>R.ev x) (fun _ _ h=>h) (h1.mx mM fun x _=>evmx x) h1)
  | some jw =>
   obtain⟨j,want⟩:=jw;rw[yC]at fJ;simp only at fJ;obtain⟨g1,g2,d',rfl,g3⟩:=fJ;rw[<-hg j want yC]at g1 g2 g3 next run
   have zZ:=RE (want:=want) R g1;have hw:Region.wanted o (yielded ops a.tmps)=gB (BI ops ⟨Ek s.slots (fun k=>listed.getD k false) 0 (ops.toList.zip ds),owns p⟩ j) want:=by simp only[Region.wanted,yC];exact zZ
   rw[hw];have cT:=QX (fun x hx=>(kW x hx).symm) g2
   have hstrip:∀x∈o.op.operands,Bf (HF s.slots ((ops.toList.zip ds).take i)) x=Bf (Ek s.slots (fun k=>listed.getD k false) 0 (ops.toList.zip ds)) x:=by
    intro x hx;unfold Bf;rw[kW x hx]
   split
   ·rename_i hb;rw[hb]at cT;have h1:=FK.ext2 (g3 hb) hext hstrip
    have yF:∀(w':World) (v:Value),rd (Ac (owns p) loc) (Aa (owns p) loc++B.M0) w'.heap d' v->rd (Ac (owns p) loc) (Aa (owns p) loc++B.M0) w'.heap (.sel (gB (BI ops ⟨Ek s.slots (fun k=>listed.getD k false) 0 (ops.toList.zip ds),owns p⟩ j) want) d') v:=by
     intro w' v h;rw[hb];simp only[rd];exact⟨fun _=>h,fun h'=>by simp at h'⟩
    rcases h1 with ⟨c,g,args,wD,yL,wM⟩ | ⟨wM,hq⟩
    ·refine(run (Bf (Ek s.slots (fun k=>listed.getD k false) 0 (ops.toList.zip ds))) d' ?_ yF (by rw[hb];simp[mx,wM.2.1]) (.inl ⟨c,g,args,wD,yL,wM⟩));rw[wD]at cT |-;exact fun x hx=>Oe (fun x=>R.ev x) _ cT x (by simpa using hx)
    ·obtain⟨e',q1,q2,q3⟩:=rS (fun x=>R.ev x) cT wM;exact(run e' (Bm P (owns p) e' o.op) q1 (fun w' v h=>yF w' v (by rw[hq];exact q3 _ _ _ _ h)) (by rw[hb,hq];simpa[mx,Cd]using Fn_ cT wM mM (fun x _=>evmx x)) (.inr ⟨q2,rfl⟩))
   ·rename_i hb;refine⟨fun _ _=>trivial,?_⟩;refine next p _ _ loc hp cB (Nat.le_refl _) (by rw[show gB (BI ops ⟨Ek s.slots (fun k=>listed.getD k false) 0 (ops.toList.zip ds),owns p⟩ j) want=false by simpa using hb];simp[mx]) mM ?_
    have qM:gB (BI ops ⟨Ek s.slots (fun k=>listed.getD k false) 0 (ops.toList.zip ds),owns p⟩ j) want=false:=by simpa using hb
    rw[qM];exact R.put (Jh qT) (Upd.refl _ _) (by simp[rd])
 ·rintro B G listed a w a' w' t ⟨qI,hc,p,loc,hp,fD,nF,mM,R⟩ ht hT
  have hgs:=BH (l:=s.slots) (S:=fun k=>listed.getD k false) (t:=t) (ops.toList.zip ds) 0 (fun k z hz hd=>by
   have h1:=(zat _ _ hz).1
   exact absurd hd (ht z.1 (by simpa using Array.mem_of_getElem? h1)))
  obtain⟨B',hG,R'⟩:=hT _ loc hgs R;exact⟨B',hG,qI,hc,p,loc,hp,fD,nF,mM,R'⟩
theorem PI (ow l1 l2:List Nat) {id:Nat} {ops:Array Oper} {Q:Exit->DS->Prop} (hm:P.follows .mixedOrders=true) (qG:Ei ow l1 l2 ops=true) (h:Ci P B.nt ow l1 l2 ops ops.toList 0 ⟨Q .normal⟩ s):DW P B (.region id ops true) Q s:=by
 intro a w loc R;refine wpIn_region_any hm ?_;obtain⟨Inv,h1,h2,h3,_⟩:=QJ (N:=B.N) ow l1 l2 qG R.st.nd h
 have main:∀(fuel:Nat) (listed:Array Bool) (a:Act) (w:World),(List.range ops.size).countP (fun k=>listed.getD k false)+fuel=ops.size->Inv B listed a w->wpAnyIn (wd B.ro) 0 P .any ops (QQ B Q) fuel listed a w:=by
  intro fuel
  induction fuel with
  | zero =>
   intro listed a w dR hI;obtain⟨qI,h5,h6⟩:=h2 _ _ _ _ hI
   have fA:∀i,i<ops.size->listed.getD i false=true:=by
    intro i hi;have:=(List.countP_eq_length (p:=fun k=>listed.getD k false) (l:=List.range ops.size)).1 (by simpa using dR) i (bZ0.2 hi);simpa using this
   refine⟨?_,h6 fA⟩;rw[List.eq_nil_iff_forall_not_mem];intro i hi;rw[mem_ready]at hi;obtain⟨h0,o,ho,_⟩:=hi;have qV:i<ops.size:=(aC0.1 ho).1;have h1:=fA i qV;have zP:i<listed.size:=by omega
   simp only[aO0,bO0 zP,bY0]at h0 h1;rw[h0]at h1;simp at h1
  | succ fuel ih =>
   intro listed a w dR hI;obtain⟨qI,h5,h6⟩:=h2 _ _ _ _ hI;refine⟨fun hr=>h6 (h5 hr),fun i hi=>h3 B listed a w i _ _ rfl rfl hI hi fun a' w' hI'=>ih _ a' w' ?_ hI'⟩;rw[mem_ready]at hi;obtain⟨h0,o,ho,wL⟩:=hi;have qV:i<ops.size:=(aC0.1 ho).1;have zP:i<listed.size:=by omega
   have hSi:listed.getD i false=false:=by
    simp only[aO0,bO0 zP,bY0]at h0 |-;exact h0
   have hS':(fun k=>(listed.setIfInBounds i true).getD k false)=fun k=>if k=i then true else listed.getD k false:=by
    funext k
    by_cases hk:k=i
    ·subst hk;simp[zP]
    ·rw[if_neg hk,getD_set_ne false (Ne.symm hk)]
   rw[hS',Wp _ i hSi _ qV];omega
 refine main ops.size _ a _ ?_ (h1 B rfl rfl a w loc R)
 have:(List.range ops.size).countP (fun k=>(Array.replicate ops.size false).getD k false)=0:=by
  rw[List.countP_eq_zero];intro k _;simp[aO0,dX0]
  split<;>simp
 omega
theorem PG (ow l1 l2:List Nat) {id:Nat} {ops:Array Oper} {Q:Exit->DS->Prop} (h:Ci P B.nt ow l1 l2 ops ops.toList 0 ⟨Q .normal⟩ s):DW P B (.region id ops false) Q s:=by
 intro a w loc R;refine wpIn_region ?_;rw[eJ0]
 have ext:∀k (own:List Ent),(own.map (·.id)).Nodup->Mm (IU l1 l2 k own) own:=by
  intro k own nd;unfold IU
  split
  ·intro id e hf;simp[Ah]at hf
  ·split
   ·intro id e hf;obtain⟨h1,h2⟩:=Ar hf;rw[<-h2];exact BJ nd (cG0.1 h1).1
   ·split
    ·exact fun _ _ h=>h
    ·intro id e hf;obtain⟨h1,h2⟩:=Ar hf;rw[<-h2];exact BJ nd (cG0.1 h1).1
 have key:∀(m i:Nat) (s:DS) (a:Act) (w:World) (loc:Nat->Loc),Rel B s a w loc->i+m=ops.size->Ci P B.nt ow l1 l2 ops (ops.toList.drop i) i ⟨Q .normal⟩ s->wpOpsIn (wd B.ro) 0 P ops (QQ B Q) (List.range' i m) a w:=by
  intro m
  induction m with
  | zero =>
   intro i s a w loc R hi h;rw[dA0 (by simp;omega)]at h;simp only[List.range'_zero,wpOpsIn];exact⟨s,loc,h,R⟩
  | succ m ih =>
   intro i s a w loc R hi h;have qV:i<ops.size:=by omega
   have hdr:ops.toList.drop i=ops[i]::ops.toList.drop (i+1):=by
    rw[aR0 (by simpa using qV)];simp
   rw[hdr]at h;simp only[eI0,wpOpsIn,bO0 qV];have ih':=fun s' a' w' loc' (hk:Ci P B.nt ow l1 l2 ops (ops.toList.drop (i+1)) (i+1) ⟨Q .normal⟩ s') (R':Rel B s' a' w' loc')=>ih (i+1) s' a' w' loc' R' (by omega) hk
   -- one neutral operation
   have neu:∀(e:Operand->DVal) (d d':DVal),(∀x∈ops[i].op.operands,Bg s loc B.M0 w (e x) (a.eval x))->(∀(w':World) (v:Value),rd (Ac s.own loc) (Aa s.own loc++B.M0) w'.heap d' v->rd (Ac s.own loc) (Aa s.own loc++B.M0) w'.heap d v) ->
     Bs B.nt ops[i].dst=true->FK P ops[i] (IU l1 l2 i s.own) e d'->Ci P B.nt ow l1 l2 ops (ops.toList.drop (i+1)) (i+1) ⟨Q .normal⟩ ⟨putS s.slots ops[i].dst d,s.own⟩->ops[i].wpIn (wd B.ro) 0 P a w (wpOpsIn (wd B.ro) 0 P ops (QQ B Q) (List.range' (i+1) m)) (QQ B Q):=by
    intro e d d' he yF hd h1 hk
    rcases h1.ext (ext i s.own R.st.nd) (fun x _=>rfl)with ⟨c,g,args,wD,yL,wM⟩ | ⟨wM,hq⟩
    ·exact Wq (d':=d) (K:=fun s'=>s'=⟨putS s.slots ops[i].dst d,s.own⟩) R hd wD he yL wM (fun _=>rfl) yF (fun s' a' w' loc' gI R'=>by subst gI;exact ih' _ a' w' loc' hk R')
    ·exact VC (d:=d) (K:=fun s'=>s'=⟨putS s.slots ops[i].dst d,s.own⟩) R hd he wM rfl (fun w' v h=>yF w' v (by rw[hq];exact h)) (fun s' a' w' loc' gI R'=>by subst gI;exact ih' _ a' w' loc' hk R')
   simp only[Ci]at h
   split at h
   ·rename_i hg;have hw:Region.wanted ops[i] (yielded ops a.tmps)=true:=by simp[Region.wanted,hg]
    rw[if_pos hw]
    split at h
    ·obtain⟨hd,_,h⟩:=h;obtain⟨d,own',h1,h2⟩:=Kw h (Cd B s);exact YR (R:=R) (Nat.le_refl _) hd (fun x _=>R.ev x) (fun x _=>Pa _ x) h1 fun a' w' loc' R'=>ih' _ a' w' loc' h2 R'
    ·obtain⟨hd,h⟩:=h
     split at h
     ·rename_i c wD
      split at h
      ·rename_i g args hc;obtain⟨d,h1,h2⟩:=KX h;exact neu _ d d (fun x _=>R.ev x) (fun _ _ h=>h) hd (.inl ⟨c,g,args,wD,hc,h1⟩) h2
      ·exact neu _ _ _ (fun x _=>R.ev x) (fun _ _ h=>h) hd (.inr ⟨h.1,rfl⟩) h.2
     ·exact neu _ _ _ (fun x _=>R.ev x) (fun _ _ h=>h) hd (.inr ⟨h.1,rfl⟩) h.2
   ·rename_i j want hg;obtain⟨zZ,h⟩:=h;have hgo':=RE (want:=want) R zZ;have hw:Region.wanted ops[i] (yielded ops a.tmps)=gB (BI ops s j) want:=by simp only[Region.wanted,hg];exact hgo'
    rw[hw]
    split at h
    ·rename_i fO;obtain⟨hd,_,qG,h⟩:=h
     cases hb:gB (BI ops s j) want with
     | true =>
      rw[if_pos rfl];rw[hb]at h qG;obtain⟨d0,own',h1,h2⟩:=Kw (K:=Wl _) h (Cd B s);have kE:=PP (RW fO qG)
      exact YR (R:=R) (Nat.le_refl _) hd (fun x hx=>Oe (fun x=>R.ev x) _ (RW fO qG) x (by simpa using hx)) (fun x hx=>by
       unfold Bf;rw[Qw (kE x (by simpa using hx))]
       exact Pa _ x) h1 fun a' w' loc' R'=>ih' _ a' w' loc' h2 R'.selTrue
     | false =>
      rw[if_neg (by simp)];rw[hb]at h;exact⟨fun _ _=>trivial,ih' _ _ _ loc h (R.put (Jh hd) (Upd.refl _ _) (by simp[rd]))⟩
    obtain⟨hd,qG,h⟩:=h
    have mk:∀d',(gB (BI ops s j) want=true->FK P ops[i] (IU l1 l2 i s.own) (Bf s.slots) d')->Ci P B.nt ow l1 l2 ops (ops.toList.drop (i+1)) (i+1) ⟨Q .normal⟩ ⟨putS s.slots ops[i].dst (.sel (gB (BI ops s j) want) d'),s.own⟩ ->
      if gB (BI ops s j) want=true then ops[i].wpIn (wd B.ro) 0 P a w (wpOpsIn (wd B.ro) 0 P ops (QQ B Q) (List.range' (i+1) m)) (QQ B Q)else (∀f,ops[i].about P w a.eval=some f->(wd B.ro).fn f)/\wpOpsIn (wd B.ro) 0 P ops (QQ B Q) (List.range' (i+1) m) (a.put ops[i].dst Go.undef) w:=by
     intro d' h1 hk
     cases hb:gB (BI ops s j) want with
     | true =>
      rw[if_pos rfl];rw[hb]at qG h1 hk
      have yF:∀(w':World) (d'':DVal) (v:Value),rd (Ac s.own loc) (Aa s.own loc++B.M0) w'.heap d'' v->rd (Ac s.own loc) (Aa s.own loc++B.M0) w'.heap (.sel true d'') v:=by
       intro w' d'' v h;simp only[rd];exact⟨fun _=>h,fun h'=>by simp at h'⟩
      rcases h1 rfl with ⟨c,g,args,wD,yL,wM⟩ | ⟨wM,hq⟩
      ·refine neu (Bf s.slots) (.sel true d') d' ?_ (fun w' v h=>yF w' _ v h) hd (.inl ⟨c,g,args,wD,yL,wM⟩) hk;rw[wD]at qG |-;exact fun x hx=>Oe (fun x=>R.ev x) _ qG x (by simpa using hx)
      ·obtain⟨e',q1,q2,q3⟩:=rS (fun x=>R.ev x) qG wM;exact neu e' (.sel true d') (Bm P (IU l1 l2 i s.own) e' ops[i].op) q1 (fun w' v h=>yF w' _ v (by rw[hq];exact q3 _ _ _ _ h)) hd (.inr ⟨q2,rfl⟩) hk
     | false =>
      rw[if_neg (by simp)];rw[hb]at hk;exact⟨fun _ _=>trivial,ih' _ _ _ loc hk (R.put (Jh hd) (Upd.refl _ _) (by simp[rd]))⟩
    split at h
    ·rename_i c wD
     split at h
     ·rename_i g args hc;obtain⟨d,h1,h2⟩:=UA h;exact mk d (fun hq=> .inl ⟨c,g,args,wD,hc,h1 hq⟩) h2
     ·exact mk _ (fun hq=> .inr ⟨h.1 hq,rfl⟩) h.2
    ·exact mk _ (fun hq=> .inr ⟨h.1 hq,rfl⟩) h.2
 exact key ops.size 0 s a w loc R (by omega) (by simpa using h)
end
end Go.Dm
end
