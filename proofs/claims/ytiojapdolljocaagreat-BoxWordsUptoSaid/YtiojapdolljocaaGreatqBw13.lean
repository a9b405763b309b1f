/- Parts of a proof, laid together: EnM. -/
import Derived.Test.YtiojapdolljocaaGreatqBw12
set_option linter.unusedSimpArgs false
set_option maxHeartbeats 8000000
set_option linter.unusedVariables false
set_option linter.unusedSectionVars false
section
namespace Go.Dm
variable [DMode]
structure EffSpec (ow l1 l2:List Nat) (ops:Array Oper):Prop where
 two:∀(k i:Nat) (o o':Oper),ops[k]? =some o->ops[i]? =some o'->Bm ow o=true->k=i\/(k<i/\((DB ops.toList []).getD i 0).testBit k=true)\/(i<k/\((DB ops.toList []).getD k 0).testBit i=true) \/
  (Bm ow o'=false/\(((l2.contains i=true\/(l1.contains i=true/\CR o=true))\/((l1.contains i=false/\aF o'=true)/\De o=true))\/((l1.contains i=false/\De o=true)/\UM l2 k i=true)))
theorem UV {ow l1 l2:List Nat} {ops:Array Oper} (h:DT ow l1 l2 ops=true):EffSpec ow l1 l2 ops:=by
 unfold DT at h;simp only[aM0,aX0]at h;obtain⟨_,h⟩:=h
 have mem:∀(k:Nat) (o:Oper),ops[k]? =some o->(o,k)∈ops.toList.zipIdx:=by
  intro k o hk;rw[List.mem_zipIdx_iff_getElem?];simpa using hk
 refine⟨fun k i o o' hk hi he=> ?_⟩;have h1:=h (o,k) (mem k o hk);simp only[cO0,he,Bool.not_true,bE0,false_or,aX0]at h1;have h2:=h1 (o',i) (mem i o' hi);simp only[cO0,aM0,beq_iff_eq,decide_eq_true_eq,Bool.not_eq_true']at h2
 rcases h2 with ((h2 | h2) | h2) | h2
 ·exact .inl h2
 ·exact .inr (.inl h2)
 ·exact .inr (.inr (.inl h2))
 ·exact .inr (.inr (.inr h2))
theorem XD {P:Program} {o:Oper} {l:Operand->DVal} {own:List Ent} {r:Nat} {x:ERes} (h:It P o l own r=some x) :
  ∃id r' obj,x.own=upE own id r' obj/\(CR o=true->(∃et k bs es,obj= .row et k bs es)/\(o.dst=some id\/∃e,Aj own id=some e/\Fo e=false)):=by
 obtain⟨dst,op,type,Gg,after,guard⟩:=o;unfold It at h;simp only at h;cases op<;>simp only[reduceCtorEq]at h
 case box t y =>
  split at h
  ·simp only[aA0]at h;subst h;exact⟨_,_,_,rfl,by simp[CR]⟩
  ·simp at h
 case buildSlice t len ps =>
  split at h
  ·simp only[aA0]at h;subst h;exact⟨_,_,_,rfl,by simp[CR]⟩
  ·simp at h
 case alloc t =>
  split at h
  ·simp only[aA0]at h;subst h;exact⟨_,_,_,rfl,by simp[CR]⟩
  ·simp at h
 case store t ad y =>
  split at h
  ·split at h
   ·split at h
    ·simp only[aA0]at h;subst h;exact⟨_,_,_,rfl,by simp[CR]⟩
    ·simp at h
   ·simp at h
  ·unfold ER at h
   split at h
   ·split at h
    ·split at h
     ·simp only[aA0]at h;subst h;exact⟨_,_,_,rfl,by simp[CR]⟩
     ·simp at h
    ·simp at h
   ·simp at h
  ·simp at h
 case makeSlice t lo co =>
  unfold XE at h
  split at h
  ·simp only[aA0]at h;subst h;exact⟨_,_,_,rfl,by simp[CR]⟩
  ·simp at h
 case makeMap t rv =>
  split at h
  ·simp only[aA0]at h;subst h;exact⟨_,_,_,rfl,by simp[CR]⟩
  ·simp at h
 case mapUpdate t m k x =>
  split at h
  ·split at h
   ·split at h
    ·simp only[aA0]at h;subst h;exact⟨_,_,_,rfl,by simp[CR]⟩
    ·simp at h
   ·simp at h
  ·simp at h
 case call c =>
  obtain⟨cal,args,ats⟩:=c;cases cal<;>simp only[reduceCtorEq]at h;rename_i b;cases b<;>simp only[reduceCtorEq]at h
  case append =>
   unfold LZ at h
   split at h
   ·split at h
    ·rename_i i k bs et _ _
     split at h
     ·rename_i x fV
      split at h
      ·rename_i id es hdest;simp only[aA0]at h;subst h;refine⟨_,_,_,rfl,fun _=>⟨⟨_,_,_,_,rfl⟩,?_⟩⟩;unfold GJ at hdest
       split at hdest
       ·simp only[aA0,aR0]at hdest;obtain⟨rfl,_⟩:=hdest;exact .inl rfl
       ·split at hdest
        ·rename_i e0 vA
         split at hdest
         ·split at hdest
          ·rename_i qZ
           split at hdest
           ·simp only[aA0,aR0]at hdest;obtain⟨rfl,_⟩:=hdest;exact .inr ⟨e0,vA,by unfold Fo;rw[qZ]⟩
           ·simp at hdest
          ·simp at hdest
         ·simp at hdest
        ·simp at hdest
       ·simp at hdest
      ·simp at h
     split at h
     ·rename_i id es k2 es2 hdest wB;simp only[aA0]at h;subst h;refine⟨_,_,_,rfl,fun _=>⟨⟨_,_,_,_,rfl⟩,?_⟩⟩;unfold GJ at hdest
      split at hdest
      ·simp only[aA0,aR0]at hdest;obtain⟨rfl,_⟩:=hdest;exact .inl rfl
      ·split at hdest
       ·rename_i e0 vA
        split at hdest
        ·split at hdest
         ·rename_i qZ
          split at hdest
          ·simp only[aA0,aR0]at hdest;obtain⟨rfl,_⟩:=hdest;exact .inr ⟨e0,vA,by unfold Fo;rw[qZ]⟩
          ·simp at hdest
         ·simp at hdest
        ·simp at hdest
       ·simp at hdest
      ·simp at hdest
     ·simp at h
    ·simp at h
   ·simp at h
  case copy =>
   unfold XF at h
   split at h
   ·split at h
    ·simp only[aA0]at h;subst h;exact⟨_,_,_,rfl,by simp[CR]⟩
    ·simp at h
   ·simp at h
  case clear =>
   unfold QK at h
   split at h
   ·split at h
    ·split at h
     ·split at h
      ·split at h
       ·simp only[aA0]at h;subst h;exact⟨_,_,_,rfl,by simp[CR]⟩
       ·simp at h
      ·simp at h
     ·split at h
      ·split at h
       ·simp only[aA0]at h;subst h;exact⟨_,_,_,rfl,by simp[CR]⟩
       ·simp at h
      ·simp at h
     ·simp at h
    ·simp at h
   ·simp at h
  case delete =>
   unfold LY at h
   split at h
   ·split at h
    ·split at h
     ·split at h
      ·simp only[aA0]at h;subst h;exact⟨_,_,_,rfl,by simp[CR]⟩
      ·simp at h
     ·simp at h
    ·simp at h
   ·simp at h
theorem SL {own:List Ent} {id r:Nat} {obj:DObj} (h:(own.map (·.id)).Nodup):((upE own id r obj).map (·.id)).Nodup:=by
 simp only[upE,List.map_cons,cG0];refine⟨fun hm=> ?_,DY h⟩;obtain⟨e,he,h1⟩:=aQ0.1 hm;exact(Bw.1 he).2 h1
theorem pF {P:Program} {o:Oper} {l:Operand->DVal} {own:List Ent} {r:Nat} {d:DVal} {own':List Ent} (h:OD P o l own r d own') (nd:(own.map (·.id)).Nodup):(own'.map (·.id)).Nodup:=by
 rcases h with ⟨x,hx,_,_,rfl⟩ | ⟨c,g,args,_,_,hS⟩ | ⟨c,id,r',args,e0,l0,e,A,A',b,_,_,_,_,_,_,_,_,_,_,rfl⟩
 ·obtain⟨id,r',obj,h6,_⟩:=XD hx;rw[h6];exact SL nd
 ·exact hS.2.1
 ·exact SL nd
theorem pG {P:Program} {o:Oper} {l:Operand->DVal} {own:List Ent} {r n:Nat} {d:DVal} {own':List Ent} (h:OD P o l own r d own') (ho:Gj own<=n) (hl:∀y∈o.op.operands,mx (l y)<=n) (hr:n<=r):mx d<=r+1/\Gj own'<=r+1:=by
 rcases h with ⟨x,hx,hp,rfl,rfl⟩ | ⟨c,g,args,_,_,hS⟩ | ⟨c,id,r',args,e0,l0,e,A,A',b,_,_,_,_,_,_,_,_,_,rfl,rfl⟩
 ·exact Dm_ hx hp ho hl hr
 ·exact hS.2.2.1 (by omega)
 ·refine⟨by simp[mx],Nat.le_trans (CJ _ _ _ _) ?_⟩;simp only[EP];omega
theorem BN_ {P:Program} {o:Oper} {l:Operand->DVal} {own:List Ent} {r:Nat} {x:ERes} (h:It P o l own r=some x) (ha:CR o=true) (qO:KF own o=true) (nd:(own.map (·.id)).Nodup) {e:Ent} (hb:Fo e=true) :
  e∈own↔e∈x.own:=by
 obtain⟨id,r',obj,hx,h1⟩:=XD h;obtain⟨⟨et,k,bs,es,rfl⟩,h2⟩:=h1 ha;rw[hx];unfold upE;rw[aL0,Bw]
 constructor
 ·intro he;refine .inr ⟨he,fun hid=> ?_⟩;have hf:=Cr nd he;rw[hid]at hf
  rcases h2 with h2 | ⟨e',h2,h3⟩
  ·unfold KF at qO;rw[ha,h2]at qO;simp only[hf,hb]at qO;simp at qO
  ·rw[hf]at h2;simp only[aA0]at h2;subst h2;rw[hb]at h3;simp at h3
 ·rintro (rfl | ⟨he,_⟩)
  ·simp[Fo]at hb
  ·exact he
theorem nI {P:Program} {o:Oper} {l:Operand->DVal} {own:List Ent} {r:Nat} {d:DVal} {own':List Ent} (h:OD P o l own r d own') (ha:CR o=true) (qO:KF own o=true) (nd:(own.map (·.id)).Nodup) {e:Ent} (hb:Fo e=true) :
  e∈own↔e∈own':=by
 rcases h with ⟨x,hx,_,_,rfl⟩ | ⟨c,g,args,wL,hc,hS⟩ | ⟨c,id,r',args,e0,l0,e1,A,A',b,wL,hc,_⟩
 ·exact BN_ hx ha qO nd hb
 ·unfold CR at ha;rw[wL]at ha;unfold callee at hc
  split at hc
  ·rename_i f hf;simp only[hf]at ha;simp at ha
  ·simp at hc
 ·unfold CR at ha;rw[wL]at ha;unfold Uk at hc
  split at hc
  ·rename_i f hf;simp only[hf]at ha;simp at ha
  ·simp at hc
theorem Pu {d:DVal} (h:∀c d',d= .sel c d'->c=true):mx (IA d)=mx d:=by
 cases d<;>try rfl
 rename_i c d';have:=h c d' rfl;subst this;simp[IA,mx]
theorem OR {e:Operand->DVal}:∀{l:List Operand},Fs true e l->∀x∈l,∀c d',e x= .sel c d'->c=true
 | [],_,x,hx,_,_,_=>by cases hx
 | y::l,h,x,hx,c,d',he=>by
  simp only[Fs]at h
  rcases aL0.1 hx with rfl | hx
  ·have h1:=h.1;rw[he]at h1;exact h1 rfl
  ·exact OR h.2 x hx c d' he
theorem QJ {ow:List Nat} {o:Oper} {c:Bool} {e:Operand->DVal} (he:Bm ow o=true) (h:IU c e o.op):Fs c e o.op.operands.toList:=by
 unfold IU at h
 split at h
 ·rename_i wL;unfold Bm at he;rw[wL]at he;simp at he
 ·exact h
theorem Rel.selTrue {B:Base} {l:List (Nat×DVal)} {own:List Ent} {a:Act} {w:World} {loc:Nat->Loc} {dst:Option Nat} {d:DVal} (R:Rel B ⟨Bv l dst d,own⟩ a w loc):Rel B ⟨Bv l dst (.sel true d),own⟩ a w loc where
 st:=R.st
 upd:=R.upd
 new:=R.new
 ver:=R.ver
 sl:=by
  intro i;have h:=R.sl i
  cases dst with
  | none=>exact h
  | some j =>
   simp only[Bv,Bg]at h |-
   split
   ·rename_i hj;rw[if_pos hj]at h;simp only[rd];exact⟨fun _=>h,fun h'=>by simp at h'⟩
   ·rename_i hj;rw[if_neg hj]at h;exact h
 nt:=R.nt
 df:=R.df
theorem Ck_ {P:Program} {ops:Array Oper} {o:Oper} {s:DS} {d:DVal} {own':List Ent} {r:Nat} (h:ED P ops o s d own' r) (nd:(s.own.map (·.id)).Nodup):(own'.map (·.id)).Nodup:=by
 unfold ED at h
 split at h
 ·exact pF h nd
 ·obtain⟨_,_,⟨_,d0,_,h⟩ | ⟨_,_,rfl⟩⟩:=h
  ·exact pF h nd
  ·exact nd
theorem uW {P:Program} {ops:Array Oper} {o:Oper} {s:DS} {d:DVal} {own':List Ent} {r:Nat} (h:ED P ops o s d own' r) (ha:CR o=true) (qO:KF s.own o=true) (nd:(s.own.map (·.id)).Nodup) {e:Ent} (hb:Fo e=true):e∈s.own↔e∈own':=by
 unfold ED at h
 split at h
 ·exact nI h ha qO nd hb
 ·obtain⟨_,_,⟨_,d0,_,h⟩ | ⟨_,_,rfl⟩⟩:=h
  ·exact nI h ha qO nd hb
  ·exact Iff.rfl
theorem YY {P:Program} {ops:Array Oper} {o:Oper} {s s':DS} {d:DVal} {own':List Ent} {r:Nat} (gG:s.own=s'.own) (yD:∀x∈o.op.operands,ev s.slots x=ev s'.slots x) (hg:∀j want,o.guard=some (j,want)->BD ops s j=BD ops s' j) (h:ED P ops o s d own' r):ED P ops o s' d own' r:=by
 unfold ED at h |-
 cases yV:o.guard with
 | none =>
  rw[yV]at h;simp only at h |-;rw[<-gG];exact RC yD h
 | some jw =>
  obtain⟨j,want⟩:=jw;rw[yV]at h;simp only at h |-;rw[hg j want yV]at h;obtain⟨h1,h2,h3⟩:=h;refine⟨h1,Qa yD h2,?_⟩
  rcases h3 with ⟨h3,d0,h4,h5⟩ | ⟨h3,h4,h5⟩
  ·exact .inl ⟨h3,d0,h4,by rw[<-gG];exact RC (fun x hx=>by unfold AW;rw[yD x hx]) h5⟩
  ·exact .inr ⟨h3,h4,by rw[h5,gG]⟩
theorem Cl_ {P:Program} {ow:List Nat} {ops:Array Oper} {o:Oper} {s:DS} {d:DVal} {own':List Ent} {r n:Nat} (he:Bm ow o=true) (h:ED P ops o s d own' r) (ho:Gj s.own<=n) (hl:JK s.slots<=n) (hr:n<=r):mx d<=r+1/\Gj own'<=r+1:=by
 unfold ED at h
 split at h
 ·exact pG h ho (fun y _=>Nat.le_trans (NO _ y) hl) hr
 ·obtain⟨_,h2,⟨h3,d0,rfl,h⟩ | ⟨_,rfl,rfl⟩⟩:=h
  ·rw[h3]at h2
   have:=pG h ho (fun y hy=>by
    unfold AW;rw[Pu (OR (QJ he h2) y (by simpa using hy))]
    exact Nat.le_trans (NO _ y) hl) hr
   refine⟨?_,this.2⟩;simp only[mx];simpa using this.1
  ·exact⟨by simp[mx],by omega⟩
theorem Fj.ext {P:Program} {o:Oper} {own own':List Ent} {e e':Operand->DVal} {d:DVal} (h:Fj P o own e d) (hx:Lk own own') (he:∀x∈o.op.operands,e x=e' x):Fj P o own' e' d:=by
 rcases h with ⟨c,g,args,wL,yQ,hp⟩ | ⟨hp,zF⟩
 ·refine .inl ⟨c,g,args,wL,?_,hp⟩;rw[<-Mi (fun x hx=>he x (by rw[wL];exact hx))];exact yQ
 ·obtain⟨c1,c2⟩:=Qc (P:=P) (own:=own) o.op he;obtain⟨h1,h2⟩:=Fl_ hx o.op (c1.1 hp);exact .inr ⟨h1,by rw[h2,<-c2];exact zF⟩
theorem Fj.mx {P:Program} {o:Oper} {own:List Ent} {e:Operand->DVal} {d:DVal} {n:Nat} (h:Fj P o own e d) (hn:Gj own<=n) (he:∀x∈o.op.operands,mx (e x)<=n):mx d<=n:=by
 rcases h with ⟨c,g,args,wL,yQ,hp⟩ | ⟨hp,rfl⟩
 ·rw[hp.2.1];omega
 ·exact Fk_ hn o.op he
theorem Ev {own:List Ent} {id r:Nat} {obj:DObj}:Aj (upE own id r obj) id=some ⟨id,r,obj⟩:=by simp[upE,Aj]
theorem FA {own:List Ent} {id r j:Nat} {obj:DObj} (h:j≠id):Aj (upE own id r obj) j=Aj own j:=by
 have hdel:∀own:List Ent,Aj (CE own id) j=Aj own j:=by
  intro own
  induction own with
  | nil=>rfl
  | cons e t ih =>
   simp only[CE]
   split
   ·rename_i he;rw[ih];simp only[Aj];rw[if_neg (by omega)]
   ·simp only[Aj];rw[ih]
 unfold upE;simp only[Aj];rw[if_neg (by omega),hdel]
theorem Zr {P:Program} {o:Oper} {l:Operand->DVal} {own:List Ent} {r id:Nat} {x:ERes} (h:It P o l own r=some x) (ha:De o=true) (ht:∀t a y,o.op= .store t a y->HD (l a)=some id) {e:Ent} (he:e.id≠id):e∈own↔e∈x.own:=by
 obtain⟨dst,op,type,Gg,after,guard⟩:=o;unfold De at ha;unfold It at h;simp only at h ha ht
 have up:∀r' obj,e∈own↔e∈upE own id r' obj:=by
  intro r' obj;unfold upE;rw[aL0,Bw]
  constructor
  ·exact fun hh=> .inr ⟨hh,he⟩
  ·rintro (rfl | hh)
   ·exact absurd rfl he
   ·exact hh.1
 cases op<;>simp only[reduceCtorEq,bE0]at h ha
 case store t a y =>
  have ht:=ht t a y rfl
  split at h
  ·rename_i id' r' off hl;rw[hl]at ht;simp only[HD,aA0]at ht;subst ht
   split at h
   ·split at h
    ·simp only[aA0]at h;subst h;exact up _ _
    ·simp at h
   ·simp at h
  ·rename_i id' r' k i j hl;rw[hl]at ht;simp only[HD,aA0]at ht;subst ht;unfold ER at h
   split at h
   ·split at h
    ·split at h
     ·simp only[aA0]at h;subst h;exact up _ _
     ·simp at h
    ·simp at h
   ·simp at h
  ·simp at h
theorem Sy {P:Program} {o:Oper} {l:Operand->DVal} {own:List Ent} {r id:Nat} {d:DVal} {own':List Ent} (h:OD P o l own r d own') (ha:De o=true) (ht:∀t a y,o.op= .store t a y->HD (l a)=some id) {e:Ent} (he:e.id≠id):e∈own↔e∈own':=by
 rcases h with ⟨x,hx,hp,_,rfl⟩ | ⟨c,g,args,wL,_⟩ | ⟨c,id,r',args,e0,l0,e1,A,A',b,wL,_⟩
 ·exact Zr hx ha ht he
 ·simp[De,wL]at ha
 ·simp[De,wL]at ha
theorem VN {d:DVal} {id:Nat} (h:HD (IA d)=some id) (hs:∀c d',d≠ .sel c d'):HD d=some id:=by
 cases d<;>simp only[IA]at h<;>first
  | exact h
  | (rename_i c d';exact absurd rfl (hs c d'))
theorem YX {P:Program} {ops:Array Oper} {o:Oper} {s:DS} {d:DVal} {own':List Ent} {r id:Nat} (h:ED P ops o s d own' r) (ha:De o=true) (ht:Pq s.slots o=some id) {e:Ent} (he:e.id≠id):e∈s.own↔e∈own':=by
 have yF:∀(t:TypeId) (a y:Operand),o.op= .store t a y->HD (AW s.slots a)=some id:=by
  intro t a y wL;unfold Pq at ht;rw[wL]at ht;exact ht
 unfold ED at h
 split at h
 ·refine Sy h ha (fun t a y wL=> ?_) he;have h1:=yF t a y wL;unfold AW at h1;refine VN h1 fun c d' hd=> ?_
  rcases h with ⟨x,hx,_⟩ | ⟨c,g,args,bI,_⟩ | ⟨c,id,r',args,e0,l0,e1,A,A',b,bI,_⟩
  ·unfold It at hx;rw[wL]at hx;simp only at hx;rw[hd]at hx;simp at hx
  ·rw[wL]at bI;simp at bI
  ·rw[wL]at bI;simp at bI
 ·obtain⟨_,_,⟨_,d0,_,h⟩ | ⟨_,_,rfl⟩⟩:=h
  ·exact Sy h ha (fun t a y wL=>yF t a y wL) he
  ·exact Iff.rfl
structure LenE (own own':List Ent):Prop where
 l:∀id e et k bs es,Aj own id=some e->e.obj= .row et k bs es->∃e' et' es',Aj own' id=some e'/\e'.r=e.r/\e'.obj= .row et' k bs es'/\es'.length=es.length
 v:∀id e,Aj own id=some e->∃e',Aj own' id=some e'/\e'.r=e.r
theorem LenE.refl (own:List Ent):LenE own own:=⟨fun _ e et _ _ es h1 h2=>⟨e,et,es,h1,rfl,h2,rfl⟩,fun _ e h=>⟨e,h,rfl⟩⟩
theorem LenE.trans {a b c:List Ent} (h1:LenE a b) (h2:LenE b c):LenE a c:=by
 refine⟨fun id e et k bs es g1 g2=> ?_,fun id e g=> ?_⟩
 ·obtain⟨e',et',es',k1,k2,k3,k4⟩:=h1.l id e et k bs es g1 g2;obtain⟨e'',et'',es'',l1,l2,l3,l4⟩:=h2.l id e' et' k bs es' k1 k3;exact⟨e'',et'',es'',l1,l2.trans k2,l3,l4.trans k4⟩
 ·obtain⟨e',k1,k2⟩:=h1.v id e g;obtain⟨e'',l1,l2⟩:=h2.v id e' k1;exact⟨e'',l1,l2.trans k2⟩
theorem LenE.upE {own:List Ent} {id r:Nat} {obj:DObj} {e0:Ent} (h0:Aj own id=some e0) (hr:e0.r=r)
  (h:(∃et et' k bs es es',e0.obj= .row et k bs es/\obj= .row et' k bs es'/\es'.length=es.length)\/(∃c c',e0.obj= .box c/\obj= .box c')):LenE own (upE own id r obj)/\LenE (upE own id r obj) own:=by
 refine⟨⟨?_,fun j e h1=> ?_⟩,?_,fun j e h1=> ?_⟩
 rotate_left
 ·by_cases hj:j=id
  ·subst hj;rw[h0]at h1;simp only[aA0]at h1;subst h1;exact⟨_,Ev,hr.symm⟩
  ·exact⟨e,by rw[FA hj];exact h1,rfl⟩
 rotate_left
 ·by_cases hj:j=id
  ·subst hj;rw[Ev]at h1;simp only[aA0]at h1;subst h1;exact⟨e0,h0,hr⟩
  ·exact⟨e,by rw[FA hj]at h1;exact h1,rfl⟩
 ·intro j e et k bs es h1 h2
  by_cases hj:j=id
  ·subst hj;rw[h0]at h1;simp only[aA0]at h1;subst h1
   rcases h with ⟨et1,et',k1,bs1,es1,es',g1,g2,g3⟩ | ⟨c,c',g1,g2⟩
   ·rw[h2]at g1;simp only[DObj.row.injEq]at g1;obtain⟨rfl,rfl,rfl,rfl⟩:=g1;exact⟨_,et',es',Ev,hr.symm,g2,g3⟩
   ·rw[h2]at g1;simp at g1
  ·exact⟨e,et,es,by rw[FA hj];exact h1,rfl,h2,rfl⟩
 ·intro j e et k bs es h1 h2
  by_cases hj:j=id
  ·subst hj;rw[Ev]at h1;simp only[aA0]at h1;subst h1;simp only at h2;subst h2
   rcases h with ⟨et1,et',k1,bs1,es1,es',g1,g2,g3⟩ | ⟨c,c',g1,g2⟩
   ·simp only[DObj.row.injEq]at g2;obtain⟨rfl,rfl,rfl,rfl⟩:=g2;exact⟨e0,et1,es1,h0,hr,g1,g3.symm⟩
   ·simp at g2
  ·exact⟨e,et,es,by rw[FA hj]at h1;exact h1,rfl,h2,rfl⟩
theorem LenE.filt {own own':List Ent} {f:Ent->Bool} (nd:(own.map (·.id)).Nodup) (h:LenE own own'):LenE (own.filter f) own':=by
 have key:∀id e,Aj (own.filter f) id=some e->Aj own id=some e:=fun id e h1=>by
  obtain⟨g1,g2⟩:=Ay h1;have:=Cr nd (cS0.1 g1).1;rw[g2]at this;exact this
 exact⟨fun id e et k bs es h1 h2=>h.l id e et k bs es (key id e h1) h2,fun id e h1=>h.v id e (key id e h1)⟩
theorem AN_ {P:Program} {o:Oper} {l:Operand->DVal} {own:List Ent} {r:Nat} {x:ERes} (h:It P o l own r=some x) (hp:x.pre) (ha:De o=true):LenE own x.own/\LenE x.own own:=by
 obtain⟨dst,op,type,Gg,after,guard⟩:=o;unfold De at ha;unfold It at h;simp only at h ha;cases op<;>simp only[reduceCtorEq,bE0]at h ha
 case store t a y =>
  split at h
  ·split at h
   ·rename_i e he
    split at h
    ·rename_i cs qZ;simp only[aA0]at h;subst h;exact LenE.upE he hp.1 (.inr ⟨_,_,qZ,rfl⟩)
    ·simp at h
   ·simp at h
  ·unfold ER at h
   split at h
   ·rename_i e he
    split at h
    ·rename_i et k' bs es qZ
     split at h
     ·simp only[aA0]at h;subst h;exact LenE.upE he hp.1 (.inl ⟨_,_,_,_,_,_,qZ,rfl,by simp⟩)
     ·simp at h
    ·simp at h
   ·simp at h
  ·simp at h
theorem lJ {P:Program} {o:Oper} {l:Operand->DVal} {own:List Ent} {r:Nat} {d:DVal} {own':List Ent} (h:OD P o l own r d own') (ha:De o=true):LenE own own'/\LenE own' own:=by
 rcases h with ⟨x,hx,hp,_,rfl⟩ | ⟨c,g,args,wL,_⟩ | ⟨c,id,r',args,e0,l0,e1,A,A',b,wL,_⟩
 ·exact AN_ hx hp ha
 ·simp[De,wL]at ha
 ·simp[De,wL]at ha
theorem uV {P:Program} {ops:Array Oper} {o:Oper} {s:DS} {d:DVal} {own':List Ent} {r:Nat} (h:ED P ops o s d own' r) (ha:De o=true):LenE s.own own'/\LenE own' s.own:=by
 unfold ED at h
 split at h
 ·exact lJ h ha
 ·obtain⟨_,_,⟨_,d0,_,h⟩ | ⟨_,_,rfl⟩⟩:=h
  ·exact lJ h ha
  ·exact⟨LenE.refl _,LenE.refl _⟩
theorem Fj.ext2 {P:Program} {o:Oper} {own own':List Ent} {e e':Operand->DVal} {d:DVal} (h:Fj P o own e d) (hx:Lk own own'\/(aF o=true/\LenE own own')) (he:∀x∈o.op.operands,e x=e' x):Fj P o own' e' d:=by
 rcases hx with hx | ⟨hi,hx⟩
 ·exact h.ext hx he
 ·obtain⟨dst,op,type,Gg,after,guard⟩:=o;unfold aF at hi;simp only at hi he;cases op<;>simp only[bE0]at hi
  case indexAddr t x i =>
   rcases h with ⟨c,g,args,wL,_⟩ | ⟨hp,hd⟩
   ·simp at wL
   ·refine .inr ?_;simp only[Fm,Bx]at hp hd |-;rw[<-he x (by simp[Op.operands]),<-he i (by simp[Op.operands])]
    split at hp
    ·rename_i _ _ n kk bs0 k' bs' es zS ht hr;rw[zS,ht]at hd |-;simp only at hd |-;cases hxx:e x<;>rw[hxx]at hr hd<;>simp only[AZ,reduceCtorEq]at hr
     case sl =>
      simp only[aA0,aR0]at hr;obtain⟨rfl,rfl,rfl⟩:=hr;exact⟨by simpa[AZ]using hp,hd⟩
     case osl id r =>
      split at hr
      ·rename_i e0 hf
       split at hr
       ·rename_i bA
        split at hr
        ·rename_i et k1 bs1 es1 qZ;simp only[aA0,aR0]at hr;obtain⟨rfl,rfl,rfl⟩:=hr;obtain⟨e1,et1,es1',g1,g2,g3,g4⟩:=hx.l id e0 _ _ _ _ hf qZ;have nV:AZ own' (.osl id r)=some (k1,bs1,es1'):=by simp[AZ,g1,g2,bA,g3]
         have gL:AZ own (.osl id r)=some (k1,bs1,es1):=by simp[AZ,hf,bA,qZ]
         simp only[FW]at hd |-;rw[gL]at hd;rw[nV];simp only at hd |-;exact⟨by rw[g4];exact hp,hd⟩
        ·simp at hr
       ·simp at hr
      ·simp at hr
     case vw id r k2 bs2 i2 n2 =>
      split at hr
      ·rename_i e0 hf
       split at hr
       ·rename_i bA
        split at hr
        ·rename_i et k1 bs1 es1 qZ
         split at hr
         ·rename_i hq;simp only[aA0,aR0]at hr;obtain⟨rfl,rfl,rfl⟩:=hr;obtain⟨e1,et1,es1',g1,g2,g3,g4⟩:=hx.l id e0 _ _ _ _ hf qZ;have nV:AZ own' (.vw id r k2 bs2 i2 n2)=some (k2,bs2,(es1'.drop i2).take n2):=by simp[AZ,g1,g2,bA,g3,hq,g4]
          rw[nV];simp only[FW]at hd |-;refine⟨⟨hp.1,hp.2.1,?_⟩,hd⟩;have:=hp.2.2;simp only[aW0,bZ0]at this |-;omega
         ·simp at hr
        ·simp at hr
       ·simp at hr
      ·simp at hr
    ·rename_i _ n zS ht;rw[zS,ht]at hd |-;simp only at hd |-
     split at hp
     ·rename_i len k h3;rw[h3]at hd;obtain⟨p1,p2,p3⟩:=hp
      have cu:∀id r,DK own id r=true->DK own' id r=true:=fun id r h=>by
       unfold DK at h |-
       split at h
       ·rename_i e0 hf;obtain⟨e1,g1,g2⟩:=hx.v id e0 hf;rw[g1];simp only[g2];exact h
       ·simp at h
      refine⟨⟨p1,p2,?_⟩,hd⟩;cases qG:e x<;>rw[qG]at p3<;>simp only at p3 |- <;>exact cu _ _ p3
     ·exact hp.elim
    ·exact hp.elim
section
variable {P : Program} {B : Base} {s : DS}
theorem PI (ow l1 l2:List Nat) {ops:Array Oper} {K:Cont} {nt N:Nat} (qO:DT ow l1 l2 ops=true) (hnd0:(s.own.map (·.id)).Nodup) (h:Ce P nt ow l1 l2 ops ops.toList 0 K s) :
  ∃Inv:Base->Array Bool->Act->World->Prop,
   (∀B:Base,B.nt=nt->B.N=N->∀a w loc,Rel B s a w loc->Inv B (Array.replicate ops.size false) a w.drew) /\
   (∀B listed a w,Inv B listed a w->listed.size=ops.size/\(Region.ready .any ops listed=[]->∀i,i<ops.size->listed.getD i false=true)/\((∀i,i<ops.size->listed.getD i false=true)->∃s' loc,K.f s'/\Rel B s' a w loc)) /\
   (∀(B:Base) listed a w i (C:Act->World->Prop) (Qx:Exit->Act->World->Prop),B.nt=nt->B.N=N->Inv B listed a w->i∈Region.ready .any ops listed->(∀a' w',Inv B (listed.setIfInBounds i true) a' w'->C a' w')->wpOpIn (wd B.ro) 0 P ops Qx i C a w) /\
   (∀(B:Base) (G:Base->Prop) listed a w a' w' t,Inv B listed a w->(∀o∈ops.toList,o.dst≠some t)->(∀X loc,Bg X.slots t=Bg s.slots t->Rel B X a w loc->∃B',G B'/\Rel B' X a' w' loc)->∃B',G B'/\Inv B' listed a' w'):=by
 have zR:=qO;unfold DT at zR;simp only[aM0]at zR;have spec:=NS zR.1;have spE:=UV qO;obtain⟨ds,owns,hl,bF,hK,qP⟩:=Tp (max N (max (JK s.slots) (Gj s.own))) _ 0 0 _ h;have qY:ops.toList.length=ops.size:=by simp
 rw[qY]at hK;have wY:ds.length=ops.size:=by simpa using hl
 have zat:∀(k:Nat) (z:Oper×DVal),(ops.toList.zip ds)[k]? =some z->ops[k]? =some z.1/\ds[k]? =some z.2:=by
  intro k z hz;rw[List.getElem?_zip_eq_some]at hz;exact⟨by simpa using hz.1,hz.2⟩
 have zat':∀(k:Nat) (o:Oper) (d:DVal),ops[k]? =some o->ds[k]? =some d->(ops.toList.zip ds)[k]? =some (o,d):=by
  intro k o d ho hd;rw[List.getElem?_zip_eq_some];exact⟨by simpa using ho,hd⟩
 have uniq:∀(t k k':Nat) (z z':Oper×DVal),(ops.toList.zip ds)[k]? =some z->z.1.dst=some t->(ops.toList.zip ds)[k']? =some z'->z'.1.dst=some t->k'=k :=
  fun t k k' z z' h1 h2 h3 h4=>spec.one k' k z'.1 z.1 t (zat _ _ h3).1 (zat _ _ h1).1 h4 h2
 -- what the slots jL behind the operations of S, and behind the first j
 have agree:∀(S:Nat->Bool) (j:Nat) (t:Nat),(∀(k:Nat) (o:Oper),ops[k]? =some o->o.dst=some t->(S k=true↔k<j)) ->
   Bg (DV s.slots S 0 (ops.toList.zip ds)) t=Bg (GI s.slots ((ops.toList.zip ds).take j)) t:=by
  intro S j t hS
  by_cases hex:∃(k:Nat) (z:Oper×DVal),(ops.toList.zip ds)[k]? =some z/\z.1.dst=some t
  ·obtain⟨k,z,hz,hd⟩:=hex;have hSk:=hS k z.1 (zat _ _ hz).1 hd
   by_cases hkj:k<j
   ·rw[Dr _ 0 k z hz hd (by rw[bN0];exact hSk.2 hkj) (fun k' z' h1 h2=>uniq t k k' z z' hz hd h1 h2)];rw[Jj _ _ k z (by rw[bT0 hkj];exact hz) hd];intro k' z' h1 h2
    have:(ops.toList.zip ds)[k']? =some z':=by
     rw[eK0]at h1
     split at h1
     ·exact h1
     ·simp at h1
    exact uniq t k k' z z' hz hd this h2
   ·rw[BC _ 0 (fun k' z' h1 h2=>by
     have:=uniq t k k' z z' hz hd h1 h2;subst this;rw[bN0]
     cases hq:S k' with
     | false=>rfl
     | true=>exact absurd (hSk.1 hq) hkj)]
    rw[Eu];intro z' hz' h2;obtain⟨k',vI,rfl⟩:=bU0 hz';have qV:k'<j:=by simp at vI;omega
    have zT:(ops.toList.zip ds)[k']? =some ((ops.toList.zip ds).take j)[k']:=by
     rw[List.getElem_take];exact aB0 _
    have:=uniq t k k' z _ hz hd zT h2;omega
  ·rw[BC _ 0 (fun k' z' h1 h2=>absurd ⟨k',z',h1,h2⟩ hex),Eu];intro z' hz' h2;obtain⟨k',vI,hq⟩:=bU0 (eF0 hz');exact hex ⟨k',z',by rw[aB0 vI,hq],h2⟩
 -- own objects: no two with one number; what stands between two places
 have hnd:∀j,j<=ops.size->((owns j).map (·.id)).Nodup:=by
  intro j
  induction j with
  | zero=>intro _;rw[bF];exact hnd0
  | succ j ih =>
   intro hj;have qV:j<ops.size:=by omega
   obtain⟨d,_,qR⟩:=qP j ops[j] (by simp[qV])
   rcases qR with ⟨_,_,_,hx⟩ | ⟨_,h5,_⟩
   ·exact Ck_ (s:=⟨_,_⟩) hx (ih (by omega))
   ·rw[h5];exact ih (by omega)
 have still:∀m i,i+m<=ops.size->(∀k o,i<=k->k<i+m->ops[k]? =some o->Bm ow o=false)->owns (i+m)=owns i:=by
  intro m
  induction m with
  | zero=>intro i _ _;rfl
  | succ m ih =>
   intro i hi hk;have qV:i+m<ops.size:=by omega
   obtain⟨d,_,qR⟩:=qP (i+m) ops[i+m] (by simp[qV]);have qB:=hk (i+m) ops[i+m] (by omega) (by omega) (by simp[qV])
   rcases qR with ⟨h1,_⟩ | ⟨_,h5,_⟩
   ·rw[qB]at h1;simp at h1
   ·rw[show i+(m+1)=i+m+1 by omega,h5];exact ih i (by omega) fun k o h1 h2 h3=>hk k o h1 (by omega) h3
 have same:∀i j,i<=ops.size->j<=ops.size->(∀k o,ops[k]? =some o->Bm ow o=true->(k<j↔k<i))->owns j=owns i:=by
  intro i j hi hj hk
  by_cases zO:i<=j
  ·have:=still (j-i) i (by omega) (fun k o h1 h2 h3=>by
    cases hq:Bm ow o with
    | false=>rfl
    | true=>have:=(hk k o h3 hq).1 (by omega);omega)
   rwa[show i+(j-i)=j by omega]at this
  ·have:=still (i-j) j (by omega) (fun k o h1 h2 h3=>by
    cases hq:Bm ow o with
    | false=>rfl
    | true=>have:=(hk k o h3 hq).2 (by omega);omega)
   rw[show j+(i-j)=i by omega]at this;exact this.symm
 have boxes:∀m i,i+m<=ops.size->(∀k o,i<=k->k<i+m->ops[k]? =some o->Bm ow o=false\/CR o=true)->∀e,Fo e=true->(e∈owns i↔e∈owns (i+m)):=by
  intro m
  induction m with
  | zero=>intro i _ _ e _;exact Iff.rfl
  | succ m ih =>
   intro i hi hk e he;have qV:i+m<ops.size:=by omega
   rw[ih i (by omega) (fun k o h1 h2 h3=>hk k o h1 (by omega) h3) e he];obtain⟨d,_,qR⟩:=qP (i+m) ops[i+m] (by simp[qV]);have qB:=hk (i+m) ops[i+m] (by omega) (by omega) (by simp[qV])
   rcases qR with ⟨h1,_,h4,hx⟩ | ⟨_,h5,_⟩
   ·rcases qB with h | h
    ·rw[h]at h1;simp at h1
    ·rw[show i+(m+1)=i+m+1 by omega];exact uW hx h h4.1 (hnd _ (by omega)) he
   ·rw[show i+(m+1)=i+m+1 by omega,h5]
 have boxesE:∀i j,i<=ops.size->j<=ops.size->(∀k o,ops[k]? =some o->Bm ow o=true->¬(k<j↔k<i)->CR o=true)->Lk ((owns i).filter Fo) (owns j):=by
  intro i j hi hj hk id e hf;obtain⟨h1,h2⟩:=Ay hf;rw[cS0]at h1
  have qU:e∈owns j:=by
   by_cases zO:i<=j
   ·have:=(boxes (j-i) i (by omega) (fun k o h1 h2 h3=>by
     cases hq:Bm ow o with
     | false=>exact .inl rfl
     | true=>exact .inr (hk k o h3 hq (by omega))) e h1.2).1 h1.1
    rwa[show i+(j-i)=j by omega]at this
   ·have:=(boxes (i-j) j (by omega) (fun k o h1 h2 h3=>by
     cases hq:Bm ow o with
     | false=>exact .inl rfl
     | true=>exact .inr (hk k o h3 hq (by omega))) e h1.2).2
    rw[show j+(i-j)=i by omega]at this;exact this h1.1
  rw[<-h2];exact Cr (hnd j hj) qU
 have lens:∀m i,i+m<=ops.size->(∀k o,i<=k->k<i+m->ops[k]? =some o->Bm ow o=false\/De o=true)->LenE (owns i) (owns (i+m))/\LenE (owns (i+m)) (owns i):=by
  intro m
  induction m with
  | zero=>intro i _ _;exact⟨LenE.refl _,LenE.refl _⟩
  | succ m ih =>
   intro i hi hk;have qV:i+m<ops.size:=by omega
   obtain⟨g1,g2⟩:=ih i (by omega) (fun k o h1 h2 h3=>hk k o h1 (by omega) h3);obtain⟨d,_,qR⟩:=qP (i+m) ops[i+m] (by simp[qV]);have qB:=hk (i+m) ops[i+m] (by omega) (by omega) (by simp[qV]);rw[show i+(m+1)=i+m+1 by omega]
   rcases qR with ⟨h1,_,_,hx⟩ | ⟨_,h5,_⟩
   ·rcases qB with h | h
    ·rw[h]at h1;simp at h1
    ·obtain⟨l1,l2⟩:=uV hx h;exact⟨g1.trans l1,l2.trans g2⟩
   ·rw[h5];exact⟨g1,g2⟩
 have lensE:∀i j,i<=ops.size->j<=ops.size->(∀k o,ops[k]? =some o->Bm ow o=true->¬(k<j↔k<i)->De o=true)->LenE (owns i) (owns j):=by
  intro i j hi hj hk
  by_cases zO:i<=j
  ·have:=(lens (j-i) i (by omega) (fun k o h1 h2 h3=>by
    cases hq:Bm ow o with
    | false=>exact .inl rfl
    | true=>exact .inr (hk k o h3 hq (by omega)))).1
   rwa[show i+(j-i)=j by omega]at this
  ·have:=(lens (i-j) j (by omega) (fun k o h1 h2 h3=>by
    cases hq:Bm ow o with
    | false=>exact .inl rfl
    | true=>exact .inr (hk k o h3 hq (by omega)))).2
   rwa[show j+(i-j)=i by omega]at this
 -- what the stores in between do not touch
 have touch:∀k o q,ops[k]? =some o->Bm ow o=true->De o=true->UM l2 k q=true->∀e,aH l2 q e=false->(e∈owns k↔e∈owns (k+1)):=by
  intro k o q hk he hs hq e hh;obtain⟨d,_,qR⟩:=qP k o (by simpa using hk)
  rcases qR with ⟨_,_,⟨_,htc⟩,hx⟩ | ⟨h1,_⟩
  ·unfold UM at hq;rw[cF0]at hq;obtain⟨c,hc,zX⟩:=hq;simp only[aM0,decide_eq_true_eq,beq_iff_eq]at zX;obtain⟨⟨c1,c2⟩,c3⟩:=zX;unfold Pr at htc;have h2:=aX0.1 htc c hc;simp only[cO0,decide_eq_true_eq,bne_iff_ne,ne_eq,beq_iff_eq]at h2
   have h3:Pq (GI s.slots ((ops.toList.zip ds).take k)) o=some (c/1000000-1):=by
    rcases h2 with (h2 | h2) | h2
    ·omega
    ·simp only[bN0]at h2;exact absurd c3 h2
    ·exact h2
   refine YX (s:=⟨_,owns k⟩) hx hs h3 fun hid=> ?_
   unfold aH at hh;rw[dZ0]at hh;have h4:=hh c hc;simp only[aM0,decide_eq_true_eq,beq_iff_eq,not_and]at h4;exact h4 ⟨c1,c2⟩ (by omega)
  ·rw[he]at h1;simp at h1
 have others:∀q m i,i+m<=ops.size->(∀k o,i<=k->k<i+m->ops[k]? =some o->Bm ow o=false\/(De o=true/\UM l2 k q=true))->∀e,aH l2 q e=false->(e∈owns i↔e∈owns (i+m)):=by
  intro q m
  induction m with
  | zero=>intro i _ _ e _;exact Iff.rfl
  | succ m ih =>
   intro i hi hk e he;have qV:i+m<ops.size:=by omega
   rw[ih i (by omega) (fun k o h1 h2 h3=>hk k o h1 (by omega) h3) e he,show i+(m+1)=i+m+1 by omega];have zT:ops[i+m]? =some ops[i+m]:=by simp[qV]
   cases hq:Bm ow ops[i+m]with
   | true =>
    rcases hk (i+m) ops[i+m] (by omega) (by omega) zT with h | h
    ·rw[hq]at h;simp at h
    ·exact touch _ _ q zT hq h.1 h.2 e he
   | false =>
    obtain⟨d,_,qR⟩:=qP (i+m) ops[i+m] (by simp[qV])
    rcases qR with ⟨h1,_⟩ | ⟨_,h5,_⟩
    ·rw[hq]at h1;simp at h1
    ·rw[h5]
 have othersE:∀q i j,i<=ops.size->j<=ops.size->(∀k o,ops[k]? =some o->Bm ow o=true->¬(k<j↔k<i)->(De o=true/\UM l2 k q=true))->Lk ((owns i).filter fun e=> !aH l2 q e) (owns j):=by
  intro q i j hi hj hk id e hf;obtain⟨h1,h2⟩:=Ay hf;rw[cS0]at h1;have hh:aH l2 q e=false:=by simpa using h1.2
  have qU:e∈owns j:=by
   by_cases zO:i<=j
   ·have:=(others q (j-i) i (by omega) (fun k o h1 h2 h3=>by
     cases hq:Bm ow o with
     | false=>exact .inl rfl
     | true=>exact .inr (hk k o h3 hq (by omega))) e hh).1 h1.1
    rwa[show i+(j-i)=j by omega]at this
   ·have:=(others q (i-j) j (by omega) (fun k o h1 h2 h3=>by
     cases hq:Bm ow o with
     | false=>exact .inl rfl
     | true=>exact .inr (hk k o h3 hq (by omega))) e hh).2
    rw[show j+(i-j)=i by omega]at this;exact this h1.1
  rw[<-h2];exact Cr (hnd j hj) qU
 have effs_le:∀i j,i<=j->DE ow (ops.toList.take i)<=DE ow (ops.toList.take j):=by
  intro i j zO;unfold DE;have:(ops.toList.take i)=(ops.toList.take j).take i:=by rw[List.take_take,Nat.min_eq_left zO]
  rw[this];exact(List.take_sublist _ _).countP_le
 have fin:∀(B:Base) (listed:Array Bool) (p:Nat) (a:Act) (w:World) (loc:Nat->Loc),listed.size=ops.size->eT ops (fun k=>listed.getD k false)->p<=ops.size->(∀k o,ops[k]? =some o->Bm ow o=true->(listed.getD k false=true↔k<p))->Rel B ⟨DV s.slots (fun k=>listed.getD k false) 0 (ops.toList.zip ds),owns p⟩ a w loc ->
   (∀i,i<ops.size->listed.getD i false=true)->∃s' loc,K.f s'/\Rel B s' a w loc:=by
  intro B listed p a w loc qD hc hp jP R jI
  have heq:owns p=owns ops.size:=same _ _ (Nat.le_refl _) hp fun k o h1 h2=>by
   have qV:k<ops.size:=(aD0.1 h1).1;have:=jP k o h1 h2;simp only[jI k qV,true_iff]at this;omega
  rw[heq]at R;refine⟨_,loc,hK,Rel.congr (fun t=> ?_) R⟩
  have:=agree (fun k=>listed.getD k false) (ops.toList.zip ds).length t (fun k o ho hd=>by
   have qV:k<ops.size:=(aD0.1 ho).1
   simp only[jI k qV,true_iff,List.length_zip,bK0,wY,Nat.min_self];exact qV)
  rw[this,aT0]
 have nready:∀(listed:Array Bool),Region.ready .any ops listed=[]->listed.size=ops.size->∀i,i<ops.size->listed.getD i false=true:=by
  intro listed hr qD i
  induction i using Nat.strongRecOn with
  | _ i ih =>
   intro hi
   cases hq:listed.getD i false with
   | true=>rfl
   | false =>
    exfalso;have zT:ops[i]? =some ops[i]:=bX0 hi
    have:i∈Region.ready .any ops listed:=by
     rw[mem_ready];refine⟨?_,ops[i],zT,fun e he hb=> ?_⟩
     ·have zS:i<listed.size:=by omega
      simp only[aN0,bX0 zS,bV0]at hq |-;exact hq
     ·have:=spec.acy i _ zT e he hb;exact ih e.on this (by omega)
    rw[hr]at this;simp at this
 refine⟨fun B listed a w=>listed.size=ops.size/\eT ops (fun k=>listed.getD k false)/\∃p loc,p<=ops.size/\(∀k o,ops[k]? =some o->Bm ow o=true->(listed.getD k false=true↔k<p)) /\
   (∀k d,ds[k]? =some d->listed.getD k false=true->mx d<=max N (max (JK s.slots) (Gj s.own))+DE ow (ops.toList.take p))/\Gj (owns p)<=max N (max (JK s.slots) (Gj s.own))+DE ow (ops.toList.take p) /\
   Rel B ⟨DV s.slots (fun k=>listed.getD k false) 0 (ops.toList.zip ds),owns p⟩ a w loc,?_,?_,?_,?_⟩
 ·intro B hBt hBN a w loc R;subst hBt hBN
  have fW:∀k,(Array.replicate ops.size false).getD k false=false:=by
   intro k;simp[aN0,dY0]
   split<;>simp
  refine⟨by simp,?_,0,loc,by omega,fun k o hk he=>by rw[fW];simp,fun k d hk hS=>by rw[fW]at hS;simp at hS,by rw[bF];omega,?_⟩
  ·intro k o hk hS;simp[aN0,dY0]at hS
   split at hS<;>simp at hS
  ·have R':=R.put (dst:=none) (v:=Go.undef) (d:= .any) (fun i hi=>by simp at hi) (Upd.drew [] w) (by simp[rd]);rw[bF];refine Rel.congr (fun t=> ?_) R'
   exact BC _ 0 (fun k z hz hd=>by
    simp[aN0,dY0]
    split<;>simp)
 ·rintro B listed a w ⟨qD,hc,p,loc,hp,jP,dG,dA,R⟩;exact⟨qD,fun hr=>nready listed hr qD,fin B listed p a w loc qD hc hp jP R⟩
 ·rintro B listed a w i C Qx hBt hBN ⟨qD,hc,p,loc,hp,jP,dG,dA,R⟩ hi hC;subst hBt hBN;rw[mem_ready]at hi;obtain⟨h0,o,ho,wU⟩:=hi;have qV:i<ops.size:=(aD0.1 ho).1;have zS:i<listed.size:=by omega
  have hSi:listed.getD i false=false:=by
   simp only[aN0,bX0 zS,bV0]at h0 |-;exact h0
  obtain⟨d,hd,qR⟩:=qP i o (by simpa using ho);simp only[bN0,dC0]at qR
  -- what stands ahead is done; what waits is not
  have anc:∀k,((DB ops.toList []).getD i 0).testBit k=true->listed.getD k false=true:=by
   intro k h2;rw[Qi]at h2;simp only[List.length_nil,Nat.not_lt_zero,if_false,Nat.sub_zero]at h2;have kE:ops.toList[i]? =some o:=by simpa using ho
   rw[kE]at h2;obtain⟨e,he,hb,h3⟩:=Qj _ _ _ h2;have hon:=wU e (by simpa using he) hb
   rcases h3 with rfl | h3
   ·exact hon
   ·refine QW hc e.on hon k ?_;have gF:=spec.acy i o ho e (by simpa using he) hb
    have:((DB ops.toList []).take i).getD e.on 0=(DB ops.toList []).getD e.on 0:=by
     simp[bA0,bT0 gF]
    rwa[this]at h3
  have des:∀k,((DB ops.toList []).getD k 0).testBit i=true->listed.getD k false=false:=by
   intro k h2
   cases hq:listed.getD k false with
   | false=>rfl
   | true =>
    have:=QW hc k hq i h2;rw[hSi]at this;simp at this
  -- the slots that the operation looks at
  have look:∀t∈o.looksAt ops,Bg (DV s.slots (fun k=>listed.getD k false) 0 (ops.toList.zip ds)) t=Bg (GI s.slots ((ops.toList.zip ds).take i)) t:=by
   intro t ht;refine agree _ i t fun k o' hk gP=> ?_
   rcases spec.ord i o t ho ht k o' hk gP with ⟨h1,h2⟩ | ⟨h1,h2⟩
   ·exact⟨fun _=>h1,fun _=>anc k h2⟩
   ·refine⟨fun vI=> ?_,fun vI=>by omega⟩;rw[des k h2]at vI;simp at vI
  have hS':(fun k=>(listed.setIfInBounds i true).getD k false)=fun k=>if k=i then true else listed.getD k false:=by
   funext k
   by_cases hk:k=i
   ·subst hk;simp[zS]
   ·rw[if_neg hk,getD_set_ne false (Ne.symm hk)]
  have hS'':∀k,(listed.setIfInBounds i true).getD k false=if k=i then true else listed.getD k false:=fun k=>congrFun hS' k
  have fZ:JK (DV s.slots (fun k=>listed.getD k false) 0 (ops.toList.zip ds))<=Cb B s+DE ow (ops.toList.take p):=by
   refine WE (by unfold Cb;omega) _ _ fun k z hz hS=> ?_
   rw[bN0]at hS;exact dG k z.2 (zat _ _ hz).2 hS
  have yD:∀x∈o.op.operands,ev (DV s.slots (fun k=>listed.getD k false) 0 (ops.toList.zip ds)) x=ev (GI s.slots ((ops.toList.zip ds).take i)) x:=by
   intro x hx;refine Bs_ fun t hxt=>look t ?_
   subst hxt;exact aH0 _ (List.mem_filterMap.2 ⟨.tmp t,by simpa using hx,rfl⟩)
  have hg:∀j want,o.guard=some (j,want)->BD ops ⟨DV s.slots (fun k=>listed.getD k false) 0 (ops.toList.zip ds),owns p⟩ j=BD ops ⟨GI s.slots ((ops.toList.zip ds).take i),HL l1 l2 i (owns i)⟩ j:=by
   intro j want yV;unfold BD
   cases ht:(ops[j]?).bind (·.dst)with
   | none=>rfl
   | some t =>
    refine look t (aJ0 _ ?_);rw[yV];simp[ht]
  -- the next set
  have next:∀(p':Nat) (a':Act) (w':World) (loc:Nat->Loc),p'<=ops.size->(∀k o,ops[k]? =some o->Bm ow o=true->((listed.setIfInBounds i true).getD k false=true↔k<p'))->DE ow (ops.toList.take p)<=DE ow (ops.toList.take p')->mx d<=Cb B s+DE ow (ops.toList.take p')->Gj (owns p')<=Cb B s+DE ow (ops.toList.take p') ->
    Rel B ⟨Bv (DV s.slots (fun k=>listed.getD k false) 0 (ops.toList.zip ds)) o.dst d,owns p'⟩ a' w' loc->C a' w':=by
   intro p' a' w' loc zD bE zU jR hmo R';refine hC a' w' ⟨by simpa using qD,?_,p',loc,zD,bE,?_,hmo,?_⟩
   ·rw[hS'];intro k o' hk hS e he hb
    by_cases jS:k=i
    ·subst jS;rw[ho]at hk;simp only[aA0]at hk;subst hk;have:=wU e he hb;simp only[this];split<;>rfl
    ·simp only[if_neg jS]at hS;have:=hc k o' hk hS e he hb;simp only[this];split<;>rfl
   ·intro k d' hk hS;rw[hS'']at hS
    by_cases jS:k=i
    ·subst jS;rw[hd]at hk;simp only[aA0]at hk;subst hk;exact jR
    ·rw[if_neg jS]at hS;have:=dG k d' hk hS;omega
   ·rw[hS'];refine Rel.congr (fun t=> ?_) R';rw[FF]
    by_cases kZ:o.dst=some t
    ·rw[if_pos kZ];exact Dr _ 0 i (o,d) (zat' i o d ho hd) kZ (by simp) (fun k' z' h1 h2=>uniq t i k' (o,d) z' (zat' i o d ho hd) kZ h1 h2)
    ·rw[if_neg kZ];have e1:=fun S j hS=>agree S j t hS
     by_cases hex:∃(k:Nat) (z:Oper×DVal),(ops.toList.zip ds)[k]? =some z/\z.1.dst=some t
     ·obtain⟨k,z,hz,gP⟩:=hex
      have jS:k≠i:=by
       intro jS;subst jS;have:=(zat _ _ hz).1;rw[ho]at this;simp only[aA0]at this;exact kZ (by rw[this];exact gP)
      cases hSk:listed.getD k false with
      | true =>
       rw[Dr _ 0 k z hz gP (by rw[bN0];simp[jS,hSk]) (fun k' z' h1 h2=>uniq t k k' z z' hz gP h1 h2)];rw[Dr _ 0 k z hz gP (by rw[bN0];exact hSk) (fun k' z' h1 h2=>uniq t k k' z z' hz gP h1 h2)]
      | false =>
       rw[BC _ 0 (fun k' z' h1 h2=>by
        have:=uniq t k k' z z' hz gP h1 h2;subst this
        rw[bN0];simp[jS,hSk])]
       rw[BC _ 0 (fun k' z' h1 h2=>by
        have:=uniq t k k' z z' hz gP h1 h2;subst this
        rw[bN0];exact hSk)]
     ·rw[BC _ 0 (fun k' z' h1 h2=>absurd ⟨k',z',h1,h2⟩ hex),BC _ 0 (fun k' z' h1 h2=>absurd ⟨k',z',h1,h2⟩ hex)]
  -- the operation itself
  rcases qR with ⟨jD,qC,happ,hx⟩ | ⟨hneu,gG,zR⟩
  ·have jW:∀k o',ops[k]? =some o'->Bm ow o'=true->(k<p↔k<i):=by
    intro k o' hk he;rw[<-jP k o' hk he]
    rcases spE.two k i o' o hk ho he with h | ⟨h1,h2⟩ | ⟨h1,h2⟩ | ⟨h1,_⟩
    ·subst h;rw[hSi];simp
    ·exact⟨fun _=>h1,fun _=>anc k h2⟩
    ·rw[des k h2];simp;omega
    ·rw[jD]at h1;simp at h1
   have heq:owns p=owns i:=same i p (by omega) hp jW
   have gY:DE ow (ops.toList.take p)=DE ow (ops.toList.take i):=by
    have key:∀m q,q+m<=ops.size->(∀k o',q<=k->k<q+m->ops[k]? =some o'->Bm ow o'=false)->DE ow (ops.toList.take (q+m))=DE ow (ops.toList.take q):=by
     intro m
     induction m with
     | zero=>intro q _ _;rfl
     | succ m ihm =>
      intro q hq hk;have gF:q+m<ops.size:=by omega
      rw[show q+(m+1)=q+m+1 by omega,bR0];have hg:ops.toList[q+m]? =some ops[q+m]:=by simp[gF]
      have qB:=hk (q+m) ops[q+m] (by omega) (by omega) (by simp[gF]);have:=ihm q (by omega) fun k o' h1 h2 h3=>hk k o' h1 (by omega) h3
      unfold DE at this |-;rw[hg,List.countP_append,this];simp[dN0,qB]
    by_cases hpi:p<=i
    ·have:=key (i-p) p (by omega) (fun k o' h1 h2 h3=>by
      cases hq:Bm ow o' with
      | false=>rfl
      | true=>have:=(jW k o' h3 hq).2 (by omega);omega)
     rw[show p+(i-p)=i by omega]at this;exact this.symm
    ·have:=key (p-i) i (by omega) (fun k o' h1 h2 h3=>by
      cases hq:Bm ow o' with
      | false=>rfl
      | true=>have:=(jW k o' h3 hq).1 (by omega);omega)
     rwa[show i+(p-i)=p by omega]at this
   have hinc:DE ow (ops.toList.take (i+1))=DE ow (ops.toList.take i)+1:=by
    have hg:ops.toList[i]? =some o:=by simpa using ho
    rw[bR0,hg];unfold DE;rw[List.countP_append];simp[dN0,jD]
   have qG:ED P ops o ⟨DV s.slots (fun k=>listed.getD k false) 0 (ops.toList.zip ds),owns p⟩ d (owns (i+1)) (Cb B s+DE ow (ops.toList.take i)):=by
    refine YY (s:=⟨GI s.slots ((ops.toList.zip ds).take i),owns i⟩) heq.symm (fun x hx=>(yD x hx).symm) (fun j want yV=>(hg j want yV).symm) ?_;simpa[Cb]using hx
   have qE:Cb B ⟨DV s.slots (fun k=>listed.getD k false) 0 (ops.toList.zip ds),owns p⟩<=Cb B s+DE ow (ops.toList.take i):=by
    rw[<-gY];have h0:B.N<=Cb B s:=by unfold Cb;omega
    unfold Cb;simp only;have h1:=fZ;have h2:=dA;have h3:Cb B s+DE ow (ops.toList.take p)=max B.N (max (JK s.slots) (Gj s.own))+DE ow (ops.toList.take p):=rfl;have h4:Cb B s=max B.N (max (JK s.slots) (Gj s.own)):=rfl;omega
   have hmxx:=Cl_ (n:=Cb B s+DE ow (ops.toList.take i)) jD qG (by rw[<-gY];exact dA) (by rw[<-gY];exact fZ) (Nat.le_refl _)
   have nx:∀(a':Act) (w':World) (loc':Nat->Loc),Rel B ⟨Bv (DV s.slots (fun k=>listed.getD k false) 0 (ops.toList.zip ds)) o.dst d,owns (i+1)⟩ a' w' loc'->C a' w':=by
    intro a' w' loc' R';refine next (i+1) a' w' loc' (by omega) ?_ (by rw[gY,hinc];omega) (by rw[hinc];have:=hmxx.1;omega) (by rw[hinc];have:=hmxx.2;omega) R'
    intro k o' hk he;rw[hS'']
    by_cases jS:k=i
    ·rw[if_pos jS];simp;omega
    ·rw[if_neg jS,jP k o' hk he,jW k o' hk he];omega
   unfold wpOpIn;rw[ho];simp only;unfold ED at qG
   cases yV:o.guard with
   | none =>
    rw[yV]at qG;have hw:Region.wanted o (yielded ops a.tmps)=true:=by simp[Region.wanted,yV]
    rw[if_pos hw];exact XB (R:=R) qE qC (fun x _=>R.ev x) (fun x _=>NO _ x) qG nx
   | some jw =>
    obtain⟨j,want⟩:=jw;rw[yV]at qG;simp only at qG;obtain⟨g1,g2,g3⟩:=qG;have bJ:=Qw (want:=want) R g1;have hw:Region.wanted o (yielded ops a.tmps)=gB (BD ops ⟨DV s.slots (fun k=>listed.getD k false) 0 (ops.toList.zip ds),owns p⟩ j) want:=by simp only[Region.wanted,yV];exact bJ
    rw[hw]
    rcases g3 with ⟨hb,d0,rfl,qG⟩ | ⟨hb,rfl,hown'⟩
    ·rw[hb]at g2 |-;rw[if_pos rfl];have yF:=OR (QJ jD g2)
     exact XB (R:=R) qE qC (fun x hx=>MN (fun x=>R.ev x) _ (QJ jD g2) x (by simpa using hx)) (fun x hx=>by
      unfold AW;rw[Pu (yF x (by simpa using hx))]
      exact NO _ x) qG fun a' w' loc' R'=>nx a' w' loc' R'.selTrue
    ·rw[hb];rw[if_neg (by simp)];refine⟨fun _ _=>trivial,nx _ _ loc ?_⟩;rw[hown'];exact R.put (Ld qC) (Upd.refl _ _) (by simp[rd])
  have hext:Lk (HL l1 l2 i (owns i)) (owns p)\/(aF o=true/\LenE (HL l1 l2 i (owns i)) (owns p)):=by
   unfold HL
   split
   ·exact .inl fun id e hf=>by simp[Aj]at hf
   ·rename_i cQ;have cQ:l2.contains i=false:=by simpa using cQ
    have jW:∀k o',ops[k]? =some o'->Bm ow o'=true->¬(k<p↔k<i)->(l1.contains i=true/\CR o'=true)\/((l1.contains i=false/\aF o=true)/\De o'=true)\/((l1.contains i=false/\De o'=true)/\UM l2 k i=true):=by
     intro k o' hk he qB;rw[<-jP k o' hk he]at qB
     rcases spE.two k i o' o hk ho he with h | ⟨h1,h2⟩ | ⟨h1,h2⟩ | ⟨h1,h2⟩
     ·subst h;rw[hSi]at qB;simp at qB
     ·exact absurd ⟨fun _=>h1,fun _=>anc k h2⟩ qB
     ·rw[des k h2]at qB;simp at qB;omega
     ·rcases h2 with ((h2 | h2) | h2) | h2
      ·rw[cQ]at h2;simp at h2
      ·exact .inl h2
      ·exact .inr (.inl h2)
      ·exact .inr (.inr h2)
    split
    ·rename_i yI;refine .inl (boxesE i p (by omega) hp fun k o' hk he qB=> ?_)
     rcases jW k o' hk he qB with h | h | h
     ·exact h.2
     ·rw[yI]at h;simp at h
     ·rw[yI]at h;simp at h
    ·rename_i yI;have yI:l1.contains i=false:=by simpa using yI
     cases hix:aF o with
     | false =>
      refine .inl ?_
      have nC:∀k o',ops[k]? =some o'->Bm ow o'=true->¬(k<p↔k<i)->De o'=true/\UM l2 k i=true:=by
       intro k o' hk he hq
       rcases jW k o' hk he hq with h | h | h
       ·rw[yI]at h;simp at h
       ·rw[hix]at h;simp at h
       ·exact⟨h.1.2,h.2⟩
      split
      ·rename_i hemp;have vR:l2=[]:=by simpa using hemp
       rw[same i p (by omega) hp fun k o' hk he=>by
        by_cases hq:(k<p↔k<i)
        ·exact hq
        ·have:=(nC k o' hk he hq).2;rw[vR]at this
         simp[UM]at this]
       exact fun _ _ h=>h
      ·exact othersE i i p (by omega) hp nC
     | true =>
      have zU:LenE (owns i) (owns p):=lensE i p (by omega) hp fun k o' hk he qB=>by
       rcases jW k o' hk he qB with h | h | h
       ·rw[yI]at h;simp at h
       ·exact h.2
       ·exact h.1.2
      refine .inr ⟨rfl,?_⟩
      split
      ·exact zU
      ·exact zU.filt (hnd i (by omega))
  have bE:∀k o',ops[k]? =some o'->Bm ow o'=true->((listed.setIfInBounds i true).getD k false=true↔k<p):=by
   intro k o' hk he;rw[hS'']
   by_cases jS:k=i
   ·subst jS;rw[ho]at hk;simp only[aA0]at hk;subst hk;rw[hneu]at he;simp at he
   ·rw[if_neg jS];exact jP k o' hk he
  have evmx:∀x:Operand,mx (ev (DV s.slots (fun k=>listed.getD k false) 0 (ops.toList.zip ds)) x)<=Cb B s+DE ow (ops.toList.take p):=fun x=>Nat.le_trans (NO _ x) fZ
  have run:∀(e:Operand->DVal) (d':DVal),(∀x∈o.op.operands,Bb ⟨DV s.slots (fun k=>listed.getD k false) 0 (ops.toList.zip ds),owns p⟩ loc B.M0 w (e x) (a.eval x)) ->
    (∀(w':World) (v:Value),rd (Ab (owns p) loc) (Aa (owns p) loc++B.M0) w'.heap d' v->rd (Ab (owns p) loc) (Aa (owns p) loc++B.M0) w'.heap d v)->mx d<=Cb B s+DE ow (ops.toList.take p)->Fj P o (owns p) e d'->o.wpIn (wd B.ro) 0 P a w C Qx:=by
   rintro e d' he zF jR (⟨c,g,args,wL,yQ,wC⟩ | ⟨wC,hq⟩)
   ·exact UZ (d':=d) (K:=fun s'=>s'=⟨Bv (DV s.slots (fun k=>listed.getD k false) 0 (ops.toList.zip ds)) o.dst d,owns p⟩) R zR.1 wL he yQ wC (fun _=>rfl) zF (fun s' a' w' loc' yM R'=>by
     subst yM
     exact next p a' w' loc' hp bE (Nat.le_refl _) jR dA R')
   ·exact ZV (d:=d) (K:=fun s'=>s'=⟨Bv (DV s.slots (fun k=>listed.getD k false) 0 (ops.toList.zip ds)) o.dst d,owns p⟩) R zR.1 he wC rfl (fun w' v h=>zF w' v (by rw[hq];exact h)) (fun s' a' w' loc' yM R'=>by
     subst yM
     exact next p a' w' loc' hp bE (Nat.le_refl _) jR dA R')
  unfold wpOpIn;rw[ho];simp only;obtain⟨qC,jG⟩:=zR;have zR:Cc B.nt o.dst=true/\True:=⟨qC,trivial⟩
  cases yV:o.guard with
  | none =>
   have hw:Region.wanted o (yielded ops a.tmps)=true:=by simp[Region.wanted,yV]
   rw[if_pos hw];rw[yV]at jG;have h1:=Fj.ext2 jG hext (fun x hx=>(yD x hx).symm);exact(run _ d (fun x _=>R.ev x) (fun _ _ h=>h) (h1.mx dA fun x _=>evmx x) h1)
  | some jw =>
   obtain⟨j,want⟩:=jw;rw[yV]at jG;simp only at jG;obtain⟨g1,g2,d',rfl,g3⟩:=jG;rw[<-hg j want yV]at g1 g2 g3 next run
   have bJ:=Qw (want:=want) R g1;have hw:Region.wanted o (yielded ops a.tmps)=gB (BD ops ⟨DV s.slots (fun k=>listed.getD k false) 0 (ops.toList.zip ds),owns p⟩ j) want:=by simp only[Region.wanted,yV];exact bJ
   rw[hw];have bP:=Qa (fun x hx=>(yD x hx).symm) g2
   have hstrip:∀x∈o.op.operands,AW (GI s.slots ((ops.toList.zip ds).take i)) x=AW (DV s.slots (fun k=>listed.getD k false) 0 (ops.toList.zip ds)) x:=by
    intro x hx;unfold AW;rw[yD x hx]
   split
   ·rename_i hb;rw[hb]at bP;have h1:=Fj.ext2 (g3 hb) hext hstrip
    have zF:∀(w':World) (v:Value),rd (Ab (owns p) loc) (Aa (owns p) loc++B.M0) w'.heap d' v->rd (Ab (owns p) loc) (Aa (owns p) loc++B.M0) w'.heap (.sel (gB (BD ops ⟨DV s.slots (fun k=>listed.getD k false) 0 (ops.toList.zip ds),owns p⟩ j) want) d') v:=by
     intro w' v h;rw[hb];simp only[rd];exact⟨fun _=>h,fun h'=>by simp at h'⟩
    rcases h1 with ⟨c,g,args,wL,yQ,wC⟩ | ⟨wC,hq⟩
    ·refine(run (AW (DV s.slots (fun k=>listed.getD k false) 0 (ops.toList.zip ds))) d' ?_ zF (by rw[hb];simp[mx,wC.2.1]) (.inl ⟨c,g,args,wL,yQ,wC⟩));rw[wL]at bP |-;exact fun x hx=>MN (fun x=>R.ev x) _ bP x (by simpa using hx)
    ·obtain⟨e',q1,q2,q3⟩:=iS (fun x=>R.ev x) bP wC;exact(run e' (Bx P (owns p) e' o.op) q1 (fun w' v h=>zF w' v (by rw[hq];exact q3 _ _ _ _ h)) (by rw[hb,hq];simpa[mx,Cb]using CG_ bP wC dA (fun x _=>evmx x)) (.inr ⟨q2,rfl⟩))
   ·rename_i hb;refine⟨fun _ _=>trivial,?_⟩;refine next p _ _ loc hp bE (Nat.le_refl _) (by rw[show gB (BD ops ⟨DV s.slots (fun k=>listed.getD k false) 0 (ops.toList.zip ds),owns p⟩ j) want=false by simpa using hb];simp[mx]) dA ?_
    have qL:gB (BD ops ⟨DV s.slots (fun k=>listed.getD k false) 0 (ops.toList.zip ds),owns p⟩ j) want=false:=by simpa using hb
    rw[qL];exact R.put (Ld qC) (Upd.refl _ _) (by simp[rd])
 ·rintro B G listed a w a' w' t ⟨qD,hc,p,loc,hp,jP,dG,dA,R⟩ ht hT
  have hgs:=BC (l:=s.slots) (S:=fun k=>listed.getD k false) (t:=t) (ops.toList.zip ds) 0 (fun k z hz hd=>by
   have h1:=(zat _ _ hz).1
   exact absurd hd (ht z.1 (by simpa using Array.mem_of_getElem? h1)))
  obtain⟨B',hG,R'⟩:=hT _ loc hgs R;exact⟨B',hG,qD,hc,p,loc,hp,jP,dG,dA,R'⟩
theorem OG (ow l1 l2:List Nat) {id:Nat} {ops:Array Oper} {Q:Exit->DS->Prop} (hm:P.follows .mixedOrders=true) (qO:DT ow l1 l2 ops=true) (h:Ce P B.nt ow l1 l2 ops ops.toList 0 ⟨Q .normal⟩ s):DW P B (.region id ops true) Q s:=by
 intro a w loc R;refine wpIn_region_any hm ?_;obtain⟨Inv,h1,h2,h3,_⟩:=PI (N:=B.N) ow l1 l2 qO R.st.nd h
 have main:∀(fuel:Nat) (listed:Array Bool) (a:Act) (w:World),(List.range ops.size).countP (fun k=>listed.getD k false)+fuel=ops.size->Inv B listed a w->wpAnyIn (wd B.ro) 0 P .any ops (QQ B Q) fuel listed a w:=by
  intro fuel
  induction fuel with
  | zero =>
   intro listed a w cI hI;obtain⟨qD,h5,h6⟩:=h2 _ _ _ _ hI
   have jI:∀i,i<ops.size->listed.getD i false=true:=by
    intro i hi;have:=(List.countP_eq_length (p:=fun k=>listed.getD k false) (l:=List.range ops.size)).1 (by simpa using cI) i (dP0.2 hi);simpa using this
   refine⟨?_,h6 jI⟩;rw[List.eq_nil_iff_forall_not_mem];intro i hi;rw[mem_ready]at hi;obtain⟨h0,o,ho,_⟩:=hi;have qV:i<ops.size:=(aD0.1 ho).1;have h1:=jI i qV;have zS:i<listed.size:=by omega
   simp only[aN0,bX0 zS,bV0]at h0 h1;rw[h0]at h1;simp at h1
  | succ fuel ih =>
   intro listed a w cI hI;obtain⟨qD,h5,h6⟩:=h2 _ _ _ _ hI;refine⟨fun hr=>h6 (h5 hr),fun i hi=>h3 B listed a w i _ _ rfl rfl hI hi fun a' w' hI'=>ih _ a' w' ?_ hI'⟩;rw[mem_ready]at hi;obtain⟨h0,o,ho,wU⟩:=hi;have qV:i<ops.size:=(aD0.1 ho).1;have zS:i<listed.size:=by omega
   have hSi:listed.getD i false=false:=by
    simp only[aN0,bX0 zS,bV0]at h0 |-;exact h0
   have hS':(fun k=>(listed.setIfInBounds i true).getD k false)=fun k=>if k=i then true else listed.getD k false:=by
    funext k
    by_cases hk:k=i
    ·subst hk;simp[zS]
    ·rw[if_neg hk,getD_set_ne false (Ne.symm hk)]
   rw[hS',UY _ i hSi _ qV];omega
 refine main ops.size _ a _ ?_ (h1 B rfl rfl a w loc R)
 have:(List.range ops.size).countP (fun k=>(Array.replicate ops.size false).getD k false)=0:=by
  rw[List.countP_eq_zero];intro k _;simp[aN0,dY0]
  split<;>simp
 omega
theorem OE (ow l1 l2:List Nat) {id:Nat} {ops:Array Oper} {Q:Exit->DS->Prop} (h:Ce P B.nt ow l1 l2 ops ops.toList 0 ⟨Q .normal⟩ s):DW P B (.region id ops false) Q s:=by
 intro a w loc R;refine wpIn_region ?_;rw[List.range_eq_range']
 have ext:∀k (own:List Ent),(own.map (·.id)).Nodup->Lk (HL l1 l2 k own) own:=by
  intro k own nd;unfold HL
  split
  ·intro id e hf;simp[Aj]at hf
  ·split
   ·intro id e hf;obtain⟨h1,h2⟩:=Ay hf;rw[<-h2];exact Cr nd (cS0.1 h1).1
   ·split
    ·exact fun _ _ h=>h
    ·intro id e hf;obtain⟨h1,h2⟩:=Ay hf;rw[<-h2];exact Cr nd (cS0.1 h1).1
 have key:∀(m i:Nat) (s:DS) (a:Act) (w:World) (loc:Nat->Loc),Rel B s a w loc->i+m=ops.size->Ce P B.nt ow l1 l2 ops (ops.toList.drop i) i ⟨Q .normal⟩ s->wpOpsIn (wd B.ro) 0 P ops (QQ B Q) (List.range' i m) a w:=by
  intro m
  induction m with
  | zero =>
   intro i s a w loc R hi h;rw[dK0 (by simp;omega)]at h;simp only[List.range'_zero,wpOpsIn];exact⟨s,loc,h,R⟩
  | succ m ih =>
   intro i s a w loc R hi h;have qV:i<ops.size:=by omega
   have hdr:ops.toList.drop i=ops[i]::ops.toList.drop (i+1):=by
    rw[aU0 (by simpa using qV)];simp
   rw[hdr]at h;simp only[List.range'_succ,wpOpsIn,bX0 qV];have ih':=fun s' a' w' loc' (hk:Ce P B.nt ow l1 l2 ops (ops.toList.drop (i+1)) (i+1) ⟨Q .normal⟩ s') (R':Rel B s' a' w' loc')=>ih (i+1) s' a' w' loc' R' (by omega) hk
   -- one neutral operation
   have neu:∀(e:Operand->DVal) (d d':DVal),(∀x∈ops[i].op.operands,Bb s loc B.M0 w (e x) (a.eval x))->(∀(w':World) (v:Value),rd (Ab s.own loc) (Aa s.own loc++B.M0) w'.heap d' v->rd (Ab s.own loc) (Aa s.own loc++B.M0) w'.heap d v) ->
     Cc B.nt ops[i].dst=true->Fj P ops[i] (HL l1 l2 i s.own) e d'->Ce P B.nt ow l1 l2 ops (ops.toList.drop (i+1)) (i+1) ⟨Q .normal⟩ ⟨Bv s.slots ops[i].dst d,s.own⟩->ops[i].wpIn (wd B.ro) 0 P a w (wpOpsIn (wd B.ro) 0 P ops (QQ B Q) (List.range' (i+1) m)) (QQ B Q):=by
    intro e d d' he zF hd h1 hk
    rcases h1.ext (ext i s.own R.st.nd) (fun x _=>rfl)with ⟨c,g,args,wL,yQ,wC⟩ | ⟨wC,hq⟩
    ·exact UZ (d':=d) (K:=fun s'=>s'=⟨Bv s.slots ops[i].dst d,s.own⟩) R hd wL he yQ wC (fun _=>rfl) zF (fun s' a' w' loc' yM R'=>by subst yM;exact ih' _ a' w' loc' hk R')
    ·exact ZV (d:=d) (K:=fun s'=>s'=⟨Bv s.slots ops[i].dst d,s.own⟩) R hd he wC rfl (fun w' v h=>zF w' v (by rw[hq];exact h)) (fun s' a' w' loc' yM R'=>by subst yM;exact ih' _ a' w' loc' hk R')
   simp only[Ce]at h
   split at h
   ·rename_i hg;have hw:Region.wanted ops[i] (yielded ops a.tmps)=true:=by simp[Region.wanted,hg]
    rw[if_pos hw]
    split at h
    ·obtain⟨hd,_,h⟩:=h;obtain⟨d,own',h1,h2⟩:=Jo h (Cb B s);exact XB (R:=R) (Nat.le_refl _) hd (fun x _=>R.ev x) (fun x _=>NO _ x) h1 fun a' w' loc' R'=>ih' _ a' w' loc' h2 R'
    ·obtain⟨hd,h⟩:=h
     split at h
     ·rename_i c wL
      split at h
      ·rename_i g args hc;obtain⟨d,h1,h2⟩:=JO h;exact neu _ d d (fun x _=>R.ev x) (fun _ _ h=>h) hd (.inl ⟨c,g,args,wL,hc,h1⟩) h2
      ·exact neu _ _ _ (fun x _=>R.ev x) (fun _ _ h=>h) hd (.inr ⟨h.1,rfl⟩) h.2
     ·exact neu _ _ _ (fun x _=>R.ev x) (fun _ _ h=>h) hd (.inr ⟨h.1,rfl⟩) h.2
   ·rename_i j want hg;obtain⟨bJ,h⟩:=h;have hgo':=Qw (want:=want) R bJ;have hw:Region.wanted ops[i] (yielded ops a.tmps)=gB (BD ops s j) want:=by simp only[Region.wanted,hg];exact hgo'
    rw[hw]
    split at h
    ·rename_i jD;obtain⟨hd,_,qO,h⟩:=h
     cases hb:gB (BD ops s j) want with
     | true =>
      rw[if_pos rfl];rw[hb]at h qO;obtain⟨d0,own',h1,h2⟩:=Jo (K:=UU _) h (Cb B s);have yF:=OR (QJ jD qO)
      exact XB (R:=R) (Nat.le_refl _) hd (fun x hx=>MN (fun x=>R.ev x) _ (QJ jD qO) x (by simpa using hx)) (fun x hx=>by
       unfold AW;rw[Pu (yF x (by simpa using hx))]
       exact NO _ x) h1 fun a' w' loc' R'=>ih' _ a' w' loc' h2 R'.selTrue
     | false =>
      rw[if_neg (by simp)];rw[hb]at h;exact⟨fun _ _=>trivial,ih' _ _ _ loc h (R.put (Ld hd) (Upd.refl _ _) (by simp[rd]))⟩
    obtain⟨hd,qO,h⟩:=h
    have mk:∀d',(gB (BD ops s j) want=true->Fj P ops[i] (HL l1 l2 i s.own) (AW s.slots) d')->Ce P B.nt ow l1 l2 ops (ops.toList.drop (i+1)) (i+1) ⟨Q .normal⟩ ⟨Bv s.slots ops[i].dst (.sel (gB (BD ops s j) want) d'),s.own⟩ ->
      if gB (BD ops s j) want=true then ops[i].wpIn (wd B.ro) 0 P a w (wpOpsIn (wd B.ro) 0 P ops (QQ B Q) (List.range' (i+1) m)) (QQ B Q)else (∀f,ops[i].about P w a.eval=some f->(wd B.ro).fn f)/\wpOpsIn (wd B.ro) 0 P ops (QQ B Q) (List.range' (i+1) m) (a.put ops[i].dst Go.undef) w:=by
     intro d' h1 hk
     cases hb:gB (BD ops s j) want with
     | true =>
      rw[if_pos rfl];rw[hb]at qO h1 hk
      have zF:∀(w':World) (d'':DVal) (v:Value),rd (Ab s.own loc) (Aa s.own loc++B.M0) w'.heap d'' v->rd (Ab s.own loc) (Aa s.own loc++B.M0) w'.heap (.sel true d'') v:=by
       intro w' d'' v h;simp only[rd];exact⟨fun _=>h,fun h'=>by simp at h'⟩
      rcases h1 rfl with ⟨c,g,args,wL,yQ,wC⟩ | ⟨wC,hq⟩
      ·refine neu (AW s.slots) (.sel true d') d' ?_ (fun w' v h=>zF w' _ v h) hd (.inl ⟨c,g,args,wL,yQ,wC⟩) hk;rw[wL]at qO |-;exact fun x hx=>MN (fun x=>R.ev x) _ qO x (by simpa using hx)
      ·obtain⟨e',q1,q2,q3⟩:=iS (fun x=>R.ev x) qO wC;exact neu e' (.sel true d') (Bx P (HL l1 l2 i s.own) e' ops[i].op) q1 (fun w' v h=>zF w' _ v (by rw[hq];exact q3 _ _ _ _ h)) hd (.inr ⟨q2,rfl⟩) hk
     | false =>
      rw[if_neg (by simp)];rw[hb]at hk;exact⟨fun _ _=>trivial,ih' _ _ _ loc hk (R.put (Ld hd) (Upd.refl _ _) (by simp[rd]))⟩
    split at h
    ·rename_i c wL
     split at h
     ·rename_i g args hc;obtain⟨d,h1,h2⟩:=Ts h;exact mk d (fun hq=> .inl ⟨c,g,args,wL,hc,h1 hq⟩) h2
     ·exact mk _ (fun hq=> .inr ⟨h.1 hq,rfl⟩) h.2
    ·exact mk _ (fun hq=> .inr ⟨h.1 hq,rfl⟩) h.2
 exact key ops.size 0 s a w loc R (by omega) (by simpa using h)
end
end Go.Dm
end
