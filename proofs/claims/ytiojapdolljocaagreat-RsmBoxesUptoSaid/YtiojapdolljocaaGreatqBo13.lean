/- Parts of a proof, laid together: EnM. -/
import Derived.Test.YtiojapdolljocaaGreatqBo12
set_option linter.unusedSimpArgs false
set_option maxHeartbeats 8000000
set_option linter.unusedVariables false
set_option linter.unusedSectionVars false
section
namespace Go.Dm
variable [DMode]
structure EffSpec (ow l1 l2:List Nat) (ops:Array Oper):Prop where
 two:∀(k i:Nat) (o o':Oper),ops[k]? =some o->ops[i]? =some o'->Bk ow o=true->k=i\/(k<i/\((Dv ops.toList []).getD i 0).testBit k=true)\/(i<k/\((Dv ops.toList []).getD k 0).testBit i=true) \/
  (Bk ow o'=false/\(((l2.contains i=true\/(l1.contains i=true/\CN o=true))\/((l1.contains i=false/\Zy o'=true)/\CY o=true))\/((l1.contains i=false/\CY o=true)/\Uh l2 k i=true)))
theorem Uo {ow l1 l2:List Nat} {ops:Array Oper} (h:DJ ow l1 l2 ops=true):EffSpec ow l1 l2 ops:=by
 unfold DJ at h;simp only[aN0,bB0]at h;obtain⟨_,h⟩:=h
 have mem:∀(k:Nat) (o:Oper),ops[k]? =some o->(o,k)∈ops.toList.zipIdx:=by
  intro k o hk;rw[List.mem_zipIdx_iff_getElem?];simpa using hk
 refine⟨fun k i o o' hk hi he=> ?_⟩;have h1:=h (o,k) (mem k o hk);simp only[cV0,he,Bool.not_true,bH0,false_or,bB0]at h1;have h2:=h1 (o',i) (mem i o' hi);simp only[cV0,aN0,beq_iff_eq,decide_eq_true_eq,Bool.not_eq_true']at h2
 rcases h2 with ((h2 | h2) | h2) | h2
 ·exact .inl h2
 ·exact .inr (.inl h2)
 ·exact .inr (.inr (.inl h2))
 ·exact .inr (.inr (.inr h2))
theorem WS {P:Program} {o:Oper} {l:Operand->DVal} {own:List Ent} {r:Nat} {x:ERes} (h:Ii P o l own r=some x) :
  ∃id r' obj,x.own=upE own id r' obj/\(CN o=true->(∃et k bs es,obj= .row et k bs es)/\(o.dst=some id\/∃e,Aj own id=some e/\Fb e=false)):=by
 obtain⟨dst,op,type,FX,after,guard⟩:=o;unfold Ii at h;simp only at h;cases op<;>simp only[reduceCtorEq]at h
 case box t y =>
  split at h
  ·simp only[aA0]at h;subst h;exact⟨_,_,_,rfl,by simp[CN]⟩
  ·simp at h
 case buildSlice t len ps =>
  split at h
  ·simp only[aA0]at h;subst h;exact⟨_,_,_,rfl,by simp[CN]⟩
  ·simp at h
 case alloc t =>
  split at h
  ·simp only[aA0]at h;subst h;exact⟨_,_,_,rfl,by simp[CN]⟩
  ·simp at h
 case store t ad y =>
  split at h
  ·split at h
   ·split at h
    ·simp only[aA0]at h;subst h;exact⟨_,_,_,rfl,by simp[CN]⟩
    ·simp at h
   ·simp at h
  ·unfold ED at h
   split at h
   ·split at h
    ·split at h
     ·simp only[aA0]at h;subst h;exact⟨_,_,_,rfl,by simp[CN]⟩
     ·simp at h
    ·simp at h
   ·simp at h
  ·simp at h
 case makeSlice t lo co =>
  unfold WT at h
  split at h
  ·simp only[aA0]at h;subst h;exact⟨_,_,_,rfl,by simp[CN]⟩
  ·simp at h
 case makeMap t rv =>
  split at h
  ·simp only[aA0]at h;subst h;exact⟨_,_,_,rfl,by simp[CN]⟩
  ·simp at h
 case mapUpdate t m k x =>
  split at h
  ·split at h
   ·split at h
    ·simp only[aA0]at h;subst h;exact⟨_,_,_,rfl,by simp[CN]⟩
    ·simp at h
   ·simp at h
  ·simp at h
 case call c =>
  obtain⟨cal,args,ats⟩:=c;cases cal<;>simp only[reduceCtorEq]at h;rename_i b;cases b<;>simp only[reduceCtorEq]at h
  case append =>
   unfold LB at h
   split at h
   ·split at h
    ·rename_i i k bs et _ _
     split at h
     ·rename_i x jT
      split at h
      ·rename_i id es hdest;simp only[aA0]at h;subst h;refine⟨_,_,_,rfl,fun _=>⟨⟨_,_,_,_,rfl⟩,?_⟩⟩;unfold GA at hdest
       split at hdest
       ·simp only[aA0,aS0]at hdest;obtain⟨rfl,_⟩:=hdest;exact .inl rfl
       ·split at hdest
        ·rename_i e0 vG
         split at hdest
         ·split at hdest
          ·rename_i qO
           split at hdest
           ·simp only[aA0,aS0]at hdest;obtain⟨rfl,_⟩:=hdest;exact .inr ⟨e0,vG,by unfold Fb;rw[qO]⟩
           ·simp at hdest
          ·simp at hdest
         ·simp at hdest
        ·simp at hdest
       ·simp at hdest
      ·simp at h
     split at h
     ·rename_i id es k2 es2 hdest wG;simp only[aA0]at h;subst h;refine⟨_,_,_,rfl,fun _=>⟨⟨_,_,_,_,rfl⟩,?_⟩⟩;unfold GA at hdest
      split at hdest
      ·simp only[aA0,aS0]at hdest;obtain⟨rfl,_⟩:=hdest;exact .inl rfl
      ·split at hdest
       ·rename_i e0 vG
        split at hdest
        ·split at hdest
         ·rename_i qO
          split at hdest
          ·simp only[aA0,aS0]at hdest;obtain⟨rfl,_⟩:=hdest;exact .inr ⟨e0,vG,by unfold Fb;rw[qO]⟩
          ·simp at hdest
         ·simp at hdest
        ·simp at hdest
       ·simp at hdest
      ·simp at hdest
     ·simp at h
    ·simp at h
   ·simp at h
  case copy =>
   unfold WU at h
   split at h
   ·split at h
    ·simp only[aA0]at h;subst h;exact⟨_,_,_,rfl,by simp[CN]⟩
    ·simp at h
   ·simp at h
  case clear =>
   unfold Qj at h
   split at h
   ·split at h
    ·split at h
     ·split at h
      ·split at h
       ·simp only[aA0]at h;subst h;exact⟨_,_,_,rfl,by simp[CN]⟩
       ·simp at h
      ·simp at h
     ·split at h
      ·split at h
       ·simp only[aA0]at h;subst h;exact⟨_,_,_,rfl,by simp[CN]⟩
       ·simp at h
      ·simp at h
     ·simp at h
    ·simp at h
   ·simp at h
  case delete =>
   unfold LA at h
   split at h
   ·split at h
    ·split at h
     ·split at h
      ·simp only[aA0]at h;subst h;exact⟨_,_,_,rfl,by simp[CN]⟩
      ·simp at h
     ·simp at h
    ·simp at h
   ·simp at h
theorem Si {own:List Ent} {id r:Nat} {obj:DObj} (h:(own.map (·.id)).Nodup):((upE own id r obj).map (·.id)).Nodup:=by
 simp only[upE,List.map_cons,cH0];refine⟨fun hm=> ?_,DM h⟩;obtain⟨e,he,h1⟩:=aR0.1 hm;exact(Bt.1 he).2 h1
theorem oG {P:Program} {o:Oper} {l:Operand->DVal} {own:List Ent} {r:Nat} {d:DVal} {own':List Ent} (h:NW P o l own r d own') (nd:(own.map (·.id)).Nodup):(own'.map (·.id)).Nodup:=by
 rcases h with ⟨x,hx,_,_,rfl⟩ | ⟨c,g,args,_,_,hS⟩ | ⟨c,id,r',args,e0,l0,e,A,A',b,_,_,_,_,_,_,_,_,_,_,rfl⟩
 ·obtain⟨id,r',obj,h6,_⟩:=WS hx;rw[h6];exact Si nd
 ·exact hS.2.1
 ·exact Si nd
theorem oH {P:Program} {o:Oper} {l:Operand->DVal} {own:List Ent} {r n:Nat} {d:DVal} {own':List Ent} (h:NW P o l own r d own') (ho:FZ own<=n) (hl:∀y∈o.op.operands,mx (l y)<=n) (hr:n<=r):mx d<=r+1/\FZ own'<=r+1:=by
 rcases h with ⟨x,hx,hp,rfl,rfl⟩ | ⟨c,g,args,_,_,hS⟩ | ⟨c,id,r',args,e0,l0,e,A,A',b,_,_,_,_,_,_,_,_,_,rfl,rfl⟩
 ·exact Dd_ hx hp ho hl hr
 ·exact hS.2.2.1 (by omega)
 ·refine⟨by simp[mx],Nat.le_trans (CI _ _ _ _) ?_⟩;simp only[Ez];omega
theorem Bq_ {P:Program} {o:Oper} {l:Operand->DVal} {own:List Ent} {r:Nat} {x:ERes} (h:Ii P o l own r=some x) (ha:CN o=true) (qW:Kg own o=true) (nd:(own.map (·.id)).Nodup) {e:Ent} (hb:Fb e=true) :
  e∈own↔e∈x.own:=by
 obtain⟨id,r',obj,hx,h1⟩:=WS h;obtain⟨⟨et,k,bs,es,rfl⟩,h2⟩:=h1 ha;rw[hx];unfold upE;rw[aJ0,Bt]
 constructor
 ·intro he;refine .inr ⟨he,fun hid=> ?_⟩;have hf:=Cp nd he;rw[hid]at hf
  rcases h2 with h2 | ⟨e',h2,h3⟩
  ·unfold Kg at qW;rw[ha,h2]at qW;simp only[hf,hb]at qW;simp at qW
  ·rw[hf]at h2;simp only[aA0]at h2;subst h2;rw[hb]at h3;simp at h3
 ·rintro (rfl | ⟨he,_⟩)
  ·simp[Fb]at hb
  ·exact he
theorem iO {P:Program} {o:Oper} {l:Operand->DVal} {own:List Ent} {r:Nat} {d:DVal} {own':List Ent} (h:NW P o l own r d own') (ha:CN o=true) (qW:Kg own o=true) (nd:(own.map (·.id)).Nodup) {e:Ent} (hb:Fb e=true) :
  e∈own↔e∈own':=by
 rcases h with ⟨x,hx,_,_,rfl⟩ | ⟨c,g,args,wW,hc,hS⟩ | ⟨c,id,r',args,e0,l0,e1,A,A',b,wW,hc,_⟩
 ·exact Bq_ hx ha qW nd hb
 ·unfold CN at ha;rw[wW]at ha;unfold callee at hc
  split at hc
  ·rename_i f hf;simp only[hf]at ha;simp at ha
  ·simp at hc
 ·unfold CN at ha;rw[wW]at ha;unfold TJ at hc
  split at hc
  ·rename_i f hf;simp only[hf]at ha;simp at ha
  ·simp at hc
theorem ON {d:DVal} (h:∀c d',d= .sel c d'->c=true):mx (Ip d)=mx d:=by
 cases d<;>try rfl
 rename_i c d';have:=h c d' rfl;subst this;simp[Ip,mx]
theorem Oi {e:Operand->DVal}:∀{l:List Operand},Fs true e l->∀x∈l,∀c d',e x= .sel c d'->c=true
 | [],_,x,hx,_,_,_=>by cases hx
 | y::l,h,x,hx,c,d',he=>by
  simp only[Fs]at h
  rcases aJ0.1 hx with rfl | hx
  ·have h1:=h.1;rw[he]at h1;exact h1 rfl
  ·exact Oi h.2 x hx c d' he
theorem Qi {ow:List Nat} {o:Oper} {c:Bool} {e:Operand->DVal} (he:Bk ow o=true) (h:IF c e o.op):Fs c e o.op.operands.toList:=by
 unfold IF at h
 split at h
 ·rename_i wW;unfold Bk at he;rw[wW]at he;simp at he
 ·exact h
theorem Rel.selTrue {B:Base} {l:List (Nat×DVal)} {own:List Ent} {a:Act} {w:World} {loc:Nat->Loc} {dst:Option Nat} {d:DVal} (R:Rel B ⟨Bs l dst d,own⟩ a w loc):Rel B ⟨Bs l dst (.sel true d),own⟩ a w loc where
 st:=R.st
 upd:=R.upd
 new:=R.new
 ver:=R.ver
 sl:=by
  intro i;have h:=R.sl i
  cases dst with
  | none=>exact h
  | some j =>
   simp only[Bs,Be]at h |-
   split
   ·rename_i hj;rw[if_pos hj]at h;simp only[rd];exact⟨fun _=>h,fun h'=>by simp at h'⟩
   ·rename_i hj;rw[if_neg hj]at h;exact h
 nt:=R.nt
 df:=R.df
theorem BO_ {P:Program} {ops:Array Oper} {o:Oper} {s:DS} {d:DVal} {own':List Ent} {r:Nat} (h:El P ops o s d own' r) (nd:(s.own.map (·.id)).Nodup):(own'.map (·.id)).Nodup:=by
 unfold El at h
 split at h
 ·exact oG h nd
 ·obtain⟨_,_,⟨_,d0,_,h⟩ | ⟨_,_,rfl⟩⟩:=h
  ·exact oG h nd
  ·exact nd
theorem tW {P:Program} {ops:Array Oper} {o:Oper} {s:DS} {d:DVal} {own':List Ent} {r:Nat} (h:El P ops o s d own' r) (ha:CN o=true) (qW:Kg s.own o=true) (nd:(s.own.map (·.id)).Nodup) {e:Ent} (hb:Fb e=true):e∈s.own↔e∈own':=by
 unfold El at h
 split at h
 ·exact iO h ha qW nd hb
 ·obtain⟨_,_,⟨_,d0,_,h⟩ | ⟨_,_,rfl⟩⟩:=h
  ·exact iO h ha qW nd hb
  ·exact Iff.rfl
theorem Ys {P:Program} {ops:Array Oper} {o:Oper} {s s':DS} {d:DVal} {own':List Ent} {r:Nat} (jV:s.own=s'.own) (yA:∀x∈o.op.operands,ev s.slots x=ev s'.slots x) (hg:∀j want,o.guard=some (j,want)->BA ops s j=BA ops s' j) (h:El P ops o s d own' r):El P ops o s' d own' r:=by
 unfold El at h |-
 cases zQ:o.guard with
 | none =>
  rw[zQ]at h;simp only at h |-;rw[<-jV];exact QR yA h
 | some jw =>
  obtain⟨j,want⟩:=jw;rw[zQ]at h;simp only at h |-;rw[hg j want zQ]at h;obtain⟨h1,h2,h3⟩:=h;refine⟨h1,Pm yA h2,?_⟩
  rcases h3 with ⟨h3,d0,h4,h5⟩ | ⟨h3,h4,h5⟩
  ·exact .inl ⟨h3,d0,h4,by rw[<-jV];exact QR (fun x hx=>by unfold AW;rw[yA x hx]) h5⟩
  ·exact .inr ⟨h3,h4,by rw[h5,jV]⟩
theorem BP_ {P:Program} {ow:List Nat} {ops:Array Oper} {o:Oper} {s:DS} {d:DVal} {own':List Ent} {r n:Nat} (he:Bk ow o=true) (h:El P ops o s d own' r) (ho:FZ s.own<=n) (hl:Jp s.slots<=n) (hr:n<=r):mx d<=r+1/\FZ own'<=r+1:=by
 unfold El at h
 split at h
 ·exact oH h ho (fun y _=>Nat.le_trans (Nq _ y) hl) hr
 ·obtain⟨_,h2,⟨h3,d0,rfl,h⟩ | ⟨_,rfl,rfl⟩⟩:=h
  ·rw[h3]at h2
   have:=oH h ho (fun y hy=>by
    unfold AW;rw[ON (Oi (Qi he h2) y (by simpa using hy))]
    exact Nat.le_trans (Nq _ y) hl) hr
   refine⟨?_,this.2⟩;simp only[mx];simpa using this.1
  ·exact⟨by simp[mx],by omega⟩
theorem EV.ext {P:Program} {o:Oper} {own own':List Ent} {e e':Operand->DVal} {d:DVal} (h:EV P o own e d) (hx:KJ own own') (he:∀x∈o.op.operands,e x=e' x):EV P o own' e' d:=by
 rcases h with ⟨c,g,args,wW,zP,hp⟩ | ⟨hp,zT⟩
 ·refine .inl ⟨c,g,args,wW,?_,hp⟩;rw[<-LL (fun x hx=>he x (by rw[wW];exact hx))];exact zP
 ·obtain⟨c1,c2⟩:=Pr (P:=P) (own:=own) o.op he;obtain⟨h1,h2⟩:=Fh_ hx o.op (c1.1 hp);exact .inr ⟨h1,by rw[h2,<-c2];exact zT⟩
theorem EV.mx {P:Program} {o:Oper} {own:List Ent} {e:Operand->DVal} {d:DVal} {n:Nat} (h:EV P o own e d) (hn:FZ own<=n) (he:∀x∈o.op.operands,mx (e x)<=n):mx d<=n:=by
 rcases h with ⟨c,g,args,wW,zP,hp⟩ | ⟨hp,rfl⟩
 ·rw[hp.2.1];omega
 ·exact Fg_ hn o.op he
theorem Ef {own:List Ent} {id r:Nat} {obj:DObj}:Aj (upE own id r obj) id=some ⟨id,r,obj⟩:=by simp[upE,Aj]
theorem Fl {own:List Ent} {id r j:Nat} {obj:DObj} (h:j≠id):Aj (upE own id r obj) j=Aj own j:=by
 have hdel:∀own:List Ent,Aj (CC own id) j=Aj own j:=by
  intro own
  induction own with
  | nil=>rfl
  | cons e t ih =>
   simp only[CC]
   split
   ·rename_i he;rw[ih];simp only[Aj];rw[if_neg (by omega)]
   ·simp only[Aj];rw[ih]
 unfold upE;simp only[Aj];rw[if_neg (by omega),hdel]
theorem YN {P:Program} {o:Oper} {l:Operand->DVal} {own:List Ent} {r id:Nat} {x:ERes} (h:Ii P o l own r=some x) (ha:CY o=true) (ht:∀t a y,o.op= .store t a y->Hx (l a)=some id) {e:Ent} (he:e.id≠id):e∈own↔e∈x.own:=by
 obtain⟨dst,op,type,FX,after,guard⟩:=o;unfold CY at ha;unfold Ii at h;simp only at h ha ht
 have up:∀r' obj,e∈own↔e∈upE own id r' obj:=by
  intro r' obj;unfold upE;rw[aJ0,Bt]
  constructor
  ·exact fun hh=> .inr ⟨hh,he⟩
  ·rintro (rfl | hh)
   ·exact absurd rfl he
   ·exact hh.1
 cases op<;>simp only[reduceCtorEq,bH0]at h ha
 case store t a y =>
  have ht:=ht t a y rfl
  split at h
  ·rename_i id' r' off hl;rw[hl]at ht;simp only[Hx,aA0]at ht;subst ht
   split at h
   ·split at h
    ·simp only[aA0]at h;subst h;exact up _ _
    ·simp at h
   ·simp at h
  ·rename_i id' r' k i j hl;rw[hl]at ht;simp only[Hx,aA0]at ht;subst ht;unfold ED at h
   split at h
   ·split at h
    ·split at h
     ·simp only[aA0]at h;subst h;exact up _ _
     ·simp at h
    ·simp at h
   ·simp at h
  ·simp at h
theorem RP {P:Program} {o:Oper} {l:Operand->DVal} {own:List Ent} {r id:Nat} {d:DVal} {own':List Ent} (h:NW P o l own r d own') (ha:CY o=true) (ht:∀t a y,o.op= .store t a y->Hx (l a)=some id) {e:Ent} (he:e.id≠id):e∈own↔e∈own':=by
 rcases h with ⟨x,hx,hp,_,rfl⟩ | ⟨c,g,args,wW,_⟩ | ⟨c,id,r',args,e0,l0,e1,A,A',b,wW,_⟩
 ·exact YN hx ha ht he
 ·simp[CY,wW]at ha
 ·simp[CY,wW]at ha
theorem Vj {d:DVal} {id:Nat} (h:Hx (Ip d)=some id) (hs:∀c d',d≠ .sel c d'):Hx d=some id:=by
 cases d<;>simp only[Ip]at h<;>first
  | exact h
  | (rename_i c d';exact absurd rfl (hs c d'))
theorem Yr {P:Program} {ops:Array Oper} {o:Oper} {s:DS} {d:DVal} {own':List Ent} {r id:Nat} (h:El P ops o s d own' r) (ha:CY o=true) (ht:OK s.slots o=some id) {e:Ent} (he:e.id≠id):e∈s.own↔e∈own':=by
 have yE:∀(t:TypeId) (a y:Operand),o.op= .store t a y->Hx (AW s.slots a)=some id:=by
  intro t a y wW;unfold OK at ht;rw[wW]at ht;exact ht
 unfold El at h
 split at h
 ·refine RP h ha (fun t a y wW=> ?_) he;have h1:=yE t a y wW;unfold AW at h1;refine Vj h1 fun c d' hd=> ?_
  rcases h with ⟨x,hx,_⟩ | ⟨c,g,args,bC,_⟩ | ⟨c,id,r',args,e0,l0,e1,A,A',b,bC,_⟩
  ·unfold Ii at hx;rw[wW]at hx;simp only at hx;rw[hd]at hx;simp at hx
  ·rw[wW]at bC;simp at bC
  ·rw[wW]at bC;simp at bC
 ·obtain⟨_,_,⟨_,d0,_,h⟩ | ⟨_,_,rfl⟩⟩:=h
  ·exact RP h ha (fun t a y wW=>yE t a y wW) he
  ·exact Iff.rfl
structure LenE (own own':List Ent):Prop where
 l:∀id e et k bs es,Aj own id=some e->e.obj= .row et k bs es->∃e' et' es',Aj own' id=some e'/\e'.r=e.r/\e'.obj= .row et' k bs es'/\es'.length=es.length
 v:∀id e,Aj own id=some e->∃e',Aj own' id=some e'/\e'.r=e.r
theorem LenE.refl (own:List Ent):LenE own own:=⟨fun _ e et _ _ es h1 h2=>⟨e,et,es,h1,rfl,h2,rfl⟩,fun _ e h=>⟨e,h,rfl⟩⟩
theorem LenE.trans {a b c:List Ent} (h1:LenE a b) (h2:LenE b c):LenE a c:=by
 refine⟨fun id e et k bs es g1 g2=> ?_,fun id e g=> ?_⟩
 ·obtain⟨e',et',es',k1,k2,k3,k4⟩:=h1.l id e et k bs es g1 g2;obtain⟨e'',et'',es'',l1,l2,l3,l4⟩:=h2.l id e' et' k bs es' k1 k3;exact⟨e'',et'',es'',l1,l2.trans k2,l3,l4.trans k4⟩
 ·obtain⟨e',k1,k2⟩:=h1.v id e g;obtain⟨e'',l1,l2⟩:=h2.v id e' k1;exact⟨e'',l1,l2.trans k2⟩
theorem LenE.upE {own:List Ent} {id r:Nat} {obj:DObj} {e0:Ent} (h0:Aj own id=some e0) (hr:e0.r=r)
  (h:(∃et et' k bs es es',e0.obj= .row et k bs es/\obj= .row et' k bs es'/\es'.length=es.length)\/(∃c c',e0.obj= .box c/\obj= .box c')):LenE own (upE own id r obj)/\LenE (upE own id r obj) own:=by
 refine⟨⟨?_,fun j e h1=> ?_⟩,?_,fun j e h1=> ?_⟩
 rotate_left
 ·by_cases hj:j=id
  ·subst hj;rw[h0]at h1;simp only[aA0]at h1;subst h1;exact⟨_,Ef,hr.symm⟩
  ·exact⟨e,by rw[Fl hj];exact h1,rfl⟩
 rotate_left
 ·by_cases hj:j=id
  ·subst hj;rw[Ef]at h1;simp only[aA0]at h1;subst h1;exact⟨e0,h0,hr⟩
  ·exact⟨e,by rw[Fl hj]at h1;exact h1,rfl⟩
 ·intro j e et k bs es h1 h2
  by_cases hj:j=id
  ·subst hj;rw[h0]at h1;simp only[aA0]at h1;subst h1
   rcases h with ⟨et1,et',k1,bs1,es1,es',g1,g2,g3⟩ | ⟨c,c',g1,g2⟩
   ·rw[h2]at g1;simp only[DObj.row.injEq]at g1;obtain⟨rfl,rfl,rfl,rfl⟩:=g1;exact⟨_,et',es',Ef,hr.symm,g2,g3⟩
   ·rw[h2]at g1;simp at g1
  ·exact⟨e,et,es,by rw[Fl hj];exact h1,rfl,h2,rfl⟩
 ·intro j e et k bs es h1 h2
  by_cases hj:j=id
  ·subst hj;rw[Ef]at h1;simp only[aA0]at h1;subst h1;simp only at h2;subst h2
   rcases h with ⟨et1,et',k1,bs1,es1,es',g1,g2,g3⟩ | ⟨c,c',g1,g2⟩
   ·simp only[DObj.row.injEq]at g2;obtain⟨rfl,rfl,rfl,rfl⟩:=g2;exact⟨e0,et1,es1,h0,hr,g1,g3.symm⟩
   ·simp at g2
  ·exact⟨e,et,es,by rw[Fl hj]at h1;exact h1,rfl,h2,rfl⟩
theorem LenE.filt {own own':List Ent} {f:Ent->Bool} (nd:(own.map (·.id)).Nodup) (h:LenE own own'):LenE (own.filter f) own':=by
 have key:∀id e,Aj (own.filter f) id=some e->Aj own id=some e:=fun id e h1=>by
  obtain⟨g1,g2⟩:=AA h1;have:=Cp nd (cC0.1 g1).1;rw[g2]at this;exact this
 exact⟨fun id e et k bs es h1 h2=>h.l id e et k bs es (key id e h1) h2,fun id e h1=>h.v id e (key id e h1)⟩
theorem As_ {P:Program} {o:Oper} {l:Operand->DVal} {own:List Ent} {r:Nat} {x:ERes} (h:Ii P o l own r=some x) (hp:x.pre) (ha:CY o=true):LenE own x.own/\LenE x.own own:=by
 obtain⟨dst,op,type,FX,after,guard⟩:=o;unfold CY at ha;unfold Ii at h;simp only at h ha;cases op<;>simp only[reduceCtorEq,bH0]at h ha
 case store t a y =>
  split at h
  ·split at h
   ·rename_i e he
    split at h
    ·rename_i cs qO;simp only[aA0]at h;subst h;exact LenE.upE he hp.1 (.inr ⟨_,_,qO,rfl⟩)
    ·simp at h
   ·simp at h
  ·unfold ED at h
   split at h
   ·rename_i e he
    split at h
    ·rename_i et k' bs es qO
     split at h
     ·simp only[aA0]at h;subst h;exact LenE.upE he hp.1 (.inl ⟨_,_,_,_,_,_,qO,rfl,by simp⟩)
     ·simp at h
    ·simp at h
   ·simp at h
  ·simp at h
theorem eW {P:Program} {o:Oper} {l:Operand->DVal} {own:List Ent} {r:Nat} {d:DVal} {own':List Ent} (h:NW P o l own r d own') (ha:CY o=true):LenE own own'/\LenE own' own:=by
 rcases h with ⟨x,hx,hp,_,rfl⟩ | ⟨c,g,args,wW,_⟩ | ⟨c,id,r',args,e0,l0,e1,A,A',b,wW,_⟩
 ·exact As_ hx hp ha
 ·simp[CY,wW]at ha
 ·simp[CY,wW]at ha
theorem tV {P:Program} {ops:Array Oper} {o:Oper} {s:DS} {d:DVal} {own':List Ent} {r:Nat} (h:El P ops o s d own' r) (ha:CY o=true):LenE s.own own'/\LenE own' s.own:=by
 unfold El at h
 split at h
 ·exact eW h ha
 ·obtain⟨_,_,⟨_,d0,_,h⟩ | ⟨_,_,rfl⟩⟩:=h
  ·exact eW h ha
  ·exact⟨LenE.refl _,LenE.refl _⟩
theorem EV.ext2 {P:Program} {o:Oper} {own own':List Ent} {e e':Operand->DVal} {d:DVal} (h:EV P o own e d) (hx:KJ own own'\/(Zy o=true/\LenE own own')) (he:∀x∈o.op.operands,e x=e' x):EV P o own' e' d:=by
 rcases hx with hx | ⟨hi,hx⟩
 ·exact h.ext hx he
 ·obtain⟨dst,op,type,FX,after,guard⟩:=o;unfold Zy at hi;simp only at hi he;cases op<;>simp only[bH0]at hi
  case indexAddr t x i =>
   rcases h with ⟨c,g,args,wW,_⟩ | ⟨hp,hd⟩
   ·simp at wW
   ·refine .inr ?_;simp only[Fa,Bv]at hp hd |-;rw[<-he x (by simp[Op.operands]),<-he i (by simp[Op.operands])]
    split at hp
    ·rename_i _ _ n kk bs0 k' bs' es zO ht hr;rw[zO,ht]at hd |-;simp only at hd |-;cases hxx:e x<;>rw[hxx]at hr hd<;>simp only[Ba,reduceCtorEq]at hr
     case sl =>
      simp only[aA0,aS0]at hr;obtain⟨rfl,rfl,rfl⟩:=hr;exact⟨by simpa[Ba]using hp,hd⟩
     case osl id r =>
      split at hr
      ·rename_i e0 hf
       split at hr
       ·rename_i bW
        split at hr
        ·rename_i et k1 bs1 es1 qO;simp only[aA0,aS0]at hr;obtain⟨rfl,rfl,rfl⟩:=hr;obtain⟨e1,et1,es1',g1,g2,g3,g4⟩:=hx.l id e0 _ _ _ _ hf qO;have nU:Ba own' (.osl id r)=some (k1,bs1,es1'):=by simp[Ba,g1,g2,bW,g3]
         have gU:Ba own (.osl id r)=some (k1,bs1,es1):=by simp[Ba,hf,bW,qO]
         simp only[FM]at hd |-;rw[gU]at hd;rw[nU];simp only at hd |-;exact⟨by rw[g4];exact hp,hd⟩
        ·simp at hr
       ·simp at hr
      ·simp at hr
     case vw id r k2 bs2 i2 n2 =>
      split at hr
      ·rename_i e0 hf
       split at hr
       ·rename_i bW
        split at hr
        ·rename_i et k1 bs1 es1 qO
         split at hr
         ·rename_i hq;simp only[aA0,aS0]at hr;obtain⟨rfl,rfl,rfl⟩:=hr;obtain⟨e1,et1,es1',g1,g2,g3,g4⟩:=hx.l id e0 _ _ _ _ hf qO;have nU:Ba own' (.vw id r k2 bs2 i2 n2)=some (k2,bs2,(es1'.drop i2).take n2):=by simp[Ba,g1,g2,bW,g3,hq,g4]
          rw[nU];simp only[FM]at hd |-;refine⟨⟨hp.1,hp.2.1,?_⟩,hd⟩;have:=hp.2.2;simp only[bD0,cB0]at this |-;omega
         ·simp at hr
        ·simp at hr
       ·simp at hr
      ·simp at hr
    ·rename_i _ n zO ht;rw[zO,ht]at hd |-;simp only at hd |-
     split at hp
     ·rename_i len k h3;rw[h3]at hd;obtain⟨p1,p2,p3⟩:=hp
      have cu:∀id r,DB own id r=true->DB own' id r=true:=fun id r h=>by
       unfold DB at h |-
       split at h
       ·rename_i e0 hf;obtain⟨e1,g1,g2⟩:=hx.v id e0 hf;rw[g1];simp only[g2];exact h
       ·simp at h
      refine⟨⟨p1,p2,?_⟩,hd⟩;cases qA:e x<;>rw[qA]at p3<;>simp only at p3 |- <;>exact cu _ _ p3
     ·exact hp.elim
    ·exact hp.elim
section
variable {P : Program} {B : Base} {s : DS}
theorem OZ (ow l1 l2:List Nat) {ops:Array Oper} {K:Cont} {nt N:Nat} (qW:DJ ow l1 l2 ops=true) (hnd0:(s.own.map (·.id)).Nodup) (h:BZ P nt ow l1 l2 ops ops.toList 0 K s) :
  ∃Inv:Base->Array Bool->Act->World->Prop,
   (∀B:Base,B.nt=nt->B.N=N->∀a w loc,Rel B s a w loc->Inv B (Array.replicate ops.size false) a w.drew) /\
   (∀B listed a w,Inv B listed a w->listed.size=ops.size/\(Region.ready .any ops listed=[]->∀i,i<ops.size->listed.getD i false=true)/\((∀i,i<ops.size->listed.getD i false=true)->∃s' loc,K.f s'/\Rel B s' a w loc)) /\
   (∀(B:Base) listed a w i (C:Act->World->Prop) (Qx:Exit->Act->World->Prop),B.nt=nt->B.N=N->Inv B listed a w->i∈Region.ready .any ops listed->(∀a' w',Inv B (listed.setIfInBounds i true) a' w'->C a' w')->wpOpIn (wd B.ro) 0 P ops Qx i C a w) /\
   (∀(B:Base) (G:Base->Prop) listed a w a' w' t,Inv B listed a w->(∀o∈ops.toList,o.dst≠some t)->(∀X loc,Be X.slots t=Be s.slots t->Rel B X a w loc->∃B',G B'/\Rel B' X a' w' loc)->∃B',G B'/\Inv B' listed a' w'):=by
 have zF:=qW;unfold DJ at zF;simp only[aN0]at zF;have spec:=Nu zF.1;have spE:=Uo qW;obtain⟨ds,owns,hl,bE,hK,qI⟩:=SI (max N (max (Jp s.slots) (FZ s.own))) _ 0 0 _ h;have qU:ops.toList.length=ops.size:=by simp
 rw[qU]at hK;have wY:ds.length=ops.size:=by simpa using hl
 have zat:∀(k:Nat) (z:Oper×DVal),(ops.toList.zip ds)[k]? =some z->ops[k]? =some z.1/\ds[k]? =some z.2:=by
  intro k z hz;rw[List.getElem?_zip_eq_some]at hz;exact⟨by simpa using hz.1,hz.2⟩
 have zat':∀(k:Nat) (o:Oper) (d:DVal),ops[k]? =some o->ds[k]? =some d->(ops.toList.zip ds)[k]? =some (o,d):=by
  intro k o d ho hd;rw[List.getElem?_zip_eq_some];exact⟨by simpa using ho,hd⟩
 have uniq:∀(t k k':Nat) (z z':Oper×DVal),(ops.toList.zip ds)[k]? =some z->z.1.dst=some t->(ops.toList.zip ds)[k']? =some z'->z'.1.dst=some t->k'=k :=
  fun t k k' z z' h1 h2 h3 h4=>spec.one k' k z'.1 z.1 t (zat _ _ h3).1 (zat _ _ h1).1 h4 h2
 -- what the slots jU behind the operations of S, and behind the first j
 have agree:∀(S:Nat->Bool) (j:Nat) (t:Nat),(∀(k:Nat) (o:Oper),ops[k]? =some o->o.dst=some t->(S k=true↔k<j)) ->
   Be (DL s.slots S 0 (ops.toList.zip ds)) t=Be (Gz s.slots ((ops.toList.zip ds).take j)) t:=by
  intro S j t hS
  by_cases hex:∃(k:Nat) (z:Oper×DVal),(ops.toList.zip ds)[k]? =some z/\z.1.dst=some t
  ·obtain⟨k,z,hz,hd⟩:=hex;have hSk:=hS k z.1 (zat _ _ hz).1 hd
   by_cases mE:k<j
   ·rw[Dj _ 0 k z hz hd (by rw[bN0];exact hSk.2 mE) (fun k' z' h1 h2=>uniq t k k' z z' hz hd h1 h2)];rw[IT _ _ k z (by rw[bL0 mE];exact hz) hd];intro k' z' h1 h2
    have:(ops.toList.zip ds)[k']? =some z':=by
     rw[eK0]at h1
     split at h1
     ·exact h1
     ·simp at h1
    exact uniq t k k' z z' hz hd this h2
   ·rw[Bz _ 0 (fun k' z' h1 h2=>by
     have:=uniq t k k' z z' hz hd h1 h2;subst this;rw[bN0]
     cases hq:S k' with
     | false=>rfl
     | true=>exact absurd (hSk.1 hq) mE)]
    rw[Ee];intro z' hz' h2;obtain⟨k',vM,rfl⟩:=bW0 hz';have qV:k'<j:=by simp at vM;omega
    have zI:(ops.toList.zip ds)[k']? =some ((ops.toList.zip ds).take j)[k']:=by
     rw[List.getElem_take];exact aD0 _
    have:=uniq t k k' z _ hz hd zI h2;omega
  ·rw[Bz _ 0 (fun k' z' h1 h2=>absurd ⟨k',z',h1,h2⟩ hex),Ee];intro z' hz' h2;obtain⟨k',vM,hq⟩:=bW0 (dI0 hz');exact hex ⟨k',z',by rw[aD0 vM,hq],h2⟩
 -- own objects: no two with one number; what stands between two places
 have hnd:∀j,j<=ops.size->((owns j).map (·.id)).Nodup:=by
  intro j
  induction j with
  | zero=>intro _;rw[bE];exact hnd0
  | succ j ih =>
   intro hj;have qV:j<ops.size:=by omega
   obtain⟨d,_,qK⟩:=qI j ops[j] (by simp[qV])
   rcases qK with ⟨_,_,_,hx⟩ | ⟨_,h5,_⟩
   ·exact BO_ (s:=⟨_,_⟩) hx (ih (by omega))
   ·rw[h5];exact ih (by omega)
 have still:∀m i,i+m<=ops.size->(∀k o,i<=k->k<i+m->ops[k]? =some o->Bk ow o=false)->owns (i+m)=owns i:=by
  intro m
  induction m with
  | zero=>intro i _ _;rfl
  | succ m ih =>
   intro i hi hk;have qV:i+m<ops.size:=by omega
   obtain⟨d,_,qK⟩:=qI (i+m) ops[i+m] (by simp[qV]);have qE:=hk (i+m) ops[i+m] (by omega) (by omega) (by simp[qV])
   rcases qK with ⟨h1,_⟩ | ⟨_,h5,_⟩
   ·rw[qE]at h1;simp at h1
   ·rw[show i+(m+1)=i+m+1 by omega,h5];exact ih i (by omega) fun k o h1 h2 h3=>hk k o h1 (by omega) h3
 have same:∀i j,i<=ops.size->j<=ops.size->(∀k o,ops[k]? =some o->Bk ow o=true->(k<j↔k<i))->owns j=owns i:=by
  intro i j hi hj hk
  by_cases yU:i<=j
  ·have:=still (j-i) i (by omega) (fun k o h1 h2 h3=>by
    cases hq:Bk ow o with
    | false=>rfl
    | true=>have:=(hk k o h3 hq).1 (by omega);omega)
   rwa[show i+(j-i)=j by omega]at this
  ·have:=still (i-j) j (by omega) (fun k o h1 h2 h3=>by
    cases hq:Bk ow o with
    | false=>rfl
    | true=>have:=(hk k o h3 hq).2 (by omega);omega)
   rw[show j+(i-j)=i by omega]at this;exact this.symm
 have boxes:∀m i,i+m<=ops.size->(∀k o,i<=k->k<i+m->ops[k]? =some o->Bk ow o=false\/CN o=true)->∀e,Fb e=true->(e∈owns i↔e∈owns (i+m)):=by
  intro m
  induction m with
  | zero=>intro i _ _ e _;exact Iff.rfl
  | succ m ih =>
   intro i hi hk e he;have qV:i+m<ops.size:=by omega
   rw[ih i (by omega) (fun k o h1 h2 h3=>hk k o h1 (by omega) h3) e he];obtain⟨d,_,qK⟩:=qI (i+m) ops[i+m] (by simp[qV]);have qE:=hk (i+m) ops[i+m] (by omega) (by omega) (by simp[qV])
   rcases qK with ⟨h1,_,h4,hx⟩ | ⟨_,h5,_⟩
   ·rcases qE with h | h
    ·rw[h]at h1;simp at h1
    ·rw[show i+(m+1)=i+m+1 by omega];exact tW hx h h4.1 (hnd _ (by omega)) he
   ·rw[show i+(m+1)=i+m+1 by omega,h5]
 have boxesE:∀i j,i<=ops.size->j<=ops.size->(∀k o,ops[k]? =some o->Bk ow o=true->¬(k<j↔k<i)->CN o=true)->KJ ((owns i).filter Fb) (owns j):=by
  intro i j hi hj hk id e hf;obtain⟨h1,h2⟩:=AA hf;rw[cC0]at h1
  have qY:e∈owns j:=by
   by_cases yU:i<=j
   ·have:=(boxes (j-i) i (by omega) (fun k o h1 h2 h3=>by
     cases hq:Bk ow o with
     | false=>exact .inl rfl
     | true=>exact .inr (hk k o h3 hq (by omega))) e h1.2).1 h1.1
    rwa[show i+(j-i)=j by omega]at this
   ·have:=(boxes (i-j) j (by omega) (fun k o h1 h2 h3=>by
     cases hq:Bk ow o with
     | false=>exact .inl rfl
     | true=>exact .inr (hk k o h3 hq (by omega))) e h1.2).2
    rw[show j+(i-j)=i by omega]at this;exact this h1.1
  rw[<-h2];exact Cp (hnd j hj) qY
 have lens:∀m i,i+m<=ops.size->(∀k o,i<=k->k<i+m->ops[k]? =some o->Bk ow o=false\/CY o=true)->LenE (owns i) (owns (i+m))/\LenE (owns (i+m)) (owns i):=by
  intro m
  induction m with
  | zero=>intro i _ _;exact⟨LenE.refl _,LenE.refl _⟩
  | succ m ih =>
   intro i hi hk;have qV:i+m<ops.size:=by omega
   obtain⟨g1,g2⟩:=ih i (by omega) (fun k o h1 h2 h3=>hk k o h1 (by omega) h3);obtain⟨d,_,qK⟩:=qI (i+m) ops[i+m] (by simp[qV]);have qE:=hk (i+m) ops[i+m] (by omega) (by omega) (by simp[qV]);rw[show i+(m+1)=i+m+1 by omega]
   rcases qK with ⟨h1,_,_,hx⟩ | ⟨_,h5,_⟩
   ·rcases qE with h | h
    ·rw[h]at h1;simp at h1
    ·obtain⟨l1,l2⟩:=tV hx h;exact⟨g1.trans l1,l2.trans g2⟩
   ·rw[h5];exact⟨g1,g2⟩
 have lensE:∀i j,i<=ops.size->j<=ops.size->(∀k o,ops[k]? =some o->Bk ow o=true->¬(k<j↔k<i)->CY o=true)->LenE (owns i) (owns j):=by
  intro i j hi hj hk
  by_cases yU:i<=j
  ·have:=(lens (j-i) i (by omega) (fun k o h1 h2 h3=>by
    cases hq:Bk ow o with
    | false=>exact .inl rfl
    | true=>exact .inr (hk k o h3 hq (by omega)))).1
   rwa[show i+(j-i)=j by omega]at this
  ·have:=(lens (i-j) j (by omega) (fun k o h1 h2 h3=>by
    cases hq:Bk ow o with
    | false=>exact .inl rfl
    | true=>exact .inr (hk k o h3 hq (by omega)))).2
   rwa[show j+(i-j)=i by omega]at this
 -- what the stores in between do not touch
 have touch:∀k o q,ops[k]? =some o->Bk ow o=true->CY o=true->Uh l2 k q=true->∀e,ZA l2 q e=false->(e∈owns k↔e∈owns (k+1)):=by
  intro k o q hk he hs hq e hh;obtain⟨d,_,qK⟩:=qI k o (by simpa using hk)
  rcases qK with ⟨_,_,⟨_,htc⟩,hx⟩ | ⟨h1,_⟩
  ·unfold Uh at hq;rw[cL0]at hq;obtain⟨c,hc,wI⟩:=hq;simp only[aN0,decide_eq_true_eq,beq_iff_eq]at wI;obtain⟨⟨c1,c2⟩,c3⟩:=wI;unfold OL at htc;have h2:=bB0.1 htc c hc;simp only[cV0,decide_eq_true_eq,bne_iff_ne,ne_eq,beq_iff_eq]at h2
   have h3:OK (Gz s.slots ((ops.toList.zip ds).take k)) o=some (c/1000000-1):=by
    rcases h2 with (h2 | h2) | h2
    ·omega
    ·simp only[bN0]at h2;exact absurd c3 h2
    ·exact h2
   refine Yr (s:=⟨_,owns k⟩) hx hs h3 fun hid=> ?_
   unfold ZA at hh;rw[dX0]at hh;have h4:=hh c hc;simp only[aN0,decide_eq_true_eq,beq_iff_eq,not_and]at h4;exact h4 ⟨c1,c2⟩ (by omega)
  ·rw[he]at h1;simp at h1
 have others:∀q m i,i+m<=ops.size->(∀k o,i<=k->k<i+m->ops[k]? =some o->Bk ow o=false\/(CY o=true/\Uh l2 k q=true))->∀e,ZA l2 q e=false->(e∈owns i↔e∈owns (i+m)):=by
  intro q m
  induction m with
  | zero=>intro i _ _ e _;exact Iff.rfl
  | succ m ih =>
   intro i hi hk e he;have qV:i+m<ops.size:=by omega
   rw[ih i (by omega) (fun k o h1 h2 h3=>hk k o h1 (by omega) h3) e he,show i+(m+1)=i+m+1 by omega];have zI:ops[i+m]? =some ops[i+m]:=by simp[qV]
   cases hq:Bk ow ops[i+m]with
   | true =>
    rcases hk (i+m) ops[i+m] (by omega) (by omega) zI with h | h
    ·rw[hq]at h;simp at h
    ·exact touch _ _ q zI hq h.1 h.2 e he
   | false =>
    obtain⟨d,_,qK⟩:=qI (i+m) ops[i+m] (by simp[qV])
    rcases qK with ⟨h1,_⟩ | ⟨_,h5,_⟩
    ·rw[hq]at h1;simp at h1
    ·rw[h5]
 have othersE:∀q i j,i<=ops.size->j<=ops.size->(∀k o,ops[k]? =some o->Bk ow o=true->¬(k<j↔k<i)->(CY o=true/\Uh l2 k q=true))->KJ ((owns i).filter fun e=> !ZA l2 q e) (owns j):=by
  intro q i j hi hj hk id e hf;obtain⟨h1,h2⟩:=AA hf;rw[cC0]at h1;have hh:ZA l2 q e=false:=by simpa using h1.2
  have qY:e∈owns j:=by
   by_cases yU:i<=j
   ·have:=(others q (j-i) i (by omega) (fun k o h1 h2 h3=>by
     cases hq:Bk ow o with
     | false=>exact .inl rfl
     | true=>exact .inr (hk k o h3 hq (by omega))) e hh).1 h1.1
    rwa[show i+(j-i)=j by omega]at this
   ·have:=(others q (i-j) j (by omega) (fun k o h1 h2 h3=>by
     cases hq:Bk ow o with
     | false=>exact .inl rfl
     | true=>exact .inr (hk k o h3 hq (by omega))) e hh).2
    rw[show j+(i-j)=i by omega]at this;exact this h1.1
  rw[<-h2];exact Cp (hnd j hj) qY
 have effs_le:∀i j,i<=j->Dw ow (ops.toList.take i)<=Dw ow (ops.toList.take j):=by
  intro i j yU;unfold Dw;have:(ops.toList.take i)=(ops.toList.take j).take i:=by rw[List.take_take,Nat.min_eq_left yU]
  rw[this];exact(List.take_sublist _ _).countP_le
 have fin:∀(B:Base) (listed:Array Bool) (p:Nat) (a:Act) (w:World) (loc:Nat->Loc),listed.size=ops.size->aJ ops (fun k=>listed.getD k false)->p<=ops.size->(∀k o,ops[k]? =some o->Bk ow o=true->(listed.getD k false=true↔k<p))->Rel B ⟨DL s.slots (fun k=>listed.getD k false) 0 (ops.toList.zip ds),owns p⟩ a w loc ->
   (∀i,i<ops.size->listed.getD i false=true)->∃s' loc,K.f s'/\Rel B s' a w loc:=by
  intro B listed p a w loc qF hc hp jF R jB
  have heq:owns p=owns ops.size:=same _ _ (Nat.le_refl _) hp fun k o h1 h2=>by
   have qV:k<ops.size:=(aC0.1 h1).1;have:=jF k o h1 h2;simp only[jB k qV,true_iff]at this;omega
  rw[heq]at R;refine⟨_,loc,hK,Rel.congr (fun t=> ?_) R⟩
  have:=agree (fun k=>listed.getD k false) (ops.toList.zip ds).length t (fun k o ho hd=>by
   have qV:k<ops.size:=(aC0.1 ho).1
   simp only[jB k qV,true_iff,List.length_zip,bI0,wY,Nat.min_self];exact qV)
  rw[this,bC0]
 have nready:∀(listed:Array Bool),Region.ready .any ops listed=[]->listed.size=ops.size->∀i,i<ops.size->listed.getD i false=true:=by
  intro listed hr qF i
  induction i using Nat.strongRecOn with
  | _ i ih =>
   intro hi
   cases hq:listed.getD i false with
   | true=>rfl
   | false =>
    exfalso;have zI:ops[i]? =some ops[i]:=cA0 hi
    have:i∈Region.ready .any ops listed:=by
     rw[mem_ready];refine⟨?_,ops[i],zI,fun e he hb=> ?_⟩
     ·have zO:i<listed.size:=by omega
      simp only[aK0,cA0 zO,bZ0]at hq |-;exact hq
     ·have:=spec.acy i _ zI e he hb;exact ih e.on this (by omega)
    rw[hr]at this;simp at this
 refine⟨fun B listed a w=>listed.size=ops.size/\aJ ops (fun k=>listed.getD k false)/\∃p loc,p<=ops.size/\(∀k o,ops[k]? =some o->Bk ow o=true->(listed.getD k false=true↔k<p)) /\
   (∀k d,ds[k]? =some d->listed.getD k false=true->mx d<=max N (max (Jp s.slots) (FZ s.own))+Dw ow (ops.toList.take p))/\FZ (owns p)<=max N (max (Jp s.slots) (FZ s.own))+Dw ow (ops.toList.take p) /\
   Rel B ⟨DL s.slots (fun k=>listed.getD k false) 0 (ops.toList.zip ds),owns p⟩ a w loc,?_,?_,?_,?_⟩
 ·intro B hBt hBN a w loc R;subst hBt hBN
  have fV:∀k,(Array.replicate ops.size false).getD k false=false:=by
   intro k;simp[aK0,dV0]
   split<;>simp
  refine⟨by simp,?_,0,loc,by omega,fun k o hk he=>by rw[fV];simp,fun k d hk hS=>by rw[fV]at hS;simp at hS,by rw[bE];omega,?_⟩
  ·intro k o hk hS;simp[aK0,dV0]at hS
   split at hS<;>simp at hS
  ·have R':=R.put (dst:=none) (v:=Go.undef) (d:= .any) (fun i hi=>by simp at hi) (Upd.drew [] w) (by simp[rd]);rw[bE];refine Rel.congr (fun t=> ?_) R'
   exact Bz _ 0 (fun k z hz hd=>by
    simp[aK0,dV0]
    split<;>simp)
 ·rintro B listed a w ⟨qF,hc,p,loc,hp,jF,hbd,dD,R⟩;exact⟨qF,fun hr=>nready listed hr qF,fin B listed p a w loc qF hc hp jF R⟩
 ·rintro B listed a w i C Qx hBt hBN ⟨qF,hc,p,loc,hp,jF,hbd,dD,R⟩ hi hC;subst hBt hBN;rw[mem_ready]at hi;obtain⟨h0,o,ho,wU⟩:=hi;have qV:i<ops.size:=(aC0.1 ho).1;have zO:i<listed.size:=by omega
  have hSi:listed.getD i false=false:=by
   simp only[aK0,cA0 zO,bZ0]at h0 |-;exact h0
  obtain⟨d,hd,qK⟩:=qI i o (by simpa using ho);simp only[bN0,dN0]at qK
  -- what stands ahead is done; what waits is not
  have anc:∀k,((Dv ops.toList []).getD i 0).testBit k=true->listed.getD k false=true:=by
   intro k h2;rw[Pw]at h2;simp only[List.length_nil,eE0,if_false,eG0]at h2;have jN:ops.toList[i]? =some o:=by simpa using ho
   rw[jN]at h2;obtain⟨e,he,hb,h3⟩:=Px _ _ _ h2;have hon:=wU e (by simpa using he) hb
   rcases h3 with rfl | h3
   ·exact hon
   ·refine Qw hc e.on hon k ?_;have gW:=spec.acy i o ho e (by simpa using he) hb
    have:((Dv ops.toList []).take i).getD e.on 0=(Dv ops.toList []).getD e.on 0:=by
     simp[aM0,bL0 gW]
    rwa[this]at h3
  have des:∀k,((Dv ops.toList []).getD k 0).testBit i=true->listed.getD k false=false:=by
   intro k h2
   cases hq:listed.getD k false with
   | false=>rfl
   | true =>
    have:=Qw hc k hq i h2;rw[hSi]at this;simp at this
  -- the slots that the operation looks at
  have look:∀t∈o.looksAt ops,Be (DL s.slots (fun k=>listed.getD k false) 0 (ops.toList.zip ds)) t=Be (Gz s.slots ((ops.toList.zip ds).take i)) t:=by
   intro t ht;refine agree _ i t fun k o' hk gD=> ?_
   rcases spec.ord i o t ho ht k o' hk gD with ⟨h1,h2⟩ | ⟨h1,h2⟩
   ·exact⟨fun _=>h1,fun _=>anc k h2⟩
   ·refine⟨fun vM=> ?_,fun vM=>by omega⟩;rw[des k h2]at vM;simp at vM
  have hS':(fun k=>(listed.setIfInBounds i true).getD k false)=fun k=>if k=i then true else listed.getD k false:=by
   funext k
   by_cases hk:k=i
   ·subst hk;simp[zO]
   ·rw[if_neg hk,getD_set_ne false (Ne.symm hk)]
  have hS'':∀k,(listed.setIfInBounds i true).getD k false=if k=i then true else listed.getD k false:=fun k=>congrFun hS' k
  have fX:Jp (DL s.slots (fun k=>listed.getD k false) 0 (ops.toList.zip ds))<=BU B s+Dw ow (ops.toList.take p):=by
   refine VV (by unfold BU;omega) _ _ fun k z hz hS=> ?_
   rw[bN0]at hS;exact hbd k z.2 (zat _ _ hz).2 hS
  have yA:∀x∈o.op.operands,ev (DL s.slots (fun k=>listed.getD k false) 0 (ops.toList.zip ds)) x=ev (Gz s.slots ((ops.toList.zip ds).take i)) x:=by
   intro x hx;refine AV_ fun t hxt=>look t ?_
   subst hxt;exact aL0 _ (List.mem_filterMap.2 ⟨.tmp t,by simpa using hx,rfl⟩)
  have hg:∀j want,o.guard=some (j,want)->BA ops ⟨DL s.slots (fun k=>listed.getD k false) 0 (ops.toList.zip ds),owns p⟩ j=BA ops ⟨Gz s.slots ((ops.toList.zip ds).take i),HD l1 l2 i (owns i)⟩ j:=by
   intro j want zQ;unfold BA
   cases ht:(ops[j]?).bind (·.dst)with
   | none=>rfl
   | some t =>
    refine look t (aP0 _ ?_);rw[zQ];simp[ht]
  -- the next set
  have next:∀(p':Nat) (a':Act) (w':World) (loc:Nat->Loc),p'<=ops.size->(∀k o,ops[k]? =some o->Bk ow o=true->((listed.setIfInBounds i true).getD k false=true↔k<p'))->Dw ow (ops.toList.take p)<=Dw ow (ops.toList.take p')->mx d<=BU B s+Dw ow (ops.toList.take p')->FZ (owns p')<=BU B s+Dw ow (ops.toList.take p') ->
    Rel B ⟨Bs (DL s.slots (fun k=>listed.getD k false) 0 (ops.toList.zip ds)) o.dst d,owns p'⟩ a' w' loc->C a' w':=by
   intro p' a' w' loc zS bA yL jH hmo R';refine hC a' w' ⟨by simpa using qF,?_,p',loc,zS,bA,?_,hmo,?_⟩
   ·rw[hS'];intro k o' hk hS e he hb
    by_cases kA:k=i
    ·subst kA;rw[ho]at hk;simp only[aA0]at hk;subst hk;have:=wU e he hb;simp only[this];split<;>rfl
    ·simp only[if_neg kA]at hS;have:=hc k o' hk hS e he hb;simp only[this];split<;>rfl
   ·intro k d' hk hS;rw[hS'']at hS
    by_cases kA:k=i
    ·subst kA;rw[hd]at hk;simp only[aA0]at hk;subst hk;exact jH
    ·rw[if_neg kA]at hS;have:=hbd k d' hk hS;omega
   ·rw[hS'];refine Rel.congr (fun t=> ?_) R';rw[Fu]
    by_cases kJ:o.dst=some t
    ·rw[if_pos kJ];exact Dj _ 0 i (o,d) (zat' i o d ho hd) kJ (by simp) (fun k' z' h1 h2=>uniq t i k' (o,d) z' (zat' i o d ho hd) kJ h1 h2)
    ·rw[if_neg kJ];have e1:=fun S j hS=>agree S j t hS
     by_cases hex:∃(k:Nat) (z:Oper×DVal),(ops.toList.zip ds)[k]? =some z/\z.1.dst=some t
     ·obtain⟨k,z,hz,gD⟩:=hex
      have kA:k≠i:=by
       intro kA;subst kA;have:=(zat _ _ hz).1;rw[ho]at this;simp only[aA0]at this;exact kJ (by rw[this];exact gD)
      cases hSk:listed.getD k false with
      | true =>
       rw[Dj _ 0 k z hz gD (by rw[bN0];simp[kA,hSk]) (fun k' z' h1 h2=>uniq t k k' z z' hz gD h1 h2)];rw[Dj _ 0 k z hz gD (by rw[bN0];exact hSk) (fun k' z' h1 h2=>uniq t k k' z z' hz gD h1 h2)]
      | false =>
       rw[Bz _ 0 (fun k' z' h1 h2=>by
        have:=uniq t k k' z z' hz gD h1 h2;subst this
        rw[bN0];simp[kA,hSk])]
       rw[Bz _ 0 (fun k' z' h1 h2=>by
        have:=uniq t k k' z z' hz gD h1 h2;subst this
        rw[bN0];exact hSk)]
     ·rw[Bz _ 0 (fun k' z' h1 h2=>absurd ⟨k',z',h1,h2⟩ hex),Bz _ 0 (fun k' z' h1 h2=>absurd ⟨k',z',h1,h2⟩ hex)]
  -- the operation itself
  rcases qK with ⟨jL,qH,happ,hx⟩ | ⟨hneu,jV,zF⟩
  ·have jY:∀k o',ops[k]? =some o'->Bk ow o'=true->(k<p↔k<i):=by
    intro k o' hk he;rw[<-jF k o' hk he]
    rcases spE.two k i o' o hk ho he with h | ⟨h1,h2⟩ | ⟨h1,h2⟩ | ⟨h1,_⟩
    ·subst h;rw[hSi];simp
    ·exact⟨fun _=>h1,fun _=>anc k h2⟩
    ·rw[des k h2];simp;omega
    ·rw[jL]at h1;simp at h1
   have heq:owns p=owns i:=same i p (by omega) hp jY
   have gX:Dw ow (ops.toList.take p)=Dw ow (ops.toList.take i):=by
    have key:∀m q,q+m<=ops.size->(∀k o',q<=k->k<q+m->ops[k]? =some o'->Bk ow o'=false)->Dw ow (ops.toList.take (q+m))=Dw ow (ops.toList.take q):=by
     intro m
     induction m with
     | zero=>intro q _ _;rfl
     | succ m ihm =>
      intro q hq hk;have gW:q+m<ops.size:=by omega
      rw[show q+(m+1)=q+m+1 by omega,bP0];have hg:ops.toList[q+m]? =some ops[q+m]:=by simp[gW]
      have qE:=hk (q+m) ops[q+m] (by omega) (by omega) (by simp[gW]);have:=ihm q (by omega) fun k o' h1 h2 h3=>hk k o' h1 (by omega) h3
      unfold Dw at this |-;rw[hg,List.countP_append,this];simp[eQ0,qE]
    by_cases hpi:p<=i
    ·have:=key (i-p) p (by omega) (fun k o' h1 h2 h3=>by
      cases hq:Bk ow o' with
      | false=>rfl
      | true=>have:=(jY k o' h3 hq).2 (by omega);omega)
     rw[show p+(i-p)=i by omega]at this;exact this.symm
    ·have:=key (p-i) i (by omega) (fun k o' h1 h2 h3=>by
      cases hq:Bk ow o' with
      | false=>rfl
      | true=>have:=(jY k o' h3 hq).1 (by omega);omega)
     rwa[show i+(p-i)=p by omega]at this
   have hinc:Dw ow (ops.toList.take (i+1))=Dw ow (ops.toList.take i)+1:=by
    have hg:ops.toList[i]? =some o:=by simpa using ho
    rw[bP0,hg];unfold Dw;rw[List.countP_append];simp[eQ0,jL]
   have qA:El P ops o ⟨DL s.slots (fun k=>listed.getD k false) 0 (ops.toList.zip ds),owns p⟩ d (owns (i+1)) (BU B s+Dw ow (ops.toList.take i)):=by
    refine Ys (s:=⟨Gz s.slots ((ops.toList.zip ds).take i),owns i⟩) heq.symm (fun x hx=>(yA x hx).symm) (fun j want zQ=>(hg j want zQ).symm) ?_;simpa[BU]using hx
   have qB:BU B ⟨DL s.slots (fun k=>listed.getD k false) 0 (ops.toList.zip ds),owns p⟩<=BU B s+Dw ow (ops.toList.take i):=by
    rw[<-gX];have h0:B.N<=BU B s:=by unfold BU;omega
    unfold BU;simp only;have h1:=fX;have h2:=dD;have h3:BU B s+Dw ow (ops.toList.take p)=max B.N (max (Jp s.slots) (FZ s.own))+Dw ow (ops.toList.take p):=rfl;have h4:BU B s=max B.N (max (Jp s.slots) (FZ s.own)):=rfl;omega
   have hmxx:=BP_ (n:=BU B s+Dw ow (ops.toList.take i)) jL qA (by rw[<-gX];exact dD) (by rw[<-gX];exact fX) (Nat.le_refl _)
   have nx:∀(a':Act) (w':World) (loc':Nat->Loc),Rel B ⟨Bs (DL s.slots (fun k=>listed.getD k false) 0 (ops.toList.zip ds)) o.dst d,owns (i+1)⟩ a' w' loc'->C a' w':=by
    intro a' w' loc' R';refine next (i+1) a' w' loc' (by omega) ?_ (by rw[gX,hinc];omega) (by rw[hinc];have:=hmxx.1;omega) (by rw[hinc];have:=hmxx.2;omega) R'
    intro k o' hk he;rw[hS'']
    by_cases kA:k=i
    ·rw[if_pos kA];simp;omega
    ·rw[if_neg kA,jF k o' hk he,jY k o' hk he];omega
   unfold wpOpIn;rw[ho];simp only;unfold El at qA
   cases zQ:o.guard with
   | none =>
    rw[zQ]at qA;have hw:Region.wanted o (yielded ops a.tmps)=true:=by simp[Region.wanted,zQ]
    rw[if_pos hw];exact WQ (R:=R) qB qH (fun x _=>R.ev x) (fun x _=>Nq _ x) qA nx
   | some jw =>
    obtain⟨j,want⟩:=jw;rw[zQ]at qA;simp only at qA;obtain⟨g1,g2,g3⟩:=qA;have fL:=PR (want:=want) R g1;have hw:Region.wanted o (yielded ops a.tmps)=gB (BA ops ⟨DL s.slots (fun k=>listed.getD k false) 0 (ops.toList.zip ds),owns p⟩ j) want:=by simp only[Region.wanted,zQ];exact fL
    rw[hw]
    rcases g3 with ⟨hb,d0,rfl,qA⟩ | ⟨hb,rfl,hown'⟩
    ·rw[hb]at g2 |-;rw[if_pos rfl];have yE:=Oi (Qi jL g2)
     exact WQ (R:=R) qB qH (fun x hx=>My (fun x=>R.ev x) _ (Qi jL g2) x (by simpa using hx)) (fun x hx=>by
      unfold AW;rw[ON (yE x (by simpa using hx))]
      exact Nq _ x) qA fun a' w' loc' R'=>nx a' w' loc' R'.selTrue
    ·rw[hb];rw[if_neg (by simp)];refine⟨fun _ _=>trivial,nx _ _ loc ?_⟩;rw[hown'];exact R.put (KG qH) (Upd.refl _ _) (by simp[rd])
  have hext:KJ (HD l1 l2 i (owns i)) (owns p)\/(Zy o=true/\LenE (HD l1 l2 i (owns i)) (owns p)):=by
   unfold HD
   split
   ·exact .inl fun id e hf=>by simp[Aj]at hf
   ·rename_i hn2;have hn2:l2.contains i=false:=by simpa using hn2
    have jY:∀k o',ops[k]? =some o'->Bk ow o'=true->¬(k<p↔k<i)->(l1.contains i=true/\CN o'=true)\/((l1.contains i=false/\Zy o=true)/\CY o'=true)\/((l1.contains i=false/\CY o'=true)/\Uh l2 k i=true):=by
     intro k o' hk he qE;rw[<-jF k o' hk he]at qE
     rcases spE.two k i o' o hk ho he with h | ⟨h1,h2⟩ | ⟨h1,h2⟩ | ⟨h1,h2⟩
     ·subst h;rw[hSi]at qE;simp at qE
     ·exact absurd ⟨fun _=>h1,fun _=>anc k h2⟩ qE
     ·rw[des k h2]at qE;simp at qE;omega
     ·rcases h2 with ((h2 | h2) | h2) | h2
      ·rw[hn2]at h2;simp at h2
      ·exact .inl h2
      ·exact .inr (.inl h2)
      ·exact .inr (.inr h2)
    split
    ·rename_i gR;refine .inl (boxesE i p (by omega) hp fun k o' hk he qE=> ?_)
     rcases jY k o' hk he qE with h | h | h
     ·exact h.2
     ·rw[gR]at h;simp at h
     ·rw[gR]at h;simp at h
    ·rename_i gR;have gR:l1.contains i=false:=by simpa using gR
     cases hix:Zy o with
     | false =>
      refine .inl ?_
      have nF:∀k o',ops[k]? =some o'->Bk ow o'=true->¬(k<p↔k<i)->CY o'=true/\Uh l2 k i=true:=by
       intro k o' hk he hq
       rcases jY k o' hk he hq with h | h | h
       ·rw[gR]at h;simp at h
       ·rw[hix]at h;simp at h
       ·exact⟨h.1.2,h.2⟩
      split
      ·rename_i hemp;have zH:l2=[]:=by simpa using hemp
       rw[same i p (by omega) hp fun k o' hk he=>by
        by_cases hq:(k<p↔k<i)
        ·exact hq
        ·have:=(nF k o' hk he hq).2;rw[zH]at this
         simp[Uh]at this]
       exact fun _ _ h=>h
      ·exact othersE i i p (by omega) hp nF
     | true =>
      have yL:LenE (owns i) (owns p):=lensE i p (by omega) hp fun k o' hk he qE=>by
       rcases jY k o' hk he qE with h | h | h
       ·rw[gR]at h;simp at h
       ·exact h.2
       ·exact h.1.2
      refine .inr ⟨rfl,?_⟩
      split
      ·exact yL
      ·exact yL.filt (hnd i (by omega))
  have bA:∀k o',ops[k]? =some o'->Bk ow o'=true->((listed.setIfInBounds i true).getD k false=true↔k<p):=by
   intro k o' hk he;rw[hS'']
   by_cases kA:k=i
   ·subst kA;rw[ho]at hk;simp only[aA0]at hk;subst hk;rw[hneu]at he;simp at he
   ·rw[if_neg kA];exact jF k o' hk he
  have evmx:∀x:Operand,mx (ev (DL s.slots (fun k=>listed.getD k false) 0 (ops.toList.zip ds)) x)<=BU B s+Dw ow (ops.toList.take p):=fun x=>Nat.le_trans (Nq _ x) fX
  have run:∀(e:Operand->DVal) (d':DVal),(∀x∈o.op.operands,Bb ⟨DL s.slots (fun k=>listed.getD k false) 0 (ops.toList.zip ds),owns p⟩ loc B.M0 w (e x) (a.eval x)) ->
    (∀(w':World) (v:Value),rd (Ad (owns p) loc) (Aa (owns p) loc++B.M0) w'.heap d' v->rd (Ad (owns p) loc) (Aa (owns p) loc++B.M0) w'.heap d v)->mx d<=BU B s+Dw ow (ops.toList.take p)->EV P o (owns p) e d'->o.wpIn (wd B.ro) 0 P a w C Qx:=by
   rintro e d' he zT jH (⟨c,g,args,wW,zP,wE⟩ | ⟨wE,hq⟩)
   ·exact Uu (d':=d) (K:=fun s'=>s'=⟨Bs (DL s.slots (fun k=>listed.getD k false) 0 (ops.toList.zip ds)) o.dst d,owns p⟩) R zF.1 wW he zP wE (fun _=>rfl) zT (fun s' a' w' loc' fC R'=>by
     subst fC
     exact next p a' w' loc' hp bA (Nat.le_refl _) jH dD R')
   ·exact Zp (d:=d) (K:=fun s'=>s'=⟨Bs (DL s.slots (fun k=>listed.getD k false) 0 (ops.toList.zip ds)) o.dst d,owns p⟩) R zF.1 he wE rfl (fun w' v h=>zT w' v (by rw[hq];exact h)) (fun s' a' w' loc' fC R'=>by
     subst fC
     exact next p a' w' loc' hp bA (Nat.le_refl _) jH dD R')
  unfold wpOpIn;rw[ho];simp only;obtain⟨qH,jZ⟩:=zF;have zF:BV B.nt o.dst=true/\True:=⟨qH,trivial⟩
  cases zQ:o.guard with
  | none =>
   have hw:Region.wanted o (yielded ops a.tmps)=true:=by simp[Region.wanted,zQ]
   rw[if_pos hw];rw[zQ]at jZ;have h1:=EV.ext2 jZ hext (fun x hx=>(yA x hx).symm);exact(run _ d (fun x _=>R.ev x) (fun _ _ h=>h) (h1.mx dD fun x _=>evmx x) h1)
  | some jw =>
   obtain⟨j,want⟩:=jw;rw[zQ]at jZ;simp only at jZ;obtain⟨g1,g2,d',rfl,g3⟩:=jZ;rw[<-hg j want zQ]at g1 g2 g3 next run
   have fL:=PR (want:=want) R g1;have hw:Region.wanted o (yielded ops a.tmps)=gB (BA ops ⟨DL s.slots (fun k=>listed.getD k false) 0 (ops.toList.zip ds),owns p⟩ j) want:=by simp only[Region.wanted,zQ];exact fL
   rw[hw];have bH:=Pm (fun x hx=>(yA x hx).symm) g2
   have hstrip:∀x∈o.op.operands,AW (Gz s.slots ((ops.toList.zip ds).take i)) x=AW (DL s.slots (fun k=>listed.getD k false) 0 (ops.toList.zip ds)) x:=by
    intro x hx;unfold AW;rw[yA x hx]
   split
   ·rename_i hb;rw[hb]at bH;have h1:=EV.ext2 (g3 hb) hext hstrip
    have zT:∀(w':World) (v:Value),rd (Ad (owns p) loc) (Aa (owns p) loc++B.M0) w'.heap d' v->rd (Ad (owns p) loc) (Aa (owns p) loc++B.M0) w'.heap (.sel (gB (BA ops ⟨DL s.slots (fun k=>listed.getD k false) 0 (ops.toList.zip ds),owns p⟩ j) want) d') v:=by
     intro w' v h;rw[hb];simp only[rd];exact⟨fun _=>h,fun h'=>by simp at h'⟩
    rcases h1 with ⟨c,g,args,wW,zP,wE⟩ | ⟨wE,hq⟩
    ·refine(run (AW (DL s.slots (fun k=>listed.getD k false) 0 (ops.toList.zip ds))) d' ?_ zT (by rw[hb];simp[mx,wE.2.1]) (.inl ⟨c,g,args,wW,zP,wE⟩));rw[wW]at bH |-;exact fun x hx=>My (fun x=>R.ev x) _ bH x (by simpa using hx)
    ·obtain⟨e',q1,q2,q3⟩:=eJ (fun x=>R.ev x) bH wE;exact(run e' (Bv P (owns p) e' o.op) q1 (fun w' v h=>zT w' v (by rw[hq];exact q3 _ _ _ _ h)) (by rw[hb,hq];simpa[mx,BU]using Cq_ bH wE dD (fun x _=>evmx x)) (.inr ⟨q2,rfl⟩))
   ·rename_i hb;refine⟨fun _ _=>trivial,?_⟩;refine next p _ _ loc hp bA (Nat.le_refl _) (by rw[show gB (BA ops ⟨DL s.slots (fun k=>listed.getD k false) 0 (ops.toList.zip ds),owns p⟩ j) want=false by simpa using hb];simp[mx]) dD ?_
    have qG:gB (BA ops ⟨DL s.slots (fun k=>listed.getD k false) 0 (ops.toList.zip ds),owns p⟩ j) want=false:=by simpa using hb
    rw[qG];exact R.put (KG qH) (Upd.refl _ _) (by simp[rd])
 ·rintro B G listed a w a' w' t ⟨qF,hc,p,loc,hp,jF,hbd,dD,R⟩ ht hT
  have hgs:=Bz (l:=s.slots) (S:=fun k=>listed.getD k false) (t:=t) (ops.toList.zip ds) 0 (fun k z hz hd=>by
   have h1:=(zat _ _ hz).1
   exact absurd hd (ht z.1 (by simpa using Array.mem_of_getElem? h1)))
  obtain⟨B',hG,R'⟩:=hT _ loc hgs R;exact⟨B',hG,qF,hc,p,loc,hp,jF,hbd,dD,R'⟩
theorem NZ (ow l1 l2:List Nat) {id:Nat} {ops:Array Oper} {Q:Exit->DS->Prop} (hm:P.follows .mixedOrders=true) (qW:DJ ow l1 l2 ops=true) (h:BZ P B.nt ow l1 l2 ops ops.toList 0 ⟨Q .normal⟩ s):DW P B (.region id ops true) Q s:=by
 intro a w loc R;refine wpIn_region_any hm ?_;obtain⟨Inv,h1,h2,h3,_⟩:=OZ (N:=B.N) ow l1 l2 qW R.st.nd h
 have main:∀(fuel:Nat) (listed:Array Bool) (a:Act) (w:World),(List.range ops.size).countP (fun k=>listed.getD k false)+fuel=ops.size->Inv B listed a w->wpAnyIn (wd B.ro) 0 P .any ops (QQ B Q) fuel listed a w:=by
  intro fuel
  induction fuel with
  | zero =>
   intro listed a w cD hI;obtain⟨qF,h5,h6⟩:=h2 _ _ _ _ hI
   have jB:∀i,i<ops.size->listed.getD i false=true:=by
    intro i hi;have:=(List.countP_eq_length (p:=fun k=>listed.getD k false) (l:=List.range ops.size)).1 (by simpa using cD) i (dQ0.2 hi);simpa using this
   refine⟨?_,h6 jB⟩;rw[List.eq_nil_iff_forall_not_mem];intro i hi;rw[mem_ready]at hi;obtain⟨h0,o,ho,_⟩:=hi;have qV:i<ops.size:=(aC0.1 ho).1;have h1:=jB i qV;have zO:i<listed.size:=by omega
   simp only[aK0,cA0 zO,bZ0]at h0 h1;rw[h0]at h1;simp at h1
  | succ fuel ih =>
   intro listed a w cD hI;obtain⟨qF,h5,h6⟩:=h2 _ _ _ _ hI;refine⟨fun hr=>h6 (h5 hr),fun i hi=>h3 B listed a w i _ _ rfl rfl hI hi fun a' w' hI'=>ih _ a' w' ?_ hI'⟩;rw[mem_ready]at hi;obtain⟨h0,o,ho,wU⟩:=hi;have qV:i<ops.size:=(aC0.1 ho).1;have zO:i<listed.size:=by omega
   have hSi:listed.getD i false=false:=by
    simp only[aK0,cA0 zO,bZ0]at h0 |-;exact h0
   have hS':(fun k=>(listed.setIfInBounds i true).getD k false)=fun k=>if k=i then true else listed.getD k false:=by
    funext k
    by_cases hk:k=i
    ·subst hk;simp[zO]
    ·rw[if_neg hk,getD_set_ne false (Ne.symm hk)]
   rw[hS',Ut _ i hSi _ qV];omega
 refine main ops.size _ a _ ?_ (h1 B rfl rfl a w loc R)
 have:(List.range ops.size).countP (fun k=>(Array.replicate ops.size false).getD k false)=0:=by
  rw[List.countP_eq_zero];intro k _;simp[aK0,dV0]
  split<;>simp
 omega
theorem NX (ow l1 l2:List Nat) {id:Nat} {ops:Array Oper} {Q:Exit->DS->Prop} (h:BZ P B.nt ow l1 l2 ops ops.toList 0 ⟨Q .normal⟩ s):DW P B (.region id ops false) Q s:=by
 intro a w loc R;refine wpIn_region ?_;rw[List.range_eq_range']
 have ext:∀k (own:List Ent),(own.map (·.id)).Nodup->KJ (HD l1 l2 k own) own:=by
  intro k own nd;unfold HD
  split
  ·intro id e hf;simp[Aj]at hf
  ·split
   ·intro id e hf;obtain⟨h1,h2⟩:=AA hf;rw[<-h2];exact Cp nd (cC0.1 h1).1
   ·split
    ·exact fun _ _ h=>h
    ·intro id e hf;obtain⟨h1,h2⟩:=AA hf;rw[<-h2];exact Cp nd (cC0.1 h1).1
 have key:∀(m i:Nat) (s:DS) (a:Act) (w:World) (loc:Nat->Loc),Rel B s a w loc->i+m=ops.size->BZ P B.nt ow l1 l2 ops (ops.toList.drop i) i ⟨Q .normal⟩ s->wpOpsIn (wd B.ro) 0 P ops (QQ B Q) (List.range' i m) a w:=by
  intro m
  induction m with
  | zero =>
   intro i s a w loc R hi h;rw[cU0 (by simp;omega)]at h;simp only[List.range'_zero,wpOpsIn];exact⟨s,loc,h,R⟩
  | succ m ih =>
   intro i s a w loc R hi h;have qV:i<ops.size:=by omega
   have hdr:ops.toList.drop i=ops[i]::ops.toList.drop (i+1):=by
    rw[aW0 (by simpa using qV)];simp
   rw[hdr]at h;simp only[List.range'_succ,wpOpsIn,cA0 qV];have ih':=fun s' a' w' loc' (hk:BZ P B.nt ow l1 l2 ops (ops.toList.drop (i+1)) (i+1) ⟨Q .normal⟩ s') (R':Rel B s' a' w' loc')=>ih (i+1) s' a' w' loc' R' (by omega) hk
   -- one neutral operation
   have neu:∀(e:Operand->DVal) (d d':DVal),(∀x∈ops[i].op.operands,Bb s loc B.M0 w (e x) (a.eval x))->(∀(w':World) (v:Value),rd (Ad s.own loc) (Aa s.own loc++B.M0) w'.heap d' v->rd (Ad s.own loc) (Aa s.own loc++B.M0) w'.heap d v) ->
     BV B.nt ops[i].dst=true->EV P ops[i] (HD l1 l2 i s.own) e d'->BZ P B.nt ow l1 l2 ops (ops.toList.drop (i+1)) (i+1) ⟨Q .normal⟩ ⟨Bs s.slots ops[i].dst d,s.own⟩->ops[i].wpIn (wd B.ro) 0 P a w (wpOpsIn (wd B.ro) 0 P ops (QQ B Q) (List.range' (i+1) m)) (QQ B Q):=by
    intro e d d' he zT hd h1 hk
    rcases h1.ext (ext i s.own R.st.nd) (fun x _=>rfl)with ⟨c,g,args,wW,zP,wE⟩ | ⟨wE,hq⟩
    ·exact Uu (d':=d) (K:=fun s'=>s'=⟨Bs s.slots ops[i].dst d,s.own⟩) R hd wW he zP wE (fun _=>rfl) zT (fun s' a' w' loc' fC R'=>by subst fC;exact ih' _ a' w' loc' hk R')
    ·exact Zp (d:=d) (K:=fun s'=>s'=⟨Bs s.slots ops[i].dst d,s.own⟩) R hd he wE rfl (fun w' v h=>zT w' v (by rw[hq];exact h)) (fun s' a' w' loc' fC R'=>by subst fC;exact ih' _ a' w' loc' hk R')
   simp only[BZ]at h
   split at h
   ·rename_i hg;have hw:Region.wanted ops[i] (yielded ops a.tmps)=true:=by simp[Region.wanted,hg]
    rw[if_pos hw]
    split at h
    ·obtain⟨hd,_,h⟩:=h;obtain⟨d,own',h1,h2⟩:=IX h (BU B s);exact WQ (R:=R) (Nat.le_refl _) hd (fun x _=>R.ev x) (fun x _=>Nq _ x) h1 fun a' w' loc' R'=>ih' _ a' w' loc' h2 R'
    ·obtain⟨hd,h⟩:=h
     split at h
     ·rename_i c wW
      split at h
      ·rename_i g args hc;obtain⟨d,h1,h2⟩:=Jt h;exact neu _ d d (fun x _=>R.ev x) (fun _ _ h=>h) hd (.inl ⟨c,g,args,wW,hc,h1⟩) h2
      ·exact neu _ _ _ (fun x _=>R.ev x) (fun _ _ h=>h) hd (.inr ⟨h.1,rfl⟩) h.2
     ·exact neu _ _ _ (fun x _=>R.ev x) (fun _ _ h=>h) hd (.inr ⟨h.1,rfl⟩) h.2
   ·rename_i j want hg;obtain⟨fL,h⟩:=h;have hgo':=PR (want:=want) R fL;have hw:Region.wanted ops[i] (yielded ops a.tmps)=gB (BA ops s j) want:=by simp only[Region.wanted,hg];exact hgo'
    rw[hw]
    split at h
    ·rename_i jL;obtain⟨hd,_,qW,h⟩:=h
     cases hb:gB (BA ops s j) want with
     | true =>
      rw[if_pos rfl];rw[hb]at h qW;obtain⟨d0,own',h1,h2⟩:=IX (K:=Un _) h (BU B s);have yE:=Oi (Qi jL qW)
      exact WQ (R:=R) (Nat.le_refl _) hd (fun x hx=>My (fun x=>R.ev x) _ (Qi jL qW) x (by simpa using hx)) (fun x hx=>by
       unfold AW;rw[ON (yE x (by simpa using hx))]
       exact Nq _ x) h1 fun a' w' loc' R'=>ih' _ a' w' loc' h2 R'.selTrue
     | false =>
      rw[if_neg (by simp)];rw[hb]at h;exact⟨fun _ _=>trivial,ih' _ _ _ loc h (R.put (KG hd) (Upd.refl _ _) (by simp[rd]))⟩
    obtain⟨hd,qW,h⟩:=h
    have mk:∀d',(gB (BA ops s j) want=true->EV P ops[i] (HD l1 l2 i s.own) (AW s.slots) d')->BZ P B.nt ow l1 l2 ops (ops.toList.drop (i+1)) (i+1) ⟨Q .normal⟩ ⟨Bs s.slots ops[i].dst (.sel (gB (BA ops s j) want) d'),s.own⟩ ->
      if gB (BA ops s j) want=true then ops[i].wpIn (wd B.ro) 0 P a w (wpOpsIn (wd B.ro) 0 P ops (QQ B Q) (List.range' (i+1) m)) (QQ B Q)else (∀f,ops[i].about P w a.eval=some f->(wd B.ro).fn f)/\wpOpsIn (wd B.ro) 0 P ops (QQ B Q) (List.range' (i+1) m) (a.put ops[i].dst Go.undef) w:=by
     intro d' h1 hk
     cases hb:gB (BA ops s j) want with
     | true =>
      rw[if_pos rfl];rw[hb]at qW h1 hk
      have zT:∀(w':World) (d'':DVal) (v:Value),rd (Ad s.own loc) (Aa s.own loc++B.M0) w'.heap d'' v->rd (Ad s.own loc) (Aa s.own loc++B.M0) w'.heap (.sel true d'') v:=by
       intro w' d'' v h;simp only[rd];exact⟨fun _=>h,fun h'=>by simp at h'⟩
      rcases h1 rfl with ⟨c,g,args,wW,zP,wE⟩ | ⟨wE,hq⟩
      ·refine neu (AW s.slots) (.sel true d') d' ?_ (fun w' v h=>zT w' _ v h) hd (.inl ⟨c,g,args,wW,zP,wE⟩) hk;rw[wW]at qW |-;exact fun x hx=>My (fun x=>R.ev x) _ qW x (by simpa using hx)
      ·obtain⟨e',q1,q2,q3⟩:=eJ (fun x=>R.ev x) qW wE;exact neu e' (.sel true d') (Bv P (HD l1 l2 i s.own) e' ops[i].op) q1 (fun w' v h=>zT w' _ v (by rw[hq];exact q3 _ _ _ _ h)) hd (.inr ⟨q2,rfl⟩) hk
     | false =>
      rw[if_neg (by simp)];rw[hb]at hk;exact⟨fun _ _=>trivial,ih' _ _ _ loc hk (R.put (KG hd) (Upd.refl _ _) (by simp[rd]))⟩
    split at h
    ·rename_i c wW
     split at h
     ·rename_i g args hc;obtain⟨d,h1,h2⟩:=SM h;exact mk d (fun hq=> .inl ⟨c,g,args,wW,hc,h1 hq⟩) h2
     ·exact mk _ (fun hq=> .inr ⟨h.1 hq,rfl⟩) h.2
    ·exact mk _ (fun hq=> .inr ⟨h.1 hq,rfl⟩) h.2
 exact key ops.size 0 s a w loc R (by omega) (by simpa using h)
end
end Go.Dm
end
