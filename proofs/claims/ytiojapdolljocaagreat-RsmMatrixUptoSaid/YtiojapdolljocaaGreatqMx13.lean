/- Parts of a proof, laid together: EnM. -/
import Derived.Test.YtiojapdolljocaaGreatqMx12
set_option linter.unusedSimpArgs false
set_option maxHeartbeats 8000000
set_option linter.unusedVariables false
set_option linter.unusedSectionVars false
section
namespace Go.Dm
variable [DMode]
structure EffSpec (ow l1 l2:List Nat) (ops:Array Oper):Prop where
 two:∀(k i:Nat) (o o':Oper),ops[k]? =some o->ops[i]? =some o'->Br ow o=true->k=i\/(k<i/\((DF ops.toList []).getD i 0).testBit k=true)\/(i<k/\((DF ops.toList []).getD k 0).testBit i=true) \/
  (Br ow o'=false/\(((l2.contains i=true\/(l1.contains i=true/\CW o=true))\/((l1.contains i=false/\iO o'=true)/\Di o=true))\/((l1.contains i=false/\Di o=true)/\VA l2 k i=true)))
theorem VM {ow l1 l2:List Nat} {ops:Array Oper} (h:Eb ow l1 l2 ops=true):EffSpec ow l1 l2 ops:=by
 unfold Eb at h;simp only[aJ0,bC0]at h;obtain⟨_,h⟩:=h
 have mem:∀(k:Nat) (o:Oper),ops[k]? =some o->(o,k)∈ops.toList.zipIdx:=by
  intro k o hk;rw[List.mem_zipIdx_iff_getElem?];simpa using hk
 refine⟨fun k i o o' hk hi he=> ?_⟩;have h1:=h (o,k) (mem k o hk);simp only[cU0,he,Bool.not_true,aR0,false_or,bC0]at h1;have h2:=h1 (o',i) (mem i o' hi);simp only[cU0,aJ0,beq_iff_eq,decide_eq_true_eq,Bool.not_eq_true']at h2
 rcases h2 with ((h2 | h2) | h2) | h2
 ·exact .inl h2
 ·exact .inr (.inl h2)
 ·exact .inr (.inr (.inl h2))
 ·exact .inr (.inr (.inr h2))
theorem Yq {P:Program} {o:Oper} {l:Operand->DVal} {own:List Ent} {r:Nat} {x:ERes} (h:Jl P o l own r=some x) :
  ∃id r' obj,x.own=upE own id r' obj/\(CW o=true->(∃et k bs es,obj= .row et k bs es)/\(o.dst=some id\/∃e,An own id=some e/\FF e=false)):=by
 obtain⟨dst,op,type,GL,after,guard⟩:=o;unfold Jl at h;simp only at h;cases op<;>simp only[reduceCtorEq]at h
 case box t y =>
  split at h
  ·simp only[aA0]at h;subst h;exact⟨_,_,_,rfl,by simp[CW]⟩
  ·simp at h
 case buildSlice t len ps =>
  split at h
  ·simp only[aA0]at h;subst h;exact⟨_,_,_,rfl,by simp[CW]⟩
  ·simp at h
 case alloc t =>
  split at h
  ·simp only[aA0]at h;subst h;exact⟨_,_,_,rfl,by simp[CW]⟩
  ·simp at h
 case store t ad y =>
  split at h
  ·split at h
   ·split at h
    ·simp only[aA0]at h;subst h;exact⟨_,_,_,rfl,by simp[CW]⟩
    ·simp at h
   ·simp at h
  ·unfold Fe at h
   split at h
   ·split at h
    ·split at h
     ·simp only[aA0]at h;subst h;exact⟨_,_,_,rfl,by simp[CW]⟩
     ·simp at h
    ·simp at h
   ·simp at h
  ·simp at h
 case makeSlice t lo co =>
  unfold Yr at h
  split at h
  ·simp only[aA0]at h;subst h;exact⟨_,_,_,rfl,by simp[CW]⟩
  ·simp at h
 case makeMap t rv =>
  split at h
  ·simp only[aA0]at h;subst h;exact⟨_,_,_,rfl,by simp[CW]⟩
  ·simp at h
 case mapUpdate t m k x =>
  split at h
  ·split at h
   ·split at h
    ·simp only[aA0]at h;subst h;exact⟨_,_,_,rfl,by simp[CW]⟩
    ·simp at h
   ·simp at h
  ·simp at h
 case call c =>
  obtain⟨cal,args,ats⟩:=c;cases cal<;>simp only[reduceCtorEq]at h;rename_i b;cases b<;>simp only[reduceCtorEq]at h
  case append =>
   unfold MK at h
   split at h
   ·split at h
    ·rename_i i k bs et _ _
     split at h
     ·rename_i x fT
      split at h
      ·rename_i id es hdest;simp only[aA0]at h;subst h;refine⟨_,_,_,rfl,fun _=>⟨⟨_,_,_,_,rfl⟩,?_⟩⟩;unfold HB at hdest
       split at hdest
       ·simp only[aA0,aU0]at hdest;obtain⟨rfl,_⟩:=hdest;exact .inl rfl
       ·split at hdest
        ·rename_i e0 vW
         split at hdest
         ·split at hdest
          ·rename_i qN
           split at hdest
           ·simp only[aA0,aU0]at hdest;obtain⟨rfl,_⟩:=hdest;exact .inr ⟨e0,vW,by unfold FF;rw[qN]⟩
           ·simp at hdest
          ·simp at hdest
         ·simp at hdest
        ·simp at hdest
       ·simp at hdest
      ·simp at h
     split at h
     ·rename_i id es k2 es2 hdest wF;simp only[aA0]at h;subst h;refine⟨_,_,_,rfl,fun _=>⟨⟨_,_,_,_,rfl⟩,?_⟩⟩;unfold HB at hdest
      split at hdest
      ·simp only[aA0,aU0]at hdest;obtain⟨rfl,_⟩:=hdest;exact .inl rfl
      ·split at hdest
       ·rename_i e0 vW
        split at hdest
        ·split at hdest
         ·rename_i qN
          split at hdest
          ·simp only[aA0,aU0]at hdest;obtain⟨rfl,_⟩:=hdest;exact .inr ⟨e0,vW,by unfold FF;rw[qN]⟩
          ·simp at hdest
         ·simp at hdest
        ·simp at hdest
       ·simp at hdest
      ·simp at hdest
     ·simp at h
    ·simp at h
   ·simp at h
  case copy =>
   unfold Ys at h
   split at h
   ·split at h
    ·simp only[aA0]at h;subst h;exact⟨_,_,_,rfl,by simp[CW]⟩
    ·simp at h
   ·simp at h
  case clear =>
   unfold Rz at h
   split at h
   ·split at h
    ·split at h
     ·split at h
      ·split at h
       ·simp only[aA0]at h;subst h;exact⟨_,_,_,rfl,by simp[CW]⟩
       ·simp at h
      ·simp at h
     ·split at h
      ·split at h
       ·simp only[aA0]at h;subst h;exact⟨_,_,_,rfl,by simp[CW]⟩
       ·simp at h
      ·simp at h
     ·simp at h
    ·simp at h
   ·simp at h
  case delete =>
   unfold MJ at h
   split at h
   ·split at h
    ·split at h
     ·split at h
      ·simp only[aA0]at h;subst h;exact⟨_,_,_,rfl,by simp[CW]⟩
      ·simp at h
     ·simp at h
    ·simp at h
   ·simp at h
theorem TC {own:List Ent} {id r:Nat} {obj:DObj} (h:(own.map (·.id)).Nodup):((upE own id r obj).map (·.id)).Nodup:=by
 simp only[upE,List.map_cons,cP0];refine⟨fun hm=> ?_,Ef h⟩;obtain⟨e,he,h1⟩:=aT0.1 hm;exact(BA.1 he).2 h1
theorem uP {P:Program} {o:Oper} {l:Operand->DVal} {own:List Ent} {r:Nat} {d:DVal} {own':List Ent} (h:Pj P o l own r d own') (nd:(own.map (·.id)).Nodup):(own'.map (·.id)).Nodup:=by
 rcases h with ⟨x,hx,_,_,rfl⟩ | ⟨c,g,args,_,_,hS⟩ | ⟨c,id,r',args,e0,l0,e,A,A',b,_,_,_,_,_,_,_,_,_,_,rfl⟩
 ·obtain⟨id,r',obj,h6,_⟩:=Yq hx;rw[h6];exact TC nd
 ·exact hS.2.1
 ·exact TC nd
theorem uQ {P:Program} {o:Oper} {l:Operand->DVal} {own:List Ent} {r n:Nat} {d:DVal} {own':List Ent} (h:Pj P o l own r d own') (ho:GO own<=n) (hl:∀y∈o.op.operands,mx (l y)<=n) (hr:n<=r):mx d<=r+1/\GO own'<=r+1:=by
 rcases h with ⟨x,hx,hp,rfl,rfl⟩ | ⟨c,g,args,_,_,hS⟩ | ⟨c,id,r',args,e0,l0,e,A,A',b,_,_,_,_,_,_,_,_,_,rfl,rfl⟩
 ·exact FG_ hx hp ho hl hr
 ·exact hS.2.2.1 (by omega)
 ·refine⟨by simp[mx],Nat.le_trans (CS _ _ _ _) ?_⟩;simp only[Fa];omega
theorem Ed_ {P:Program} {o:Oper} {l:Operand->DVal} {own:List Ent} {r:Nat} {x:ERes} (h:Jl P o l own r=some x) (ha:CW o=true) (qW:Lk own o=true) (nd:(own.map (·.id)).Nodup) {e:Ent} (hb:FF e=true) :
  e∈own↔e∈x.own:=by
 obtain⟨id,r',obj,hx,h1⟩:=Yq h;obtain⟨⟨et,k,bs,es,rfl⟩,h2⟩:=h1 ha;rw[hx];unfold upE;rw[aK0,BA]
 constructor
 ·intro he;refine .inr ⟨he,fun hid=> ?_⟩;have hf:=Cy nd he;rw[hid]at hf
  rcases h2 with h2 | ⟨e',h2,h3⟩
  ·unfold Lk at qW;rw[ha,h2]at qW;simp only[hf,hb]at qW;simp at qW
  ·rw[hf]at h2;simp only[aA0]at h2;subst h2;rw[hb]at h3;simp at h3
 ·rintro (rfl | ⟨he,_⟩)
  ·simp[FF]at hb
  ·exact he
theorem sT {P:Program} {o:Oper} {l:Operand->DVal} {own:List Ent} {r:Nat} {d:DVal} {own':List Ent} (h:Pj P o l own r d own') (ha:CW o=true) (qW:Lk own o=true) (nd:(own.map (·.id)).Nodup) {e:Ent} (hb:FF e=true) :
  e∈own↔e∈own':=by
 rcases h with ⟨x,hx,_,_,rfl⟩ | ⟨c,g,args,wE,hc,hS⟩ | ⟨c,id,r',args,e0,l0,e1,A,A',b,wE,hc,_⟩
 ·exact Ed_ hx ha qW nd hb
 ·unfold CW at ha;rw[wE]at ha;unfold callee at hc
  split at hc
  ·rename_i f hf;simp only[hf]at ha;simp at ha
  ·simp at hc
 ·unfold CW at ha;rw[wE]at ha;unfold Va at hc
  split at hc
  ·rename_i f hf;simp only[hf]at ha;simp at ha
  ·simp at hc
theorem Qf {d:DVal} (h:∀c d',d= .sel c d'->c=true):mx (Jq d)=mx d:=by
 cases d<;>try rfl
 rename_i c d';have:=h c d' rfl;subst this;simp[Jq,mx]
theorem Pu {e:Operand->DVal}:∀{l:List Operand},FJ true e l->∀x∈l,∀c d',e x= .sel c d'->c=true
 | [],_,x,hx,_,_,_=>by cases hx
 | y::l,h,x,hx,c,d',he=>by
  simp only[FJ]at h
  rcases aK0.1 hx with rfl | hx
  ·have h1:=h.1;rw[he]at h1;exact h1 rfl
  ·exact Pu h.2 x hx c d' he
theorem Ry {ow:List Nat} {o:Oper} {c:Bool} {e:Operand->DVal} (he:Br ow o=true) (h:JF c e o.op):FJ c e o.op.operands.toList:=by
 unfold JF at h
 split at h
 ·rename_i wE;unfold Br at he;rw[wE]at he;simp at he
 ·exact h
theorem Rel.selTrue {B:Base} {l:List (Nat×DVal)} {own:List Ent} {a:Act} {w:World} {loc:Nat->Loc} {dst:Option Nat} {d:DVal} (R:Rel B ⟨Bz l dst d,own⟩ a w loc):Rel B ⟨Bz l dst (.sel true d),own⟩ a w loc where
 st:=R.st
 upd:=R.upd
 new:=R.new
 ver:=R.ver
 sl:=by
  intro i;have h:=R.sl i
  cases dst with
  | none=>exact h
  | some j =>
   simp only[Bz,Bl]at h |-
   split
   ·rename_i hj;rw[if_pos hj]at h;simp only[rd];exact⟨fun _=>h,fun h'=>by simp at h'⟩
   ·rename_i hj;rw[if_neg hj]at h;exact h
 nt:=R.nt
 df:=R.df
theorem EA_ {P:Program} {ops:Array Oper} {o:Oper} {s:DS} {d:DVal} {own':List Ent} {r:Nat} (h:EK P ops o s d own' r) (nd:(s.own.map (·.id)).Nodup):(own'.map (·.id)).Nodup:=by
 unfold EK at h
 split at h
 ·exact uP h nd
 ·obtain⟨_,_,⟨_,d0,_,h⟩ | ⟨_,_,rfl⟩⟩:=h
  ·exact uP h nd
  ·exact nd
theorem BC_ {P:Program} {ops:Array Oper} {o:Oper} {s:DS} {d:DVal} {own':List Ent} {r:Nat} (h:EK P ops o s d own' r) (ha:CW o=true) (qW:Lk s.own o=true) (nd:(s.own.map (·.id)).Nodup) {e:Ent} (hb:FF e=true):e∈s.own↔e∈own':=by
 unfold EK at h
 split at h
 ·exact sT h ha qW nd hb
 ·obtain⟨_,_,⟨_,d0,_,h⟩ | ⟨_,_,rfl⟩⟩:=h
  ·exact sT h ha qW nd hb
  ·exact Iff.rfl
theorem aC {P:Program} {ops:Array Oper} {o:Oper} {s s':DS} {d:DVal} {own':List Ent} {r:Nat} (fX:s.own=s'.own) (kJ:∀x∈o.op.operands,ev s.slots x=ev s'.slots x) (hg:∀j want,o.guard=some (j,want)->BI ops s j=BI ops s' j) (h:EK P ops o s d own' r):EK P ops o s' d own' r:=by
 unfold EK at h |-
 cases zZ:o.guard with
 | none =>
  rw[zZ]at h;simp only at h |-;rw[<-fX];exact Sq kJ h
 | some jw =>
  obtain⟨j,want⟩:=jw;rw[zZ]at h;simp only at h |-;rw[hg j want zZ]at h;obtain⟨h1,h2,h3⟩:=h;refine⟨h1,QH kJ h2,?_⟩
  rcases h3 with ⟨h3,d0,h4,h5⟩ | ⟨h3,h4,h5⟩
  ·exact .inl ⟨h3,d0,h4,by rw[<-fX];exact Sq (fun x hx=>by unfold Bd;rw[kJ x hx]) h5⟩
  ·exact .inr ⟨h3,h4,by rw[h5,fX]⟩
theorem EB_ {P:Program} {ow:List Nat} {ops:Array Oper} {o:Oper} {s:DS} {d:DVal} {own':List Ent} {r n:Nat} (he:Br ow o=true) (h:EK P ops o s d own' r) (ho:GO s.own<=n) (hl:Ku s.slots<=n) (hr:n<=r):mx d<=r+1/\GO own'<=r+1:=by
 unfold EK at h
 split at h
 ·exact uQ h ho (fun y _=>Nat.le_trans (OG _ y) hl) hr
 ·obtain⟨_,h2,⟨h3,d0,rfl,h⟩ | ⟨_,rfl,rfl⟩⟩:=h
  ·rw[h3]at h2
   have:=uQ h ho (fun y hy=>by
    unfold Bd;rw[Qf (Pu (Ry he h2) y (by simpa using hy))]
    exact Nat.le_trans (OG _ y) hl) hr
   refine⟨?_,this.2⟩;simp only[mx];simpa using this.1
  ·exact⟨by simp[mx],by omega⟩
theorem FB.ext {P:Program} {o:Oper} {own own':List Ent} {e e':Operand->DVal} {d:DVal} (h:FB P o own e d) (hx:LM own own') (he:∀x∈o.op.operands,e x=e' x):FB P o own' e' d:=by
 rcases h with ⟨c,g,args,wE,yG,hp⟩ | ⟨hp,yD⟩
 ·refine .inl ⟨c,g,args,wE,?_,hp⟩;rw[<-MS (fun x hx=>he x (by rw[wE];exact hx))];exact yG
 ·obtain⟨c1,c2⟩:=QM (P:=P) (own:=own) o.op he;obtain⟨h1,h2⟩:=HH_ hx o.op (c1.1 hp);exact .inr ⟨h1,by rw[h2,<-c2];exact yD⟩
theorem FB.mx {P:Program} {o:Oper} {own:List Ent} {e:Operand->DVal} {d:DVal} {n:Nat} (h:FB P o own e d) (hn:GO own<=n) (he:∀x∈o.op.operands,mx (e x)<=n):mx d<=n:=by
 rcases h with ⟨c,g,args,wE,yG,hp⟩ | ⟨hp,rfl⟩
 ·rw[hp.2.1];omega
 ·exact HG_ hn o.op he
theorem EC {own:List Ent} {id r:Nat} {obj:DObj}:An (upE own id r obj) id=some ⟨id,r,obj⟩:=by simp[upE,An]
theorem FV {own:List Ent} {id r j:Nat} {obj:DObj} (h:j≠id):An (upE own id r obj) j=An own j:=by
 have hdel:∀own:List Ent,An (CL own id) j=An own j:=by
  intro own
  induction own with
  | nil=>rfl
  | cons e t ih =>
   simp only[CL]
   split
   ·rename_i he;rw[ih];simp only[An];rw[if_neg (by omega)]
   ·simp only[An];rw[ih]
 unfold upE;simp only[An];rw[if_neg (by omega),hdel]
theorem aW {P:Program} {o:Oper} {l:Operand->DVal} {own:List Ent} {r id:Nat} {x:ERes} (h:Jl P o l own r=some x) (ha:Di o=true) (ht:∀t a y,o.op= .store t a y->Iy (l a)=some id) {e:Ent} (he:e.id≠id):e∈own↔e∈x.own:=by
 obtain⟨dst,op,type,GL,after,guard⟩:=o;unfold Di at ha;unfold Jl at h;simp only at h ha ht
 have up:∀r' obj,e∈own↔e∈upE own id r' obj:=by
  intro r' obj;unfold upE;rw[aK0,BA]
  constructor
  ·exact fun hh=> .inr ⟨hh,he⟩
  ·rintro (rfl | hh)
   ·exact absurd rfl he
   ·exact hh.1
 cases op<;>simp only[reduceCtorEq,aR0]at h ha
 case store t a y =>
  have ht:=ht t a y rfl
  split at h
  ·rename_i id' r' off hl;rw[hl]at ht;simp only[Iy,aA0]at ht;subst ht
   split at h
   ·split at h
    ·simp only[aA0]at h;subst h;exact up _ _
    ·simp at h
   ·simp at h
  ·rename_i id' r' k i j hl;rw[hl]at ht;simp only[Iy,aA0]at ht;subst ht;unfold Fe at h
   split at h
   ·split at h
    ·split at h
     ·simp only[aA0]at h;subst h;exact up _ _
     ·simp at h
    ·simp at h
   ·simp at h
  ·simp at h
theorem Tk {P:Program} {o:Oper} {l:Operand->DVal} {own:List Ent} {r id:Nat} {d:DVal} {own':List Ent} (h:Pj P o l own r d own') (ha:Di o=true) (ht:∀t a y,o.op= .store t a y->Iy (l a)=some id) {e:Ent} (he:e.id≠id):e∈own↔e∈own':=by
 rcases h with ⟨x,hx,hp,_,rfl⟩ | ⟨c,g,args,wE,_⟩ | ⟨c,id,r',args,e0,l0,e1,A,A',b,wE,_⟩
 ·exact aW hx ha ht he
 ·simp[Di,wE]at ha
 ·simp[Di,wE]at ha
theorem WJ {d:DVal} {id:Nat} (h:Iy (Jq d)=some id) (hs:∀c d',d≠ .sel c d'):Iy d=some id:=by
 cases d<;>simp only[Jq]at h<;>first
  | exact h
  | (rename_i c d';exact absurd rfl (hs c d'))
theorem aB {P:Program} {ops:Array Oper} {o:Oper} {s:DS} {d:DVal} {own':List Ent} {r id:Nat} (h:EK P ops o s d own' r) (ha:Di o=true) (ht:PY s.slots o=some id) {e:Ent} (he:e.id≠id):e∈s.own↔e∈own':=by
 have kN:∀(t:TypeId) (a y:Operand),o.op= .store t a y->Iy (Bd s.slots a)=some id:=by
  intro t a y wE;unfold PY at ht;rw[wE]at ht;exact ht
 unfold EK at h
 split at h
 ·refine Tk h ha (fun t a y wE=> ?_) he;have h1:=kN t a y wE;unfold Bd at h1;refine WJ h1 fun c d' hd=> ?_
  rcases h with ⟨x,hx,_⟩ | ⟨c,g,args,dY,_⟩ | ⟨c,id,r',args,e0,l0,e1,A,A',b,dY,_⟩
  ·unfold Jl at hx;rw[wE]at hx;simp only at hx;rw[hd]at hx;simp at hx
  ·rw[wE]at dY;simp at dY
  ·rw[wE]at dY;simp at dY
 ·obtain⟨_,_,⟨_,d0,_,h⟩ | ⟨_,_,rfl⟩⟩:=h
  ·exact Tk h ha (fun t a y wE=>kN t a y wE) he
  ·exact Iff.rfl
structure LenE (own own':List Ent):Prop where
 l:∀id e et k bs es,An own id=some e->e.obj= .row et k bs es->∃e' et' es',An own' id=some e'/\e'.r=e.r/\e'.obj= .row et' k bs es'/\es'.length=es.length
 v:∀id e,An own id=some e->∃e',An own' id=some e'/\e'.r=e.r
theorem LenE.refl (own:List Ent):LenE own own:=⟨fun _ e et _ _ es h1 h2=>⟨e,et,es,h1,rfl,h2,rfl⟩,fun _ e h=>⟨e,h,rfl⟩⟩
theorem LenE.trans {a b c:List Ent} (h1:LenE a b) (h2:LenE b c):LenE a c:=by
 refine⟨fun id e et k bs es g1 g2=> ?_,fun id e g=> ?_⟩
 ·obtain⟨e',et',es',k1,k2,k3,k4⟩:=h1.l id e et k bs es g1 g2;obtain⟨e'',et'',es'',l1,l2,l3,l4⟩:=h2.l id e' et' k bs es' k1 k3;exact⟨e'',et'',es'',l1,l2.trans k2,l3,l4.trans k4⟩
 ·obtain⟨e',k1,k2⟩:=h1.v id e g;obtain⟨e'',l1,l2⟩:=h2.v id e' k1;exact⟨e'',l1,l2.trans k2⟩
theorem LenE.upE {own:List Ent} {id r:Nat} {obj:DObj} {e0:Ent} (h0:An own id=some e0) (hr:e0.r=r)
  (h:(∃et et' k bs es es',e0.obj= .row et k bs es/\obj= .row et' k bs es'/\es'.length=es.length)\/(∃c c',e0.obj= .box c/\obj= .box c')):LenE own (upE own id r obj)/\LenE (upE own id r obj) own:=by
 refine⟨⟨?_,fun j e h1=> ?_⟩,?_,fun j e h1=> ?_⟩
 rotate_left
 ·by_cases hj:j=id
  ·subst hj;rw[h0]at h1;simp only[aA0]at h1;subst h1;exact⟨_,EC,hr.symm⟩
  ·exact⟨e,by rw[FV hj];exact h1,rfl⟩
 rotate_left
 ·by_cases hj:j=id
  ·subst hj;rw[EC]at h1;simp only[aA0]at h1;subst h1;exact⟨e0,h0,hr⟩
  ·exact⟨e,by rw[FV hj]at h1;exact h1,rfl⟩
 ·intro j e et k bs es h1 h2
  by_cases hj:j=id
  ·subst hj;rw[h0]at h1;simp only[aA0]at h1;subst h1
   rcases h with ⟨et1,et',k1,bs1,es1,es',g1,g2,g3⟩ | ⟨c,c',g1,g2⟩
   ·rw[h2]at g1;simp only[DObj.row.injEq]at g1;obtain⟨rfl,rfl,rfl,rfl⟩:=g1;exact⟨_,et',es',EC,hr.symm,g2,g3⟩
   ·rw[h2]at g1;simp at g1
  ·exact⟨e,et,es,by rw[FV hj];exact h1,rfl,h2,rfl⟩
 ·intro j e et k bs es h1 h2
  by_cases hj:j=id
  ·subst hj;rw[EC]at h1;simp only[aA0]at h1;subst h1;simp only at h2;subst h2
   rcases h with ⟨et1,et',k1,bs1,es1,es',g1,g2,g3⟩ | ⟨c,c',g1,g2⟩
   ·simp only[DObj.row.injEq]at g2;obtain⟨rfl,rfl,rfl,rfl⟩:=g2;exact⟨e0,et1,es1,h0,hr,g1,g3.symm⟩
   ·simp at g2
  ·exact⟨e,et,es,by rw[FV hj]at h1;exact h1,rfl,h2,rfl⟩
theorem LenE.filt {own own':List Ent} {f:Ent->Bool} (nd:(own.map (·.id)).Nodup) (h:LenE own own'):LenE (own.filter f) own':=by
 have key:∀id e,An (own.filter f) id=some e->An own id=some e:=fun id e h1=>by
  obtain⟨g1,g2⟩:=AC h1;have:=Cy nd (cE0.1 g1).1;rw[g2]at this;exact this
 exact⟨fun id e et k bs es h1 h2=>h.l id e et k bs es (key id e h1) h2,fun id e h1=>h.v id e (key id e h1)⟩
theorem Dc_ {P:Program} {o:Oper} {l:Operand->DVal} {own:List Ent} {r:Nat} {x:ERes} (h:Jl P o l own r=some x) (hp:x.pre) (ha:Di o=true):LenE own x.own/\LenE x.own own:=by
 obtain⟨dst,op,type,GL,after,guard⟩:=o;unfold Di at ha;unfold Jl at h;simp only at h ha;cases op<;>simp only[reduceCtorEq,aR0]at h ha
 case store t a y =>
  split at h
  ·split at h
   ·rename_i e he
    split at h
    ·rename_i cs qN;simp only[aA0]at h;subst h;exact LenE.upE he hp.1 (.inr ⟨_,_,qN,rfl⟩)
    ·simp at h
   ·simp at h
  ·unfold Fe at h
   split at h
   ·rename_i e he
    split at h
    ·rename_i et k' bs es qN
     split at h
     ·simp only[aA0]at h;subst h;exact LenE.upE he hp.1 (.inl ⟨_,_,_,_,_,_,qN,rfl,by simp⟩)
     ·simp at h
    ·simp at h
   ·simp at h
  ·simp at h
theorem sB {P:Program} {o:Oper} {l:Operand->DVal} {own:List Ent} {r:Nat} {d:DVal} {own':List Ent} (h:Pj P o l own r d own') (ha:Di o=true):LenE own own'/\LenE own' own:=by
 rcases h with ⟨x,hx,hp,_,rfl⟩ | ⟨c,g,args,wE,_⟩ | ⟨c,id,r',args,e0,l0,e1,A,A',b,wE,_⟩
 ·exact Dc_ hx hp ha
 ·simp[Di,wE]at ha
 ·simp[Di,wE]at ha
theorem BB_ {P:Program} {ops:Array Oper} {o:Oper} {s:DS} {d:DVal} {own':List Ent} {r:Nat} (h:EK P ops o s d own' r) (ha:Di o=true):LenE s.own own'/\LenE own' s.own:=by
 unfold EK at h
 split at h
 ·exact sB h ha
 ·obtain⟨_,_,⟨_,d0,_,h⟩ | ⟨_,_,rfl⟩⟩:=h
  ·exact sB h ha
  ·exact⟨LenE.refl _,LenE.refl _⟩
theorem FB.ext2 {P:Program} {o:Oper} {own own':List Ent} {e e':Operand->DVal} {d:DVal} (h:FB P o own e d) (hx:LM own own'\/(iO o=true/\LenE own own')) (he:∀x∈o.op.operands,e x=e' x):FB P o own' e' d:=by
 rcases hx with hx | ⟨hi,hx⟩
 ·exact h.ext hx he
 ·obtain⟨dst,op,type,GL,after,guard⟩:=o;unfold iO at hi;simp only at hi he;cases op<;>simp only[aR0]at hi
  case indexAddr t x i =>
   rcases h with ⟨c,g,args,wE,_⟩ | ⟨hp,hd⟩
   ·simp at wE
   ·refine .inr ?_;simp only[FE,BC]at hp hd |-;rw[<-he x (by simp[Op.operands]),<-he i (by simp[Op.operands])]
    split at hp
    ·rename_i _ _ n kk bs0 k' bs' es zC ht hr;rw[zC,ht]at hd |-;simp only at hd |-;cases hxx:e x<;>rw[hxx]at hr hd<;>simp only[Bg,reduceCtorEq]at hr
     case sl =>
      simp only[aA0,aU0]at hr;obtain⟨rfl,rfl,rfl⟩:=hr;exact⟨by simpa[Bg]using hp,hd⟩
     case osl id r =>
      split at hr
      ·rename_i e0 hf
       split at hr
       ·rename_i kH
        split at hr
        ·rename_i et k1 bs1 es1 qN;simp only[aA0,aU0]at hr;obtain⟨rfl,rfl,rfl⟩:=hr;obtain⟨e1,et1,es1',g1,g2,g3,g4⟩:=hx.l id e0 _ _ _ _ hf qN;have pM:Bg own' (.osl id r)=some (k1,bs1,es1'):=by simp[Bg,g1,g2,kH,g3]
         have bB:Bg own (.osl id r)=some (k1,bs1,es1):=by simp[Bg,hf,kH,qN]
         simp only[Gy]at hd |-;rw[bB]at hd;rw[pM];simp only at hd |-;exact⟨by rw[g4];exact hp,hd⟩
        ·simp at hr
       ·simp at hr
      ·simp at hr
     case vw id r k2 bs2 i2 n2 =>
      split at hr
      ·rename_i e0 hf
       split at hr
       ·rename_i kH
        split at hr
        ·rename_i et k1 bs1 es1 qN
         split at hr
         ·rename_i hq;simp only[aA0,aU0]at hr;obtain⟨rfl,rfl,rfl⟩:=hr;obtain⟨e1,et1,es1',g1,g2,g3,g4⟩:=hx.l id e0 _ _ _ _ hf qN;have pM:Bg own' (.vw id r k2 bs2 i2 n2)=some (k2,bs2,(es1'.drop i2).take n2):=by simp[Bg,g1,g2,kH,g3,hq,g4]
          rw[pM];simp only[Gy]at hd |-;refine⟨⟨hp.1,hp.2.1,?_⟩,hd⟩;have:=hp.2.2;simp only[bA0,cF0]at this |-;omega
         ·simp at hr
        ·simp at hr
       ·simp at hr
      ·simp at hr
    ·rename_i _ n zC ht;rw[zC,ht]at hd |-;simp only at hd |-
     split at hp
     ·rename_i len k h3;rw[h3]at hd;obtain⟨p1,p2,p3⟩:=hp
      have cu:∀id r,DP own id r=true->DP own' id r=true:=fun id r h=>by
       unfold DP at h |-
       split at h
       ·rename_i e0 hf;obtain⟨e1,g1,g2⟩:=hx.v id e0 hf;rw[g1];simp only[g2];exact h
       ·simp at h
      refine⟨⟨p1,p2,?_⟩,hd⟩;cases qA:e x<;>rw[qA]at p3<;>simp only at p3 |- <;>exact cu _ _ p3
     ·exact hp.elim
    ·exact hp.elim
section
variable {P : Program} {B : Base} {s : DS}
theorem Qs (ow l1 l2:List Nat) {ops:Array Oper} {K:Cont} {nt N:Nat} (qW:Eb ow l1 l2 ops=true) (hnd0:(s.own.map (·.id)).Nodup) (h:Cl P nt ow l1 l2 ops ops.toList 0 K s) :
  ∃Inv:Base->Array Bool->Act->World->Prop,
   (∀B:Base,B.nt=nt->B.N=N->∀a w loc,Rel B s a w loc->Inv B (Array.replicate ops.size false) a w.drew) /\
   (∀B listed a w,Inv B listed a w->listed.size=ops.size/\(Region.ready .any ops listed=[]->∀i,i<ops.size->listed.getD i false=true)/\((∀i,i<ops.size->listed.getD i false=true)->∃s' loc,K.f s'/\Rel B s' a w loc)) /\
   (∀(B:Base) listed a w i (C:Act->World->Prop) (Qx:Exit->Act->World->Prop),B.nt=nt->B.N=N->Inv B listed a w->i∈Region.ready .any ops listed->(∀a' w',Inv B (listed.setIfInBounds i true) a' w'->C a' w')->wpOpIn (wd B.ro) 0 P ops Qx i C a w) /\
   (∀(B:Base) (G:Base->Prop) listed a w a' w' t,Inv B listed a w->(∀o∈ops.toList,o.dst≠some t)->(∀X loc,Bl X.slots t=Bl s.slots t->Rel B X a w loc->∃B',G B'/\Rel B' X a' w' loc)->∃B',G B'/\Inv B' listed a' w'):=by
 have yZ:=qW;unfold Eb at yZ;simp only[aJ0]at yZ;have spec:=OJ yZ.1;have spE:=VM qW;obtain⟨ds,owns,hl,dJ,hK,wY⟩:=Ub (max N (max (Ku s.slots) (GO s.own))) _ 0 0 _ h;have qU:ops.toList.length=ops.size:=by simp
 rw[qU]at hK;have wZ:ds.length=ops.size:=by simpa using hl
 have zat:∀(k:Nat) (z:Oper×DVal),(ops.toList.zip ds)[k]? =some z->ops[k]? =some z.1/\ds[k]? =some z.2:=by
  intro k z hz;rw[List.getElem?_zip_eq_some]at hz;exact⟨by simpa using hz.1,hz.2⟩
 have zat':∀(k:Nat) (o:Oper) (d:DVal),ops[k]? =some o->ds[k]? =some d->(ops.toList.zip ds)[k]? =some (o,d):=by
  intro k o d ho hd;rw[List.getElem?_zip_eq_some];exact⟨by simpa using ho,hd⟩
 have uniq:∀(t k k':Nat) (z z':Oper×DVal),(ops.toList.zip ds)[k]? =some z->z.1.dst=some t->(ops.toList.zip ds)[k']? =some z'->z'.1.dst=some t->k'=k :=
  fun t k k' z z' h1 h2 h3 h4=>spec.one k' k z'.1 z.1 t (zat _ _ h3).1 (zat _ _ h1).1 h4 h2
 -- what the slots fV behind the operations of S, and behind the first j
 have agree:∀(S:Nat->Bool) (j:Nat) (t:Nat),(∀(k:Nat) (o:Oper),ops[k]? =some o->o.dst=some t->(S k=true↔k<j)) ->
   Bl (Ed s.slots S 0 (ops.toList.zip ds)) t=Bl (Hy s.slots ((ops.toList.zip ds).take j)) t:=by
  intro S j t hS
  by_cases hex:∃(k:Nat) (z:Oper×DVal),(ops.toList.zip ds)[k]? =some z/\z.1.dst=some t
  ·obtain⟨k,z,hz,hd⟩:=hex;have hSk:=hS k z.1 (zat _ _ hz).1 hd
   by_cases nH:k<j
   ·rw[Du _ 0 k z hz hd (by rw[bR0];exact hSk.2 nH) (fun k' z' h1 h2=>uniq t k k' z z' hz hd h1 h2)];rw[JT _ _ k z (by rw[bN0 nH];exact hz) hd];intro k' z' h1 h2
    have:(ops.toList.zip ds)[k']? =some z':=by
     rw[eT0]at h1
     split at h1
     ·exact h1
     ·simp at h1
    exact uniq t k k' z z' hz hd this h2
   ·rw[BH _ 0 (fun k' z' h1 h2=>by
     have:=uniq t k k' z z' hz hd h1 h2;subst this;rw[bR0]
     cases hq:S k' with
     | false=>rfl
     | true=>exact absurd (hSk.1 hq) nH)]
    rw[EB];intro z' hz' h2;obtain⟨k',vK,rfl⟩:=bX0 hz';have qV:k'<j:=by simp at vK;omega
    have yL:(ops.toList.zip ds)[k']? =some ((ops.toList.zip ds).take j)[k']:=by
     rw[List.getElem_take];exact aE0 _
    have:=uniq t k k' z _ hz hd yL h2;omega
  ·rw[BH _ 0 (fun k' z' h1 h2=>absurd ⟨k',z',h1,h2⟩ hex),EB];intro z' hz' h2;obtain⟨k',vK,hq⟩:=bX0 (dB0 hz');exact hex ⟨k',z',by rw[aE0 vK,hq],h2⟩
 -- own objects: no two with one number; what stands between two places
 have hnd:∀j,j<=ops.size->((owns j).map (·.id)).Nodup:=by
  intro j
  induction j with
  | zero=>intro _;rw[dJ];exact hnd0
  | succ j ih =>
   intro hj;have qV:j<ops.size:=by omega
   obtain⟨d,_,wJ⟩:=wY j ops[j] (by simp[qV])
   rcases wJ with ⟨_,_,_,hx⟩ | ⟨_,h5,_⟩
   ·exact EA_ (s:=⟨_,_⟩) hx (ih (by omega))
   ·rw[h5];exact ih (by omega)
 have still:∀m i,i+m<=ops.size->(∀k o,i<=k->k<i+m->ops[k]? =some o->Br ow o=false)->owns (i+m)=owns i:=by
  intro m
  induction m with
  | zero=>intro i _ _;rfl
  | succ m ih =>
   intro i hi hk;have qV:i+m<ops.size:=by omega
   obtain⟨d,_,wJ⟩:=wY (i+m) ops[i+m] (by simp[qV]);have qF:=hk (i+m) ops[i+m] (by omega) (by omega) (by simp[qV])
   rcases wJ with ⟨h1,_⟩ | ⟨_,h5,_⟩
   ·rw[qF]at h1;simp at h1
   ·rw[show i+(m+1)=i+m+1 by omega,h5];exact ih i (by omega) fun k o h1 h2 h3=>hk k o h1 (by omega) h3
 have same:∀i j,i<=ops.size->j<=ops.size->(∀k o,ops[k]? =some o->Br ow o=true->(k<j↔k<i))->owns j=owns i:=by
  intro i j hi hj hk
  by_cases yP:i<=j
  ·have:=still (j-i) i (by omega) (fun k o h1 h2 h3=>by
    cases hq:Br ow o with
    | false=>rfl
    | true=>have:=(hk k o h3 hq).1 (by omega);omega)
   rwa[show i+(j-i)=j by omega]at this
  ·have:=still (i-j) j (by omega) (fun k o h1 h2 h3=>by
    cases hq:Br ow o with
    | false=>rfl
    | true=>have:=(hk k o h3 hq).2 (by omega);omega)
   rw[show j+(i-j)=i by omega]at this;exact this.symm
 have boxes:∀m i,i+m<=ops.size->(∀k o,i<=k->k<i+m->ops[k]? =some o->Br ow o=false\/CW o=true)->∀e,FF e=true->(e∈owns i↔e∈owns (i+m)):=by
  intro m
  induction m with
  | zero=>intro i _ _ e _;exact Iff.rfl
  | succ m ih =>
   intro i hi hk e he;have qV:i+m<ops.size:=by omega
   rw[ih i (by omega) (fun k o h1 h2 h3=>hk k o h1 (by omega) h3) e he];obtain⟨d,_,wJ⟩:=wY (i+m) ops[i+m] (by simp[qV]);have qF:=hk (i+m) ops[i+m] (by omega) (by omega) (by simp[qV])
   rcases wJ with ⟨h1,_,h4,hx⟩ | ⟨_,h5,_⟩
   ·rcases qF with h | h
    ·rw[h]at h1;simp at h1
    ·rw[show i+(m+1)=i+m+1 by omega];exact BC_ hx h h4.1 (hnd _ (by omega)) he
   ·rw[show i+(m+1)=i+m+1 by omega,h5]
 have boxesE:∀i j,i<=ops.size->j<=ops.size->(∀k o,ops[k]? =some o->Br ow o=true->¬(k<j↔k<i)->CW o=true)->LM ((owns i).filter FF) (owns j):=by
  intro i j hi hj hk id e hf;obtain⟨h1,h2⟩:=AC hf;rw[cE0]at h1
  have qY:e∈owns j:=by
   by_cases yP:i<=j
   ·have:=(boxes (j-i) i (by omega) (fun k o h1 h2 h3=>by
     cases hq:Br ow o with
     | false=>exact .inl rfl
     | true=>exact .inr (hk k o h3 hq (by omega))) e h1.2).1 h1.1
    rwa[show i+(j-i)=j by omega]at this
   ·have:=(boxes (i-j) j (by omega) (fun k o h1 h2 h3=>by
     cases hq:Br ow o with
     | false=>exact .inl rfl
     | true=>exact .inr (hk k o h3 hq (by omega))) e h1.2).2
    rw[show j+(i-j)=i by omega]at this;exact this h1.1
  rw[<-h2];exact Cy (hnd j hj) qY
 have lens:∀m i,i+m<=ops.size->(∀k o,i<=k->k<i+m->ops[k]? =some o->Br ow o=false\/Di o=true)->LenE (owns i) (owns (i+m))/\LenE (owns (i+m)) (owns i):=by
  intro m
  induction m with
  | zero=>intro i _ _;exact⟨LenE.refl _,LenE.refl _⟩
  | succ m ih =>
   intro i hi hk;have qV:i+m<ops.size:=by omega
   obtain⟨g1,g2⟩:=ih i (by omega) (fun k o h1 h2 h3=>hk k o h1 (by omega) h3);obtain⟨d,_,wJ⟩:=wY (i+m) ops[i+m] (by simp[qV]);have qF:=hk (i+m) ops[i+m] (by omega) (by omega) (by simp[qV]);rw[show i+(m+1)=i+m+1 by omega]
   rcases wJ with ⟨h1,_,_,hx⟩ | ⟨_,h5,_⟩
   ·rcases qF with h | h
    ·rw[h]at h1;simp at h1
    ·obtain⟨l1,l2⟩:=BB_ hx h;exact⟨g1.trans l1,l2.trans g2⟩
   ·rw[h5];exact⟨g1,g2⟩
 have lensE:∀i j,i<=ops.size->j<=ops.size->(∀k o,ops[k]? =some o->Br ow o=true->¬(k<j↔k<i)->Di o=true)->LenE (owns i) (owns j):=by
  intro i j hi hj hk
  by_cases yP:i<=j
  ·have:=(lens (j-i) i (by omega) (fun k o h1 h2 h3=>by
    cases hq:Br ow o with
    | false=>exact .inl rfl
    | true=>exact .inr (hk k o h3 hq (by omega)))).1
   rwa[show i+(j-i)=j by omega]at this
  ·have:=(lens (i-j) j (by omega) (fun k o h1 h2 h3=>by
    cases hq:Br ow o with
    | false=>exact .inl rfl
    | true=>exact .inr (hk k o h3 hq (by omega)))).2
   rwa[show j+(i-j)=i by omega]at this
 -- what the stores in between do not touch
 have touch:∀k o q,ops[k]? =some o->Br ow o=true->Di o=true->VA l2 k q=true->∀e,iQ l2 q e=false->(e∈owns k↔e∈owns (k+1)):=by
  intro k o q hk he hs hq e hh;obtain⟨d,_,wJ⟩:=wY k o (by simpa using hk)
  rcases wJ with ⟨_,_,⟨_,htc⟩,hx⟩ | ⟨h1,_⟩
  ·unfold VA at hq;rw[cH0]at hq;obtain⟨c,hc,wU⟩:=hq;simp only[aJ0,decide_eq_true_eq,beq_iff_eq]at wU;obtain⟨⟨c1,c2⟩,c3⟩:=wU;unfold PZ at htc;have h2:=bC0.1 htc c hc;simp only[cU0,decide_eq_true_eq,bne_iff_ne,ne_eq,beq_iff_eq]at h2
   have h3:PY (Hy s.slots ((ops.toList.zip ds).take k)) o=some (c/1000000-1):=by
    rcases h2 with (h2 | h2) | h2
    ·omega
    ·simp only[bR0]at h2;exact absurd c3 h2
    ·exact h2
   refine aB (s:=⟨_,owns k⟩) hx hs h3 fun hid=> ?_
   unfold iQ at hh;rw[eY0]at hh;have h4:=hh c hc;simp only[aJ0,decide_eq_true_eq,beq_iff_eq,not_and]at h4;exact h4 ⟨c1,c2⟩ (by omega)
  ·rw[he]at h1;simp at h1
 have others:∀q m i,i+m<=ops.size->(∀k o,i<=k->k<i+m->ops[k]? =some o->Br ow o=false\/(Di o=true/\VA l2 k q=true))->∀e,iQ l2 q e=false->(e∈owns i↔e∈owns (i+m)):=by
  intro q m
  induction m with
  | zero=>intro i _ _ e _;exact Iff.rfl
  | succ m ih =>
   intro i hi hk e he;have qV:i+m<ops.size:=by omega
   rw[ih i (by omega) (fun k o h1 h2 h3=>hk k o h1 (by omega) h3) e he,show i+(m+1)=i+m+1 by omega];have yL:ops[i+m]? =some ops[i+m]:=by simp[qV]
   cases hq:Br ow ops[i+m]with
   | true =>
    rcases hk (i+m) ops[i+m] (by omega) (by omega) yL with h | h
    ·rw[hq]at h;simp at h
    ·exact touch _ _ q yL hq h.1 h.2 e he
   | false =>
    obtain⟨d,_,wJ⟩:=wY (i+m) ops[i+m] (by simp[qV])
    rcases wJ with ⟨h1,_⟩ | ⟨_,h5,_⟩
    ·rw[hq]at h1;simp at h1
    ·rw[h5]
 have othersE:∀q i j,i<=ops.size->j<=ops.size->(∀k o,ops[k]? =some o->Br ow o=true->¬(k<j↔k<i)->(Di o=true/\VA l2 k q=true))->LM ((owns i).filter fun e=> !iQ l2 q e) (owns j):=by
  intro q i j hi hj hk id e hf;obtain⟨h1,h2⟩:=AC hf;rw[cE0]at h1;have hh:iQ l2 q e=false:=by simpa using h1.2
  have qY:e∈owns j:=by
   by_cases yP:i<=j
   ·have:=(others q (j-i) i (by omega) (fun k o h1 h2 h3=>by
     cases hq:Br ow o with
     | false=>exact .inl rfl
     | true=>exact .inr (hk k o h3 hq (by omega))) e hh).1 h1.1
    rwa[show i+(j-i)=j by omega]at this
   ·have:=(others q (i-j) j (by omega) (fun k o h1 h2 h3=>by
     cases hq:Br ow o with
     | false=>exact .inl rfl
     | true=>exact .inr (hk k o h3 hq (by omega))) e hh).2
    rw[show j+(i-j)=i by omega]at this;exact this h1.1
  rw[<-h2];exact Cy (hnd j hj) qY
 have effs_le:∀i j,i<=j->DH ow (ops.toList.take i)<=DH ow (ops.toList.take j):=by
  intro i j yP;unfold DH;have:(ops.toList.take i)=(ops.toList.take j).take i:=by rw[List.take_take,Nat.min_eq_left yP]
  rw[this];exact(List.take_sublist _ _).countP_le
 have fin:∀(B:Base) (listed:Array Bool) (p:Nat) (a:Act) (w:World) (loc:Nat->Loc),listed.size=ops.size->oH ops (fun k=>listed.getD k false)->p<=ops.size->(∀k o,ops[k]? =some o->Br ow o=true->(listed.getD k false=true↔k<p))->Rel B ⟨Ed s.slots (fun k=>listed.getD k false) 0 (ops.toList.zip ds),owns p⟩ a w loc ->
   (∀i,i<ops.size->listed.getD i false=true)->∃s' loc,K.f s'/\Rel B s' a w loc:=by
  intro B listed p a w loc qP hc hp fB R fE
  have heq:owns p=owns ops.size:=same _ _ (Nat.le_refl _) hp fun k o h1 h2=>by
   have qV:k<ops.size:=(aD0.1 h1).1;have:=fB k o h1 h2;simp only[fE k qV,true_iff]at this;omega
  rw[heq]at R;refine⟨_,loc,hK,Rel.congr (fun t=> ?_) R⟩
  have:=agree (fun k=>listed.getD k false) (ops.toList.zip ds).length t (fun k o ho hd=>by
   have qV:k<ops.size:=(aD0.1 ho).1
   simp only[fE k qV,true_iff,List.length_zip,bI0,wZ,Nat.min_self];exact qV)
  rw[this,aW0]
 have nready:∀(listed:Array Bool),Region.ready .any ops listed=[]->listed.size=ops.size->∀i,i<ops.size->listed.getD i false=true:=by
  intro listed hr qP i
  induction i using Nat.strongRecOn with
  | _ i ih =>
   intro hi
   cases hq:listed.getD i false with
   | true=>rfl
   | false =>
    exfalso;have yL:ops[i]? =some ops[i]:=cB0 hi
    have:i∈Region.ready .any ops listed:=by
     rw[mem_ready];refine⟨?_,ops[i],yL,fun e he hb=> ?_⟩
     ·have zC:i<listed.size:=by omega
      simp only[aL0,cB0 zC,bZ0]at hq |-;exact hq
     ·have:=spec.acy i _ yL e he hb;exact ih e.on this (by omega)
    rw[hr]at this;simp at this
 refine⟨fun B listed a w=>listed.size=ops.size/\oH ops (fun k=>listed.getD k false)/\∃p loc,p<=ops.size/\(∀k o,ops[k]? =some o->Br ow o=true->(listed.getD k false=true↔k<p)) /\
   (∀k d,ds[k]? =some d->listed.getD k false=true->mx d<=max N (max (Ku s.slots) (GO s.own))+DH ow (ops.toList.take p))/\GO (owns p)<=max N (max (Ku s.slots) (GO s.own))+DH ow (ops.toList.take p) /\
   Rel B ⟨Ed s.slots (fun k=>listed.getD k false) 0 (ops.toList.zip ds),owns p⟩ a w loc,?_,?_,?_,?_⟩
 ·intro B hBt hBN a w loc R;subst hBt hBN
  have gV:∀k,(Array.replicate ops.size false).getD k false=false:=by
   intro k;simp[aL0,eD0]
   split<;>simp
  refine⟨by simp,?_,0,loc,by omega,fun k o hk he=>by rw[gV];simp,fun k d hk hS=>by rw[gV]at hS;simp at hS,by rw[dJ];omega,?_⟩
  ·intro k o hk hS;simp[aL0,eD0]at hS
   split at hS<;>simp at hS
  ·have R':=R.put (dst:=none) (v:=Go.undef) (d:= .any) (fun i hi=>by simp at hi) (Upd.drew [] w) (by simp[rd]);rw[dJ];refine Rel.congr (fun t=> ?_) R'
   exact BH _ 0 (fun k z hz hd=>by
    simp[aL0,eD0]
    split<;>simp)
 ·rintro B listed a w ⟨qP,hc,p,loc,hp,fB,hbd,mT,R⟩;exact⟨qP,fun hr=>nready listed hr qP,fin B listed p a w loc qP hc hp fB R⟩
 ·rintro B listed a w i C Qx hBt hBN ⟨qP,hc,p,loc,hp,fB,hbd,mT,R⟩ hi hC;subst hBt hBN;rw[mem_ready]at hi;obtain⟨h0,o,ho,wW⟩:=hi;have qV:i<ops.size:=(aD0.1 ho).1;have zC:i<listed.size:=by omega
  have hSi:listed.getD i false=false:=by
   simp only[aL0,cB0 zC,bZ0]at h0 |-;exact h0
  obtain⟨d,hd,wJ⟩:=wY i o (by simpa using ho);simp only[bR0,dI0]at wJ
  -- what stands ahead is done; what waits is not
  have anc:∀k,((DF ops.toList []).getD i 0).testBit k=true->listed.getD k false=true:=by
   intro k h2;rw[QR]at h2;simp only[List.length_nil,eM0,if_false,eC0]at h2;have fO:ops.toList[i]? =some o:=by simpa using ho
   rw[fO]at h2;obtain⟨e,he,hb,h3⟩:=QS _ _ _ h2;have hon:=wW e (by simpa using he) hb
   rcases h3 with rfl | h3
   ·exact hon
   ·refine RP hc e.on hon k ?_;have bI:=spec.acy i o ho e (by simpa using he) hb
    have:((DF ops.toList []).take i).getD e.on 0=(DF ops.toList []).getD e.on 0:=by
     simp[aO0,bN0 bI]
    rwa[this]at h3
  have des:∀k,((DF ops.toList []).getD k 0).testBit i=true->listed.getD k false=false:=by
   intro k h2
   cases hq:listed.getD k false with
   | false=>rfl
   | true =>
    have:=RP hc k hq i h2;rw[hSi]at this;simp at this
  -- the slots that the operation looks at
  have look:∀t∈o.looksAt ops,Bl (Ed s.slots (fun k=>listed.getD k false) 0 (ops.toList.zip ds)) t=Bl (Hy s.slots ((ops.toList.zip ds).take i)) t:=by
   intro t ht;refine agree _ i t fun k o' hk bS=> ?_
   rcases spec.ord i o t ho ht k o' hk bS with ⟨h1,h2⟩ | ⟨h1,h2⟩
   ·exact⟨fun _=>h1,fun _=>anc k h2⟩
   ·refine⟨fun vK=> ?_,fun vK=>by omega⟩;rw[des k h2]at vK;simp at vK
  have hS':(fun k=>(listed.setIfInBounds i true).getD k false)=fun k=>if k=i then true else listed.getD k false:=by
   funext k
   by_cases hk:k=i
   ·subst hk;simp[zC]
   ·rw[if_neg hk,getD_set_ne false (Ne.symm hk)]
  have hS'':∀k,(listed.setIfInBounds i true).getD k false=if k=i then true else listed.getD k false:=fun k=>congrFun hS' k
  have gX:Ku (Ed s.slots (fun k=>listed.getD k false) 0 (ops.toList.zip ds))<=Ce B s+DH ow (ops.toList.take p):=by
   refine Xu (by unfold Ce;omega) _ _ fun k z hz hS=> ?_
   rw[bR0]at hS;exact hbd k z.2 (zat _ _ hz).2 hS
  have kJ:∀x∈o.op.operands,ev (Ed s.slots (fun k=>listed.getD k false) 0 (ops.toList.zip ds)) x=ev (Hy s.slots ((ops.toList.zip ds).take i)) x:=by
   intro x hx;refine DI_ fun t hxt=>look t ?_
   subst hxt;exact aM0 _ (List.mem_filterMap.2 ⟨.tmp t,by simpa using hx,rfl⟩)
  have hg:∀j want,o.guard=some (j,want)->BI ops ⟨Ed s.slots (fun k=>listed.getD k false) 0 (ops.toList.zip ds),owns p⟩ j=BI ops ⟨Hy s.slots ((ops.toList.zip ds).take i),ID l1 l2 i (owns i)⟩ j:=by
   intro j want zZ;unfold BI
   cases ht:(ops[j]?).bind (·.dst)with
   | none=>rfl
   | some t =>
    refine look t (aP0 _ ?_);rw[zZ];simp[ht]
  -- the next set
  have next:∀(p':Nat) (a':Act) (w':World) (loc:Nat->Loc),p'<=ops.size->(∀k o,ops[k]? =some o->Br ow o=true->((listed.setIfInBounds i true).getD k false=true↔k<p'))->DH ow (ops.toList.take p)<=DH ow (ops.toList.take p')->mx d<=Ce B s+DH ow (ops.toList.take p')->GO (owns p')<=Ce B s+DH ow (ops.toList.take p') ->
    Rel B ⟨Bz (Ed s.slots (fun k=>listed.getD k false) 0 (ops.toList.zip ds)) o.dst d,owns p'⟩ a' w' loc->C a' w':=by
   intro p' a' w' loc yE cR yW fC hmo R';refine hC a' w' ⟨by simpa using qP,?_,p',loc,yE,cR,?_,hmo,?_⟩
   ·rw[hS'];intro k o' hk hS e he hb
    by_cases jL:k=i
    ·subst jL;rw[ho]at hk;simp only[aA0]at hk;subst hk;have:=wW e he hb;simp only[this];split<;>rfl
    ·simp only[if_neg jL]at hS;have:=hc k o' hk hS e he hb;simp only[this];split<;>rfl
   ·intro k d' hk hS;rw[hS'']at hS
    by_cases jL:k=i
    ·subst jL;rw[hd]at hk;simp only[aA0]at hk;subst hk;exact fC
    ·rw[if_neg jL]at hS;have:=hbd k d' hk hS;omega
   ·rw[hS'];refine Rel.congr (fun t=> ?_) R';rw[Gc]
    by_cases kT:o.dst=some t
    ·rw[if_pos kT];exact Du _ 0 i (o,d) (zat' i o d ho hd) kT (by simp) (fun k' z' h1 h2=>uniq t i k' (o,d) z' (zat' i o d ho hd) kT h1 h2)
    ·rw[if_neg kT];have e1:=fun S j hS=>agree S j t hS
     by_cases hex:∃(k:Nat) (z:Oper×DVal),(ops.toList.zip ds)[k]? =some z/\z.1.dst=some t
     ·obtain⟨k,z,hz,bS⟩:=hex
      have jL:k≠i:=by
       intro jL;subst jL;have:=(zat _ _ hz).1;rw[ho]at this;simp only[aA0]at this;exact kT (by rw[this];exact bS)
      cases hSk:listed.getD k false with
      | true =>
       rw[Du _ 0 k z hz bS (by rw[bR0];simp[jL,hSk]) (fun k' z' h1 h2=>uniq t k k' z z' hz bS h1 h2)];rw[Du _ 0 k z hz bS (by rw[bR0];exact hSk) (fun k' z' h1 h2=>uniq t k k' z z' hz bS h1 h2)]
      | false =>
       rw[BH _ 0 (fun k' z' h1 h2=>by
        have:=uniq t k k' z z' hz bS h1 h2;subst this
        rw[bR0];simp[jL,hSk])]
       rw[BH _ 0 (fun k' z' h1 h2=>by
        have:=uniq t k k' z z' hz bS h1 h2;subst this
        rw[bR0];exact hSk)]
     ·rw[BH _ 0 (fun k' z' h1 h2=>absurd ⟨k',z',h1,h2⟩ hex),BH _ 0 (fun k' z' h1 h2=>absurd ⟨k',z',h1,h2⟩ hex)]
  -- the operation itself
  rcases wJ with ⟨fN,qS,happ,hx⟩ | ⟨hneu,fX,yZ⟩
  ·have fJ:∀k o',ops[k]? =some o'->Br ow o'=true->(k<p↔k<i):=by
    intro k o' hk he;rw[<-fB k o' hk he]
    rcases spE.two k i o' o hk ho he with h | ⟨h1,h2⟩ | ⟨h1,h2⟩ | ⟨h1,_⟩
    ·subst h;rw[hSi];simp
    ·exact⟨fun _=>h1,fun _=>anc k h2⟩
    ·rw[des k h2];simp;omega
    ·rw[fN]at h1;simp at h1
   have heq:owns p=owns i:=same i p (by omega) hp fJ
   have bN:DH ow (ops.toList.take p)=DH ow (ops.toList.take i):=by
    have key:∀m q,q+m<=ops.size->(∀k o',q<=k->k<q+m->ops[k]? =some o'->Br ow o'=false)->DH ow (ops.toList.take (q+m))=DH ow (ops.toList.take q):=by
     intro m
     induction m with
     | zero=>intro q _ _;rfl
     | succ m ihm =>
      intro q hq hk;have bI:q+m<ops.size:=by omega
      rw[show q+(m+1)=q+m+1 by omega,bJ0];have hg:ops.toList[q+m]? =some ops[q+m]:=by simp[bI]
      have qF:=hk (q+m) ops[q+m] (by omega) (by omega) (by simp[bI]);have:=ihm q (by omega) fun k o' h1 h2 h3=>hk k o' h1 (by omega) h3
      unfold DH at this |-;rw[hg,List.countP_append,this];simp[fC0,qF]
    by_cases hpi:p<=i
    ·have:=key (i-p) p (by omega) (fun k o' h1 h2 h3=>by
      cases hq:Br ow o' with
      | false=>rfl
      | true=>have:=(fJ k o' h3 hq).2 (by omega);omega)
     rw[show p+(i-p)=i by omega]at this;exact this.symm
    ·have:=key (p-i) i (by omega) (fun k o' h1 h2 h3=>by
      cases hq:Br ow o' with
      | false=>rfl
      | true=>have:=(fJ k o' h3 hq).1 (by omega);omega)
     rwa[show i+(p-i)=p by omega]at this
   have hinc:DH ow (ops.toList.take (i+1))=DH ow (ops.toList.take i)+1:=by
    have hg:ops.toList[i]? =some o:=by simpa using ho
    rw[bJ0,hg];unfold DH;rw[List.countP_append];simp[fC0,fN]
   have qA:EK P ops o ⟨Ed s.slots (fun k=>listed.getD k false) 0 (ops.toList.zip ds),owns p⟩ d (owns (i+1)) (Ce B s+DH ow (ops.toList.take i)):=by
    refine aC (s:=⟨Hy s.slots ((ops.toList.zip ds).take i),owns i⟩) heq.symm (fun x hx=>(kJ x hx).symm) (fun j want zZ=>(hg j want zZ).symm) ?_;simpa[Ce]using hx
   have qH:Ce B ⟨Ed s.slots (fun k=>listed.getD k false) 0 (ops.toList.zip ds),owns p⟩<=Ce B s+DH ow (ops.toList.take i):=by
    rw[<-bN];have h0:B.N<=Ce B s:=by unfold Ce;omega
    unfold Ce;simp only;have h1:=gX;have h2:=mT;have h3:Ce B s+DH ow (ops.toList.take p)=max B.N (max (Ku s.slots) (GO s.own))+DH ow (ops.toList.take p):=rfl;have h4:Ce B s=max B.N (max (Ku s.slots) (GO s.own)):=rfl;omega
   have hmxx:=EB_ (n:=Ce B s+DH ow (ops.toList.take i)) fN qA (by rw[<-bN];exact mT) (by rw[<-bN];exact gX) (Nat.le_refl _)
   have nx:∀(a':Act) (w':World) (loc':Nat->Loc),Rel B ⟨Bz (Ed s.slots (fun k=>listed.getD k false) 0 (ops.toList.zip ds)) o.dst d,owns (i+1)⟩ a' w' loc'->C a' w':=by
    intro a' w' loc' R';refine next (i+1) a' w' loc' (by omega) ?_ (by rw[bN,hinc];omega) (by rw[hinc];have:=hmxx.1;omega) (by rw[hinc];have:=hmxx.2;omega) R'
    intro k o' hk he;rw[hS'']
    by_cases jL:k=i
    ·rw[if_pos jL];simp;omega
    ·rw[if_neg jL,fB k o' hk he,fJ k o' hk he];omega
   unfold wpOpIn;rw[ho];simp only;unfold EK at qA
   cases zZ:o.guard with
   | none =>
    rw[zZ]at qA;have hw:Region.wanted o (yielded ops a.tmps)=true:=by simp[Region.wanted,zZ]
    rw[if_pos hw];exact Yn (R:=R) qH qS (fun x _=>R.ev x) (fun x _=>OG _ x) qA nx
   | some jw =>
    obtain⟨j,want⟩:=jw;rw[zZ]at qA;simp only at qA;obtain⟨g1,g2,g3⟩:=qA;have vF:=Rm (want:=want) R g1;have hw:Region.wanted o (yielded ops a.tmps)=gB (BI ops ⟨Ed s.slots (fun k=>listed.getD k false) 0 (ops.toList.zip ds),owns p⟩ j) want:=by simp only[Region.wanted,zZ];exact vF
    rw[hw]
    rcases g3 with ⟨hb,d0,rfl,qA⟩ | ⟨hb,rfl,hown'⟩
    ·rw[hb]at g2 |-;rw[if_pos rfl];have kN:=Pu (Ry fN g2)
     exact Yn (R:=R) qH qS (fun x hx=>NJ (fun x=>R.ev x) _ (Ry fN g2) x (by simpa using hx)) (fun x hx=>by
      unfold Bd;rw[Qf (kN x (by simpa using hx))]
      exact OG _ x) qA fun a' w' loc' R'=>nx a' w' loc' R'.selTrue
    ·rw[hb];rw[if_neg (by simp)];refine⟨fun _ _=>trivial,nx _ _ loc ?_⟩;rw[hown'];exact R.put (LG qS) (Upd.refl _ _) (by simp[rd])
  have hext:LM (ID l1 l2 i (owns i)) (owns p)\/(iO o=true/\LenE (ID l1 l2 i (owns i)) (owns p)):=by
   unfold ID
   split
   ·exact .inl fun id e hf=>by simp[An]at hf
   ·rename_i hn2;have hn2:l2.contains i=false:=by simpa using hn2
    have fJ:∀k o',ops[k]? =some o'->Br ow o'=true->¬(k<p↔k<i)->(l1.contains i=true/\CW o'=true)\/((l1.contains i=false/\iO o=true)/\Di o'=true)\/((l1.contains i=false/\Di o'=true)/\VA l2 k i=true):=by
     intro k o' hk he qF;rw[<-fB k o' hk he]at qF
     rcases spE.two k i o' o hk ho he with h | ⟨h1,h2⟩ | ⟨h1,h2⟩ | ⟨h1,h2⟩
     ·subst h;rw[hSi]at qF;simp at qF
     ·exact absurd ⟨fun _=>h1,fun _=>anc k h2⟩ qF
     ·rw[des k h2]at qF;simp at qF;omega
     ·rcases h2 with ((h2 | h2) | h2) | h2
      ·rw[hn2]at h2;simp at h2
      ·exact .inl h2
      ·exact .inr (.inl h2)
      ·exact .inr (.inr h2)
    split
    ·rename_i cN;refine .inl (boxesE i p (by omega) hp fun k o' hk he qF=> ?_)
     rcases fJ k o' hk he qF with h | h | h
     ·exact h.2
     ·rw[cN]at h;simp at h
     ·rw[cN]at h;simp at h
    ·rename_i cN;have cN:l1.contains i=false:=by simpa using cN
     cases hix:iO o with
     | false =>
      refine .inl ?_
      have rJ:∀k o',ops[k]? =some o'->Br ow o'=true->¬(k<p↔k<i)->Di o'=true/\VA l2 k i=true:=by
       intro k o' hk he hq
       rcases fJ k o' hk he hq with h | h | h
       ·rw[cN]at h;simp at h
       ·rw[hix]at h;simp at h
       ·exact⟨h.1.2,h.2⟩
      split
      ·rename_i hemp;have zL:l2=[]:=by simpa using hemp
       rw[same i p (by omega) hp fun k o' hk he=>by
        by_cases hq:(k<p↔k<i)
        ·exact hq
        ·have:=(rJ k o' hk he hq).2;rw[zL]at this
         simp[VA]at this]
       exact fun _ _ h=>h
      ·exact othersE i i p (by omega) hp rJ
     | true =>
      have yW:LenE (owns i) (owns p):=lensE i p (by omega) hp fun k o' hk he qF=>by
       rcases fJ k o' hk he qF with h | h | h
       ·rw[cN]at h;simp at h
       ·exact h.2
       ·exact h.1.2
      refine .inr ⟨rfl,?_⟩
      split
      ·exact yW
      ·exact yW.filt (hnd i (by omega))
  have cR:∀k o',ops[k]? =some o'->Br ow o'=true->((listed.setIfInBounds i true).getD k false=true↔k<p):=by
   intro k o' hk he;rw[hS'']
   by_cases jL:k=i
   ·subst jL;rw[ho]at hk;simp only[aA0]at hk;subst hk;rw[hneu]at he;simp at he
   ·rw[if_neg jL];exact fB k o' hk he
  have evmx:∀x:Operand,mx (ev (Ed s.slots (fun k=>listed.getD k false) 0 (ops.toList.zip ds)) x)<=Ce B s+DH ow (ops.toList.take p):=fun x=>Nat.le_trans (OG _ x) gX
  have run:∀(e:Operand->DVal) (d':DVal),(∀x∈o.op.operands,Bh ⟨Ed s.slots (fun k=>listed.getD k false) 0 (ops.toList.zip ds),owns p⟩ loc B.M0 w (e x) (a.eval x)) ->
    (∀(w':World) (v:Value),rd (Ad (owns p) loc) (Aa (owns p) loc++B.M0) w'.heap d' v->rd (Ad (owns p) loc) (Aa (owns p) loc++B.M0) w'.heap d v)->mx d<=Ce B s+DH ow (ops.toList.take p)->FB P o (owns p) e d'->o.wpIn (wd B.ro) 0 P a w C Qx:=by
   rintro e d' he yD fC (⟨c,g,args,wE,yG,wA⟩ | ⟨wA,hq⟩)
   ·exact VR (d':=d) (K:=fun s'=>s'=⟨Bz (Ed s.slots (fun k=>listed.getD k false) 0 (ops.toList.zip ds)) o.dst d,owns p⟩) R yZ.1 wE he yG wA (fun _=>rfl) yD (fun s' a' w' loc' gK R'=>by
     subst gK
     exact next p a' w' loc' hp cR (Nat.le_refl _) fC mT R')
   ·exact iF (d:=d) (K:=fun s'=>s'=⟨Bz (Ed s.slots (fun k=>listed.getD k false) 0 (ops.toList.zip ds)) o.dst d,owns p⟩) R yZ.1 he wA rfl (fun w' v h=>yD w' v (by rw[hq];exact h)) (fun s' a' w' loc' gK R'=>by
     subst gK
     exact next p a' w' loc' hp cR (Nat.le_refl _) fC mT R')
  unfold wpOpIn;rw[ho];simp only;obtain⟨qS,fU⟩:=yZ;have yZ:Cf B.nt o.dst=true/\True:=⟨qS,trivial⟩
  cases zZ:o.guard with
  | none =>
   have hw:Region.wanted o (yielded ops a.tmps)=true:=by simp[Region.wanted,zZ]
   rw[if_pos hw];rw[zZ]at fU;have h1:=FB.ext2 fU hext (fun x hx=>(kJ x hx).symm);exact(run _ d (fun x _=>R.ev x) (fun _ _ h=>h) (h1.mx mT fun x _=>evmx x) h1)
  | some jw =>
   obtain⟨j,want⟩:=jw;rw[zZ]at fU;simp only at fU;obtain⟨g1,g2,d',rfl,g3⟩:=fU;rw[<-hg j want zZ]at g1 g2 g3 next run
   have vF:=Rm (want:=want) R g1;have hw:Region.wanted o (yielded ops a.tmps)=gB (BI ops ⟨Ed s.slots (fun k=>listed.getD k false) 0 (ops.toList.zip ds),owns p⟩ j) want:=by simp only[Region.wanted,zZ];exact vF
   rw[hw];have dO:=QH (fun x hx=>(kJ x hx).symm) g2
   have hstrip:∀x∈o.op.operands,Bd (Hy s.slots ((ops.toList.zip ds).take i)) x=Bd (Ed s.slots (fun k=>listed.getD k false) 0 (ops.toList.zip ds)) x:=by
    intro x hx;unfold Bd;rw[kJ x hx]
   split
   ·rename_i hb;rw[hb]at dO;have h1:=FB.ext2 (g3 hb) hext hstrip
    have yD:∀(w':World) (v:Value),rd (Ad (owns p) loc) (Aa (owns p) loc++B.M0) w'.heap d' v->rd (Ad (owns p) loc) (Aa (owns p) loc++B.M0) w'.heap (.sel (gB (BI ops ⟨Ed s.slots (fun k=>listed.getD k false) 0 (ops.toList.zip ds),owns p⟩ j) want) d') v:=by
     intro w' v h;rw[hb];simp only[rd];exact⟨fun _=>h,fun h'=>by simp at h'⟩
    rcases h1 with ⟨c,g,args,wE,yG,wA⟩ | ⟨wA,hq⟩
    ·refine(run (Bd (Ed s.slots (fun k=>listed.getD k false) 0 (ops.toList.zip ds))) d' ?_ yD (by rw[hb];simp[mx,wA.2.1]) (.inl ⟨c,g,args,wE,yG,wA⟩));rw[wE]at dO |-;exact fun x hx=>NJ (fun x=>R.ev x) _ dO x (by simpa using hx)
    ·obtain⟨e',q1,q2,q3⟩:=rG (fun x=>R.ev x) dO wA;exact(run e' (BC P (owns p) e' o.op) q1 (fun w' v h=>yD w' v (by rw[hq];exact q3 _ _ _ _ h)) (by rw[hb,hq];simpa[mx,Ce]using Fa_ dO wA mT (fun x _=>evmx x)) (.inr ⟨q2,rfl⟩))
   ·rename_i hb;refine⟨fun _ _=>trivial,?_⟩;refine next p _ _ loc hp cR (Nat.le_refl _) (by rw[show gB (BI ops ⟨Ed s.slots (fun k=>listed.getD k false) 0 (ops.toList.zip ds),owns p⟩ j) want=false by simpa using hb];simp[mx]) mT ?_
    have qM:gB (BI ops ⟨Ed s.slots (fun k=>listed.getD k false) 0 (ops.toList.zip ds),owns p⟩ j) want=false:=by simpa using hb
    rw[qM];exact R.put (LG qS) (Upd.refl _ _) (by simp[rd])
 ·rintro B G listed a w a' w' t ⟨qP,hc,p,loc,hp,fB,hbd,mT,R⟩ ht hT
  have hgs:=BH (l:=s.slots) (S:=fun k=>listed.getD k false) (t:=t) (ops.toList.zip ds) 0 (fun k z hz hd=>by
   have h1:=(zat _ _ hz).1
   exact absurd hd (ht z.1 (by simpa using Array.mem_of_getElem? h1)))
  obtain⟨B',hG,R'⟩:=hT _ loc hgs R;exact⟨B',hG,qP,hc,p,loc,hp,fB,hbd,mT,R'⟩
theorem Pm (ow l1 l2:List Nat) {id:Nat} {ops:Array Oper} {Q:Exit->DS->Prop} (hm:P.follows .mixedOrders=true) (qW:Eb ow l1 l2 ops=true) (h:Cl P B.nt ow l1 l2 ops ops.toList 0 ⟨Q .normal⟩ s):DW P B (.region id ops true) Q s:=by
 intro a w loc R;refine wpIn_region_any hm ?_;obtain⟨Inv,h1,h2,h3,_⟩:=Qs (N:=B.N) ow l1 l2 qW R.st.nd h
 have main:∀(fuel:Nat) (listed:Array Bool) (a:Act) (w:World),(List.range ops.size).countP (fun k=>listed.getD k false)+fuel=ops.size->Inv B listed a w->wpAnyIn (wd B.ro) 0 P .any ops (QQ B Q) fuel listed a w:=by
  intro fuel
  induction fuel with
  | zero =>
   intro listed a w mU hI;obtain⟨qP,h5,h6⟩:=h2 _ _ _ _ hI
   have fE:∀i,i<ops.size->listed.getD i false=true:=by
    intro i hi;have:=(List.countP_eq_length (p:=fun k=>listed.getD k false) (l:=List.range ops.size)).1 (by simpa using mU) i (dP0.2 hi);simpa using this
   refine⟨?_,h6 fE⟩;rw[List.eq_nil_iff_forall_not_mem];intro i hi;rw[mem_ready]at hi;obtain⟨h0,o,ho,_⟩:=hi;have qV:i<ops.size:=(aD0.1 ho).1;have h1:=fE i qV;have zC:i<listed.size:=by omega
   simp only[aL0,cB0 zC,bZ0]at h0 h1;rw[h0]at h1;simp at h1
  | succ fuel ih =>
   intro listed a w mU hI;obtain⟨qP,h5,h6⟩:=h2 _ _ _ _ hI;refine⟨fun hr=>h6 (h5 hr),fun i hi=>h3 B listed a w i _ _ rfl rfl hI hi fun a' w' hI'=>ih _ a' w' ?_ hI'⟩;rw[mem_ready]at hi;obtain⟨h0,o,ho,wW⟩:=hi;have qV:i<ops.size:=(aD0.1 ho).1;have zC:i<listed.size:=by omega
   have hSi:listed.getD i false=false:=by
    simp only[aL0,cB0 zC,bZ0]at h0 |-;exact h0
   have hS':(fun k=>(listed.setIfInBounds i true).getD k false)=fun k=>if k=i then true else listed.getD k false:=by
    funext k
    by_cases hk:k=i
    ·subst hk;simp[zC]
    ·rw[if_neg hk,getD_set_ne false (Ne.symm hk)]
   rw[hS',VQ _ i hSi _ qV];omega
 refine main ops.size _ a _ ?_ (h1 B rfl rfl a w loc R)
 have:(List.range ops.size).countP (fun k=>(Array.replicate ops.size false).getD k false)=0:=by
  rw[List.countP_eq_zero];intro k _;simp[aL0,eD0]
  split<;>simp
 omega
theorem Pk (ow l1 l2:List Nat) {id:Nat} {ops:Array Oper} {Q:Exit->DS->Prop} (h:Cl P B.nt ow l1 l2 ops ops.toList 0 ⟨Q .normal⟩ s):DW P B (.region id ops false) Q s:=by
 intro a w loc R;refine wpIn_region ?_;rw[List.range_eq_range']
 have ext:∀k (own:List Ent),(own.map (·.id)).Nodup->LM (ID l1 l2 k own) own:=by
  intro k own nd;unfold ID
  split
  ·intro id e hf;simp[An]at hf
  ·split
   ·intro id e hf;obtain⟨h1,h2⟩:=AC hf;rw[<-h2];exact Cy nd (cE0.1 h1).1
   ·split
    ·exact fun _ _ h=>h
    ·intro id e hf;obtain⟨h1,h2⟩:=AC hf;rw[<-h2];exact Cy nd (cE0.1 h1).1
 have key:∀(m i:Nat) (s:DS) (a:Act) (w:World) (loc:Nat->Loc),Rel B s a w loc->i+m=ops.size->Cl P B.nt ow l1 l2 ops (ops.toList.drop i) i ⟨Q .normal⟩ s->wpOpsIn (wd B.ro) 0 P ops (QQ B Q) (List.range' i m) a w:=by
  intro m
  induction m with
  | zero =>
   intro i s a w loc R hi h;rw[cW0 (by simp;omega)]at h;simp only[List.range'_zero,wpOpsIn];exact⟨s,loc,h,R⟩
  | succ m ih =>
   intro i s a w loc R hi h;have qV:i<ops.size:=by omega
   have hdr:ops.toList.drop i=ops[i]::ops.toList.drop (i+1):=by
    rw[aS0 (by simpa using qV)];simp
   rw[hdr]at h;simp only[List.range'_succ,wpOpsIn,cB0 qV];have ih':=fun s' a' w' loc' (hk:Cl P B.nt ow l1 l2 ops (ops.toList.drop (i+1)) (i+1) ⟨Q .normal⟩ s') (R':Rel B s' a' w' loc')=>ih (i+1) s' a' w' loc' R' (by omega) hk
   -- one neutral operation
   have neu:∀(e:Operand->DVal) (d d':DVal),(∀x∈ops[i].op.operands,Bh s loc B.M0 w (e x) (a.eval x))->(∀(w':World) (v:Value),rd (Ad s.own loc) (Aa s.own loc++B.M0) w'.heap d' v->rd (Ad s.own loc) (Aa s.own loc++B.M0) w'.heap d v) ->
     Cf B.nt ops[i].dst=true->FB P ops[i] (ID l1 l2 i s.own) e d'->Cl P B.nt ow l1 l2 ops (ops.toList.drop (i+1)) (i+1) ⟨Q .normal⟩ ⟨Bz s.slots ops[i].dst d,s.own⟩->ops[i].wpIn (wd B.ro) 0 P a w (wpOpsIn (wd B.ro) 0 P ops (QQ B Q) (List.range' (i+1) m)) (QQ B Q):=by
    intro e d d' he yD hd h1 hk
    rcases h1.ext (ext i s.own R.st.nd) (fun x _=>rfl)with ⟨c,g,args,wE,yG,wA⟩ | ⟨wA,hq⟩
    ·exact VR (d':=d) (K:=fun s'=>s'=⟨Bz s.slots ops[i].dst d,s.own⟩) R hd wE he yG wA (fun _=>rfl) yD (fun s' a' w' loc' gK R'=>by subst gK;exact ih' _ a' w' loc' hk R')
    ·exact iF (d:=d) (K:=fun s'=>s'=⟨Bz s.slots ops[i].dst d,s.own⟩) R hd he wA rfl (fun w' v h=>yD w' v (by rw[hq];exact h)) (fun s' a' w' loc' gK R'=>by subst gK;exact ih' _ a' w' loc' hk R')
   simp only[Cl]at h
   split at h
   ·rename_i hg;have hw:Region.wanted ops[i] (yielded ops a.tmps)=true:=by simp[Region.wanted,hg]
    rw[if_pos hw]
    split at h
    ·obtain⟨hd,_,h⟩:=h;obtain⟨d,own',h1,h2⟩:=Kb h (Ce B s);exact Yn (R:=R) (Nat.le_refl _) hd (fun x _=>R.ev x) (fun x _=>OG _ x) h1 fun a' w' loc' R'=>ih' _ a' w' loc' h2 R'
    ·obtain⟨hd,h⟩:=h
     split at h
     ·rename_i c wE
      split at h
      ·rename_i g args hc;obtain⟨d,h1,h2⟩:=Ky h;exact neu _ d d (fun x _=>R.ev x) (fun _ _ h=>h) hd (.inl ⟨c,g,args,wE,hc,h1⟩) h2
      ·exact neu _ _ _ (fun x _=>R.ev x) (fun _ _ h=>h) hd (.inr ⟨h.1,rfl⟩) h.2
     ·exact neu _ _ _ (fun x _=>R.ev x) (fun _ _ h=>h) hd (.inr ⟨h.1,rfl⟩) h.2
   ·rename_i j want hg;obtain⟨vF,h⟩:=h;have hgo':=Rm (want:=want) R vF;have hw:Region.wanted ops[i] (yielded ops a.tmps)=gB (BI ops s j) want:=by simp only[Region.wanted,hg];exact hgo'
    rw[hw]
    split at h
    ·rename_i fN;obtain⟨hd,_,qW,h⟩:=h
     cases hb:gB (BI ops s j) want with
     | true =>
      rw[if_pos rfl];rw[hb]at h qW;obtain⟨d0,own',h1,h2⟩:=Kb (K:=VL _) h (Ce B s);have kN:=Pu (Ry fN qW)
      exact Yn (R:=R) (Nat.le_refl _) hd (fun x hx=>NJ (fun x=>R.ev x) _ (Ry fN qW) x (by simpa using hx)) (fun x hx=>by
       unfold Bd;rw[Qf (kN x (by simpa using hx))]
       exact OG _ x) h1 fun a' w' loc' R'=>ih' _ a' w' loc' h2 R'.selTrue
     | false =>
      rw[if_neg (by simp)];rw[hb]at h;exact⟨fun _ _=>trivial,ih' _ _ _ loc h (R.put (LG hd) (Upd.refl _ _) (by simp[rd]))⟩
    obtain⟨hd,qW,h⟩:=h
    have mk:∀d',(gB (BI ops s j) want=true->FB P ops[i] (ID l1 l2 i s.own) (Bd s.slots) d')->Cl P B.nt ow l1 l2 ops (ops.toList.drop (i+1)) (i+1) ⟨Q .normal⟩ ⟨Bz s.slots ops[i].dst (.sel (gB (BI ops s j) want) d'),s.own⟩ ->
      if gB (BI ops s j) want=true then ops[i].wpIn (wd B.ro) 0 P a w (wpOpsIn (wd B.ro) 0 P ops (QQ B Q) (List.range' (i+1) m)) (QQ B Q)else (∀f,ops[i].about P w a.eval=some f->(wd B.ro).fn f)/\wpOpsIn (wd B.ro) 0 P ops (QQ B Q) (List.range' (i+1) m) (a.put ops[i].dst Go.undef) w:=by
     intro d' h1 hk
     cases hb:gB (BI ops s j) want with
     | true =>
      rw[if_pos rfl];rw[hb]at qW h1 hk
      have yD:∀(w':World) (d'':DVal) (v:Value),rd (Ad s.own loc) (Aa s.own loc++B.M0) w'.heap d'' v->rd (Ad s.own loc) (Aa s.own loc++B.M0) w'.heap (.sel true d'') v:=by
       intro w' d'' v h;simp only[rd];exact⟨fun _=>h,fun h'=>by simp at h'⟩
      rcases h1 rfl with ⟨c,g,args,wE,yG,wA⟩ | ⟨wA,hq⟩
      ·refine neu (Bd s.slots) (.sel true d') d' ?_ (fun w' v h=>yD w' _ v h) hd (.inl ⟨c,g,args,wE,yG,wA⟩) hk;rw[wE]at qW |-;exact fun x hx=>NJ (fun x=>R.ev x) _ qW x (by simpa using hx)
      ·obtain⟨e',q1,q2,q3⟩:=rG (fun x=>R.ev x) qW wA;exact neu e' (.sel true d') (BC P (ID l1 l2 i s.own) e' ops[i].op) q1 (fun w' v h=>yD w' _ v (by rw[hq];exact q3 _ _ _ _ h)) hd (.inr ⟨q2,rfl⟩) hk
     | false =>
      rw[if_neg (by simp)];rw[hb]at hk;exact⟨fun _ _=>trivial,ih' _ _ _ loc hk (R.put (LG hd) (Upd.refl _ _) (by simp[rd]))⟩
    split at h
    ·rename_i c wE
     split at h
     ·rename_i g args hc;obtain⟨d,h1,h2⟩:=Ug h;exact mk d (fun hq=> .inl ⟨c,g,args,wE,hc,h1 hq⟩) h2
     ·exact mk _ (fun hq=> .inr ⟨h.1 hq,rfl⟩) h.2
    ·exact mk _ (fun hq=> .inr ⟨h.1 hq,rfl⟩) h.2
 exact key ops.size 0 s a w loc R (by omega) (by simpa using h)
end
end Go.Dm
end
