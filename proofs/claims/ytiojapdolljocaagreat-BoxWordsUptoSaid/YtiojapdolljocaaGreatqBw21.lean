/- Parts of a proof, laid together: WJ1, WJ2, WJ3, RT, WBp, WB3, EnSc, WB4, WB5, WB6, WB7. -/
import Derived.Scope
import Derived.Test.YtiojapdolljocaaGreatqBw15
import Derived.Test.YtiojapdolljocaaGreatqBw16
import Derived.Test.YtiojapdolljocaaGreatqBw18
import Derived.Test.YtiojapdolljocaaGreatqBw20
set_option linter.unusedSimpArgs false
set_option maxHeartbeats 8000000
set_option linter.unusedVariables false
set_option linter.unusedSectionVars false
section
namespace Go.Proofs.Wy
open Go Go.Dm Go.RowKit Go.Proofs Tryz
variable [DMode]
set_option maxRecDepth 1000000
theorem eQ (b n:Nat) (rest:List Value) (w:World) (gR:w.heap[b]? =some (.cells (.pointer none:: .slice none 0 0::rest).toArray 232 (0,0))) (yI:1<=n) (hn:n<=140737488355328) :
  Calls prog 225 #[.pointer (some ⟨b,0,none⟩),.int .i64 n] w fun e w'=>e= .returned (.tuple #[])/\Vs w w' b rest:=by
 have mixed:=mxd;have qV:b<w.heap.size:=(aD0.1 gR).1
 have hbk1:(w.setCell ⟨b,0,none⟩ (.pointer (some ⟨b,0,none⟩))).heap[b]? =some (.cells (.pointer (some ⟨b,0,none⟩):: .slice none 0 0::rest).toArray 232 (0,0)):=by
  simp[World.setCell,cC0,gR]
 have c1:(w.setCell ⟨b,0,none⟩ (.pointer (some ⟨b,0,none⟩))).drew.cell? ⟨b,1,none⟩=some (.slice none 0 0):=by
  have h1:(w.setCell ⟨b,0,none⟩ (.pointer (some ⟨b,0,none⟩))).drew.heap[b]? =_:=hbk1;rw[Lib.cell_of_heap h1];rfl
 have hU:Upd [b] w (w.setCell ⟨b,0,none⟩ (.pointer (some ⟨b,0,none⟩))).drew:=⟨rfl,rfl,rfl,fun _=>Nat.le_succ _,by simp[World.setCell,World.drew],fun q hq qB=>by
  simp only[aG0]at qB;simp only[World.setCell,World.drew]
  rw[cC0,if_neg (fun h=>qB h.symm)]⟩
 have hsh:w.shape? b=some (232,rest.length+2):=by simp[World.shape?,gR]
 have mC:Tryz.prog.cellsOf 232=2:=by kernel_rfl
 have hli:=SR (P:=prog) (T:=232) (n:=(rest.length+2)/Tryz.prog.cellsOf 232) (by show ¬_;exact of_decide_eq_true (by kernel_rfl)) (by rw[mC];decide) (by rw[mC];omega);have zX:=Ip b (rest.length+2) w (by rw[Lib.cell_of_heap gR];rfl) hsh (by omega) hli (Lib.frozen_of_heap gR 0);have hg:=aL b n rest (w.setCell ⟨b,0,none⟩ (.pointer (some ⟨b,0,none⟩))).drew hbk1 hn
 go_enter func225,ntmps225
 go_wp2_with (refine zX.mono ?_;rintro e w' ⟨rfl,rfl⟩)
 go_region_o
 all_goals go_wp2_with (refine hg.mono ?_;rintro e w' ⟨rfl,h1⟩)
 all_goals (go_end0;obtain⟨g,cs,u,h2,h3,h4,h5⟩:=h1;exact⟨rfl,g,cs,hU.trans u (fun x hx=> .inl hx),by simpa[World.setCell,World.drew]using h2,h3,h4,h5⟩)
end Go.Proofs.Wy
end
section
namespace Go.Proofs.Wy
open Go Go.Dm Go.RowKit Go.Proofs Tryz
variable [DMode]
set_option maxRecDepth 100000
theorem Ji (n:Nat) (yI:1<=n) (hn:n<=140737488355328):Bl prog (.func 225) [.rx 0 0 2 0 0,.int .i64 n] [⟨0,0,.row 232 2 32 [[.nilp,.nilsl]]⟩] (.tup [])
  [⟨0,0,.row 232 2 32 [[.rx 0 0 2 0 0,.osl 1 1]]⟩,⟨1,1,.row 5 1 1 []⟩]:=by
 refine⟨by simp,call225,fun M w loc vs S wI=> ?_⟩;have hk:=S.ok _ (aG0.2 rfl);obtain⟨wT,hk⟩:=hk
 rcases hk with ⟨h,_⟩ | ⟨b,arr,cap,h1,h2,h3,h4,h5,h6,h7⟩
 ·simp at h
 ·obtain⟨v0,v1,rest,rfl,g0,g1⟩:=Hs h7;simp only[rd]at g0 g1;subst g0;subst g1;have qA:Ab [(⟨0,0,.row 232 2 32 [[.nilp,.nilsl]]⟩:Ent)] loc 0 0=some (loc 0):=by simp[Ab,Aj]
  simp only[Aw,rd]at wI;obtain⟨pv,r,wI,hp,v2,r2,rfl,⟨rfl,_⟩,rfl⟩:=wI;obtain⟨b',qL,rfl⟩:=hp _ qA;simp only at h1 h2;rw[h1]at qL;simp only[bF0,and_true]at qL;subst qL;have vE:vs= #[.pointer (some ⟨b,0,none⟩),.int .i64 n]:=by apply Array.ext';simpa using wI
  subst vE;refine⟨call225,(eQ b n rest w h3 yI hn).mono ?_⟩;rintro e w' ⟨rfl,g,cs,hu,hg,hm,hb,hgc⟩;have hgl:g<w'.heap.size:=(aD0.1 hgc).1;have yS:b<w.heap.size:=(aD0.1 h3).1
  let L1:Dm.Loc:=⟨[g],.slice (some ⟨g,0,none⟩) 0 cs.size⟩
  let loc':Nat->Dm.Loc:=fun i=>if i=1 then L1 else loc i
  have e0:loc' 0=loc 0:=rfl;have e1:loc' 1=L1:=rfl
  let own':List Ent:=[⟨0,0,.row 232 2 32 [[.rx 0 0 2 0 0,.osl 1 1]]⟩,⟨1,1,.row 5 1 1 []⟩]
  have qF:Aa own' loc'=[b,g]:=by simp[own',Aa,e0,e1,h1,L1]
  have kO:Aa [(⟨0,0,.row 232 2 32 [[.nilp,.nilsl]]⟩:Ent)] loc=[b]:=by simp[Aa,h1]
  have yL:Ab own' loc' 0 0=some (loc 0):=by simp[own',Ab,Aj,e0]
  have hc1:Ab own' loc' 1 1=some L1:=by simp[own',Ab,Aj,e1]
  refine⟨_,rfl,loc',⟨by simp,?_,?_,?_,?_⟩,?_,?_,?_,by simp[rd,Aw]⟩
  ·show (Aa own' loc').Nodup
   rw[qF];simp;omega
  ·show ∀q∈Aa own' loc',q∉M
   rw[qF];intro q hq
   rcases aL0.1 hq with rfl | hq
   ·exact S.ap q (by rw[kO];simp)
   ·simp only[aG0]at hq;subst hq;intro hM;have:=S.lt q (aJ0 _ hM);omega
  ·show ∀q∈Aa own' loc'++M,q<w'.heap.size
   rw[qF];intro q hq
   rcases aC0.1 hq with hq | hq
   ·rcases aL0.1 hq with rfl | hq
    ·exact cD0 yS hu.size
    ·simp only[aG0]at hq;subst hq;exact hgl
   ·exact cD0 (S.lt q (aJ0 _ hq)) hu.size
  ·intro e he
   rcases aL0.1 he with rfl | he
   ·refine⟨wT,.inr ⟨b,_,cap,h1,h2,hb,h4,h5,by simpa using h6,?_⟩⟩;refine Vc ?_ ?_ rfl rfl
    ·simp only[rd];intro l hl;have wY:Ab own' loc' 0 0=some l:=hl;rw[yL]at wY;simp only[aA0]at wY;subst wY;exact⟨b,h1,by simp⟩
    ·simp only[rd];intro l hl;have wY:Ab own' loc' 1 1=some l:=hl;rw[hc1]at wY;simp only[aA0]at wY;subst wY;rfl
   ·simp only[aG0]at he;subst he;exact⟨by simp,.inr ⟨g,cs,cs.size,rfl,rfl,hgc,by simp,hm,by simp,by simp[Ec]⟩⟩
  ·rw[kO];exact hu
  ·show ∀q∈Aa own' loc',_
   rw[qF,kO];intro q hq
   rcases aL0.1 hq with rfl | hq
   ·exact .inl (by simp)
   ·simp only[aG0]at hq;subst hq;exact .inr hg
  ·intro e he hr
   rcases aL0.1 he with rfl | he
   ·rw[qA];rfl
   ·simp only[aG0]at he;subst he;simp at hr
end Go.Proofs.Wy
end
section
namespace Go.Proofs.Wy
open Go Go.Dm Go.RowKit Go.Proofs Tryz
variable [DMode]
attribute [local irreducible] DW Bh Bk
set_option maxRecDepth 100000
def Dd (sep:ByteArray) (T y:ByteArray):ByteArray:=T++sep++y
def Ft : List ByteArray->ByteArray->ByteArray
 | [],_=>⟨#[]⟩
 | x::r,sep=>r.foldl (Dd sep) x
theorem KV (sep T y:ByteArray):(Dd sep T y).size=T.size+sep.size+y.size:=by simp[Dd,aP0]
theorem FV (sep:ByteArray) (hs:sep.size<=3):∀(r:List ByteArray) (x:ByteArray),(∀y∈r,y.size<=67108864)->(r.foldl (Dd sep) x).size<=x.size+67108867*r.length/\x.size<=(r.foldl (Dd sep) x).size
 | [],x,_=>by simp
 | y::r,x,h=>by
  obtain⟨h1,h2⟩:=FV sep hs r (Dd sep x y) fun z hz=>h z (aI0 _ hz)
  have h3:=h y aK0;rw[KV]at h1 h2;rw[cH0,List.length_cons];omega
theorem Qy {β α:Type} {f:β->α->β} {b:β} {l:List α} {k:Nat} {x:α} (hx:l[k]? =some x):(l.take (k+1)).foldl f b=f ((l.take k).foldl f b) x:=by
 obtain⟨h,rfl⟩:=aF0.1 hx;rw[List.take_succ_eq_append_getElem h,cV0];rfl
theorem Ls (x:ByteArray):(⟨#[]⟩:ByteArray)++x=x:=by
 apply Hq
 simp[ByteArray.data_append]
theorem BL_ : AP ⟨#[]⟩=[]:=rfl
def Hw : Ann:=⟨[57,61,70,72,74],[⟨18,[8],[],[]⟩]⟩
theorem sY (xs:List ByteArray) (sep:ByteArray) (hs:sep.size<=3) (hl:xs.length<=1572864) (hx:∀x∈xs,1<=x.size/\x.size<=67108864):Ag prog 202 [.sl 1 16 (xs.map AD),.str sep] (.str (Ft xs sep)):=by
 refine Ad [] Hw func202 call202 ntmps202 mxd (Az @Hw.eq_1 results202) rfl (fun qJ B qX qQ=> ?_);clear qJ;simp only[Ap];have AO:(⟨#[]⟩:ByteArray).size=0:=rfl
 match xs,hl,hx with
 | [],hl,hx =>
  exact AA Ac Ac (HB @AO @Ft.eq_1 @Ft.eq_2)
 | [x],hl,hx =>
  exact AA Ac Ac (JV @AO @Ft.eq_1 @Ft.eq_2 @AD.eq_1)
 | x0::x1::r,hl,hx =>
  obtain⟨xs,dJ⟩:∃xs,xs=x0::x1::r:=⟨_,rfl⟩;have hJ:Ft (x0::x1::r) sep=(xs.drop 1).foldl (Dd sep) x0:=by rw[dJ];rfl
  have h0:xs[0]? =some x0:=by rw[dJ];rfl
  have h2:2<=xs.length:=by rw[dJ];simp
  obtain⟨J,hJJ⟩:∃J,J=Ft (x0::x1::r) sep:=⟨_,rfl⟩;rw[<-hJJ];rw[<-dJ]at hl hx |-;rw[<-hJJ]at hJ;clear hJJ dJ;have wX:0<xs.length:=by omega
  have vM:xs[0]'wX=x0:=(aF0.1 h0).2;have c0:¬(xs.length:Int)=0:=by omega
  have c1:¬(xs.length:Int)=1:=by omega
  have c0b:((xs.length:Int)==0)=false:=by simpa using c0
  have c1b:((xs.length:Int)==1)=false:=by simpa using c1
  have w1:IntKind.i64.wrap ((xs.length:Int)-1)=(xs.length:Int)-1:=wq
  obtain⟨m0,fL,jE,qR⟩:∃m0:Int,0<=m0/\m0<=4718592/\(if 0<sep.size then m0=(sep.size:Int)*((xs.length:Int)-1)else m0=0):=by
   by_cases h:0<sep.size
   ·refine⟨(sep.size:Int)*((xs.length:Int)-1),?_,?_,by rw[if_pos h]⟩
    ·exact Int.mul_nonneg (by omega) (by omega)
    ·have:(sep.size:Int)*((xs.length:Int)-1)<=3*1572864:=Int.mul_le_mul (by omega) (by omega) (by omega) (by omega);omega
   ·exact⟨0,by omega,by omega,by rw[if_neg h]⟩
  have hys:(xs.drop 1).length=xs.length-1:=by rw[bZ0]
  have hyx:∀y∈xs.drop 1,y.size<=67108864:=fun y hy=>(hx y (List.mem_of_mem_drop hy)).2
  have t2:List.take (xs.length-1) (xs.map AD).tail=(xs.drop 1).map AD:=by rw[<-List.drop_one,<-List.map_drop];exact cR0 (by simp)
  have gZ:=hx x0 (by rw[<-vM];exact cY0 wX);have wK:=Cw ⟨#[]⟩ x0 (by rw[AO];omega);rw[Ls,BL_]at wK;obtain⟨ys,hysd⟩:∃ys,ys=xs.drop 1:=⟨_,rfl⟩;rw[<-hysd]at hJ hys hyx t2;clear hysd;have dV:∀n:Nat,(n:Int)<=9223372036854775807->IntKind.i64.wrap (n:Int)=n:=fun n h=>Ai (by omega) h
  by_cases mJ:0<sep.size
  ·rw[if_pos mJ]at qR;have w2:IntKind.i64.wrap ((sep.size:Int)*((xs.length:Int)-1))=m0:=by rw[<-qR];exact wq
   have w3:IntKind.i64.wrap m0=m0:=wq
   have zF:¬IntKind.i64.wrap ((9223372036854775807:Int).tdiv ((xs.length:Int)-1))<=(sep.size:Int):=by
    rw[Int.tdiv_eq_ediv_of_nonneg (by omega)];have h4:(4:Int)<=9223372036854775807/((xs.length:Int)-1):=Int.le_ediv_of_mul_le (by omega) (by omega);have h5:(9223372036854775807:Int)/((xs.length:Int)-1)<=9223372036854775807:=Int.ediv_le_self _ (by omega);rw[Ai (by omega) h5];omega
   have hnz:¬(xs.length:Int)-1=0:=by omega
   have hsi:(0:Int)<(sep.size:Int):=by omega
   (refine Ba Ac Ac (eO @AO c0 c1 c0b c1b w1 w2 w3 zF hnz mJ hsi) ?_;intros;refine Al ?_)
   refine An (X:={p:Nat×Nat//p.1<=xs.length/\p.2<=4718592+67108864*p.1/\(0<p.1->1<=p.2)}) (fun p=>⟨[(0,.sl 1 16 (xs.map AD)),(1,.str sep),(5,.int .i64 p.1.2),(39,.sl 1 16 (xs.map AD)),(40,.int .i64 xs.length),(41,.int .i64 p.1.1)],[]⟩) (fun p=>xs.length-p.1.1) ⟨(0,m0.toNat),by simp only;refine⟨by omega,by omega,by omega⟩⟩ (Sub.lit (by simp;try omega)) ?_;rintro⟨⟨k,m⟩,hk,hmb,jE⟩;simp only at hk hmb jE |-
   by_cases qV:k<xs.length
   ·obtain⟨x,hxk,hxk',zJ⟩:=Ar qV;obtain⟨y1,y2⟩:=hx x zJ;have q1:IntKind.i64.wrap (9223372036854775807-(m:Int))=9223372036854775807-(m:Int):=wq;have q2:¬(9223372036854775807-(m:Int)<(x.size:Int)):=by omega
    have q3:IntKind.i64.wrap ((m:Int)+(x.size:Int))=(m:Int)+(x.size:Int):=wq
    (refine Ba Ac Ac (OB @AD.eq_1 qV hxk hxk' q1 q2 q3) ?_;intros;refine Al ?_)
    refine Ak.mk ⟨(k+1,m+x.size),show k+1<=xs.length/\m+x.size<=4718592+67108864*(k+1)/\(0<k+1->1<=m+x.size) from ⟨by omega,by omega,by omega⟩⟩ (Sub.lit (by simp)) (by simp;omega)
    skip
   ·have qN:k=xs.length:=by omega
    subst qN;have hg:=Ji m (jE (by omega)) (by omega)
    (repeat (first | (refine Nu (bs:=32) (k:=2) (z:=[.nilp,.nilsl]) (by simp[qX]) (by simp) (by rfl) rfl (by decide) (fun _ _=> ?_);simp[qX,AD,h0,vM,wX,t2,AO]) | refine AC fun K hK=> ?_ | (refine BL Hw mxd (by kernel_rfl) ?_;simp[Hw,qX,AD,h0,vM,wX,t2,AO];try simp (disch:=omega) only[Ai]) | refine Am ?_ | (refine AX ?_ ?_ ?_;(· (simp[qX,AD,h0,vM,wX,t2,AO];done));(try (rotate_left;(· (intro hc;(try simp[qX,AD,h0,vM,wX,t2,AO]at hc);done))))) | (refine AI ?_;simp[results202,qX,AD,h0,vM,wX,t2,AO]) | ((first | refine Av ?_ | refine Au ?_);simp[qX,AD,h0,vM,wX,t2,AO]) | (intro hc;(try simp[qX,AD,h0,vM,wX,t2,AO]at hc);(try (exfalso;omega))) | (refine AV [(8,0)] [(50,1)] (hg) ?_ ?_;(· (simp[qX,AD,h0,vM,wX,t2,AO];done));(intro _;try simp[qX,AD,h0,vM,wX,t2,AO])) | (refine AV [(8,0),(50,1)] [] (wK) ?_ ?_;(· (simp[qX,AD,h0,vM,wX,t2,AO];done));(intro _;try simp[qX,AD,h0,vM,wX,t2,AO])) | (refine⟨?_,?_⟩; · omega) | omega | apply_assumption -exfalso -symm | (exfalso;omega)))
    refine An (X:={k:Nat//k<=ys.length}) (fun k=>⟨[(1,.str sep),(8,.rx 8 1 2 0 0),(63,.sl 1 16 (ys.map AD)),(64,.int .i64 ys.length),(65,.int .i64 k.1)],[⟨8,1,.row 232 2 32 [[.rx 8 1 2 0 0,.osl 50 1]]⟩,⟨50,1,.row 5 1 1 (AP ((ys.take k.1).foldl (Dd sep) x0))⟩]⟩) (fun k=>ys.length-k.1) ⟨0,by omega⟩ (Sub.lit (by simp[t2,hys])) ?_;rintro⟨k,hk⟩;simp only
    by_cases qV:k<ys.length
    ·obtain⟨y,hy,zW,dC⟩:=Ar qV;obtain⟨j1,j2⟩:=FV sep hs (ys.take k) x0 fun z hz=>hyx z (eF0 hz)
     rw[aW0]at j1;have zV:=Qy (f:=Dd sep) (b:=x0) hy;have hy9:=hyx y dC;obtain⟨T,hT⟩:∃T,T=(ys.take k).foldl (Dd sep) x0:=⟨_,rfl⟩;rw[<-hT]at j1 j2 zV |-;have e1:=Cw T sep (by omega);have e2:=Cw (T++sep) y (by rw[aP0];omega);rw[show T++sep++y=Dd sep T y from rfl,<-zV]at e2
     (refine Ba Ac (Az (Ii [(8,0),(50,1)] [] e1) (Ii [(8,0),(50,1)] [] e2)) (JV @AD.eq_1 qV hy zW) ?_;intros;refine Al ?_)
     refine Ak.mk ⟨k+1,by omega⟩ (Sub.lit (by simp)) (by simp;omega)
     skip
    ·have qN:k=ys.length:=by omega
     subst qN;rw[aT0,<-hJ];obtain⟨j1,j2⟩:=FV sep hs ys x0 hyx;rw[<-hJ]at j1 j2;have e1:=Ih J (by omega);exact AA Ac (AQ (Ii [(8,0),(50,1)] [] e1)) Ac
  ·rw[if_neg mJ]at qR
   (refine Ba Ac Ac (OB @AO c0 c1 c0b c1b w1 mJ) ?_;intros;refine Al ?_)
   refine An (X:={p:Nat×Nat//p.1<=xs.length/\p.2<=4718592+67108864*p.1/\(0<p.1->1<=p.2)}) (fun p=>⟨[(0,.sl 1 16 (xs.map AD)),(1,.str sep),(5,.int .i64 p.1.2),(39,.sl 1 16 (xs.map AD)),(40,.int .i64 xs.length),(41,.int .i64 p.1.1)],[]⟩) (fun p=>xs.length-p.1.1) ⟨(0,m0.toNat),by simp only;refine⟨by omega,by omega,by omega⟩⟩ (Sub.lit (by simp;try omega)) ?_;rintro⟨⟨k,m⟩,hk,hmb,jE⟩;simp only at hk hmb jE |-
   by_cases qV:k<xs.length
   ·obtain⟨x,hxk,hxk',zJ⟩:=Ar qV;obtain⟨y1,y2⟩:=hx x zJ;have q1:IntKind.i64.wrap (9223372036854775807-(m:Int))=9223372036854775807-(m:Int):=wq;have q2:¬(9223372036854775807-(m:Int)<(x.size:Int)):=by omega
    have q3:IntKind.i64.wrap ((m:Int)+(x.size:Int))=(m:Int)+(x.size:Int):=wq
    (refine Ba Ac Ac (OB @AD.eq_1 qV hxk hxk' q1 q2 q3) ?_;intros;refine Al ?_)
    refine Ak.mk ⟨(k+1,m+x.size),show k+1<=xs.length/\m+x.size<=4718592+67108864*(k+1)/\(0<k+1->1<=m+x.size) from ⟨by omega,by omega,by omega⟩⟩ (Sub.lit (by simp)) (by simp;omega)
    skip
   ·have qN:k=xs.length:=by omega
    subst qN;have hg:=Ji m (jE (by omega)) (by omega)
    (repeat (first | (refine Nu (bs:=32) (k:=2) (z:=[.nilp,.nilsl]) (by simp[qX]) (by simp) (by rfl) rfl (by decide) (fun _ _=> ?_);simp[qX,AD,h0,vM,wX,t2,AO]) | refine AC fun K hK=> ?_ | (refine BL Hw mxd (by kernel_rfl) ?_;simp[Hw,qX,AD,h0,vM,wX,t2,AO];try simp (disch:=omega) only[Ai]) | refine Am ?_ | (refine AX ?_ ?_ ?_;(· (simp[qX,AD,h0,vM,wX,t2,AO];done));(try (rotate_left;(· (intro hc;(try simp[qX,AD,h0,vM,wX,t2,AO]at hc);done))))) | (refine AI ?_;simp[results202,qX,AD,h0,vM,wX,t2,AO]) | ((first | refine Av ?_ | refine Au ?_);simp[qX,AD,h0,vM,wX,t2,AO]) | (intro hc;(try simp[qX,AD,h0,vM,wX,t2,AO]at hc);(try (exfalso;omega))) | (refine AV [(8,0)] [(50,1)] (hg) ?_ ?_;(· (simp[qX,AD,h0,vM,wX,t2,AO];done));(intro _;try simp[qX,AD,h0,vM,wX,t2,AO])) | (refine AV [(8,0),(50,1)] [] (wK) ?_ ?_;(· (simp[qX,AD,h0,vM,wX,t2,AO];done));(intro _;try simp[qX,AD,h0,vM,wX,t2,AO])) | (refine⟨?_,?_⟩; · omega) | omega | apply_assumption -exfalso -symm | (exfalso;omega)))
    refine An (X:={k:Nat//k<=ys.length}) (fun k=>⟨[(1,.str sep),(8,.rx 8 1 2 0 0),(63,.sl 1 16 (ys.map AD)),(64,.int .i64 ys.length),(65,.int .i64 k.1)],[⟨8,1,.row 232 2 32 [[.rx 8 1 2 0 0,.osl 50 1]]⟩,⟨50,1,.row 5 1 1 (AP ((ys.take k.1).foldl (Dd sep) x0))⟩]⟩) (fun k=>ys.length-k.1) ⟨0,by omega⟩ (Sub.lit (by simp[t2,hys])) ?_;rintro⟨k,hk⟩;simp only
    by_cases qV:k<ys.length
    ·obtain⟨y,hy,zW,dC⟩:=Ar qV;obtain⟨j1,j2⟩:=FV sep hs (ys.take k) x0 fun z hz=>hyx z (eF0 hz)
     rw[aW0]at j1;have zV:=Qy (f:=Dd sep) (b:=x0) hy;have hy9:=hyx y dC;obtain⟨T,hT⟩:∃T,T=(ys.take k).foldl (Dd sep) x0:=⟨_,rfl⟩;rw[<-hT]at j1 j2 zV |-;have e1:=Cw T sep (by omega);have e2:=Cw (T++sep) y (by rw[aP0];omega);rw[show T++sep++y=Dd sep T y from rfl,<-zV]at e2
     (refine Ba Ac (Az (Ii [(8,0),(50,1)] [] e1) (Ii [(8,0),(50,1)] [] e2)) (JV @AD.eq_1 qV hy zW) ?_;intros;refine Al ?_)
     refine Ak.mk ⟨k+1,by omega⟩ (Sub.lit (by simp)) (by simp;omega)
     skip
    ·have qN:k=ys.length:=by omega
     subst qN;rw[aT0,<-hJ];obtain⟨j1,j2⟩:=FV sep hs ys x0 hyx;rw[<-hJ]at j1 j2;have e1:=Ih J (by omega);exact AA Ac (AQ (Ii [(8,0),(50,1)] [] e1)) Ac
end Go.Proofs.Wy
end
section
namespace Go.Proofs.Wy
open Go Go.Dm Tryz
variable [DMode]
def Zw (k:Int):ByteArray:=if k=6 then ⟨#[42]⟩else if k=7 then ⟨#[43]⟩else if k=8 then ⟨#[63]⟩else ⟨#[]⟩
def Ml (k:Int):ByteArray:=if k=5 then ⟨#[32,124,32]⟩else if k=4 then ⟨#[32]⟩else ⟨#[]⟩
def Ai_ (pk k:Int):Bool:=decide (k=5)||(decide (k=4)&& !decide (pk=5))
def IR (pk k:Int) (s:ByteArray):ByteArray:=if Ai_ pk k then ⟨#[40]⟩++s++⟨#[41]⟩else s
mutual
def CI : RT->ByteArray
 | .mk x ks=>if x.k=1 then ⟨#[37]⟩else if x.k=2\/x.k=3 then x.s else Ft (Di x.k ks) (Ml x.k)++Zw x.k
def Di (pk:Int):List RT->List ByteArray
 | []=>[]
 | t::ts=>IR pk t.x.k (CI t)::Di pk ts
end
theorem OI (x:Nd) (ks:List RT):CI (.mk x ks)=if x.k=1 then ⟨#[37]⟩else if x.k=2\/x.k=3 then x.s else Ft (Di x.k ks) (Ml x.k)++Zw x.k:=by rw[CI]
theorem FC (pk:Int) (t:RT) (ts:List RT):Di pk (t::ts)=IR pk t.x.k (CI t)::Di pk ts:=by rw[Di]
theorem Ln (pk:Int):Di pk []=[]:=by rw[Di]
theorem Dj (pk:Int):∀ts:List RT,Di pk ts=ts.map fun t=>IR pk t.x.k (CI t)
 | []=>Ln pk
 | t::ts=>by rw[FC,Dj pk ts];rfl
theorem Zv (a:UInt8):(⟨#[a]⟩:ByteArray).size=1:=rfl
theorem Hr (k:Int):(Ml k).size<=3:=by unfold Ml;split<;>(try split)<;>decide
theorem VT (k:Int):(Zw k).size<=1:=by
 unfold Zw
 repeat' split
 all_goals decide
theorem JI (pk k:Int) (s:ByteArray):s.size<=(IR pk k s).size/\(IR pk k s).size<=s.size+2:=by
 unfold IR
 split
 ·rw[aP0,aP0,Zv,Zv];omega
 ·omega
theorem KU (sep:ByteArray) (hs:sep.size<=3):∀(r:List ByteArray) (x:ByteArray),(r.foldl (Dd sep) x).size<=x.size+(r.map fun y=>y.size+3).sum/\x.size<=(r.foldl (Dd sep) x).size
 | [],x=>by simp
 | y::r,x=>by
  obtain⟨h1,h2⟩:=KU sep hs r (Dd sep x y);rw[KV]at h1 h2;rw[cH0,List.map_cons,eG0];omega
theorem HS (xs:List ByteArray) (sep:ByteArray) (hs:sep.size<=3):(Ft xs sep).size<=(xs.map fun y=>y.size+3).sum:=by
 cases xs with
 | nil=>simp[Ft];decide
 | cons x r =>
  have:=(KU sep hs r x).1
  show (r.foldl (Dd sep) x).size<=_
  rw[List.map_cons,eG0];omega
theorem SO {x:Nd} (h:CL x=true) (hk:x.k=2\/x.k=3):1<=x.s.size:=by
 have hn:∀s,BN s=true->1<=s.size:=fun s hs=>by unfold BN at hs;simp only[aM0,decide_eq_true_eq]at hs;exact hs.1.1
 unfold CL at h
 rcases hk with hk | hk
 ·rw[if_neg (by omega),if_pos hk]at h;simp only[aM0]at h;exact hn _ h.2.1
 ·rw[if_neg (by omega),if_neg (by omega),if_pos hk]at h;simp only[aM0]at h;exact hn _ h.2.1
theorem MR {x:Nd} (h:CL x=true) (h1:¬x.k=1) (h2:¬(x.k=2\/x.k=3)):1<=x.n:=by
 unfold CL at h;rw[if_neg h1,if_neg (fun e=>h2 (.inl e)),if_neg (fun e=>h2 (.inr e))]at h
 repeat' split at h
 all_goals simp only[aM0,decide_eq_true_eq,bE0]at h
 all_goals omega
mutual
theorem GP : ∀(t:RT),DR t=true->1<=(CI t).size/\(CI t).size+5<=24*(flat t).length
 | .mk x ks,h=>by
  obtain⟨h1,h2,h3⟩:=BJ h;rw[OI,Ax,List.length_cons]
  split
  ·rw[Zv];omega
  ·rename_i k1
   split
   ·rename_i k2;have:=SO h1 k2;have:=MQ h1;omega
   ·rename_i k2;have hn:=MR h1 k1 k2;obtain⟨s1,s2⟩:=JB x.k ks h3;have hj:=HS (Di x.k ks) (Ml x.k) (Hr _);have hg:=VT x.k;rw[aP0];refine⟨?_,by omega⟩
    cases ks with
    | nil=>simp at h2;omega
    | cons t ts =>
     have:=s2 (IR x.k t.x.k (CI t)) (by rw[FC];exact aK0);have h4:=(KU (Ml x.k) (Hr _) (Di x.k ts) (IR x.k t.x.k (CI t))).2;rw[FC]
     show 1<=((Di x.k ts).foldl (Dd (Ml x.k)) (IR x.k t.x.k (CI t))).size+_
     omega
theorem JB : ∀(pk:Int) (ts:List RT),Fs ts=true->((Di pk ts).map fun y=>y.size+3).sum<=24*(Ah ts).length/\∀y∈Di pk ts,1<=y.size
 | pk,[],_=>by simp[Ln]
 | pk,t::ts,h=>by
  obtain⟨h1,h2⟩:=BG h;obtain⟨a1,a2⟩:=GP t h1;obtain⟨b1,b2⟩:=JB pk ts h2;obtain⟨c1,c2⟩:=JI pk t.x.k (CI t);rw[FC,Ao,List.map_cons,eG0,aE0];refine⟨by omega,fun y hy=> ?_⟩
  rcases aL0.1 hy with rfl | hy
  ·omega
  ·exact b2 y hy
end
abbrev Str (l:List ByteArray):Prop:=l.Pairwise fun a b=>CG a b=true
theorem Pv : ∀{a b:List ByteArray},Str a->Str b->(∀x,x∈a↔x∈b)->a=b
 | [],[],_,_,_=>rfl
 | [],y::b,_,_,h=>by have:=(h y).2 aK0;simp at this
 | x::a,[],_,_,h=>by have:=(h x).1 aK0;simp at this
 | x::a,y::b,ha,hb,h=>by
  obtain⟨ha1,ha2⟩:=cK0.1 ha;obtain⟨qS,wV⟩:=cK0.1 hb
  have hxy:x=y:=by
   rcases aL0.1 ((h x).1 aK0)with h1 | h1
   ·exact h1
   ·rcases aL0.1 ((h y).2 aK0)with h2 | h2
    ·exact h2.symm
    ·have:=PA (qS x h1);rw[ha1 y h2]at this;simp at this
  subst hxy;rw[Pv ha2 wV fun z=> ?_]
  constructor
  ·intro hz
   rcases aL0.1 ((h z).1 (aI0 _ hz))with h1 | h1
   ·subst h1;have:=ha1 z hz;rw[EN]at this;simp at this
   ·exact h1
  ·intro hz
   rcases aL0.1 ((h z).2 (aI0 _ hz))with h1 | h1
   ·subst h1;have:=qS z hz;rw[EN]at this;simp at this
   ·exact h1
theorem DS_ : ∀a b:List UInt8,Op.bytesLess a b=true↔a<b
 | [],[]=>by simp[Op.bytesLess]
 | [],_::_=>by simp[Op.bytesLess]
 | _::_,[]=>by simp[Op.bytesLess]
 | x::a,y::b=>by
  rw[List.cons_lt_cons_iff];simp only[Op.bytesLess,cO0,aM0,decide_eq_true_eq,beq_iff_eq,DS_ a b]
theorem SA (l:List ByteArray) (x:ByteArray):x∈Gp l↔x∈l:=by
 unfold Gp;simp only[aQ0,(dW0 _ _).mem_iff]
 constructor
 ·rintro⟨y,⟨z,hz,rfl⟩,rfl⟩;exact hz
 ·intro h;exact⟨_,⟨x,h,rfl⟩,rfl⟩
theorem Lt (l:List ByteArray):(Gp l).Pairwise fun a b=>CG b a=false:=by
 unfold Gp;rw[dI0]
 have h:=List.pairwise_mergeSort (le:=fun x y:List UInt8=>decide (x<=y)) (by
  intro a b c h1 h2;simp only[decide_eq_true_eq]at *
  exact List.le_trans h1 h2) (by
  intro a b;simp only[cO0,decide_eq_true_eq]
  exact List.le_total a b) (l.map fun s=>s.data.toList)
 refine h.imp ?_;intro a b cT;simp only[decide_eq_true_eq]at cT
 have:¬Op.bytesLess b a=true:=fun h=>by
  rw[DS_]at h;exact(List.not_lt.2 cT) h
 simpa[CG]using this
def eqT (a b:ByteArray):Bool:=a==b
theorem QU : ∀{l:List ByteArray} {p:ByteArray},(p::l).Pairwise (fun a b=>CG b a=false)->Str (Cv eqT p l)/\(∀x∈Cv eqT p l,CG p x=true)/\∀x,(x=p\/x∈Cv eqT p l)↔(x=p\/x∈l)
 | [],p,_=>⟨.nil,by simp[Cv],by simp[Cv]⟩
 | y::l,p,h=>by
  obtain⟨h1,h2⟩:=cK0.1 h;obtain⟨g1,g2,g3⟩:=QU h2;unfold Cv
  by_cases hyp:y=p
  ·subst hyp;rw[if_pos (by simp[eqT])];refine⟨g1,g2,fun x=> ?_⟩;rw[g3 x];simp only[aL0]
   constructor
   ·rintro (h | h)
    ·exact .inl h
    ·exact .inr (.inr h)
   ·rintro (h | h | h)
    ·exact .inl h
    ·exact .inl h
    ·exact .inr h
  ·rw[if_neg (by simp[eqT,hyp])]
   have hpy:CG p y=true:=by
    cases hc:CG p y
    ·exact absurd (JD hc (h1 y aK0)).symm hyp
    ·rfl
   refine⟨cK0.2 ⟨g2,g1⟩,fun x hx=> ?_,fun x=> ?_⟩
   ·rcases aL0.1 hx with rfl | hx
    ·exact hpy
    ·exact IF hpy (g2 x hx)
   ·simp only[aL0];rw[g3 x]
def EH (l:List ByteArray):List ByteArray:=Df eqT (Gp l)
theorem GN (l:List ByteArray):Str (EH l)/\∀x,x∈EH l↔x∈l:=by
 unfold EH;have h:=Lt l;have hm:=SA l
 cases hs:Gp l with
 | nil =>
  rw[hs]at hm;exact⟨.nil,by simpa[Df]using hm⟩
 | cons p t =>
  rw[hs]at h hm;obtain⟨g1,g2,g3⟩:=QU h;refine⟨cK0.2 ⟨g2,g1⟩,fun x=> ?_⟩;simp only[Df,aL0];rw[g3 x,<-hm x];simp
theorem Jp {α:Type} (e:α->α->Bool):∀(l:List α) (p:α),(Cv e p l).length<=l.length
 | [],_=>by simp[Cv]
 | y::l,p=>by
  unfold Cv
  split
  ·have:=Jp e l y;simp;omega
  ·have:=Jp e l y;simp;omega
theorem GO (l:List ByteArray):(EH l).length<=l.length:=by
 unfold EH;have h:=rG l
 cases hs:Gp l with
 | nil=>simp[Df]
 | cons p t =>
  rw[hs]at h;have:=Jp eqT t p;simp only[Df,List.length_cons]at h |-;omega
theorem eV {l a:List ByteArray} (ha:Str a) (h:∀x,x∈a↔x∈l):a=EH l:=by
 obtain⟨g1,g2⟩:=GN l;exact Pv ha g1 fun x=>by rw[h x,g2 x]
end Go.Proofs.Wy
end
section
namespace Go.Proofs.Wy
open Go Go.Dm Tryz
variable [DMode]
attribute [local irreducible] DW Bh Bk
set_option maxRecDepth 100000

end Go.Proofs.Wy
end
section
namespace Go
section
variable {F : Fence} {n : Nat} {P : Program} {Q : Exit -> Act -> World -> Prop} {a : Act} {w : World}
end
end Go
namespace Go.Dm
variable [DMode]
def EL_ (Q:Exit->DS->Prop):Exit->DS->Prop
 | .goto _,_=>False
 | e,s=>Q e s
attribute [simp] EL_
end Go.Dm
end
section
namespace Go.Proofs.Wy
open Go Go.Dm Tryz
variable [DMode]
attribute [local irreducible] DW Bh Bk
set_option maxRecDepth 100000



def DI (l:List ByteArray):List DVal:=l.map DVal.str
theorem Dk (x:ByteArray) (l:List ByteArray):DI (x::l)= .str x::DI l:=rfl
theorem pZ (l:List ByteArray):(DI l).length=l.length:=by simp[DI]
theorem HO : ∀{l:List ByteArray} {s:ByteArray},¬s∈l->AU (DI l) (.str s)=none
 | [],_,_=>rfl
 | x::l,s,h=>by
  have h1:(s==x)=false:=by simp;intro e;exact h (by simp[e])
  have h2:=HO (l:=l) (s:=s) fun hm=>h (aI0 _ hm)
  simp[Dk,AU,BX,Cu,US,h1,h2]
theorem Ql : ∀{l:List ByteArray} {s:ByteArray},s∈l->∃j,AU (DI l) (.str s)=some j/\j<l.length
 | [],_,h=>by simp at h
 | x::l,s,h=>by
  by_cases h1:s=x
  ·subst h1;exact⟨0,by simp[Dk,AU,BX,Cu,US],by simp⟩
  ·obtain⟨j,h2,h3⟩:=Ql (l:=l) (s:=s) (by simpa[h1]using h);have h1b:(s==x)=false:=by simpa using h1
   exact⟨j+1,by simp[Dk,AU,BX,Cu,US,h1b,h2],by simp;omega⟩
theorem lM (l:List ByteArray):(DI l).all (Ck prog 9)=true:=by
 induction l with
 | nil=>rfl
 | cons p l ih=>rw[Dk,cP0,ih];simp
@[simp] theorem Fv_ (l:List ByteArray):AJ (DI l)=0:=by
 induction l with
 | nil=>rfl
 | cons a l ih=>rw[Dk];simp[AJ,mx,ih]
def DM_ (n:Nat):List DVal:=(List.range n).map fun i:Nat=>DVal.int .i64 ((i:Int)+1)
@[simp] theorem ES_ (n:Nat):AJ (DM_ n)=0:=by
 unfold DM_
 induction List.range n with
 | nil=>rfl
 | cons a l ih=>simp[AJ,mx,ih]
end Go.Proofs.Wy
end
