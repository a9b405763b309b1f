/- Parts of a proof, laid together: WJ1, WJ2, WJ3, RT, WBp, WB3, EnSc, WB4, WB5, WB6, WB7. -/
import Derived.Scope
import Derived.Test.YtbpmiknobocjoaaGreatqAp16
import Derived.Test.YtbpmiknobocjoaaGreatqAp17
import Derived.Test.YtbpmiknobocjoaaGreatqAp18
import Derived.Test.YtbpmiknobocjoaaGreatqAp24
import Derived.Test.YtbpmiknobocjoaaGreatqAp26
set_option linter.unusedSimpArgs false
set_option maxHeartbeats 8000000
set_option linter.unusedVariables false
set_option linter.unusedSectionVars false
section
namespace Go.Proofs.Wy
open Go Go.Dm Go.RowKit Go.Proofs Tryz
variable [DMode]
set_option maxRecDepth 1000000
theorem oN (b n:Nat) (rest:List Value) (w:World) (bP:w.heap[b]? =some (.cells (.pointer none:: .slice none 0 0::rest).toArray 191 (0,0))) (cJ:1<=n) (hn:n<=140737488355328) :
  Calls prog 183 #[.pointer (some ⟨b,0,none⟩),.int .i64 n] w fun e w'=>e= .returned (.tuple #[])/\WN w w' b rest:=by
 have mixed:=mxd;have qV:b<w.heap.size:=(aC0.1 bP).1
 have hbk1:(w.setCell ⟨b,0,none⟩ (.pointer (some ⟨b,0,none⟩))).heap[b]? =some (.cells (.pointer (some ⟨b,0,none⟩):: .slice none 0 0::rest).toArray 191 (0,0)):=by
  simp[World.setCell,cE0,bP]
 have c1:(w.setCell ⟨b,0,none⟩ (.pointer (some ⟨b,0,none⟩))).drew.cell? ⟨b,1,none⟩=some (.slice none 0 0):=by
  have h1:(w.setCell ⟨b,0,none⟩ (.pointer (some ⟨b,0,none⟩))).drew.heap[b]? =_:=hbk1;rw[Lib.cell_of_heap h1];rfl
 have hU:Upd [b] w (w.setCell ⟨b,0,none⟩ (.pointer (some ⟨b,0,none⟩))).drew:=⟨rfl,rfl,rfl,fun _=>Nat.le_succ _,by simp[World.setCell,World.drew],fun q hq qF=>by
  simp only[aE0]at qF;simp only[World.setCell,World.drew]
  rw[cE0,if_neg (fun h=>qF h.symm)]⟩
 have hsh:w.shape? b=some (191,rest.length+2):=by simp[World.shape?,bP]
 have jH:Tryz.prog.cellsOf 191=2:=by kernel_rfl
 have hli:=Ua (P:=prog) (T:=191) (n:=(rest.length+2)/Tryz.prog.cellsOf 191) (by show ¬_;exact of_decide_eq_true (by kernel_rfl)) (by rw[jH];decide) (by rw[jH];omega);have wE:=Jx b (rest.length+2) w (by rw[Lib.cell_of_heap bP];rfl) hsh (by omega) hli (Lib.frozen_of_heap bP 0);have hg:=lA b n rest (w.setCell ⟨b,0,none⟩ (.pointer (some ⟨b,0,none⟩))).drew hbk1 hn
 go_enter func183,ntmps183
 go_wp2_with (refine wE.mono ?_;rintro e w' ⟨rfl,rfl⟩)
 go_region_o
 all_goals go_wp2_with (refine hg.mono ?_;rintro e w' ⟨rfl,h1⟩)
 all_goals (go_end0;obtain⟨g,cs,u,h2,h3,h4,h5⟩:=h1;exact⟨rfl,g,cs,hU.trans u (fun x hx=> .inl hx),by simpa[World.setCell,World.drew]using h2,h3,h4,h5⟩)
end Go.Proofs.Wy
end
section
namespace Go.Proofs.Wy
open Go Go.Dm Go.RowKit Go.Proofs Tryz
variable [DMode]
set_option maxRecDepth 100000
theorem Kn (n:Nat) (cJ:1<=n) (hn:n<=140737488355328):Bj prog (.func 183) [.rx 0 0 2 0 0,.int .i64 n] [⟨0,0,.row 191 2 32 [[.nilp,.nilsl]]⟩] (.tup [])
  [⟨0,0,.row 191 2 32 [[.rx 0 0 2 0 0,.osl 1 1]]⟩,⟨1,1,.row 5 1 1 []⟩]:=by
 refine⟨by simp,call183,fun M w loc vs S wS=> ?_⟩;have hk:=S.ok _ (aE0.2 rfl);obtain⟨wI,hk⟩:=hk
 rcases hk with ⟨h,_⟩ | ⟨b,arr,cap,h1,h2,h3,h4,h5,h6,h7⟩
 ·simp at h
 ·obtain⟨v0,v1,rest,rfl,g0,g1⟩:=Iy h7;simp only[rd]at g0 g1;subst g0;subst g1;have qE:Ac [(⟨0,0,.row 191 2 32 [[.nilp,.nilsl]]⟩:Ent)] loc 0 0=some (loc 0):=by simp[Ac,Ah]
  simp only[rdV,rd]at wS;obtain⟨pv,r,wS,hp,v2,r2,rfl,⟨rfl,_⟩,rfl⟩:=wS;obtain⟨b',qM,rfl⟩:=hp _ qE;simp only at h1 h2;rw[h1]at qM;simp only[bG0,and_true]at qM;subst qM;have zV:vs= #[.pointer (some ⟨b,0,none⟩),.int .i64 n]:=by apply Array.ext';simpa using wS
  subst zV;refine⟨call183,(oN b n rest w h3 cJ hn).mono ?_⟩;rintro e w' ⟨rfl,g,cs,hu,hg,hm,hb,hgc⟩;have hgl:g<w'.heap.size:=(aC0.1 hgc).1;have kP:b<w.heap.size:=(aC0.1 h3).1
  let L1:Dm.Loc:=⟨[g],.slice (some ⟨g,0,none⟩) 0 cs.size⟩
  let loc':Nat->Dm.Loc:=fun i=>if i=1 then L1 else loc i
  have e0:loc' 0=loc 0:=rfl;have e1:loc' 1=L1:=rfl
  let own':List Ent:=[⟨0,0,.row 191 2 32 [[.rx 0 0 2 0 0,.osl 1 1]]⟩,⟨1,1,.row 5 1 1 []⟩]
  have wQ:Aa own' loc'=[b,g]:=by simp[own',Aa,e0,e1,h1,L1]
  have jU:Aa [(⟨0,0,.row 191 2 32 [[.nilp,.nilsl]]⟩:Ent)] loc=[b]:=by simp[Aa,h1]
  have yA:Ac own' loc' 0 0=some (loc 0):=by simp[own',Ac,Ah,e0]
  have hc1:Ac own' loc' 1 1=some L1:=by simp[own',Ac,Ah,e1]
  refine⟨_,rfl,loc',⟨by simp,?_,?_,?_,?_⟩,?_,?_,?_,by simp[rd,rdV]⟩
  ·show (Aa own' loc').Nodup
   rw[wQ];simp;omega
  ·show ∀q∈Aa own' loc',q∉M
   rw[wQ];intro q hq
   rcases aK0.1 hq with rfl | hq
   ·exact S.ap q (by rw[jU];simp)
   ·simp only[aE0]at hq;subst hq;intro hM;have:=S.lt q (aN0 _ hM);omega
  ·show ∀q∈Aa own' loc'++M,q<w'.heap.size
   rw[wQ];intro q hq
   rcases aG0.1 hq with hq | hq
   ·rcases aK0.1 hq with rfl | hq
    ·exact cB0 kP hu.size
    ·simp only[aE0]at hq;subst hq;exact hgl
   ·exact cB0 (S.lt q (aN0 _ hq)) hu.size
  ·intro e he
   rcases aK0.1 he with rfl | he
   ·refine⟨wI,.inr ⟨b,_,cap,h1,h2,hb,h4,h5,by simpa using h6,?_⟩⟩;refine Wv ?_ ?_ rfl rfl
    ·simp only[rd];intro l hl;have wW:Ac own' loc' 0 0=some l:=hl;rw[yA]at wW;simp only[aA0]at wW;subst wW;exact⟨b,h1,by simp⟩
    ·simp only[rd];intro l hl;have wW:Ac own' loc' 1 1=some l:=hl;rw[hc1]at wW;simp only[aA0]at wW;subst wW;rfl
   ·simp only[aE0]at he;subst he;exact⟨by simp,.inr ⟨g,cs,cs.size,rfl,rfl,hgc,by simp,hm,by simp,by simp[Dt]⟩⟩
  ·rw[jU];exact hu
  ·show ∀q∈Aa own' loc',_
   rw[wQ,jU];intro q hq
   rcases aK0.1 hq with rfl | hq
   ·exact .inl (by simp)
   ·simp only[aE0]at hq;subst hq;exact .inr hg
  ·intro e he hr
   rcases aK0.1 he with rfl | he
   ·rw[qE];rfl
   ·simp only[aE0]at he;subst he;simp at hr
end Go.Proofs.Wy
end
section
namespace Go.Proofs.Wy
open Go Go.Dm Go.RowKit Go.Proofs Tryz
variable [DMode]
attribute [local irreducible] DW BN BS
set_option maxRecDepth 100000
def Dn (sep:ByteArray) (T y:ByteArray):ByteArray:=T++sep++y
def FS : List ByteArray->ByteArray->ByteArray
 | [],_=>⟨#[]⟩
 | x::r,sep=>r.foldl (Dn sep) x
theorem Mc (sep T y:ByteArray):(Dn sep T y).size=T.size+sep.size+y.size:=by simp[Dn,aP0]
theorem GE (sep:ByteArray) (hs:sep.size<=3):∀(r:List ByteArray) (x:ByteArray),(∀y∈r,y.size<=67108864)->(r.foldl (Dn sep) x).size<=x.size+67108867*r.length/\x.size<=(r.foldl (Dn sep) x).size
 | [],x,_=>by simp
 | y::r,x,h=>by
  obtain⟨h1,h2⟩:=GE sep hs r (Dn sep x y) fun z hz=>h z (aF0 _ hz)
  have h3:=h y aH0;rw[Mc]at h1 h2;rw[cY0,List.length_cons];omega
theorem RI {β α:Type} {f:β->α->β} {b:β} {l:List α} {k:Nat} {x:α} (hx:l[k]? =some x):(l.take (k+1)).foldl f b=f ((l.take k).foldl f b) x:=by
 obtain⟨h,rfl⟩:=aB0.1 hx;rw[List.take_succ_eq_append_getElem h,dF0];rfl
theorem Mw (x:ByteArray):(⟨#[]⟩:ByteArray)++x=x:=by
 apply Iw
 simp[ByteArray.data_append]
theorem Eu_ : AZ ⟨#[]⟩=[]:=rfl
def IC : Ann:=⟨[57,61,70,72,74],[⟨18,[8],[],[]⟩]⟩
theorem Bc_ (xs:List ByteArray) (sep:ByteArray) (hs:sep.size<=3) (hl:xs.length<=1572864) (hx:∀x∈xs,1<=x.size/\x.size<=67108864):Af prog 161 [.sl 1 16 (xs.map Be),.str sep] (.str (FS xs sep)):=by
 refine Ae [] IC func161 call161 ntmps161 mxd (AB @IC.eq_1 results161) rfl (fun qJ B qX qQ=> ?_);clear qJ;simp only[Aq];have AY:(⟨#[]⟩:ByteArray).size=0:=rfl
 match xs,hl,hx with
 | [],hl,hx =>
  exact Az Ab Ab (CL @AY @FS.eq_1 @FS.eq_2)
 | [x],hl,hx =>
  exact Az Ab Ab (IF @AY @FS.eq_1 @FS.eq_2 @Be.eq_1)
 | x0::x1::r,hl,hx =>
  obtain⟨xs,mY⟩:∃xs,xs=x0::x1::r:=⟨_,rfl⟩;have hJ:FS (x0::x1::r) sep=(xs.drop 1).foldl (Dn sep) x0:=by rw[mY];rfl
  have h0:xs[0]? =some x0:=by rw[mY];rfl
  have h2:2<=xs.length:=by rw[mY];simp
  obtain⟨J,hJJ⟩:∃J,J=FS (x0::x1::r) sep:=⟨_,rfl⟩;rw[<-hJJ];rw[<-mY]at hl hx |-;rw[<-hJJ]at hJ;clear hJJ mY;have wN:0<xs.length:=by omega
  have zJ:xs[0]'wN=x0:=(aB0.1 h0).2;have c0:¬(xs.length:Int)=0:=by omega
  have c1:¬(xs.length:Int)=1:=by omega
  have c0b:((xs.length:Int)==0)=false:=by simpa using c0
  have c1b:((xs.length:Int)==1)=false:=by simpa using c1
  have w1:IntKind.i64.wrap ((xs.length:Int)-1)=(xs.length:Int)-1:=wq
  obtain⟨m0,gA,jG,wO⟩:∃m0:Int,0<=m0/\m0<=4718592/\(if 0<sep.size then m0=(sep.size:Int)*((xs.length:Int)-1)else m0=0):=by
   by_cases h:0<sep.size
   ·refine⟨(sep.size:Int)*((xs.length:Int)-1),?_,?_,by rw[if_pos h]⟩
    ·exact Int.mul_nonneg (by omega) (by omega)
    ·have:(sep.size:Int)*((xs.length:Int)-1)<=3*1572864:=Int.mul_le_mul (by omega) (by omega) (by omega) (by omega);omega
   ·exact⟨0,by omega,by omega,by rw[if_neg h]⟩
  have hys:(xs.drop 1).length=xs.length-1:=by rw[cD0]
  have cW:∀y∈xs.drop 1,y.size<=67108864:=fun y hy=>(hx y (List.mem_of_mem_drop hy)).2
  have t2:List.take (xs.length-1) (xs.map Be).tail=(xs.drop 1).map Be:=by rw[<-List.drop_one,<-List.map_drop];exact cK0 (by simp)
  have hx0:=hx x0 (by rw[<-zJ];exact dE0 wN);have vU:=CE ⟨#[]⟩ x0 (by rw[AY];omega);rw[Mw,Eu_]at vU;obtain⟨ys,hysd⟩:∃ys,ys=xs.drop 1:=⟨_,rfl⟩;rw[<-hysd]at hJ hys cW t2;clear hysd;have gD:∀n:Nat,(n:Int)<=9223372036854775807->IntKind.i64.wrap (n:Int)=n:=fun n h=>Ag (by omega) h
  by_cases nJ:0<sep.size
  ·rw[if_pos nJ]at wO;have w2:IntKind.i64.wrap ((sep.size:Int)*((xs.length:Int)-1))=m0:=by rw[<-wO];exact wq
   have w3:IntKind.i64.wrap m0=m0:=wq
   have yF:¬IntKind.i64.wrap ((9223372036854775807:Int).tdiv ((xs.length:Int)-1))<=(sep.size:Int):=by
    rw[Int.tdiv_eq_ediv_of_nonneg (by omega)];have h4:(4:Int)<=9223372036854775807/((xs.length:Int)-1):=Int.le_ediv_of_mul_le (by omega) (by omega);have h5:(9223372036854775807:Int)/((xs.length:Int)-1)<=9223372036854775807:=Int.ediv_le_self _ (by omega);rw[Ag (by omega) h5];omega
   have hnz:¬(xs.length:Int)-1=0:=by omega
   have hsi:(0:Int)<(sep.size:Int):=by omega
   (refine AL Ab Ab (oK @AY c0 c1 c0b c1b w1 w2 w3 yF hnz nJ hsi) ?_;intros;refine Am ?_)
   refine Ai (X:={p:Nat×Nat//p.1<=xs.length/\p.2<=4718592+67108864*p.1/\(0<p.1->1<=p.2)}) (fun p=>⟨[(0,.sl 1 16 (xs.map Be)),(1,.str sep),(5,.int .i64 p.1.2),(39,.sl 1 16 (xs.map Be)),(40,.int .i64 xs.length),(41,.int .i64 p.1.1)],[]⟩) (fun p=>xs.length-p.1.1) ⟨(0,m0.toNat),by simp only;refine⟨by omega,by omega,by omega⟩⟩ (Sub.lit (by simp;try omega)) ?_;rintro⟨⟨k,m⟩,hk,dV,jG⟩;simp only at hk dV jG |-
   by_cases qV:k<xs.length
   ·obtain⟨x,fP,hxk',vD⟩:=Ap qV;obtain⟨y1,y2⟩:=hx x vD;have q1:IntKind.i64.wrap (9223372036854775807-(m:Int))=9223372036854775807-(m:Int):=wq;have q2:¬(9223372036854775807-(m:Int)<(x.size:Int)):=by omega
    have q3:IntKind.i64.wrap ((m:Int)+(x.size:Int))=(m:Int)+(x.size:Int):=wq
    (refine AL Ab Ab (IH @Be.eq_1 qV fP hxk' q1 q2 q3) ?_;intros;refine Am ?_)
    refine Al.mk ⟨(k+1,m+x.size),show k+1<=xs.length/\m+x.size<=4718592+67108864*(k+1)/\(0<k+1->1<=m+x.size) from ⟨by omega,by omega,by omega⟩⟩ (Sub.lit (by simp)) (by simp;omega)
    skip
   ·have qZ:k=xs.length:=by omega
    subst qZ;have hg:=Kn m (jG (by omega)) (by omega)
    (repeat (first | (refine OL (bs:=32) (k:=2) (z:=[.nilp,.nilsl]) (by simp[qX]) (by simp) (by rfl) rfl (by decide) (fun _ _=> ?_);simp[qX,Be,h0,zJ,wN,t2,AY]) | refine AC fun K hK=> ?_ | (refine BA IC mxd (by kernel_rfl) ?_;simp[IC,qX,Be,h0,zJ,wN,t2,AY];try simp (disch:=omega) only[Ag]) | refine Ao ?_ | (refine AX ?_ ?_ ?_;(· (simp[qX,Be,h0,zJ,wN,t2,AY];done));(try (rotate_left;(· (intro hc;(try simp[qX,Be,h0,zJ,wN,t2,AY]at hc);done))))) | (refine AE ?_;simp[results161,qX,Be,h0,zJ,wN,t2,AY]) | ((first | refine Aw ?_ | refine Av ?_);simp[qX,Be,h0,zJ,wN,t2,AY]) | (intro hc;(try simp[qX,Be,h0,zJ,wN,t2,AY]at hc);(try (exfalso;omega))) | (refine AO [(8,0)] [(50,1)] (hg) ?_ ?_;(· (simp[qX,Be,h0,zJ,wN,t2,AY];done));(intro _;try simp[qX,Be,h0,zJ,wN,t2,AY])) | (refine AO [(8,0),(50,1)] [] (vU) ?_ ?_;(· (simp[qX,Be,h0,zJ,wN,t2,AY];done));(intro _;try simp[qX,Be,h0,zJ,wN,t2,AY])) | (refine⟨?_,?_⟩; · omega) | omega | apply_assumption -exfalso -symm | (exfalso;omega)))
    refine Ai (X:={k:Nat//k<=ys.length}) (fun k=>⟨[(1,.str sep),(8,.rx 8 1 2 0 0),(63,.sl 1 16 (ys.map Be)),(64,.int .i64 ys.length),(65,.int .i64 k.1)],[⟨8,1,.row 191 2 32 [[.rx 8 1 2 0 0,.osl 50 1]]⟩,⟨50,1,.row 5 1 1 (AZ ((ys.take k.1).foldl (Dn sep) x0))⟩]⟩) (fun k=>ys.length-k.1) ⟨0,by omega⟩ (Sub.lit (by simp[t2,hys])) ?_;rintro⟨k,hk⟩;simp only
    by_cases qV:k<ys.length
    ·obtain⟨y,hy,yX,mH⟩:=Ap qV;obtain⟨j1,j2⟩:=GE sep hs (ys.take k) x0 fun z hz=>cW z (cZ0 hz)
     rw[aY0]at j1;have cM:=RI (f:=Dn sep) (b:=x0) hy;have hy9:=cW y mH;obtain⟨T,hT⟩:∃T,T=(ys.take k).foldl (Dn sep) x0:=⟨_,rfl⟩;rw[<-hT]at j1 j2 cM |-;have e1:=CE T sep (by omega);have e2:=CE (T++sep) y (by rw[aP0];omega);rw[show T++sep++y=Dn sep T y from rfl,<-cM]at e2
     (refine AL Ab (AB (JA [(8,0),(50,1)] [] e1) (JA [(8,0),(50,1)] [] e2)) (IF @Be.eq_1 qV hy yX) ?_;intros;refine Am ?_)
     refine Al.mk ⟨k+1,by omega⟩ (Sub.lit (by simp)) (by simp;omega)
     skip
    ·have qZ:k=ys.length:=by omega
     subst qZ;rw[aU0,<-hJ];obtain⟨j1,j2⟩:=GE sep hs ys x0 cW;rw[<-hJ]at j1 j2;have e1:=Jn J (by omega);exact Az Ab (AH (JA [(8,0),(50,1)] [] e1)) Ab
  ·rw[if_neg nJ]at wO
   (refine AL Ab Ab (IH @AY c0 c1 c0b c1b w1 nJ) ?_;intros;refine Am ?_)
   refine Ai (X:={p:Nat×Nat//p.1<=xs.length/\p.2<=4718592+67108864*p.1/\(0<p.1->1<=p.2)}) (fun p=>⟨[(0,.sl 1 16 (xs.map Be)),(1,.str sep),(5,.int .i64 p.1.2),(39,.sl 1 16 (xs.map Be)),(40,.int .i64 xs.length),(41,.int .i64 p.1.1)],[]⟩) (fun p=>xs.length-p.1.1) ⟨(0,m0.toNat),by simp only;refine⟨by omega,by omega,by omega⟩⟩ (Sub.lit (by simp;try omega)) ?_;rintro⟨⟨k,m⟩,hk,dV,jG⟩;simp only at hk dV jG |-
   by_cases qV:k<xs.length
   ·obtain⟨x,fP,hxk',vD⟩:=Ap qV;obtain⟨y1,y2⟩:=hx x vD;have q1:IntKind.i64.wrap (9223372036854775807-(m:Int))=9223372036854775807-(m:Int):=wq;have q2:¬(9223372036854775807-(m:Int)<(x.size:Int)):=by omega
    have q3:IntKind.i64.wrap ((m:Int)+(x.size:Int))=(m:Int)+(x.size:Int):=wq
    (refine AL Ab Ab (IH @Be.eq_1 qV fP hxk' q1 q2 q3) ?_;intros;refine Am ?_)
    refine Al.mk ⟨(k+1,m+x.size),show k+1<=xs.length/\m+x.size<=4718592+67108864*(k+1)/\(0<k+1->1<=m+x.size) from ⟨by omega,by omega,by omega⟩⟩ (Sub.lit (by simp)) (by simp;omega)
    skip
   ·have qZ:k=xs.length:=by omega
    subst qZ;have hg:=Kn m (jG (by omega)) (by omega)
    (repeat (first | (refine OL (bs:=32) (k:=2) (z:=[.nilp,.nilsl]) (by simp[qX]) (by simp) (by rfl) rfl (by decide) (fun _ _=> ?_);simp[qX,Be,h0,zJ,wN,t2,AY]) | refine AC fun K hK=> ?_ | (refine BA IC mxd (by kernel_rfl) ?_;simp[IC,qX,Be,h0,zJ,wN,t2,AY];try simp (disch:=omega) only[Ag]) | refine Ao ?_ | (refine AX ?_ ?_ ?_;(· (simp[qX,Be,h0,zJ,wN,t2,AY];done));(try (rotate_left;(· (intro hc;(try simp[qX,Be,h0,zJ,wN,t2,AY]at hc);done))))) | (refine AE ?_;simp[results161,qX,Be,h0,zJ,wN,t2,AY]) | ((first | refine Aw ?_ | refine Av ?_);simp[qX,Be,h0,zJ,wN,t2,AY]) | (intro hc;(try simp[qX,Be,h0,zJ,wN,t2,AY]at hc);(try (exfalso;omega))) | (refine AO [(8,0)] [(50,1)] (hg) ?_ ?_;(· (simp[qX,Be,h0,zJ,wN,t2,AY];done));(intro _;try simp[qX,Be,h0,zJ,wN,t2,AY])) | (refine AO [(8,0),(50,1)] [] (vU) ?_ ?_;(· (simp[qX,Be,h0,zJ,wN,t2,AY];done));(intro _;try simp[qX,Be,h0,zJ,wN,t2,AY])) | (refine⟨?_,?_⟩; · omega) | omega | apply_assumption -exfalso -symm | (exfalso;omega)))
    refine Ai (X:={k:Nat//k<=ys.length}) (fun k=>⟨[(1,.str sep),(8,.rx 8 1 2 0 0),(63,.sl 1 16 (ys.map Be)),(64,.int .i64 ys.length),(65,.int .i64 k.1)],[⟨8,1,.row 191 2 32 [[.rx 8 1 2 0 0,.osl 50 1]]⟩,⟨50,1,.row 5 1 1 (AZ ((ys.take k.1).foldl (Dn sep) x0))⟩]⟩) (fun k=>ys.length-k.1) ⟨0,by omega⟩ (Sub.lit (by simp[t2,hys])) ?_;rintro⟨k,hk⟩;simp only
    by_cases qV:k<ys.length
    ·obtain⟨y,hy,yX,mH⟩:=Ap qV;obtain⟨j1,j2⟩:=GE sep hs (ys.take k) x0 fun z hz=>cW z (cZ0 hz)
     rw[aY0]at j1;have cM:=RI (f:=Dn sep) (b:=x0) hy;have hy9:=cW y mH;obtain⟨T,hT⟩:∃T,T=(ys.take k).foldl (Dn sep) x0:=⟨_,rfl⟩;rw[<-hT]at j1 j2 cM |-;have e1:=CE T sep (by omega);have e2:=CE (T++sep) y (by rw[aP0];omega);rw[show T++sep++y=Dn sep T y from rfl,<-cM]at e2
     (refine AL Ab (AB (JA [(8,0),(50,1)] [] e1) (JA [(8,0),(50,1)] [] e2)) (IF @Be.eq_1 qV hy yX) ?_;intros;refine Am ?_)
     refine Al.mk ⟨k+1,by omega⟩ (Sub.lit (by simp)) (by simp;omega)
     skip
    ·have qZ:k=ys.length:=by omega
     subst qZ;rw[aU0,<-hJ];obtain⟨j1,j2⟩:=GE sep hs ys x0 cW;rw[<-hJ]at j1 j2;have e1:=Jn J (by omega);exact Az Ab (AH (JA [(8,0),(50,1)] [] e1)) Ab
end Go.Proofs.Wy
end
section
namespace Go.Proofs.Wy
open Go Go.Dm Tryz
variable [DMode]
def eG (k:Int):ByteArray:=if k=6 then ⟨#[42]⟩else if k=7 then ⟨#[43]⟩else if k=8 then ⟨#[63]⟩else ⟨#[]⟩
def Ns (k:Int):ByteArray:=if k=5 then ⟨#[32,124,32]⟩else if k=4 then ⟨#[32]⟩else ⟨#[]⟩
def CP_ (pk k:Int):Bool:=decide (k=5)||(decide (k=4)&& !decide (pk=5))
def JZ (pk k:Int) (s:ByteArray):ByteArray:=if CP_ pk k then ⟨#[40]⟩++s++⟨#[41]⟩else s
mutual
def CT : RT->ByteArray
 | .mk x ks=>if x.k=1 then ⟨#[37]⟩else if x.k=2\/x.k=3 then x.s else FS (Dr x.k ks) (Ns x.k)++eG x.k
def Dr (pk:Int):List RT->List ByteArray
 | []=>[]
 | t::ts=>JZ pk t.x.k (CT t)::Dr pk ts
end
theorem PK (x:Nd) (ks:List RT):CT (.mk x ks)=if x.k=1 then ⟨#[37]⟩else if x.k=2\/x.k=3 then x.s else FS (Dr x.k ks) (Ns x.k)++eG x.k:=by rw[CT]
theorem Gh (pk:Int) (t:RT) (ts:List RT):Dr pk (t::ts)=JZ pk t.x.k (CT t)::Dr pk ts:=by rw[Dr]
theorem Mq (pk:Int):Dr pk []=[]:=by rw[Dr]
theorem Dv (pk:Int):∀ts:List RT,Dr pk ts=ts.map fun t=>JZ pk t.x.k (CT t)
 | []=>Mq pk
 | t::ts=>by rw[Gh,Dv pk ts];rfl
theorem eD (a:UInt8):(⟨#[a]⟩:ByteArray).size=1:=rfl
theorem Ix (k:Int):(Ns k).size<=3:=by unfold Ns;split<;>(try split)<;>decide
theorem Xl (k:Int):(eG k).size<=1:=by
 unfold eG
 repeat' split
 all_goals decide
theorem KP (pk k:Int) (s:ByteArray):s.size<=(JZ pk k s).size/\(JZ pk k s).size<=s.size+2:=by
 unfold JZ
 split
 ·rw[aP0,aP0,eD,eD];omega
 ·omega
theorem Mb (sep:ByteArray) (hs:sep.size<=3):∀(r:List ByteArray) (x:ByteArray),(r.foldl (Dn sep) x).size<=x.size+(r.map fun y=>y.size+3).sum/\x.size<=(r.foldl (Dn sep) x).size
 | [],x=>by simp
 | y::r,x=>by
  obtain⟨h1,h2⟩:=Mb sep hs r (Dn sep x y);rw[Mc]at h1 h2;rw[cY0,List.map_cons,eK0];omega
theorem Jb (xs:List ByteArray) (sep:ByteArray) (hs:sep.size<=3):(FS xs sep).size<=(xs.map fun y=>y.size+3).sum:=by
 cases xs with
 | nil=>simp[FS];decide
 | cons x r =>
  have:=(Mb sep hs r x).1
  show (r.foldl (Dn sep) x).size<=_
  rw[List.map_cons,eK0];omega
theorem TX {x:Nd} (h:DZ x=true) (hk:x.k=2\/x.k=3):1<=x.s.size:=by
 have hn:∀s,BU s=true->1<=s.size:=fun s hs=>by unfold BU at hs;simp only[aL0,decide_eq_true_eq]at hs;exact hs.1.1
 unfold DZ at h
 rcases hk with hk | hk
 ·rw[if_neg (by omega),if_pos hk]at h;simp only[aL0]at h;exact hn _ h.2.1
 ·rw[if_neg (by omega),if_neg (by omega),if_pos hk]at h;simp only[aL0]at h;exact hn _ h.2.1
theorem Om {x:Nd} (h:DZ x=true) (h1:¬x.k=1) (h2:¬(x.k=2\/x.k=3)):1<=x.n:=by
 unfold DZ at h;rw[if_neg h1,if_neg (fun e=>h2 (.inl e)),if_neg (fun e=>h2 (.inr e))]at h
 repeat' split at h
 all_goals simp only[aL0,decide_eq_true_eq,aQ0]at h
 all_goals omega
mutual
theorem HS : ∀(t:RT),ED t=true->1<=(CT t).size/\(CT t).size+5<=24*(Ad t).length
 | .mk x ks,h=>by
  obtain⟨h1,h2,h3⟩:=Cg h;rw[PK,AQ,List.length_cons]
  split
  ·rw[eD];omega
  ·rename_i k1
   split
   ·rename_i k2;have:=TX h1 k2;have:=Ol h1;omega
   ·rename_i k2;have hn:=Om h1 k1 k2;obtain⟨s1,s2⟩:=KJ x.k ks h3;have hj:=Jb (Dr x.k ks) (Ns x.k) (Ix _);have hg:=Xl x.k;rw[aP0];refine⟨?_,by omega⟩
    cases ks with
    | nil=>simp at h2;omega
    | cons t ts =>
     have:=s2 (JZ x.k t.x.k (CT t)) (by rw[Gh];exact aH0);have h4:=(Mb (Ns x.k) (Ix _) (Dr x.k ts) (JZ x.k t.x.k (CT t))).2;rw[Gh]
     show 1<=((Dr x.k ts).foldl (Dn (Ns x.k)) (JZ x.k t.x.k (CT t))).size+_
     omega
theorem KJ : ∀(pk:Int) (ts:List RT),FQ ts=true->((Dr pk ts).map fun y=>y.size+3).sum<=24*(An ts).length/\∀y∈Dr pk ts,1<=y.size
 | pk,[],_=>by simp[Mq]
 | pk,t::ts,h=>by
  obtain⟨h1,h2⟩:=BQ h;obtain⟨a1,a2⟩:=HS t h1;obtain⟨b1,b2⟩:=KJ pk ts h2;obtain⟨c1,c2⟩:=KP pk t.x.k (CT t);rw[Gh,Ax,List.map_cons,eK0,aD0];refine⟨by omega,fun y hy=> ?_⟩
  rcases aK0.1 hy with rfl | hy
  ·omega
  ·exact b2 y hy
end
abbrev Str (l:List ByteArray):Prop:=l.Pairwise fun a b=>CO a b=true
theorem Qy : ∀{a b:List ByteArray},Str a->Str b->(∀x,x∈a↔x∈b)->a=b
 | [],[],_,_,_=>rfl
 | [],y::b,_,_,h=>by have:=(h y).2 aH0;simp at this
 | x::a,[],_,_,h=>by have:=(h x).1 aH0;simp at this
 | x::a,y::b,ha,hb,h=>by
  obtain⟨ha1,ha2⟩:=cH0.1 ha;obtain⟨qC,wX⟩:=cH0.1 hb
  have mI:x=y:=by
   rcases aK0.1 ((h x).1 aH0)with h1 | h1
   ·exact h1
   ·rcases aK0.1 ((h y).2 aH0)with h2 | h2
    ·exact h2.symm
    ·have:=QB (qC x h1);rw[ha1 y h2]at this;simp at this
  subst mI;rw[Qy ha2 wX fun z=> ?_]
  constructor
  ·intro hz
   rcases aK0.1 ((h z).1 (aF0 _ hz))with h1 | h1
   ·subst h1;have:=ha1 z hz;rw[Fe]at this;simp at this
   ·exact h1
  ·intro hz
   rcases aK0.1 ((h z).2 (aF0 _ hz))with h1 | h1
   ·subst h1;have:=qC z hz;rw[Fe]at this;simp at this
   ·exact h1
theorem Gw_ : ∀a b:List UInt8,Op.bytesLess a b=true↔a<b
 | [],[]=>by simp[Op.bytesLess]
 | [],_::_=>by simp[Op.bytesLess]
 | _::_,[]=>by simp[Op.bytesLess]
 | x::a,y::b=>by
  rw[List.cons_lt_cons_iff];simp only[Op.bytesLess,dB0,aL0,decide_eq_true_eq,beq_iff_eq,Gw_ a b]
theorem TE (l:List ByteArray) (x:ByteArray):x∈He l↔x∈l:=by
 unfold He;simp only[aT0,(dW0 _ _).mem_iff]
 constructor
 ·rintro⟨y,⟨z,hz,rfl⟩,rfl⟩;exact hz
 ·intro h;exact⟨_,⟨x,h,rfl⟩,rfl⟩
theorem Mx (l:List ByteArray):(He l).Pairwise fun a b=>CO b a=false:=by
 unfold He;rw[dK0]
 have h:=List.pairwise_mergeSort (le:=fun x y:List UInt8=>decide (x<=y)) (by
  intro a b c h1 h2;simp only[decide_eq_true_eq]at *
  exact List.le_trans h1 h2) (by
  intro a b;simp only[dB0,decide_eq_true_eq]
  exact List.le_total a b) (l.map fun s=>s.data.toList)
 refine h.imp ?_;intro a b hab;simp only[decide_eq_true_eq]at hab
 have:¬Op.bytesLess b a=true:=fun h=>by
  rw[Gw_]at h;exact(List.not_lt.2 hab) h
 simpa[CO]using this
def eqT (a b:ByteArray):Bool:=a==b
theorem Si : ∀{l:List ByteArray} {p:ByteArray},(p::l).Pairwise (fun a b=>CO b a=false)->Str (CC eqT p l)/\(∀x∈CC eqT p l,CO p x=true)/\∀x,(x=p\/x∈CC eqT p l)↔(x=p\/x∈l)
 | [],p,_=>⟨.nil,by simp[CC],by simp[CC]⟩
 | y::l,p,h=>by
  obtain⟨h1,h2⟩:=cH0.1 h;obtain⟨g1,g2,g3⟩:=Si h2;unfold CC
  by_cases hyp:y=p
  ·subst hyp;rw[if_pos (by simp[eqT])];refine⟨g1,g2,fun x=> ?_⟩;rw[g3 x];simp only[aK0]
   constructor
   ·rintro (h | h)
    ·exact .inl h
    ·exact .inr (.inr h)
   ·rintro (h | h | h)
    ·exact .inl h
    ·exact .inl h
    ·exact .inr h
  ·rw[if_neg (by simp[eqT,hyp])]
   have hpy:CO p y=true:=by
    cases hc:CO p y
    ·exact absurd (KM hc (h1 y aH0)).symm hyp
    ·rfl
   refine⟨cH0.2 ⟨g2,g1⟩,fun x hx=> ?_,fun x=> ?_⟩
   ·rcases aK0.1 hx with rfl | hx
    ·exact hpy
    ·exact JP hpy (g2 x hx)
   ·simp only[aK0];rw[g3 x]
def EW (l:List ByteArray):List ByteArray:=Cy eqT (He l)
theorem HQ (l:List ByteArray):Str (EW l)/\∀x,x∈EW l↔x∈l:=by
 unfold EW;have h:=Mx l;have hm:=TE l
 cases hs:He l with
 | nil =>
  rw[hs]at hm;exact⟨.nil,by simpa[Cy]using hm⟩
 | cons p t =>
  rw[hs]at h hm;obtain⟨g1,g2,g3⟩:=Si h;refine⟨cH0.2 ⟨g2,g1⟩,fun x=> ?_⟩;simp only[Cy,aK0];rw[g3 x,<-hm x];simp
theorem Hr {α:Type} (e:α->α->Bool):∀(l:List α) (p:α),(CC e p l).length<=l.length
 | [],_=>by simp[CC]
 | y::l,p=>by
  unfold CC
  split
  ·have:=Hr e l y;simp;omega
  ·have:=Hr e l y;simp;omega
theorem HR (l:List ByteArray):(EW l).length<=l.length:=by
 unfold EW;have h:=Al_ l
 cases hs:He l with
 | nil=>simp[Cy]
 | cons p t =>
  rw[hs]at h;have:=Hr eqT t p;simp only[Cy,List.length_cons]at h |-;omega
theorem oT {l a:List ByteArray} (ha:Str a) (h:∀x,x∈a↔x∈l):a=EW l:=by
 obtain⟨g1,g2⟩:=HQ l;exact Qy ha g1 fun x=>by rw[h x,g2 x]
end Go.Proofs.Wy
end
section
namespace Go.Proofs.Wy
open Go Go.Dm Tryz
variable [DMode]
attribute [local irreducible] DW BN BS
set_option maxRecDepth 100000

end Go.Proofs.Wy
end
section
namespace Go
section
variable {F : Fence} {n : Nat} {P : Program} {Q : Exit -> Act -> World -> Prop} {a : Act} {w : World}
end
end Go
namespace Go.Dm
variable [DMode]
def Hx_ (Q:Exit->DS->Prop):Exit->DS->Prop
 | .goto _,_=>False
 | e,s=>Q e s
attribute [simp] Hx_
end Go.Dm
end
section
namespace Go.Proofs.Wy
open Go Go.Dm Tryz
variable [DMode]
attribute [local irreducible] DW BN BS
set_option maxRecDepth 100000



def DP (l:List ByteArray):List DVal:=l.map DVal.str
theorem Dw (x:ByteArray) (l:List ByteArray):DP (x::l)= .str x::DP l:=rfl
theorem Ah_ (l:List ByteArray):(DP l).length=l.length:=by simp[DP]
theorem IY : ∀{l:List ByteArray} {s:ByteArray},¬s∈l->Bc (DP l) (.str s)=none
 | [],_,_=>rfl
 | x::l,s,h=>by
  have h1:(s==x)=false:=by simp;intro e;exact h (by simp[e])
  have h2:=IY (l:=l) (s:=s) fun hm=>h (aF0 _ hm)
  simp[Dw,Bc,BX,CA,Wg,h1,h2]
theorem Rl : ∀{l:List ByteArray} {s:ByteArray},s∈l->∃j,Bc (DP l) (.str s)=some j/\j<l.length
 | [],_,h=>by simp at h
 | x::l,s,h=>by
  by_cases h1:s=x
  ·subst h1;exact⟨0,by simp[Dw,Bc,BX,CA,Wg],by simp⟩
  ·obtain⟨j,h2,h3⟩:=Rl (l:=l) (s:=s) (by simpa[h1]using h);have mF:(s==x)=false:=by simpa using h1
   exact⟨j+1,by simp[Dw,Bc,BX,CA,Wg,mF,h2],by simp;omega⟩
theorem sJ (l:List ByteArray):(DP l).all (Cm prog 9)=true:=by
 induction l with
 | nil=>rfl
 | cons p l ih=>rw[Dw,cT0,ih];simp
@[simp] theorem Ib_ (l:List ByteArray):AJ (DP l)=0:=by
 induction l with
 | nil=>rfl
 | cons a l ih=>rw[Dw];simp[AJ,mx,ih]
def Gr_ (n:Nat):List DVal:=(List.range n).map fun i:Nat=>DVal.int .i64 ((i:Int)+1)
@[simp] theorem HE_ (n:Nat):AJ (Gr_ n)=0:=by
 unfold Gr_
 induction List.range n with
 | nil=>rfl
 | cons a l ih=>simp[AJ,mx,ih]
end Go.Proofs.Wy
end
