/- Parts of a proof, laid together: WJ3, RT, WBp, WB3, EnSc, WB4, WB5, WB6, WB7, BN0, WB8, WB9, WB10, WB11, WB12. -/
import Derived.Scope
import Derived.Test.YtiojapdolljocaaGreatqMx15
import Derived.Test.YtiojapdolljocaaGreatqMx16
import Derived.Test.YtiojapdolljocaaGreatqMx18
import Derived.Test.YtiojapdolljocaaGreatqMx21
import Derived.Test.YtiojapdolljocaaGreatqMx23
set_option linter.unusedSimpArgs false
set_option maxHeartbeats 8000000
set_option linter.unusedVariables false
set_option linter.unusedSectionVars false
section
namespace Go.Proofs.Wy
open Go Go.Dm Go.RowKit Go.Proofs Tryz
variable [DMode]
attribute [local irreducible] DW Bs Bt
set_option maxRecDepth 100000
def Dh (sep:ByteArray) (T y:ByteArray):ByteArray:=T++sep++y
def FK : List ByteArray->ByteArray->ByteArray
 | [],_=>⟨#[]⟩
 | x::r,sep=>r.foldl (Dh sep) x
theorem Lx (sep T y:ByteArray):(Dh sep T y).size=T.size+sep.size+y.size:=by simp[Dh,aQ0]
theorem Gx (sep:ByteArray) (hs:sep.size<=3):∀(r:List ByteArray) (x:ByteArray),(∀y∈r,y.size<=67108864)->(r.foldl (Dh sep) x).size<=x.size+67108867*r.length/\x.size<=(r.foldl (Dh sep) x).size
 | [],x,_=>by simp
 | y::r,x,h=>by
  obtain⟨h1,h2⟩:=Gx sep hs r (Dh sep x y) fun z hz=>h z (aG0 _ hz)
  have h3:=h y aI0;rw[Lx]at h1 h2;rw[cT0,List.length_cons];omega
theorem Ro {β α:Type} {f:β->α->β} {b:β} {l:List α} {k:Nat} {x:α} (hx:l[k]? =some x):(l.take (k+1)).foldl f b=f ((l.take k).foldl f b) x:=by
 obtain⟨h,rfl⟩:=aB0.1 hx;rw[List.take_succ_eq_append_getElem h,cY0];rfl
theorem LW (x:ByteArray):(⟨#[]⟩:ByteArray)++x=x:=by
 apply Ik
 simp[ByteArray.data_append]
theorem Eb_ : AX ⟨#[]⟩=[]:=rfl
def Ir : Ann:=⟨[57,61,70,72,74],[⟨18,[8],[],[]⟩]⟩
theorem AI_ (xs:List ByteArray) (sep:ByteArray) (hs:sep.size<=3) (hl:xs.length<=1572864) (hx:∀x∈xs,1<=x.size/\x.size<=67108864):Ae prog 202 [.sl 1 16 (xs.map AH),.str sep] (.str (FK xs sep)):=by
 refine Ac [] Ir func202 call202 ntmps202 mxd (Au @Ir.eq_1 results202) rfl (fun qJ B qX qQ=> ?_);clear qJ;simp only[Am];have AV:(⟨#[]⟩:ByteArray).size=0:=rfl
 match xs,hl,hx with
 | [],hl,hx =>
  exact Av Ab Ab (CD @AV @FK.eq_1 @FK.eq_2)
 | [x],hl,hx =>
  exact Av Ab Ab (GV @AV @FK.eq_1 @FK.eq_2 @AH.eq_1)
 | x0::x1::r,hl,hx =>
  obtain⟨xs,mC⟩:∃xs,xs=x0::x1::r:=⟨_,rfl⟩;have hJ:FK (x0::x1::r) sep=(xs.drop 1).foldl (Dh sep) x0:=by rw[mC];rfl
  have h0:xs[0]? =some x0:=by rw[mC];rfl
  have h2:2<=xs.length:=by rw[mC];simp
  obtain⟨J,hJJ⟩:∃J,J=FK (x0::x1::r) sep:=⟨_,rfl⟩;rw[<-hJJ];rw[<-mC]at hl hx |-;rw[<-hJJ]at hJ;clear hJJ mC;have wO:0<xs.length:=by omega
  have vS:xs[0]'wO=x0:=(aB0.1 h0).2;have c0:¬(xs.length:Int)=0:=by omega
  have c1:¬(xs.length:Int)=1:=by omega
  have c0b:((xs.length:Int)==0)=false:=by simpa using c0
  have c1b:((xs.length:Int)==1)=false:=by simpa using c1
  have w1:IntKind.i64.wrap ((xs.length:Int)-1)=(xs.length:Int)-1:=wq
  obtain⟨m0,gW,gT,wJ⟩:∃m0:Int,0<=m0/\m0<=4718592/\(if 0<sep.size then m0=(sep.size:Int)*((xs.length:Int)-1)else m0=0):=by
   by_cases h:0<sep.size
   ·refine⟨(sep.size:Int)*((xs.length:Int)-1),?_,?_,by rw[if_pos h]⟩
    ·exact Int.mul_nonneg (by omega) (by omega)
    ·have:(sep.size:Int)*((xs.length:Int)-1)<=3*1572864:=Int.mul_le_mul (by omega) (by omega) (by omega) (by omega);omega
   ·exact⟨0,by omega,by omega,by rw[if_neg h]⟩
  have hys:(xs.drop 1).length=xs.length-1:=by rw[cF0]
  have cB:∀y∈xs.drop 1,y.size<=67108864:=fun y hy=>(hx y (List.mem_of_mem_drop hy)).2
  have t2:List.take (xs.length-1) (xs.map AH).tail=(xs.drop 1).map AH:=by rw[<-List.drop_one,<-List.map_drop];exact cD0 (by simp)
  have hx0:=hx x0 (by rw[<-vS];exact bW0 wO);have vQ:=CE ⟨#[]⟩ x0 (by rw[AV];omega);rw[LW,Eb_]at vQ;obtain⟨ys,hysd⟩:∃ys,ys=xs.drop 1:=⟨_,rfl⟩;rw[<-hysd]at hJ hys cB t2;clear hysd;have gC:∀n:Nat,(n:Int)<=9223372036854775807->IntKind.i64.wrap (n:Int)=n:=fun n h=>Al (by omega) h
  by_cases nG:0<sep.size
  ·rw[if_pos nG]at wJ;have w2:IntKind.i64.wrap ((sep.size:Int)*((xs.length:Int)-1))=m0:=by rw[<-wJ];exact wq
   have w3:IntKind.i64.wrap m0=m0:=wq
   have yD:¬IntKind.i64.wrap ((9223372036854775807:Int).tdiv ((xs.length:Int)-1))<=(sep.size:Int):=by
    rw[Int.tdiv_eq_ediv_of_nonneg (by omega)];have h4:(4:Int)<=9223372036854775807/((xs.length:Int)-1):=Int.le_ediv_of_mul_le (by omega) (by omega);have h5:(9223372036854775807:Int)/((xs.length:Int)-1)<=9223372036854775807:=Int.ediv_le_self _ (by omega);rw[Al (by omega) h5];omega
   have hnz:¬(xs.length:Int)-1=0:=by omega
   have hsi:(0:Int)<(sep.size:Int):=by omega
   (refine AG Ab Ab (oC @AV c0 c1 c0b c1b w1 w2 w3 yD hnz nG hsi) ?_;intros;refine Ah ?_)
   refine Ai (X:={p:Nat×Nat//p.1<=xs.length/\p.2<=4718592+67108864*p.1/\(0<p.1->1<=p.2)}) (fun p=>⟨[(0,.sl 1 16 (xs.map AH)),(1,.str sep),(5,.int .i64 p.1.2),(39,.sl 1 16 (xs.map AH)),(40,.int .i64 xs.length),(41,.int .i64 p.1.1)],[]⟩) (fun p=>xs.length-p.1.1) ⟨(0,m0.toNat),by simp only;refine⟨by omega,by omega,by omega⟩⟩ (Sub.lit (by simp;try omega)) ?_;rintro⟨⟨k,m⟩,hk,hmb,gT⟩;simp only at hk hmb gT |-
   by_cases qV:k<xs.length
   ·obtain⟨x,fK,hxk',vO⟩:=Ao qV;obtain⟨y1,y2⟩:=hx x vO;have q1:IntKind.i64.wrap (9223372036854775807-(m:Int))=9223372036854775807-(m:Int):=wq;have q2:¬(9223372036854775807-(m:Int)<(x.size:Int)):=by omega
    have q3:IntKind.i64.wrap ((m:Int)+(x.size:Int))=(m:Int)+(x.size:Int):=wq
    (refine AG Ab Ab (Iw @AH.eq_1 qV fK hxk' q1 q2 q3) ?_;intros;refine Ah ?_)
    refine Aj.mk ⟨(k+1,m+x.size),show k+1<=xs.length/\m+x.size<=4718592+67108864*(k+1)/\(0<k+1->1<=m+x.size) from ⟨by omega,by omega,by omega⟩⟩ (Sub.lit (by simp)) (by simp;omega)
    skip
   ·have qZ:k=xs.length:=by omega
    subst qZ;have hg:=JS m (gT (by omega)) (by omega)
    (repeat (first | (refine Om (bs:=32) (k:=2) (z:=[.nilp,.nilsl]) (by simp[qX]) (by simp) (by rfl) rfl (by decide) (fun _ _=> ?_);simp[qX,AH,h0,vS,wO,t2,AV]) | refine AJ fun K hK=> ?_ | (refine BV Ir mxd (by kernel_rfl) ?_;simp[Ir,qX,AH,h0,vS,wO,t2,AV];try simp (disch:=omega) only[Al]) | refine Aq ?_ | (refine Bi ?_ ?_ ?_;(· (simp[qX,AH,h0,vS,wO,t2,AV];done));(try (rotate_left;(· (intro hc;(try simp[qX,AH,h0,vS,wO,t2,AV]at hc);done))))) | (refine AN ?_;simp[results202,qX,AH,h0,vS,wO,t2,AV]) | ((first | refine AB ?_ | refine AA ?_);simp[qX,AH,h0,vS,wO,t2,AV]) | (intro hc;(try simp[qX,AH,h0,vS,wO,t2,AV]at hc);(try (exfalso;omega))) | (refine AQ [(8,0)] [(50,1)] (hg) ?_ ?_;(· (simp[qX,AH,h0,vS,wO,t2,AV];done));(intro _;try simp[qX,AH,h0,vS,wO,t2,AV])) | (refine AQ [(8,0),(50,1)] [] (vQ) ?_ ?_;(· (simp[qX,AH,h0,vS,wO,t2,AV];done));(intro _;try simp[qX,AH,h0,vS,wO,t2,AV])) | (refine⟨?_,?_⟩; · omega) | omega | apply_assumption -exfalso -symm | (exfalso;omega)))
    refine Ai (X:={k:Nat//k<=ys.length}) (fun k=>⟨[(1,.str sep),(8,.rx 8 1 2 0 0),(63,.sl 1 16 (ys.map AH)),(64,.int .i64 ys.length),(65,.int .i64 k.1)],[⟨8,1,.row 232 2 32 [[.rx 8 1 2 0 0,.osl 50 1]]⟩,⟨50,1,.row 5 1 1 (AX ((ys.take k.1).foldl (Dh sep) x0))⟩]⟩) (fun k=>ys.length-k.1) ⟨0,by omega⟩ (Sub.lit (by simp[t2,hys])) ?_;rintro⟨k,hk⟩;simp only
    by_cases qV:k<ys.length
    ·obtain⟨y,hy,yV,nV⟩:=Ao qV;obtain⟨j1,j2⟩:=Gx sep hs (ys.take k) x0 fun z hz=>cB z (dB0 hz)
     rw[bA0]at j1;have cI:=Ro (f:=Dh sep) (b:=x0) hy;have hy9:=cB y nV;obtain⟨T,hT⟩:∃T,T=(ys.take k).foldl (Dh sep) x0:=⟨_,rfl⟩;rw[<-hT]at j1 j2 cI |-;have e1:=CE T sep (by omega);have e2:=CE (T++sep) y (by rw[aQ0];omega);rw[show T++sep++y=Dh sep T y from rfl,<-cI]at e2
     (refine AG Ab (Au (KV [(8,0),(50,1)] [] e1) (KV [(8,0),(50,1)] [] e2)) (GV @AH.eq_1 qV hy yV) ?_;intros;refine Ah ?_)
     refine Aj.mk ⟨k+1,by omega⟩ (Sub.lit (by simp)) (by simp;omega)
     skip
    ·have qZ:k=ys.length:=by omega
     subst qZ;rw[aW0,<-hJ];obtain⟨j1,j2⟩:=Gx sep hs ys x0 cB;rw[<-hJ]at j1 j2;have e1:=IV J (by omega);exact Av Ab (AD (KV [(8,0),(50,1)] [] e1)) Ab
  ·rw[if_neg nG]at wJ
   (refine AG Ab Ab (Iw @AV c0 c1 c0b c1b w1 nG) ?_;intros;refine Ah ?_)
   refine Ai (X:={p:Nat×Nat//p.1<=xs.length/\p.2<=4718592+67108864*p.1/\(0<p.1->1<=p.2)}) (fun p=>⟨[(0,.sl 1 16 (xs.map AH)),(1,.str sep),(5,.int .i64 p.1.2),(39,.sl 1 16 (xs.map AH)),(40,.int .i64 xs.length),(41,.int .i64 p.1.1)],[]⟩) (fun p=>xs.length-p.1.1) ⟨(0,m0.toNat),by simp only;refine⟨by omega,by omega,by omega⟩⟩ (Sub.lit (by simp;try omega)) ?_;rintro⟨⟨k,m⟩,hk,hmb,gT⟩;simp only at hk hmb gT |-
   by_cases qV:k<xs.length
   ·obtain⟨x,fK,hxk',vO⟩:=Ao qV;obtain⟨y1,y2⟩:=hx x vO;have q1:IntKind.i64.wrap (9223372036854775807-(m:Int))=9223372036854775807-(m:Int):=wq;have q2:¬(9223372036854775807-(m:Int)<(x.size:Int)):=by omega
    have q3:IntKind.i64.wrap ((m:Int)+(x.size:Int))=(m:Int)+(x.size:Int):=wq
    (refine AG Ab Ab (Iw @AH.eq_1 qV fK hxk' q1 q2 q3) ?_;intros;refine Ah ?_)
    refine Aj.mk ⟨(k+1,m+x.size),show k+1<=xs.length/\m+x.size<=4718592+67108864*(k+1)/\(0<k+1->1<=m+x.size) from ⟨by omega,by omega,by omega⟩⟩ (Sub.lit (by simp)) (by simp;omega)
    skip
   ·have qZ:k=xs.length:=by omega
    subst qZ;have hg:=JS m (gT (by omega)) (by omega)
    (repeat (first | (refine Om (bs:=32) (k:=2) (z:=[.nilp,.nilsl]) (by simp[qX]) (by simp) (by rfl) rfl (by decide) (fun _ _=> ?_);simp[qX,AH,h0,vS,wO,t2,AV]) | refine AJ fun K hK=> ?_ | (refine BV Ir mxd (by kernel_rfl) ?_;simp[Ir,qX,AH,h0,vS,wO,t2,AV];try simp (disch:=omega) only[Al]) | refine Aq ?_ | (refine Bi ?_ ?_ ?_;(· (simp[qX,AH,h0,vS,wO,t2,AV];done));(try (rotate_left;(· (intro hc;(try simp[qX,AH,h0,vS,wO,t2,AV]at hc);done))))) | (refine AN ?_;simp[results202,qX,AH,h0,vS,wO,t2,AV]) | ((first | refine AB ?_ | refine AA ?_);simp[qX,AH,h0,vS,wO,t2,AV]) | (intro hc;(try simp[qX,AH,h0,vS,wO,t2,AV]at hc);(try (exfalso;omega))) | (refine AQ [(8,0)] [(50,1)] (hg) ?_ ?_;(· (simp[qX,AH,h0,vS,wO,t2,AV];done));(intro _;try simp[qX,AH,h0,vS,wO,t2,AV])) | (refine AQ [(8,0),(50,1)] [] (vQ) ?_ ?_;(· (simp[qX,AH,h0,vS,wO,t2,AV];done));(intro _;try simp[qX,AH,h0,vS,wO,t2,AV])) | (refine⟨?_,?_⟩; · omega) | omega | apply_assumption -exfalso -symm | (exfalso;omega)))
    refine Ai (X:={k:Nat//k<=ys.length}) (fun k=>⟨[(1,.str sep),(8,.rx 8 1 2 0 0),(63,.sl 1 16 (ys.map AH)),(64,.int .i64 ys.length),(65,.int .i64 k.1)],[⟨8,1,.row 232 2 32 [[.rx 8 1 2 0 0,.osl 50 1]]⟩,⟨50,1,.row 5 1 1 (AX ((ys.take k.1).foldl (Dh sep) x0))⟩]⟩) (fun k=>ys.length-k.1) ⟨0,by omega⟩ (Sub.lit (by simp[t2,hys])) ?_;rintro⟨k,hk⟩;simp only
    by_cases qV:k<ys.length
    ·obtain⟨y,hy,yV,nV⟩:=Ao qV;obtain⟨j1,j2⟩:=Gx sep hs (ys.take k) x0 fun z hz=>cB z (dB0 hz)
     rw[bA0]at j1;have cI:=Ro (f:=Dh sep) (b:=x0) hy;have hy9:=cB y nV;obtain⟨T,hT⟩:∃T,T=(ys.take k).foldl (Dh sep) x0:=⟨_,rfl⟩;rw[<-hT]at j1 j2 cI |-;have e1:=CE T sep (by omega);have e2:=CE (T++sep) y (by rw[aQ0];omega);rw[show T++sep++y=Dh sep T y from rfl,<-cI]at e2
     (refine AG Ab (Au (KV [(8,0),(50,1)] [] e1) (KV [(8,0),(50,1)] [] e2)) (GV @AH.eq_1 qV hy yV) ?_;intros;refine Ah ?_)
     refine Aj.mk ⟨k+1,by omega⟩ (Sub.lit (by simp)) (by simp;omega)
     skip
    ·have qZ:k=ys.length:=by omega
     subst qZ;rw[aW0,<-hJ];obtain⟨j1,j2⟩:=Gx sep hs ys x0 cB;rw[<-hJ]at j1 j2;have e1:=IV J (by omega);exact Av Ab (AD (KV [(8,0),(50,1)] [] e1)) Ab
end Go.Proofs.Wy
end
section
namespace Go.Proofs.Wy
open Go Go.Dm Tryz
variable [DMode]
def aZ (k:Int):ByteArray:=if k=6 then ⟨#[42]⟩else if k=7 then ⟨#[43]⟩else if k=8 then ⟨#[63]⟩else ⟨#[]⟩
def MU (k:Int):ByteArray:=if k=5 then ⟨#[32,124,32]⟩else if k=4 then ⟨#[32]⟩else ⟨#[]⟩
def CA_ (pk k:Int):Bool:=decide (k=5)||(decide (k=4)&& !decide (pk=5))
def JD (pk k:Int) (s:ByteArray):ByteArray:=if CA_ pk k then ⟨#[40]⟩++s++⟨#[41]⟩else s
mutual
def CR : RT->ByteArray
 | .mk x ks=>if x.k=1 then ⟨#[37]⟩else if x.k=2\/x.k=3 then x.s else FK (Dl x.k ks) (MU x.k)++aZ x.k
def Dl (pk:Int):List RT->List ByteArray
 | []=>[]
 | t::ts=>JD pk t.x.k (CR t)::Dl pk ts
end
theorem Pn (x:Nd) (ks:List RT):CR (.mk x ks)=if x.k=1 then ⟨#[37]⟩else if x.k=2\/x.k=3 then x.s else FK (Dl x.k ks) (MU x.k)++aZ x.k:=by rw[CR]
theorem FY (pk:Int) (t:RT) (ts:List RT):Dl pk (t::ts)=JD pk t.x.k (CR t)::Dl pk ts:=by rw[Dl]
theorem LP (pk:Int):Dl pk []=[]:=by rw[Dl]
theorem Dp (pk:Int):∀ts:List RT,Dl pk ts=ts.map fun t=>JD pk t.x.k (CR t)
 | []=>LP pk
 | t::ts=>by rw[FY,Dp pk ts];rfl
theorem aY (a:UInt8):(⟨#[a]⟩:ByteArray).size=1:=rfl
theorem Il (k:Int):(MU k).size<=3:=by unfold MU;split<;>(try split)<;>decide
theorem WM (k:Int):(aZ k).size<=1:=by
 unfold aZ
 repeat' split
 all_goals decide
theorem Kr (pk k:Int) (s:ByteArray):s.size<=(JD pk k s).size/\(JD pk k s).size<=s.size+2:=by
 unfold JD
 split
 ·rw[aQ0,aQ0,aY,aY];omega
 ·omega
theorem Lw (sep:ByteArray) (hs:sep.size<=3):∀(r:List ByteArray) (x:ByteArray),(r.foldl (Dh sep) x).size<=x.size+(r.map fun y=>y.size+3).sum/\x.size<=(r.foldl (Dh sep) x).size
 | [],x=>by simp
 | y::r,x=>by
  obtain⟨h1,h2⟩:=Lw sep hs r (Dh sep x y);rw[Lx]at h1 h2;rw[cT0,List.map_cons,dG0];omega
theorem II (xs:List ByteArray) (sep:ByteArray) (hs:sep.size<=3):(FK xs sep).size<=(xs.map fun y=>y.size+3).sum:=by
 cases xs with
 | nil=>simp[FK];decide
 | cons x r =>
  have:=(Lw sep hs r x).1
  show (r.foldl (Dh sep) x).size<=_
  rw[List.map_cons,dG0];omega
theorem TG {x:Nd} (h:DO x=true) (hk:x.k=2\/x.k=3):1<=x.s.size:=by
 have hn:∀s,BQ s=true->1<=s.size:=fun s hs=>by unfold BQ at hs;simp only[aJ0,decide_eq_true_eq]at hs;exact hs.1.1
 unfold DO at h
 rcases hk with hk | hk
 ·rw[if_neg (by omega),if_pos hk]at h;simp only[aJ0]at h;exact hn _ h.2.1
 ·rw[if_neg (by omega),if_neg (by omega),if_pos hk]at h;simp only[aJ0]at h;exact hn _ h.2.1
theorem NN {x:Nd} (h:DO x=true) (h1:¬x.k=1) (h2:¬(x.k=2\/x.k=3)):1<=x.n:=by
 unfold DO at h;rw[if_neg h1,if_neg (fun e=>h2 (.inl e)),if_neg (fun e=>h2 (.inr e))]at h
 repeat' split at h
 all_goals simp only[aJ0,decide_eq_true_eq,aR0]at h
 all_goals omega
mutual
theorem HI : ∀(t:RT),Ew t=true->1<=(CR t).size/\(CR t).size+5<=24*(flat t).length
 | .mk x ks,h=>by
  obtain⟨h1,h2,h3⟩:=Cj h;rw[Pn,AO,List.length_cons]
  split
  ·rw[aY];omega
  ·rename_i k1
   split
   ·rename_i k2;have:=TG h1 k2;have:=NM h1;omega
   ·rename_i k2;have hn:=NN h1 k1 k2;obtain⟨s1,s2⟩:=Kl x.k ks h3;have hj:=II (Dl x.k ks) (MU x.k) (Il _);have hg:=WM x.k;rw[aQ0];refine⟨?_,by omega⟩
    cases ks with
    | nil=>simp at h2;omega
    | cons t ts =>
     have:=s2 (JD x.k t.x.k (CR t)) (by rw[FY];exact aI0);have h4:=(Lw (MU x.k) (Il _) (Dl x.k ts) (JD x.k t.x.k (CR t))).2;rw[FY]
     show 1<=((Dl x.k ts).foldl (Dh (MU x.k)) (JD x.k t.x.k (CR t))).size+_
     omega
theorem Kl : ∀(pk:Int) (ts:List RT),FJ ts=true->((Dl pk ts).map fun y=>y.size+3).sum<=24*(Ak ts).length/\∀y∈Dl pk ts,1<=y.size
 | pk,[],_=>by simp[LP]
 | pk,t::ts,h=>by
  obtain⟨h1,h2⟩:=BM h;obtain⟨a1,a2⟩:=HI t h1;obtain⟨b1,b2⟩:=Kl pk ts h2;obtain⟨c1,c2⟩:=Kr pk t.x.k (CR t);rw[FY,Ap,List.map_cons,dG0,aC0];refine⟨by omega,fun y hy=> ?_⟩
  rcases aK0.1 hy with rfl | hy
  ·omega
  ·exact b2 y hy
end
abbrev Str (l:List ByteArray):Prop:=l.Pairwise fun a b=>CO a b=true
theorem Qg : ∀{a b:List ByteArray},Str a->Str b->(∀x,x∈a↔x∈b)->a=b
 | [],[],_,_,_=>rfl
 | [],y::b,_,_,h=>by have:=(h y).2 aI0;simp at this
 | x::a,[],_,_,h=>by have:=(h x).1 aI0;simp at this
 | x::a,y::b,ha,hb,h=>by
  obtain⟨ha1,ha2⟩:=cK0.1 ha;obtain⟨qI,qT⟩:=cK0.1 hb
  have bG:x=y:=by
   rcases aK0.1 ((h x).1 aI0)with h1 | h1
   ·exact h1
   ·rcases aK0.1 ((h y).2 aI0)with h2 | h2
    ·exact h2.symm
    ·have:=Qk (qI x h1);rw[ha1 y h2]at this;simp at this
  subst bG;rw[Qg ha2 qT fun z=> ?_]
  constructor
  ·intro hz
   rcases aK0.1 ((h z).1 (aG0 _ hz))with h1 | h1
   ·subst h1;have:=ha1 z hz;rw[EX]at this;simp at this
   ·exact h1
  ·intro hz
   rcases aK0.1 ((h z).2 (aG0 _ hz))with h1 | h1
   ·subst h1;have:=qI z hz;rw[EX]at this;simp at this
   ·exact h1
theorem Gk_ : ∀a b:List UInt8,Op.bytesLess a b=true↔a<b
 | [],[]=>by simp[Op.bytesLess]
 | [],_::_=>by simp[Op.bytesLess]
 | _::_,[]=>by simp[Op.bytesLess]
 | x::a,y::b=>by
  rw[List.cons_lt_cons_iff];simp only[Op.bytesLess,cU0,aJ0,decide_eq_true_eq,beq_iff_eq,Gk_ a b]
theorem Tl (l:List ByteArray) (x:ByteArray):x∈GW l↔x∈l:=by
 unfold GW;simp only[aT0,(eA0 _ _).mem_iff]
 constructor
 ·rintro⟨y,⟨z,hz,rfl⟩,rfl⟩;exact hz
 ·intro h;exact⟨_,⟨x,h,rfl⟩,rfl⟩
theorem LX (l:List ByteArray):(GW l).Pairwise fun a b=>CO b a=false:=by
 unfold GW;rw[cX0]
 have h:=List.pairwise_mergeSort (le:=fun x y:List UInt8=>decide (x<=y)) (by
  intro a b c h1 h2;simp only[decide_eq_true_eq]at *
  exact List.le_trans h1 h2) (by
  intro a b;simp only[cU0,decide_eq_true_eq]
  exact List.le_total a b) (l.map fun s=>s.data.toList)
 refine h.imp ?_;intro a b hab;simp only[decide_eq_true_eq]at hab
 have:¬Op.bytesLess b a=true:=fun h=>by
  rw[Gk_]at h;exact(List.not_lt.2 hab) h
 simpa[CO]using this
def eqT (a b:ByteArray):Bool:=a==b
theorem RM : ∀{l:List ByteArray} {p:ByteArray},(p::l).Pairwise (fun a b=>CO b a=false)->Str (CC eqT p l)/\(∀x∈CC eqT p l,CO p x=true)/\∀x,(x=p\/x∈CC eqT p l)↔(x=p\/x∈l)
 | [],p,_=>⟨.nil,by simp[CC],by simp[CC]⟩
 | y::l,p,h=>by
  obtain⟨h1,h2⟩:=cK0.1 h;obtain⟨g1,g2,g3⟩:=RM h2;unfold CC
  by_cases hyp:y=p
  ·subst hyp;rw[if_pos (by simp[eqT])];refine⟨g1,g2,fun x=> ?_⟩;rw[g3 x];simp only[aK0]
   constructor
   ·rintro (h | h)
    ·exact .inl h
    ·exact .inr (.inr h)
   ·rintro (h | h | h)
    ·exact .inl h
    ·exact .inl h
    ·exact .inr h
  ·rw[if_neg (by simp[eqT,hyp])]
   have hpy:CO p y=true:=by
    cases hc:CO p y
    ·exact absurd (Kn hc (h1 y aI0)).symm hyp
    ·rfl
   refine⟨cK0.2 ⟨g2,g1⟩,fun x hx=> ?_,fun x=> ?_⟩
   ·rcases aK0.1 hx with rfl | hx
    ·exact hpy
    ·exact Jv hpy (g2 x hx)
   ·simp only[aK0];rw[g3 x]
def EP (l:List ByteArray):List ByteArray:=CA eqT (GW l)
theorem HG (l:List ByteArray):Str (EP l)/\∀x,x∈EP l↔x∈l:=by
 unfold EP;have h:=LX l;have hm:=Tl l
 cases hs:GW l with
 | nil =>
  rw[hs]at hm;exact⟨.nil,by simpa[CA]using hm⟩
 | cons p t =>
  rw[hs]at h hm;obtain⟨g1,g2,g3⟩:=RM h;refine⟨cK0.2 ⟨g2,g1⟩,fun x=> ?_⟩;simp only[CA,aK0];rw[g3 x,<-hm x];simp
theorem Hi {α:Type} (e:α->α->Bool):∀(l:List α) (p:α),(CC e p l).length<=l.length
 | [],_=>by simp[CC]
 | y::l,p=>by
  unfold CC
  split
  ·have:=Hi e l y;simp;omega
  ·have:=Hi e l y;simp;omega
theorem HH (l:List ByteArray):(EP l).length<=l.length:=by
 unfold EP;have h:=xK l
 cases hs:GW l with
 | nil=>simp[CA]
 | cons p t =>
  rw[hs]at h;have:=Hi eqT t p;simp only[CA,List.length_cons]at h |-;omega
theorem oL {l a:List ByteArray} (ha:Str a) (h:∀x,x∈a↔x∈l):a=EP l:=by
 obtain⟨g1,g2⟩:=HG l;exact Qg ha g1 fun x=>by rw[h x,g2 x]
end Go.Proofs.Wy
end
section
namespace Go.Proofs.Wy
open Go Go.Dm Tryz
variable [DMode]
attribute [local irreducible] DW Bs Bt
set_option maxRecDepth 100000

end Go.Proofs.Wy
end
section
namespace Go
section
variable {F : Fence} {n : Nat} {P : Program} {Q : Exit -> Act -> World -> Prop} {a : Act} {w : World}
end
end Go
namespace Go.Dm
variable [DMode]
def Hd_ (Q:Exit->DS->Prop):Exit->DS->Prop
 | .goto _,_=>False
 | e,s=>Q e s
attribute [simp] Hd_
end Go.Dm
end
section
namespace Go.Proofs.Wy
open Go Go.Dm Tryz
variable [DMode]
attribute [local irreducible] DW Bs Bt
set_option maxRecDepth 100000



def DI (l:List ByteArray):List DVal:=l.map DVal.str
theorem Dq (x:ByteArray) (l:List ByteArray):DI (x::l)= .str x::DI l:=rfl
theorem xG (l:List ByteArray):(DI l).length=l.length:=by simp[DI]
theorem IG : ∀{l:List ByteArray} {s:ByteArray},¬s∈l->Ba (DI l) (.str s)=none
 | [],_,_=>rfl
 | x::l,s,h=>by
  have h1:(s==x)=false:=by simp;intro e;exact h (by simp[e])
  have h2:=IG (l:=l) (s:=s) fun hm=>h (aG0 _ hm)
  simp[Dq,Ba,BX,Ck,TY,h1,h2]
theorem QV : ∀{l:List ByteArray} {s:ByteArray},s∈l->∃j,Ba (DI l) (.str s)=some j/\j<l.length
 | [],_,h=>by simp at h
 | x::l,s,h=>by
  by_cases h1:s=x
  ·subst h1;exact⟨0,by simp[Dq,Ba,BX,Ck,TY],by simp⟩
  ·obtain⟨j,h2,h3⟩:=QV (l:=l) (s:=s) (by simpa[h1]using h);have nJ:(s==x)=false:=by simpa using h1
   exact⟨j+1,by simp[Dq,Ba,BX,Ck,TY,nJ,h2],by simp;omega⟩
theorem sE (l:List ByteArray):(DI l).all (Cp prog 9)=true:=by
 induction l with
 | nil=>rfl
 | cons p l ih=>rw[Dq,dA0,ih];simp
@[simp] theorem HR_ (l:List ByteArray):AL (DI l)=0:=by
 induction l with
 | nil=>rfl
 | cons a l ih=>rw[Dq];simp[AL,mx,ih]
def Gh_ (n:Nat):List DVal:=(List.range n).map fun i:Nat=>DVal.int .i64 ((i:Int)+1)
@[simp] theorem Hj_ (n:Nat):AL (Gh_ n)=0:=by
 unfold Gh_
 induction List.range n with
 | nil=>rfl
 | cons a l ih=>simp[AL,mx,ih]
end Go.Proofs.Wy
end
section
namespace Go.Proofs.Wy
open Go Go.Dm Tryz
variable [DMode]
def Ib (out:List ByteArray) (s:ByteArray):List ByteArray:=if s∈out then out else out++[s]
def Ax (g:List Rul):List ByteArray:=(g.map (·.h)).foldl Ib []
theorem AS_ {out:List ByteArray} {s x:ByteArray}:x∈Ib out s↔x∈out\/x=s:=by
 unfold Ib
 split
 ·rename_i h;exact⟨.inl,fun hh=>by rcases hh with hh | rfl;exact hh;exact h⟩
 ·simp
theorem TO : ∀(l out:List ByteArray) (x:ByteArray),x∈l.foldl Ib out↔x∈out\/x∈l
 | [],out,x=>by simp
 | s::l,out,x=>by rw[cT0,TO l,AS_];simp[or_assoc]
theorem OF : ∀(l out:List ByteArray),out.Nodup->(l.foldl Ib out).Nodup
 | [],out,h=>h
 | s::l,out,h=>by
  rw[cT0];refine OF l _ ?_;unfold Ib
  split
  ·exact h
  ·rename_i hs;exact bV0.2 ⟨h,by simp,by rintro a ha b hb rfl;simp at hb;subst hb;exact hs ha⟩
theorem TP : ∀(l out:List ByteArray),(l.foldl Ib out).length<=out.length+l.length
 | [],out=>by simp
 | s::l,out=>by
  rw[cT0];have:=TP l (Ib out s);have:(Ib out s).length<=out.length+1:=by unfold Ib;split<;>simp
  simp;omega
theorem LA {g:List Rul} {x:ByteArray}:x∈Ax g↔∃r∈g,r.h=x:=by
 unfold Ax;rw[TO];simp
theorem MC (g:List Rul):(Ax g).Nodup:=OF _ _ (by simp)
theorem IL (g:List Rul):(Ax g).length<=g.length:=by have:=TP (g.map (·.h)) [];unfold Ax;simpa using this
theorem OE {g:List Rul} {i:Nat} {r:Rul} (h:g[i]? =some r):Ax (g.take (i+1))=Ib (Ax (g.take i)) r.h:=by
 unfold Ax;rw[bJ0,h,bD0,cY0];rfl
def Cr (k:Int) (l:List Nd):List ByteArray:=(l.filter fun x=>decide (x.k=k)).map (·.s)
def AI (k:Int) (g:List Rul):List ByteArray:=g.flatMap fun r=>Cr k r.b
theorem Ox {k:Int} {l:List Nd} {i:Nat} {x:Nd} (h:l[i]? =some x):Cr k (l.take (i+1))=Cr k (l.take i)++(if x.k=k then [x.s]else []):=by
 unfold Cr;rw[bJ0,h,cV0,bD0]
 by_cases hx:x.k=k<;>simp[hx]
theorem Oy {k:Int} {g:List Rul} {i:Nat} {r:Rul} (h:g[i]? =some r):AI k (g.take (i+1))=AI k (g.take i)++Cr k r.b:=by
 unfold AI;rw[bJ0,h,eB0];simp
theorem iG (k:Int) (l:List Nd):(Cr k l).length<=l.length:=by
 unfold Cr;rw[aN0];exact cI0 _ _
def Lb (l:List ByteArray) (s:ByteArray):Nat:=l.findIdx fun x=>s==x
theorem Re {l:List ByteArray} {s:ByteArray} (h:s∈l):Lb l s<l.length:=List.findIdx_lt_length_of_exists ⟨s,h,by simp⟩
theorem QW : ∀{l:List ByteArray} {s:ByteArray},s∈l->Ba (DI l) (.str s)=some (Lb l s)
 | [],_,h=>by simp at h
 | x::l,s,h=>by
  unfold Lb;rw[List.findIdx_cons]
  by_cases h1:s=x
  ·subst h1;simp[Dq,Ba,BX,Ck,TY]
  ·have h2:=QW (l:=l) (s:=s) (by simpa[h1]using h);have nJ:(s==x)=false:=by simpa using h1
   simp[Dq,Ba,BX,Ck,TY,nJ,h2,Lb]
structure CM where
 K:List ByteArray
 V:List Int
def RZ (m:CM) (s:ByteArray):CM:=if s∈m.K then ⟨m.K,m.V.set (Lb m.K s) (IntKind.i64.wrap (m.V.getD (Lb m.K s) 0+1))⟩else ⟨m.K++[s],m.V++[1]⟩
def Pe (es:List ByteArray):CM:=es.foldl RZ ⟨[],[]⟩
theorem Bl_ (es:List ByteArray) (s:ByteArray):Pe (es++[s])=RZ (Pe es) s:=by unfold Pe;rw[cY0];rfl
structure CMok (m:CM) (es:List ByteArray):Prop where
 len:m.K.length=m.V.length
 mem:∀s,s∈m.K↔s∈es
 nd:m.K.Nodup
 le:m.K.length<=es.length
theorem CMok.step {m:CM} {es:List ByteArray} (h:CMok m es) (s:ByteArray):CMok (RZ m s) (es++[s]):=by
 unfold RZ
 split
 ·rename_i hs;refine⟨by simp[h.len],fun x=> ?_,h.nd,by have:=h.le;simp;omega⟩;rw[h.mem x,aH0];exact⟨.inl,fun hh=>by rcases hh with hh | hh;exact hh;simp at hh;subst hh;exact(h.mem x).1 hs⟩
 ·rename_i hs;refine⟨by simp[h.len],fun x=>by simp[h.mem x],?_,by have:=h.le;simp;omega⟩;exact bV0.2 ⟨h.nd,by simp,by rintro a ha b hb rfl;simp at hb;subst hb;exact hs ha⟩
theorem lI (es:List ByteArray):CMok (Pe es) es:=by
 have key:∀(l:List ByteArray) (m:CM) (es:List ByteArray),CMok m es->CMok (l.foldl RZ m) (es++l):=by
  intro l
  induction l with
  | nil=>intro m es h;simpa using h
  | cons s l ih =>
   intro m es h;have:=ih (RZ m s) (es++[s]) (h.step s);simpa using this
 have:=key es ⟨[],[]⟩ [] ⟨rfl,by simp,by simp,by simp⟩;simpa[Pe]using this
def Ay (g:List Rul):List ByteArray:=EP (AI 3 g)
def CP (g:List Rul):List ByteArray:=(EP (AI 2 g)).filter fun s=> !decide (s∈Ax g)
theorem CX_ {g:List Rul} {K:List ByteArray} (hn:K.Nodup) (hm:∀s,s∈K↔s∈AI 2 g/\¬s∈Ax g):K.length=(CP g).length:=by
 refine List.Perm.length_eq ((List.perm_ext_iff_of_nodup hn ?_).2 fun s=> ?_)
 ·unfold CP;exact List.Pairwise.filter _ ((HG _).1.imp fun {a b} h e=>by subst e;rw[EX]at h;simp at h)
 ·unfold CP;rw[hm s,cE0,(HG _).2];simp
abbrev GT := List (ByteArray×RT)
def Be (gt:GT):List Rul:=gt.map fun p=>⟨p.1,flat p.2⟩
def OkG (gt:GT):Prop:=∀p∈gt,Dn 2 p.1=true/\Ew p.2=true
def EU (g:List Rul):Bool:=g.all fun r=>Dn 2 r.h&&Dd r.b
theorem WC : ∀{g:List Rul},EU g=true->∃gt,g=Be gt/\OkG gt
 | [],_=>⟨[],rfl,by intro p hp;simp at hp⟩
 | r::g,h=>by
  unfold EU at h;rw[dA0,aJ0,aJ0]at h;obtain⟨gt,rfl,hg⟩:=WC (g:=g) h.2;obtain⟨t,ht,hb⟩:=Ll h.1.2;refine⟨(r.h,t)::gt,by cases r;simp only at hb;subst hb;rfl,fun p hp=> ?_⟩
  rcases aK0.1 hp with rfl | hp
  ·exact⟨h.1.1,ht⟩
  ·exact hg p hp
theorem XW {gt:GT} (h:OkG gt):EU (Be gt)=true:=by
 unfold EU Be;rw[List.all_map,bC0];intro p hp;obtain⟨h1,h2⟩:=h p hp;simp[h1,EV h2]
def CJ (g:List Rul):Nat:=(g.map fun r=>FS r.b).sum
def FL (gt:GT):Bool:=gt.any fun p=>decide (16<Jk p.2)
def IX (p:ByteArray×RT):ByteArray:=p.1++⟨#[32,61,32]⟩++CR p.2++⟨#[32,59,10]⟩
def BY (gt:GT):ByteArray:=gt.foldl (fun s p=>s++IX p) ⟨#[]⟩
theorem Gg {gt:GT} {i:Nat} {p:ByteArray×RT} (h:gt[i]? =some p):BY (gt.take (i+1))=BY (gt.take i)++IX p:=by
 unfold BY;rw[bJ0,h,cY0];rfl
theorem KU (gt:GT) (i:Nat):(BY (gt.take i)).size<=(BY gt).size:=by
 have key:∀(l:GT) (s:ByteArray),s.size<=(l.foldl (fun s p=>s++IX p) s).size:=by
  intro l
  induction l with
  | nil=>intro s;simp
  | cons p l ih=>intro s;rw[cT0];have:=ih (s++IX p);rw[aQ0]at this;omega
 unfold BY
 conv=>rhs;rw[<-List.take_append_drop i gt,cY0]
 exact key _ _
def MN (gt:GT):Int :=
 if 16<(Ax (Be gt)).length+(CP (Be gt)).length then 181
 else if 16<(Ay (Be gt)).length then 182
 else if 64<CJ (Be gt)then 183
 else if FL gt then 171
 else if 0<(CP (Be gt)).length then 184
 else if 2048<(BY gt).size then 174
 else 0
mutual
theorem UB : ∀(t:RT),Ew t=true->(flat t).length<=(CR t).size
 | .mk x ks,h=>by
  obtain⟨h1,h2,h3⟩:=Cj h;rw[Pn,AO,List.length_cons]
  by_cases k1:x.k=1
  ·rw[if_pos k1]
   have:x.n=0:=by
    unfold DO at h1;rw[if_pos k1]at h1;simp only[aJ0,decide_eq_true_eq]at h1;exact h1.2
   have zA:ks=[]:=bM0 (by omega);subst zA;rw[Ak];decide
  ·rw[if_neg k1]
   by_cases k2:x.k=2\/x.k=3
   ·rw[if_pos k2];have:=TG h1 k2
    have hn:x.n=0:=by
     unfold DO at h1
     rcases k2 with k2 | k2
     ·rw[if_neg (by omega),if_pos k2]at h1;simp only[aJ0,decide_eq_true_eq]at h1;exact h1.1
     ·rw[if_neg (by omega),if_neg (by omega),if_pos k2]at h1;simp only[aJ0,decide_eq_true_eq]at h1;exact h1.1
    have zA:ks=[]:=bM0 (by omega);subst zA;rw[Ak];simp;omega
   ·rw[if_neg k2,aQ0];have hj:=oM x.k ks h3;have hn:=NN h1 k1 k2
    rcases Kv h1 with k | k | k | k | k | k | k | k
    ·exact absurd k k1
    ·exact absurd (.inl k) k2
    ·exact absurd (.inr k) k2
    ·have hb:1<=(MU x.k).size:=by unfold MU;rw[k];decide
     have h5:2<=x.n:=by unfold DO at h1;simp[k]at h1;exact h1.2
     have:=Vv (MU x.k) (Dl x.k ks) (by rw[Dp,aN0];omega);rw[Dp,aN0,<-Dp]at this;have h6:1*(ks.length-1)<=(MU x.k).size*(ks.length-1):=aX0 _ hb;omega
    ·have hb:1<=(MU x.k).size:=by unfold MU;rw[k];decide
     have h5:2<=x.n:=by unfold DO at h1;simp[k]at h1;exact h1.2
     have:=Vv (MU x.k) (Dl x.k ks) (by rw[Dp,aN0];omega);rw[Dp,aN0,<-Dp]at this;have h6:1*(ks.length-1)<=(MU x.k).size*(ks.length-1):=aX0 _ hb;omega
    all_goals
     have hs:(aZ x.k).size=1:=by unfold aZ;rw[k];decide
     have:=Vv (MU x.k) (Dl x.k ks) (by rw[Dp,aN0];omega);omega
theorem oM : ∀(pk:Int) (ts:List RT),FJ ts=true->(Ak ts).length<=((Dl pk ts).map (·.size)).sum
 | pk,[],_=>by simp[Ak]
 | pk,t::ts,h=>by
  obtain⟨h1,h2⟩:=BM h;have a:=UB t h1;have b:=oM pk ts h2;have c:=(Kr pk t.x.k (CR t)).1;rw[FY,Ap,List.map_cons,dG0,aC0];omega
theorem Vv (sep:ByteArray):∀(xs:List ByteArray),1<=xs.length->(xs.map (·.size)).sum+sep.size*(xs.length-1)<=(FK xs sep).size
 | [],h=>by simp at h
 | x::r,_=>by
  have key:∀(r:List ByteArray) (x:ByteArray),x.size+(r.map (·.size)).sum+sep.size*r.length<=(r.foldl (Dh sep) x).size:=by
   intro r
   induction r with
   | nil=>intro x;simp
   | cons y r ih =>
    intro x;have:=ih (Dh sep x y);rw[Lx]at this;rw[cT0,List.map_cons,dG0,List.length_cons,Nat.mul_add];omega
  have:=key r x
  show _<=(r.foldl (Dh sep) x).size
  simp only[List.map_cons,dG0,List.length_cons,eQ0];omega
end
theorem WR {gt:GT} {p:ByteArray×RT} (h:p∈gt):(CR p.2).size<=(BY gt).size:=by
 obtain⟨i,hi,rfl⟩:=bX0 h;have h1:=Gg (aE0 hi);have h2:=KU gt (i+1);rw[h1,aQ0]at h2;unfold IX at h2;simp only[aQ0]at h2;omega
end Go.Proofs.Wy
end
section
namespace Go.Proofs.Wy
open Go Go.Dm Tryz
variable [DMode]
attribute [local irreducible] DW Bs Bt
set_option maxRecDepth 100000


structure SmallG (g:Edges):Prop where
 n1:g.nodes.length<=32
 n2:∀n∈g.nodes,n.size<=16
 e1:g.edges.length<=256
 e2:∀e∈g.edges,e.fr.size<=16/\e.lb.size<=16/\e.to.size<=16

def Up : Ann:=⟨[],[]⟩
def Hk : Ann:=⟨[5],[]⟩
theorem Yw (l:List ByteArray):Ae prog 102 [Bv l] (Bv l):=by
 match l with
 | [] =>
  refine aH [] ?_ ?_
  ·refine Ac [7] Up func102 call102 ntmps102 mxd (Au @Up.eq_1 results102) rfl (fun qJ B qX qQ=> ?_) (hd:=(by simp[mx,Bp]));simp only[Am,List.nil_append,Bv,List.map_cons];exact Av Ab Ab Ab
  ·refine Ac [7,5] Hk func102 call102 ntmps102 mxd (Au @Hk.eq_1 results102) rfl (fun qJ B qX qQ=> ?_) (hd:=(by simp[mx,Bp]));simp only[Am,List.nil_append,Bv,List.map_cons];exact Av Ab Ab Ab
 | s::l =>
  refine Ac [7,5] Hk func102 call102 ntmps102 mxd (Au @Hk.eq_1 results102) rfl (fun qJ B qX qQ=> ?_) (hd:=(by simp[mx,Bp]));have qP:(s::l).length*16<=150000000000000:=by have:=qJ.1;simp only[FC,aN0]at this;exact this.1
  clear qJ;have z2:(s::l).length<=9223372036854775807:=by omega
  simp only[List.length_cons]at qP z2;simp only[Am,List.nil_append,Bv,List.map_cons];exact Av Ab Ab (Au qP z2)
end Go.Proofs.Wy
end
