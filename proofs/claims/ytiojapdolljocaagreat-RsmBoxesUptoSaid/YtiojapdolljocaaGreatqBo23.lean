/- Parts of a proof, laid together: WJ3, RT, WBp, WB3, EnSc, WB4, WB5, WB6, WB7, BN0, WB8, WB9, WB10, WB11, WB12. -/
import Derived.Scope
import Derived.Test.YtiojapdolljocaaGreatqBo15
import Derived.Test.YtiojapdolljocaaGreatqBo16
import Derived.Test.YtiojapdolljocaaGreatqBo18
import Derived.Test.YtiojapdolljocaaGreatqBo20
import Derived.Test.YtiojapdolljocaaGreatqBo22
set_option linter.unusedSimpArgs false
set_option maxHeartbeats 8000000
set_option linter.unusedVariables false
set_option linter.unusedSectionVars false
section
namespace Go.Proofs.Wy
open Go Go.Dm Go.RowKit Go.Proofs Tryz
variable [DMode]
attribute [local irreducible] DW Bm Bq
set_option maxRecDepth 100000
def CX (sep:ByteArray) (T y:ByteArray):ByteArray:=T++sep++y
def Fe : List ByteArray->ByteArray->ByteArray
 | [],_=>⟨#[]⟩
 | x::r,sep=>r.foldl (CX sep) x
theorem Kv (sep T y:ByteArray):(CX sep T y).size=T.size+sep.size+y.size:=by simp[CX,aQ0]
theorem FL (sep:ByteArray) (hs:sep.size<=3):∀(r:List ByteArray) (x:ByteArray),(∀y∈r,y.size<=67108864)->(r.foldl (CX sep) x).size<=x.size+67108867*r.length/\x.size<=(r.foldl (CX sep) x).size
 | [],x,_=>by simp
 | y::r,x,h=>by
  obtain⟨h1,h2⟩:=FL sep hs r (CX sep x y) fun z hz=>h z (aF0 _ hz)
  have h3:=h y aH0;rw[Kv]at h1 h2;rw[cQ0,List.length_cons];omega
theorem PV {β α:Type} {f:β->α->β} {b:β} {l:List α} {k:Nat} {x:α} (hx:l[k]? =some x):(l.take (k+1)).foldl f b=f ((l.take k).foldl f b) x:=by
 obtain⟨h,rfl⟩:=aG0.1 hx;rw[List.take_succ_eq_append_getElem h,dC0];rfl
theorem KT (x:ByteArray):(⟨#[]⟩:ByteArray)++x=x:=by
 apply Hk
 simp[ByteArray.data_append]
theorem Bn_ : AP ⟨#[]⟩=[]:=rfl
def Hq : Ann:=⟨[57,61,70,72,74],[⟨18,[8],[],[]⟩]⟩
theorem sB (xs:List ByteArray) (sep:ByteArray) (hs:sep.size<=3) (hl:xs.length<=1572864) (hx:∀x∈xs,1<=x.size/\x.size<=67108864):Ae prog 202 [.sl 1 16 (xs.map AE),.str sep] (.str (Fe xs sep)):=by
 refine Ac [] Hq func202 call202 ntmps202 mxd (Ar @Hq.eq_1 results202) rfl (fun qJ B qX qQ=> ?_);clear qJ;simp only[Ak];have AO:(⟨#[]⟩:ByteArray).size=0:=rfl
 match xs,hl,hx with
 | [],hl,hx =>
  exact Aw Ab Ab (GE @AO @Fe.eq_1 @Fe.eq_2)
 | [x],hl,hx =>
  exact Aw Ab Ab (Ik @AO @Fe.eq_1 @Fe.eq_2 @AE.eq_1)
 | x0::x1::r,hl,hx =>
  obtain⟨xs,dY⟩:∃xs,xs=x0::x1::r:=⟨_,rfl⟩;have hJ:Fe (x0::x1::r) sep=(xs.drop 1).foldl (CX sep) x0:=by rw[dY];rfl
  have h0:xs[0]? =some x0:=by rw[dY];rfl
  have h2:2<=xs.length:=by rw[dY];simp
  obtain⟨J,hJJ⟩:∃J,J=Fe (x0::x1::r) sep:=⟨_,rfl⟩;rw[<-hJJ];rw[<-dY]at hl hx |-;rw[<-hJJ]at hJ;clear hJJ dY;have wX:0<xs.length:=by omega
  have vD:xs[0]'wX=x0:=(aG0.1 h0).2;have c0:¬(xs.length:Int)=0:=by omega
  have c1:¬(xs.length:Int)=1:=by omega
  have c0b:((xs.length:Int)==0)=false:=by simpa using c0
  have c1b:((xs.length:Int)==1)=false:=by simpa using c1
  have w1:IntKind.i64.wrap ((xs.length:Int)-1)=(xs.length:Int)-1:=wq
  obtain⟨m0,fU,nZ,qK⟩:∃m0:Int,0<=m0/\m0<=4718592/\(if 0<sep.size then m0=(sep.size:Int)*((xs.length:Int)-1)else m0=0):=by
   by_cases h:0<sep.size
   ·refine⟨(sep.size:Int)*((xs.length:Int)-1),?_,?_,by rw[if_pos h]⟩
    ·exact Int.mul_nonneg (by omega) (by omega)
    ·have:(sep.size:Int)*((xs.length:Int)-1)<=3*1572864:=Int.mul_le_mul (by omega) (by omega) (by omega) (by omega);omega
   ·exact⟨0,by omega,by omega,by rw[if_neg h]⟩
  have hys:(xs.drop 1).length=xs.length-1:=by rw[cB0]
  have hyx:∀y∈xs.drop 1,y.size<=67108864:=fun y hy=>(hx y (List.mem_of_mem_drop hy)).2
  have t2:List.take (xs.length-1) (xs.map AE).tail=(xs.drop 1).map AE:=by rw[<-List.drop_one,<-List.map_drop];exact cE0 (by simp)
  have hx0:=hx x0 (by rw[<-vD];exact bT0 wX);have wK:=Cv ⟨#[]⟩ x0 (by rw[AO];omega);rw[KT,Bn_]at wK;obtain⟨ys,hysd⟩:∃ys,ys=xs.drop 1:=⟨_,rfl⟩;rw[<-hysd]at hJ hys hyx t2;clear hysd;have gI:∀n:Nat,(n:Int)<=9223372036854775807->IntKind.i64.wrap (n:Int)=n:=fun n h=>Ai (by omega) h
  by_cases mV:0<sep.size
  ·rw[if_pos mV]at qK;have w2:IntKind.i64.wrap ((sep.size:Int)*((xs.length:Int)-1))=m0:=by rw[<-qK];exact wq
   have w3:IntKind.i64.wrap m0=m0:=wq
   have zT:¬IntKind.i64.wrap ((9223372036854775807:Int).tdiv ((xs.length:Int)-1))<=(sep.size:Int):=by
    rw[Int.tdiv_eq_ediv_of_nonneg (by omega)];have h4:(4:Int)<=9223372036854775807/((xs.length:Int)-1):=Int.le_ediv_of_mul_le (by omega) (by omega);have h5:(9223372036854775807:Int)/((xs.length:Int)-1)<=9223372036854775807:=Int.ediv_le_self _ (by omega);rw[Ai (by omega) h5];omega
   have hnz:¬(xs.length:Int)-1=0:=by omega
   have hsi:(0:Int)<(sep.size:Int):=by omega
   (refine AX Ab Ab (Ey_ @AO c0 c1 c0b c1b w1 w2 w3 zT hnz mV hsi) ?_;intros;refine Am ?_)
   refine Al (X:={p:Nat×Nat//p.1<=xs.length/\p.2<=4718592+67108864*p.1/\(0<p.1->1<=p.2)}) (fun p=>⟨[(0,.sl 1 16 (xs.map AE)),(1,.str sep),(5,.int .i64 p.1.2),(39,.sl 1 16 (xs.map AE)),(40,.int .i64 xs.length),(41,.int .i64 p.1.1)],[]⟩) (fun p=>xs.length-p.1.1) ⟨(0,m0.toNat),by simp only;refine⟨by omega,by omega,by omega⟩⟩ (Sub.lit (by simp;try omega)) ?_;rintro⟨⟨k,m⟩,hk,hmb,nZ⟩;simp only at hk hmb nZ |-
   by_cases qV:k<xs.length
   ·obtain⟨x,hxk,hxk',vN⟩:=Ax qV;obtain⟨y1,y2⟩:=hx x vN;have q1:IntKind.i64.wrap (9223372036854775807-(m:Int))=9223372036854775807-(m:Int):=wq;have q2:¬(9223372036854775807-(m:Int)<(x.size:Int)):=by omega
    have q3:IntKind.i64.wrap ((m:Int)+(x.size:Int))=(m:Int)+(x.size:Int):=wq
    (refine AX Ab Ab (NA @AE.eq_1 qV hxk hxk' q1 q2 q3) ?_;intros;refine Am ?_)
    refine An.mk ⟨(k+1,m+x.size),show k+1<=xs.length/\m+x.size<=4718592+67108864*(k+1)/\(0<k+1->1<=m+x.size) from ⟨by omega,by omega,by omega⟩⟩ (Sub.lit (by simp)) (by simp;omega)
    skip
   ·have qZ:k=xs.length:=by omega
    subst qZ;have hg:=IS m (nZ (by omega)) (by omega)
    (repeat (first | (refine Na (bs:=32) (k:=2) (z:=[.nilp,.nilsl]) (by simp[qX]) (by simp) (by rfl) rfl (by decide) (fun _ _=> ?_);simp[qX,AE,h0,vD,wX,t2,AO]) | refine AI fun K hK=> ?_ | (refine BS Hq mxd (by kernel_rfl) ?_;simp[Hq,qX,AE,h0,vD,wX,t2,AO];try simp (disch:=omega) only[Ai]) | refine Ao ?_ | (refine Bg ?_ ?_ ?_;(· (simp[qX,AE,h0,vD,wX,t2,AO];done));(try (rotate_left;(· (intro hc;(try simp[qX,AE,h0,vD,wX,t2,AO]at hc);done))))) | (refine AL ?_;simp[results202,qX,AE,h0,vD,wX,t2,AO]) | ((first | refine Az ?_ | refine Ay ?_);simp[qX,AE,h0,vD,wX,t2,AO]) | (intro hc;(try simp[qX,AE,h0,vD,wX,t2,AO]at hc);(try (exfalso;omega))) | (refine AM [(8,0)] [(50,1)] (hg) ?_ ?_;(· (simp[qX,AE,h0,vD,wX,t2,AO];done));(intro _;try simp[qX,AE,h0,vD,wX,t2,AO])) | (refine AM [(8,0),(50,1)] [] (wK) ?_ ?_;(· (simp[qX,AE,h0,vD,wX,t2,AO];done));(intro _;try simp[qX,AE,h0,vD,wX,t2,AO])) | (refine⟨?_,?_⟩; · omega) | omega | apply_assumption -exfalso -symm | (exfalso;omega)))
    refine Al (X:={k:Nat//k<=ys.length}) (fun k=>⟨[(1,.str sep),(8,.rx 8 1 2 0 0),(63,.sl 1 16 (ys.map AE)),(64,.int .i64 ys.length),(65,.int .i64 k.1)],[⟨8,1,.row 232 2 32 [[.rx 8 1 2 0 0,.osl 50 1]]⟩,⟨50,1,.row 5 1 1 (AP ((ys.take k.1).foldl (CX sep) x0))⟩]⟩) (fun k=>ys.length-k.1) ⟨0,by omega⟩ (Sub.lit (by simp[t2,hys])) ?_;rintro⟨k,hk⟩;simp only
    by_cases qV:k<ys.length
    ·obtain⟨y,hy,zM,dK⟩:=Ax qV;obtain⟨j1,j2⟩:=FL sep hs (ys.take k) x0 fun z hz=>hyx z (dI0 hz)
     rw[bD0]at j1;have bN:=PV (f:=CX sep) (b:=x0) hy;have hy9:=hyx y dK;obtain⟨T,hT⟩:∃T,T=(ys.take k).foldl (CX sep) x0:=⟨_,rfl⟩;rw[<-hT]at j1 j2 bN |-;have e1:=Cv T sep (by omega);have e2:=Cv (T++sep) y (by rw[aQ0];omega);rw[show T++sep++y=CX sep T y from rfl,<-bN]at e2
     (refine AX Ab (Ar (Ji [(8,0),(50,1)] [] e1) (Ji [(8,0),(50,1)] [] e2)) (Ik @AE.eq_1 qV hy zM) ?_;intros;refine Am ?_)
     refine An.mk ⟨k+1,by omega⟩ (Sub.lit (by simp)) (by simp;omega)
     skip
    ·have qZ:k=ys.length:=by omega
     subst qZ;rw[bC0,<-hJ];obtain⟨j1,j2⟩:=FL sep hs ys x0 hyx;rw[<-hJ]at j1 j2;have e1:=HS J (by omega);exact Aw Ab (AJ (Ji [(8,0),(50,1)] [] e1)) Ab
  ·rw[if_neg mV]at qK
   (refine AX Ab Ab (NA @AO c0 c1 c0b c1b w1 mV) ?_;intros;refine Am ?_)
   refine Al (X:={p:Nat×Nat//p.1<=xs.length/\p.2<=4718592+67108864*p.1/\(0<p.1->1<=p.2)}) (fun p=>⟨[(0,.sl 1 16 (xs.map AE)),(1,.str sep),(5,.int .i64 p.1.2),(39,.sl 1 16 (xs.map AE)),(40,.int .i64 xs.length),(41,.int .i64 p.1.1)],[]⟩) (fun p=>xs.length-p.1.1) ⟨(0,m0.toNat),by simp only;refine⟨by omega,by omega,by omega⟩⟩ (Sub.lit (by simp;try omega)) ?_;rintro⟨⟨k,m⟩,hk,hmb,nZ⟩;simp only at hk hmb nZ |-
   by_cases qV:k<xs.length
   ·obtain⟨x,hxk,hxk',vN⟩:=Ax qV;obtain⟨y1,y2⟩:=hx x vN;have q1:IntKind.i64.wrap (9223372036854775807-(m:Int))=9223372036854775807-(m:Int):=wq;have q2:¬(9223372036854775807-(m:Int)<(x.size:Int)):=by omega
    have q3:IntKind.i64.wrap ((m:Int)+(x.size:Int))=(m:Int)+(x.size:Int):=wq
    (refine AX Ab Ab (NA @AE.eq_1 qV hxk hxk' q1 q2 q3) ?_;intros;refine Am ?_)
    refine An.mk ⟨(k+1,m+x.size),show k+1<=xs.length/\m+x.size<=4718592+67108864*(k+1)/\(0<k+1->1<=m+x.size) from ⟨by omega,by omega,by omega⟩⟩ (Sub.lit (by simp)) (by simp;omega)
    skip
   ·have qZ:k=xs.length:=by omega
    subst qZ;have hg:=IS m (nZ (by omega)) (by omega)
    (repeat (first | (refine Na (bs:=32) (k:=2) (z:=[.nilp,.nilsl]) (by simp[qX]) (by simp) (by rfl) rfl (by decide) (fun _ _=> ?_);simp[qX,AE,h0,vD,wX,t2,AO]) | refine AI fun K hK=> ?_ | (refine BS Hq mxd (by kernel_rfl) ?_;simp[Hq,qX,AE,h0,vD,wX,t2,AO];try simp (disch:=omega) only[Ai]) | refine Ao ?_ | (refine Bg ?_ ?_ ?_;(· (simp[qX,AE,h0,vD,wX,t2,AO];done));(try (rotate_left;(· (intro hc;(try simp[qX,AE,h0,vD,wX,t2,AO]at hc);done))))) | (refine AL ?_;simp[results202,qX,AE,h0,vD,wX,t2,AO]) | ((first | refine Az ?_ | refine Ay ?_);simp[qX,AE,h0,vD,wX,t2,AO]) | (intro hc;(try simp[qX,AE,h0,vD,wX,t2,AO]at hc);(try (exfalso;omega))) | (refine AM [(8,0)] [(50,1)] (hg) ?_ ?_;(· (simp[qX,AE,h0,vD,wX,t2,AO];done));(intro _;try simp[qX,AE,h0,vD,wX,t2,AO])) | (refine AM [(8,0),(50,1)] [] (wK) ?_ ?_;(· (simp[qX,AE,h0,vD,wX,t2,AO];done));(intro _;try simp[qX,AE,h0,vD,wX,t2,AO])) | (refine⟨?_,?_⟩; · omega) | omega | apply_assumption -exfalso -symm | (exfalso;omega)))
    refine Al (X:={k:Nat//k<=ys.length}) (fun k=>⟨[(1,.str sep),(8,.rx 8 1 2 0 0),(63,.sl 1 16 (ys.map AE)),(64,.int .i64 ys.length),(65,.int .i64 k.1)],[⟨8,1,.row 232 2 32 [[.rx 8 1 2 0 0,.osl 50 1]]⟩,⟨50,1,.row 5 1 1 (AP ((ys.take k.1).foldl (CX sep) x0))⟩]⟩) (fun k=>ys.length-k.1) ⟨0,by omega⟩ (Sub.lit (by simp[t2,hys])) ?_;rintro⟨k,hk⟩;simp only
    by_cases qV:k<ys.length
    ·obtain⟨y,hy,zM,dK⟩:=Ax qV;obtain⟨j1,j2⟩:=FL sep hs (ys.take k) x0 fun z hz=>hyx z (dI0 hz)
     rw[bD0]at j1;have bN:=PV (f:=CX sep) (b:=x0) hy;have hy9:=hyx y dK;obtain⟨T,hT⟩:∃T,T=(ys.take k).foldl (CX sep) x0:=⟨_,rfl⟩;rw[<-hT]at j1 j2 bN |-;have e1:=Cv T sep (by omega);have e2:=Cv (T++sep) y (by rw[aQ0];omega);rw[show T++sep++y=CX sep T y from rfl,<-bN]at e2
     (refine AX Ab (Ar (Ji [(8,0),(50,1)] [] e1) (Ji [(8,0),(50,1)] [] e2)) (Ik @AE.eq_1 qV hy zM) ?_;intros;refine Am ?_)
     refine An.mk ⟨k+1,by omega⟩ (Sub.lit (by simp)) (by simp;omega)
     skip
    ·have qZ:k=ys.length:=by omega
     subst qZ;rw[bC0,<-hJ];obtain⟨j1,j2⟩:=FL sep hs ys x0 hyx;rw[<-hJ]at j1 j2;have e1:=HS J (by omega);exact Aw Ab (AJ (Ji [(8,0),(50,1)] [] e1)) Ab
end Go.Proofs.Wy
end
section
namespace Go.Proofs.Wy
open Go Go.Dm Tryz
variable [DMode]
def YQ (k:Int):ByteArray:=if k=6 then ⟨#[42]⟩else if k=7 then ⟨#[43]⟩else if k=8 then ⟨#[63]⟩else ⟨#[]⟩
def LN (k:Int):ByteArray:=if k=5 then ⟨#[32,124,32]⟩else if k=4 then ⟨#[32]⟩else ⟨#[]⟩
def xO (pk k:Int):Bool:=decide (k=5)||(decide (k=4)&& !decide (pk=5))
def IC (pk k:Int) (s:ByteArray):ByteArray:=if xO pk k then ⟨#[40]⟩++s++⟨#[41]⟩else s
mutual
def CH : RT->ByteArray
 | .mk x ks=>if x.k=1 then ⟨#[37]⟩else if x.k=2\/x.k=3 then x.s else Fe (Db x.k ks) (LN x.k)++YQ x.k
def Db (pk:Int):List RT->List ByteArray
 | []=>[]
 | t::ts=>IC pk t.x.k (CH t)::Db pk ts
end
theorem Oa (x:Nd) (ks:List RT):CH (.mk x ks)=if x.k=1 then ⟨#[37]⟩else if x.k=2\/x.k=3 then x.s else Fe (Db x.k ks) (LN x.k)++YQ x.k:=by rw[CH]
theorem Fq (pk:Int) (t:RT) (ts:List RT):Db pk (t::ts)=IC pk t.x.k (CH t)::Db pk ts:=by rw[Db]
theorem KN (pk:Int):Db pk []=[]:=by rw[Db]
theorem De (pk:Int):∀ts:List RT,Db pk ts=ts.map fun t=>IC pk t.x.k (CH t)
 | []=>KN pk
 | t::ts=>by rw[Fq,De pk ts];rfl
theorem YP (a:UInt8):(⟨#[a]⟩:ByteArray).size=1:=rfl
theorem Hl (k:Int):(LN k).size<=3:=by unfold LN;split<;>(try split)<;>decide
theorem Vm (k:Int):(YQ k).size<=1:=by
 unfold YQ
 repeat' split
 all_goals decide
theorem Jn (pk k:Int) (s:ByteArray):s.size<=(IC pk k s).size/\(IC pk k s).size<=s.size+2:=by
 unfold IC
 split
 ·rw[aQ0,aQ0,YP,YP];omega
 ·omega
theorem Ku (sep:ByteArray) (hs:sep.size<=3):∀(r:List ByteArray) (x:ByteArray),(r.foldl (CX sep) x).size<=x.size+(r.map fun y=>y.size+3).sum/\x.size<=(r.foldl (CX sep) x).size
 | [],x=>by simp
 | y::r,x=>by
  obtain⟨h1,h2⟩:=Ku sep hs r (CX sep x y);rw[Kv]at h1 h2;rw[cQ0,List.map_cons,cW0];omega
theorem HI (xs:List ByteArray) (sep:ByteArray) (hs:sep.size<=3):(Fe xs sep).size<=(xs.map fun y=>y.size+3).sum:=by
 cases xs with
 | nil=>simp[Fe];decide
 | cons x r =>
  have:=(Ku sep hs r x).1
  show (r.foldl (CX sep) x).size<=_
  rw[List.map_cons,cW0];omega
theorem Sm {x:Nd} (h:DA x=true) (hk:x.k=2\/x.k=3):1<=x.s.size:=by
 have hn:∀s,BK s=true->1<=s.size:=fun s hs=>by unfold BK at hs;simp only[aN0,decide_eq_true_eq]at hs;exact hs.1.1
 unfold DA at h
 rcases hk with hk | hk
 ·rw[if_neg (by omega),if_pos hk]at h;simp only[aN0]at h;exact hn _ h.2.1
 ·rw[if_neg (by omega),if_neg (by omega),if_pos hk]at h;simp only[aN0]at h;exact hn _ h.2.1
theorem MC {x:Nd} (h:DA x=true) (h1:¬x.k=1) (h2:¬(x.k=2\/x.k=3)):1<=x.n:=by
 unfold DA at h;rw[if_neg h1,if_neg (fun e=>h2 (.inl e)),if_neg (fun e=>h2 (.inr e))]at h
 repeat' split at h
 all_goals simp only[aN0,decide_eq_true_eq,bH0]at h
 all_goals omega
mutual
theorem GI : ∀(t:RT),EZ t=true->1<=(CH t).size/\(CH t).size+5<=24*(flat t).length
 | .mk x ks,h=>by
  obtain⟨h1,h2,h3⟩:=Cx h;rw[Oa,AR,List.length_cons]
  split
  ·rw[YP];omega
  ·rename_i k1
   split
   ·rename_i k2;have:=Sm h1 k2;have:=MB h1;omega
   ·rename_i k2;have hn:=MC h1 k1 k2;obtain⟨s1,s2⟩:=Jg x.k ks h3;have hj:=HI (Db x.k ks) (LN x.k) (Hl _);have hg:=Vm x.k;rw[aQ0];refine⟨?_,by omega⟩
    cases ks with
    | nil=>simp at h2;omega
    | cons t ts =>
     have:=s2 (IC x.k t.x.k (CH t)) (by rw[Fq];exact aH0);have h4:=(Ku (LN x.k) (Hl _) (Db x.k ts) (IC x.k t.x.k (CH t))).2;rw[Fq]
     show 1<=((Db x.k ts).foldl (CX (LN x.k)) (IC x.k t.x.k (CH t))).size+_
     omega
theorem Jg : ∀(pk:Int) (ts:List RT),Fs ts=true->((Db pk ts).map fun y=>y.size+3).sum<=24*(Ah ts).length/\∀y∈Db pk ts,1<=y.size
 | pk,[],_=>by simp[KN]
 | pk,t::ts,h=>by
  obtain⟨h1,h2⟩:=Ck h;obtain⟨a1,a2⟩:=GI t h1;obtain⟨b1,b2⟩:=Jg pk ts h2;obtain⟨c1,c2⟩:=Jn pk t.x.k (CH t);rw[Fq,Aq,List.map_cons,cW0,aB0];refine⟨by omega,fun y hy=> ?_⟩
  rcases aJ0.1 hy with rfl | hy
  ·omega
  ·exact b2 y hy
end
abbrev Str (l:List ByteArray):Prop:=l.Pairwise fun a b=>CE a b=true
theorem OO : ∀{a b:List ByteArray},Str a->Str b->(∀x,x∈a↔x∈b)->a=b
 | [],[],_,_,_=>rfl
 | [],y::b,_,_,h=>by have:=(h y).2 aH0;simp at this
 | x::a,[],_,_,h=>by have:=(h x).1 aH0;simp at this
 | x::a,y::b,ha,hb,h=>by
  obtain⟨ha1,ha2⟩:=cM0.1 ha;obtain⟨qR,wM⟩:=cM0.1 hb
  have bY:x=y:=by
   rcases aJ0.1 ((h x).1 aH0)with h1 | h1
   ·exact h1
   ·rcases aJ0.1 ((h y).2 aH0)with h2 | h2
    ·exact h2.symm
    ·have:=OS (qR x h1);rw[ha1 y h2]at this;simp at this
  subst bY;rw[OO ha2 wM fun z=> ?_]
  constructor
  ·intro hz
   rcases aJ0.1 ((h z).1 (aF0 _ hz))with h1 | h1
   ·subst h1;have:=ha1 z hz;rw[Ew]at this;simp at this
   ·exact h1
  ·intro hz
   rcases aJ0.1 ((h z).2 (aF0 _ hz))with h1 | h1
   ·subst h1;have:=qR z hz;rw[Ew]at this;simp at this
   ·exact h1
theorem DJ_ : ∀a b:List UInt8,Op.bytesLess a b=true↔a<b
 | [],[]=>by simp[Op.bytesLess]
 | [],_::_=>by simp[Op.bytesLess]
 | _::_,[]=>by simp[Op.bytesLess]
 | x::a,y::b=>by
  rw[List.cons_lt_cons_iff];simp only[Op.bytesLess,cV0,aN0,decide_eq_true_eq,beq_iff_eq,DJ_ a b]
theorem RS (l:List ByteArray) (x:ByteArray):x∈Ge l↔x∈l:=by
 unfold Ge;simp only[aR0,(dU0 _ _).mem_iff]
 constructor
 ·rintro⟨y,⟨z,hz,rfl⟩,rfl⟩;exact hz
 ·intro h;exact⟨_,⟨x,h,rfl⟩,rfl⟩
theorem KU (l:List ByteArray):(Ge l).Pairwise fun a b=>CE b a=false:=by
 unfold Ge;rw[cX0]
 have h:=List.pairwise_mergeSort (le:=fun x y:List UInt8=>decide (x<=y)) (by
  intro a b c h1 h2;simp only[decide_eq_true_eq]at *
  exact List.le_trans h1 h2) (by
  intro a b;simp only[cV0,decide_eq_true_eq]
  exact List.le_total a b) (l.map fun s=>s.data.toList)
 refine h.imp ?_;intro a b hab;simp only[decide_eq_true_eq]at hab
 have:¬Op.bytesLess b a=true:=fun h=>by
  rw[DJ_]at h;exact(List.not_lt.2 hab) h
 simpa[CE]using this
def eqT (a b:ByteArray):Bool:=a==b
theorem Qu : ∀{l:List ByteArray} {p:ByteArray},(p::l).Pairwise (fun a b=>CE b a=false)->Str (Ct eqT p l)/\(∀x∈Ct eqT p l,CE p x=true)/\∀x,(x=p\/x∈Ct eqT p l)↔(x=p\/x∈l)
 | [],p,_=>⟨.nil,by simp[Ct],by simp[Ct]⟩
 | y::l,p,h=>by
  obtain⟨h1,h2⟩:=cM0.1 h;obtain⟨g1,g2,g3⟩:=Qu h2;unfold Ct
  by_cases hyp:y=p
  ·subst hyp;rw[if_pos (by simp[eqT])];refine⟨g1,g2,fun x=> ?_⟩;rw[g3 x];simp only[aJ0]
   constructor
   ·rintro (h | h)
    ·exact .inl h
    ·exact .inr (.inr h)
   ·rintro (h | h | h)
    ·exact .inl h
    ·exact .inl h
    ·exact .inr h
  ·rw[if_neg (by simp[eqT,hyp])]
   have hpy:CE p y=true:=by
    cases hc:CE p y
    ·exact absurd (Jj hc (h1 y aH0)).symm hyp
    ·rfl
   refine⟨cM0.2 ⟨g2,g1⟩,fun x hx=> ?_,fun x=> ?_⟩
   ·rcases aJ0.1 hx with rfl | hx
    ·exact hpy
    ·exact Iu hpy (g2 x hx)
   ·simp only[aJ0];rw[g3 x]
def Ep (l:List ByteArray):List ByteArray:=CA eqT (Ge l)
theorem GG (l:List ByteArray):Str (Ep l)/\∀x,x∈Ep l↔x∈l:=by
 unfold Ep;have h:=KU l;have hm:=RS l
 cases hs:Ge l with
 | nil =>
  rw[hs]at hm;exact⟨.nil,by simpa[CA]using hm⟩
 | cons p t =>
  rw[hs]at h hm;obtain⟨g1,g2,g3⟩:=Qu h;refine⟨cM0.2 ⟨g2,g1⟩,fun x=> ?_⟩;simp only[CA,aJ0];rw[g3 x,<-hm x];simp
theorem Gl {α:Type} (e:α->α->Bool):∀(l:List α) (p:α),(Ct e p l).length<=l.length
 | [],_=>by simp[Ct]
 | y::l,p=>by
  unfold Ct
  split
  ·have:=Gl e l y;simp;omega
  ·have:=Gl e l y;simp;omega
theorem GH (l:List ByteArray):(Ep l).length<=l.length:=by
 unfold Ep;have h:=pD l
 cases hs:Ge l with
 | nil=>simp[CA]
 | cons p t =>
  rw[hs]at h;have:=Gl eqT t p;simp only[CA,List.length_cons]at h |-;omega
theorem aM {l a:List ByteArray} (ha:Str a) (h:∀x,x∈a↔x∈l):a=Ep l:=by
 obtain⟨g1,g2⟩:=GG l;exact OO ha g1 fun x=>by rw[h x,g2 x]
end Go.Proofs.Wy
end
section
namespace Go.Proofs.Wy
open Go Go.Dm Tryz
variable [DMode]
attribute [local irreducible] DW Bm Bq
set_option maxRecDepth 100000

end Go.Proofs.Wy
end
section
namespace Go
section
variable {F : Fence} {n : Nat} {P : Program} {Q : Exit -> Act -> World -> Prop} {a : Act} {w : World}
end
end Go
namespace Go.Dm
variable [DMode]
def EC_ (Q:Exit->DS->Prop):Exit->DS->Prop
 | .goto _,_=>False
 | e,s=>Q e s
attribute [simp] EC_
end Go.Dm
end
section
namespace Go.Proofs.Wy
open Go Go.Dm Tryz
variable [DMode]
attribute [local irreducible] DW Bm Bq
set_option maxRecDepth 100000



def Dx (l:List ByteArray):List DVal:=l.map DVal.str
theorem Df (x:ByteArray) (l:List ByteArray):Dx (x::l)= .str x::Dx l:=rfl
theorem oZ (l:List ByteArray):(Dx l).length=l.length:=by simp[Dx]
theorem HG : ∀{l:List ByteArray} {s:ByteArray},¬s∈l->AU (Dx l) (.str s)=none
 | [],_,_=>rfl
 | x::l,s,h=>by
  have h1:(s==x)=false:=by simp;intro e;exact h (by simp[e])
  have h2:=HG (l:=l) (s:=s) fun hm=>h (aF0 _ hm)
  simp[Df,AU,BO,BY,SE,h1,h2]
theorem PA : ∀{l:List ByteArray} {s:ByteArray},s∈l->∃j,AU (Dx l) (.str s)=some j/\j<l.length
 | [],_,h=>by simp at h
 | x::l,s,h=>by
  by_cases h1:s=x
  ·subst h1;exact⟨0,by simp[Df,AU,BO,BY,SE],by simp⟩
  ·obtain⟨j,h2,h3⟩:=PA (l:=l) (s:=s) (by simpa[h1]using h);have h1b:(s==x)=false:=by simpa using h1
   exact⟨j+1,by simp[Df,AU,BO,BY,SE,h1b,h2],by simp;omega⟩
theorem eZ (l:List ByteArray):(Dx l).all (Cf prog 9)=true:=by
 induction l with
 | nil=>rfl
 | cons p l ih=>rw[Df,dA0,ih];simp
@[simp] theorem Fr_ (l:List ByteArray):AH (Dx l)=0:=by
 induction l with
 | nil=>rfl
 | cons a l ih=>rw[Df];simp[AH,mx,ih]
def DF_ (n:Nat):List DVal:=(List.range n).map fun i:Nat=>DVal.int .i64 ((i:Int)+1)
@[simp] theorem EJ_ (n:Nat):AH (DF_ n)=0:=by
 unfold DF_
 induction List.range n with
 | nil=>rfl
 | cons a l ih=>simp[AH,mx,ih]
end Go.Proofs.Wy
end
section
namespace Go.Proofs.Wy
open Go Go.Dm Tryz
variable [DMode]
def Ha (out:List ByteArray) (s:ByteArray):List ByteArray:=if s∈out then out else out++[s]
def Av (g:List Rul):List ByteArray:=(g.map (·.h)).foldl Ha []
theorem sL {out:List ByteArray} {s x:ByteArray}:x∈Ha out s↔x∈out\/x=s:=by
 unfold Ha
 split
 ·rename_i h;exact⟨.inl,fun hh=>by rcases hh with hh | rfl;exact hh;exact h⟩
 ·simp
theorem Sv : ∀(l out:List ByteArray) (x:ByteArray),x∈l.foldl Ha out↔x∈out\/x∈l
 | [],out,x=>by simp
 | s::l,out,x=>by rw[cQ0,Sv l,sL];simp[or_assoc]
theorem No : ∀(l out:List ByteArray),out.Nodup->(l.foldl Ha out).Nodup
 | [],out,h=>h
 | s::l,out,h=>by
  rw[cQ0];refine No l _ ?_;unfold Ha
  split
  ·exact h
  ·rename_i hs;exact bS0.2 ⟨h,by simp,by rintro a ha b hb rfl;simp at hb;subst hb;exact hs ha⟩
theorem Sw : ∀(l out:List ByteArray),(l.foldl Ha out).length<=out.length+l.length
 | [],out=>by simp
 | s::l,out=>by
  rw[cQ0];have:=Sw l (Ha out s);have:(Ha out s).length<=out.length+1:=by unfold Ha;split<;>simp
  simp;omega
theorem KA {g:List Rul} {x:ByteArray}:x∈Av g↔∃r∈g,r.h=x:=by
 unfold Av;rw[Sv];simp
theorem HJ (g:List Rul):(Av g).Nodup:=No _ _ (by simp)
theorem HK (g:List Rul):(Av g).length<=g.length:=by have:=Sw (g.map (·.h)) [];unfold Av;simpa using this
theorem Nn {g:List Rul} {i:Nat} {r:Rul} (h:g[i]? =some r):Av (g.take (i+1))=Ha (Av (g.take i)) r.h:=by
 unfold Av;rw[bP0,h,bF0,dC0];rfl
def Cg (k:Int) (l:List Nd):List ByteArray:=(l.filter fun x=>decide (x.k=k)).map (·.s)
def AK (k:Int) (g:List Rul):List ByteArray:=g.flatMap fun r=>Cg k r.b
theorem Ng {k:Int} {l:List Nd} {i:Nat} {x:Nd} (h:l[i]? =some x):Cg k (l.take (i+1))=Cg k (l.take i)++(if x.k=k then [x.s]else []):=by
 unfold Cg;rw[bP0,h,dH0,bF0]
 by_cases hx:x.k=k<;>simp[hx]
theorem Nh {k:Int} {g:List Rul} {i:Nat} {r:Rul} (h:g[i]? =some r):AK k (g.take (i+1))=AK k (g.take i)++Cg k r.b:=by
 unfold AK;rw[bP0,h,List.flatMap_append];simp
theorem Zq (k:Int) (l:List Nd):(Cg k l).length<=l.length:=by
 unfold Cg;rw[aO0];exact cI0 _ _
def Lu (l:List ByteArray) (s:ByteArray):Nat:=l.findIdx fun x=>s==x
theorem Kw {l:List ByteArray} {s:ByteArray} (h:s∈l):Lu l s<l.length:=List.findIdx_lt_length_of_exists ⟨s,h,by simp⟩
theorem PC : ∀{l:List ByteArray} {s:ByteArray},s∈l->AU (Dx l) (.str s)=some (Lu l s)
 | [],_,h=>by simp at h
 | x::l,s,h=>by
  unfold Lu;rw[List.findIdx_cons]
  by_cases h1:s=x
  ·subst h1;simp[Df,AU,BO,BY,SE]
  ·have h2:=PC (l:=l) (s:=s) (by simpa[h1]using h);have h1b:(s==x)=false:=by simpa using h1
   simp[Df,AU,BO,BY,SE,h1b,h2,Lu]
structure CM where
 K:List ByteArray
 V:List Int
def QC (m:CM) (s:ByteArray):CM:=if s∈m.K then ⟨m.K,m.V.set (Lu m.K s) (IntKind.i64.wrap (m.V.getD (Lu m.K s) 0+1))⟩else ⟨m.K++[s],m.V++[1]⟩
def NS (es:List ByteArray):CM:=es.foldl QC ⟨[],[]⟩
theorem tE (es:List ByteArray) (s:ByteArray):NS (es++[s])=QC (NS es) s:=by unfold NS;rw[dC0];rfl
structure CMok (m:CM) (es:List ByteArray):Prop where
 len:m.K.length=m.V.length
 mem:∀s,s∈m.K↔s∈es
 nd:m.K.Nodup
 le:m.K.length<=es.length
theorem CMok.step {m:CM} {es:List ByteArray} (h:CMok m es) (s:ByteArray):CMok (QC m s) (es++[s]):=by
 unfold QC
 split
 ·rename_i hs;refine⟨by simp[h.len],fun x=> ?_,h.nd,by have:=h.le;simp;omega⟩;rw[h.mem x,aI0];exact⟨.inl,fun hh=>by rcases hh with hh | hh;exact hh;simp at hh;subst hh;exact(h.mem x).1 hs⟩
 ·rename_i hs;refine⟨by simp[h.len],fun x=>by simp[h.mem x],?_,by have:=h.le;simp;omega⟩;exact bS0.2 ⟨h.nd,by simp,by rintro a ha b hb rfl;simp at hb;subst hb;exact hs ha⟩
theorem ZP (es:List ByteArray):CMok (NS es) es:=by
 have key:∀(l:List ByteArray) (m:CM) (es:List ByteArray),CMok m es->CMok (l.foldl QC m) (es++l):=by
  intro l
  induction l with
  | nil=>intro m es h;simpa using h
  | cons s l ih =>
   intro m es h;have:=ih (QC m s) (es++[s]) (h.step s);simpa using this
 have:=key es ⟨[],[]⟩ [] ⟨rfl,by simp,by simp,by simp⟩;simpa[NS]using this
def AC (g:List Rul):List ByteArray:=Ep (AK 3 g)
def CF (g:List Rul):List ByteArray:=(Ep (AK 2 g)).filter fun s=> !decide (s∈Av g)
theorem An_ {g:List Rul} {K:List ByteArray} (hn:K.Nodup) (hm:∀s,s∈K↔s∈AK 2 g/\¬s∈Av g):K.length=(CF g).length:=by
 refine List.Perm.length_eq ((List.perm_ext_iff_of_nodup hn ?_).2 fun s=> ?_)
 ·unfold CF;exact List.Pairwise.filter _ ((GG _).1.imp fun {a b} h e=>by subst e;rw[Ew]at h;simp at h)
 ·unfold CF;rw[hm s,cC0,(GG _).2];simp
abbrev GT := List (ByteArray×RT)
def AY (gt:GT):List Rul:=gt.map fun p=>⟨p.1,flat p.2⟩
def tU (gt:GT):Prop:=∀p∈gt,Dd 2 p.1=true/\EZ p.2=true
def Eu (g:List Rul):Bool:=g.all fun r=>Dd 2 r.h&&CT r.b
theorem Vb : ∀{g:List Rul},Eu g=true->∃gt,g=AY gt/\tU gt
 | [],_=>⟨[],rfl,by intro p hp;simp at hp⟩
 | r::g,h=>by
  unfold Eu at h;rw[dA0,aN0,aN0]at h;obtain⟨gt,rfl,hg⟩:=Vb (g:=g) h.2;obtain⟨t,ht,hb⟩:=Kh h.1.2;refine⟨(r.h,t)::gt,by cases r;simp only at hb;subst hb;rfl,fun p hp=> ?_⟩
  rcases aJ0.1 hp with rfl | hp
  ·exact⟨h.1.1,ht⟩
  ·exact hg p hp
theorem Wz {gt:GT} (h:tU gt):Eu (AY gt)=true:=by
 unfold Eu AY;rw[List.all_map,bB0];intro p hp;obtain⟨h1,h2⟩:=h p hp;simp[h1,Ev h2]
def BX (g:List Rul):Nat:=(g.map fun r=>EP r.b).sum
def Ff (gt:GT):Bool:=gt.any fun p=>decide (16<Ih p.2)
def HU (p:ByteArray×RT):ByteArray:=p.1++⟨#[32,61,32]⟩++CH p.2++⟨#[32,59,10]⟩
def BP (gt:GT):ByteArray:=gt.foldl (fun s p=>s++HU p) ⟨#[]⟩
theorem Fy {gt:GT} {i:Nat} {p:ByteArray×RT} (h:gt[i]? =some p):BP (gt.take (i+1))=BP (gt.take i)++HU p:=by
 unfold BP;rw[bP0,h,dC0];rfl
theorem JS (gt:GT) (i:Nat):(BP (gt.take i)).size<=(BP gt).size:=by
 have key:∀(l:GT) (s:ByteArray),s.size<=(l.foldl (fun s p=>s++HU p) s).size:=by
  intro l
  induction l with
  | nil=>intro s;simp
  | cons p l ih=>intro s;rw[cQ0];have:=ih (s++HU p);rw[aQ0]at this;omega
 unfold BP
 conv=>rhs;rw[<-List.take_append_drop i gt,dC0]
 exact key _ _
def LG (gt:GT):Int :=
 if 16<(Av (AY gt)).length+(CF (AY gt)).length then 181
 else if 16<(AC (AY gt)).length then 182
 else if 64<BX (AY gt)then 183
 else if Ff gt then 171
 else if 0<(CF (AY gt)).length then 184
 else if 2048<(BP gt).size then 174
 else 0
mutual
theorem Tg : ∀(t:RT),EZ t=true->(flat t).length<=(CH t).size
 | .mk x ks,h=>by
  obtain⟨h1,h2,h3⟩:=Cx h;rw[Oa,AR,List.length_cons]
  by_cases k1:x.k=1
  ·rw[if_pos k1]
   have:x.n=0:=by
    unfold DA at h1;rw[if_pos k1]at h1;simp only[aN0,decide_eq_true_eq]at h1;exact h1.2
   have zV:ks=[]:=bK0 (by omega);subst zV;rw[Ah];decide
  ·rw[if_neg k1]
   by_cases k2:x.k=2\/x.k=3
   ·rw[if_pos k2];have:=Sm h1 k2
    have hn:x.n=0:=by
     unfold DA at h1
     rcases k2 with k2 | k2
     ·rw[if_neg (by omega),if_pos k2]at h1;simp only[aN0,decide_eq_true_eq]at h1;exact h1.1
     ·rw[if_neg (by omega),if_neg (by omega),if_pos k2]at h1;simp only[aN0,decide_eq_true_eq]at h1;exact h1.1
    have zV:ks=[]:=bK0 (by omega);subst zV;rw[Ah];simp;omega
   ·rw[if_neg k2,aQ0];have hj:=aN x.k ks h3;have hn:=MC h1 k1 k2
    rcases MD h1 with k | k | k | k | k | k | k | k
    ·exact absurd k k1
    ·exact absurd (.inl k) k2
    ·exact absurd (.inr k) k2
    ·have hb:1<=(LN x.k).size:=by unfold LN;rw[k];decide
     have h5:2<=x.n:=by unfold DA at h1;simp[k]at h1;exact h1.2
     have:=Ud (LN x.k) (Db x.k ks) (by rw[De,aO0];omega);rw[De,aO0,<-De]at this;have h6:1*(ks.length-1)<=(LN x.k).size*(ks.length-1):=aY0 _ hb;omega
    ·have hb:1<=(LN x.k).size:=by unfold LN;rw[k];decide
     have h5:2<=x.n:=by unfold DA at h1;simp[k]at h1;exact h1.2
     have:=Ud (LN x.k) (Db x.k ks) (by rw[De,aO0];omega);rw[De,aO0,<-De]at this;have h6:1*(ks.length-1)<=(LN x.k).size*(ks.length-1):=aY0 _ hb;omega
    all_goals
     have hs:(YQ x.k).size=1:=by unfold YQ;rw[k];decide
     have:=Ud (LN x.k) (Db x.k ks) (by rw[De,aO0];omega);omega
theorem aN : ∀(pk:Int) (ts:List RT),Fs ts=true->(Ah ts).length<=((Db pk ts).map (·.size)).sum
 | pk,[],_=>by simp[Ah]
 | pk,t::ts,h=>by
  obtain⟨h1,h2⟩:=Ck h;have a:=Tg t h1;have b:=aN pk ts h2;have c:=(Jn pk t.x.k (CH t)).1;rw[Fq,Aq,List.map_cons,cW0,aB0];omega
theorem Ud (sep:ByteArray):∀(xs:List ByteArray),1<=xs.length->(xs.map (·.size)).sum+sep.size*(xs.length-1)<=(Fe xs sep).size
 | [],h=>by simp at h
 | x::r,_=>by
  have key:∀(r:List ByteArray) (x:ByteArray),x.size+(r.map (·.size)).sum+sep.size*r.length<=(r.foldl (CX sep) x).size:=by
   intro r
   induction r with
   | nil=>intro x;simp
   | cons y r ih =>
    intro x;have:=ih (CX sep x y);rw[Kv]at this;rw[cQ0,List.map_cons,cW0,List.length_cons,Nat.mul_add];omega
  have:=key r x
  show _<=(r.foldl (CX sep) x).size
  simp only[List.map_cons,cW0,List.length_cons,Nat.add_sub_cancel];omega
end
theorem Vq {gt:GT} {p:ByteArray×RT} (h:p∈gt):(CH p.2).size<=(BP gt).size:=by
 obtain⟨i,hi,rfl⟩:=bW0 h;have h1:=Fy (aD0 hi);have h2:=JS gt (i+1);rw[h1,aQ0]at h2;unfold HU at h2;simp only[aQ0]at h2;omega
end Go.Proofs.Wy
end
section
namespace Go.Proofs.Wy
open Go Go.Dm Tryz
variable [DMode]
attribute [local irreducible] DW Bm Bq
set_option maxRecDepth 100000


structure SmallG (g:Edges):Prop where
 n1:g.nodes.length<=32
 n2:∀n∈g.nodes,n.size<=16
 e1:g.edges.length<=256
 e2:∀e∈g.edges,e.fr.size<=16/\e.lb.size<=16/\e.to.size<=16

def SS : Ann:=⟨[],[]⟩
def Gp : Ann:=⟨[5],[]⟩
theorem Nw (l:List ByteArray):Ae prog 102 [Bu l] (Bu l):=by
 match l with
 | [] =>
  refine Yw [] ?_ ?_
  ·refine Ac [7] SS func102 call102 ntmps102 mxd (Ar @SS.eq_1 results102) rfl (fun qJ B qX qQ=> ?_) (hd:=(by simp[mx,Bo]));simp only[Ak,List.nil_append,Bu,List.map_cons];exact Aw Ab Ab Ab
  ·refine Ac [7,5] Gp func102 call102 ntmps102 mxd (Ar @Gp.eq_1 results102) rfl (fun qJ B qX qQ=> ?_) (hd:=(by simp[mx,Bo]));simp only[Ak,List.nil_append,Bu,List.map_cons];exact Aw Ab Ab Ab
 | s::l =>
  refine Ac [7,5] Gp func102 call102 ntmps102 mxd (Ar @Gp.eq_1 results102) rfl (fun qJ B qX qQ=> ?_) (hd:=(by simp[mx,Bo]));have qF:(s::l).length*16<=150000000000000:=by have:=qJ.1;simp only[EX,aO0]at this;exact this.1
  clear qJ;have z2:(s::l).length<=9223372036854775807:=by omega
  simp only[List.length_cons]at qF z2;simp only[Ak,List.nil_append,Bu,List.map_cons];exact Aw Ab Ab (Ar qF z2)
end Go.Proofs.Wy
end
