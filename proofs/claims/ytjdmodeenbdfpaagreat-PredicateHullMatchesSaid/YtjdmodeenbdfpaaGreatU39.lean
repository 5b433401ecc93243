/- Contracts of fractions, clouds and predicates, part 39; each lemma states its conditions. -/
import Derived.Test.YtjdmodeenbdfpaaGreatU38
set_option linter.unusedSimpArgs false
set_option linter.unusedVariables false
noncomputable section
namespace Go.Proofs.YtjdmodeenbdfpaaGreat
open Go Go.Ab List Tryz
variable(L:Lst)(run:av)(k:Nat)(fr:Ψ)(hp:Θ)(wr:Ω)
def rc:Option Rat→Ψ
 | none=>[.sc (.bool (bw 0)),aL (aJ (Int.natAbs 0)),.sc (.bool (bw 0)),aL (aJ (Int.natAbs 0))]
 | some x=>[.sc (.bool (bw x.num)),aL (aJ x.num.natAbs),.sc (.bool (bw x.den)),aL (aJ (x.den:Int).natAbs)]
theorem adF (u:Option Rat):rv u = .agg (rc u):=by cases u <;> rfl
def rz:Ψ:=[.sc (.bool false),.sc (.slice none 0 0),.sc (.bool false),.sc (.slice none 0 0)]
theorem SL (u:Option Rat):(rc u).length=4:=by cases u <;> rfl
theorem AW:Ec 4 rc where
 len:=SL
 okc:=fun u=>by cases u <;> rfl
 can:=fun u=>by
  have h:=rR u
  rw[adF,canon] at h
  simpa using h
 idf:=fun u=>by cases u <;> rfl
 sn:=fun hp d u=>by cases u <;> rfl
def rcs (x:Rat):Ψ:=rc (some x)
theorem dh:Ec 4 rcs where
 len:=fun x=>AW.len _
 okc:=fun x=>AW.okc _
 can:=fun x=>AW.can _
 idf:=fun x=>AW.idf _
 sn:=fun hp d x=>AW.sn hp d _
theorem jE (x:Rat):rv (some x) = .agg (rcs x):=rfl
def Rp (p:PV)(u:Option Rat):Prop:=p=rv u∨(u=none∧p = .agg rz)
def Rc (cs:Ψ)(u:Option Rat):Prop:=cs=rc u∨(u=none∧cs=rz)
theorem Rc.p {cs:Ψ}{u:Option Rat}(h:Rc cs u):Rp (.agg cs) u:=by
 rcases h with rfl | ⟨rfl,rfl⟩
 ·exact .inl (adF u).symm
 ·exact .inr ⟨rfl,rfl⟩
theorem Rc.len {cs:Ψ}{u:Option Rat}(h:Rc cs u):cs.length=4:=by
 rcases h with rfl | ⟨rfl,rfl⟩
 ·exact SL u
 ·rfl
theorem Rp.snap {p:PV}{u:Option Rat}(h:Rp p u)(hp:Θ)(d:Nat):Ab.snap hp (d+2) p=some (p,[]):=by
 rcases h with rfl | ⟨rfl,rfl⟩
 ·exact YV hp d u
 ·rfl
theorem Rp.canon {p:PV}{u:Option Rat}(h:Rp p u):Ab.canon p=rv u:=by
 rcases h with rfl | ⟨rfl,rfl⟩
 ·exact rR u
 ·rfl
theorem rS {L:Lst}{g:Nat}{f:Ψ→Option Ψ}(hs:base.shared g=false)(ho:bC L g=fun a=>f (aK a))(run:av)(dr:Bool)(hp:Θ)(args args' rs:Ψ)
  (h1:bu (snap hp bn) args=some (args,[])) (h2:aK args=args') (h3:f args'=some rs):bS (CC L) run dr hp g args=some (iL rs,hp,⟨[],[],false,false⟩):=by
 have h4:(CC L).orc g args=some rs:=by
  show bC L g args=_
  rw[ho];show f (aK args)=_;rw[h2,h3]
 by_cases h:rs.all eg=true
 ·exact lQ hs h1 h4 h
 ·exact eI hs h1 h4 (by simpa using h)
def eR (x:Bool)(X:List Rat):PV:=.imm X.length x (X.flatMap rcs)
def vR (X:List Rat):PV:=eR false X
theorem tm (x:Bool)(X:List Rat):canon (eR x X)=vR X:=dh.ada _ x X rfl
theorem CV:und TT 84=some (.slice 72):=by kernel_rfl
theorem bR:iG TT 72=some 64:=by kernel_rfl
theorem zRz:ef TT 72=some rz:=by kernel_rfl
theorem ZL:dm TT 84=some 1:=by kernel_rfl
theorem adp:ia TT 84=some false:=by kernel_rfl
theorem A1 (x:Bool)(X:List Rat):(eR x X).cells?=some [eR x X]:=rfl
theorem IW (id n i:Nat)(x:Bool)(hi:i<n):bc TT 84 (.own id 4 0 n x) (.sc (.int .i64 (i:Int)))=some (.ptr id (i*4)):=by
 simp only[bc,CV,bm,sR,hi,and_self,if_true,Nat.zero_add]
theorem adB (cs rest:Ψ)(h:cs.length=4):bF (cs++rest) 4=some cs:=by
 rw[dk (by simp;omega),← h,take_left]
theorem mz (x:Bool)(X:List Rat)(i:Nat)(hi:i<X.length):∃ r,bc TT 84 (eR x X) (.sc (.int .i64 (i:Int)))=some (.iptr r)∧bF r 4=some (rcs X[i]):=by
 refine⟨bz (X.flatMap rcs) (i*4),?_,?_⟩
 ·unfold eR
  simp only[bc,CV,bm,sR,hi,if_true]
 ·rw[mG dh.toEl X i hi,adB _ _ (dh.len _)]
theorem Am (A:Ψ)(m:Nat)(cs:Ψ)(h:cs.length=4)(i:Nat)(hi:A.length=i*4):b9 (A++rep (m+1) rz) (i*4) cs=some ((A++cs)++rep m rz):=by
 have:=oP A (rep (m+1) rz) cs (cs++rep m rz) 0 (nG rz cs (rep m rz) (by rw[h];rfl))
 rw[show A.length+0=i*4 by omega] at this
 rw[this,append_assoc]
theorem jV (X:List Rat):(X.flatMap rcs).length=X.length*4:=dh.length X
theorem JT:base.F.get 59=some f59:=by kernel_rfl
theorem RD:base.shared 59=false:=by kernel_rfl
def prC:Code:=f59.body.getD .skip
def prB:Code:=(az prC).getD .skip
def PF (fr:Ψ)(P:List ByteArray)(i:Nat):Prop:=fr.length=26∧nth fr 3 = .own 0 4 0 P.length true∧nth fr 9=pE P∧nth fr 10=iv P.length∧nth fr 11=iv i
theorem afd(P:List ByteArray)(h:PF fr P P.length) :
  ∃ fr',ae (CC L) run k prB ⟨fr,hp,wr⟩=some (.exit 0,⟨fr',hp,wr⟩)∧fr'.length=26∧nth fr' 3 = .own 0 4 0 P.length true:=by
 obtain⟨h0,h3,h9,h10,h11⟩:=h
 simp only[iv] at h10 h11
 simp[prB,prC,f59,az,ae,aH,aq,ar,aF,ag,ah,an,aj,aC,aG,FzZ,ba,aw,bg,aa,af,ab,h0,h3,h10,h11]
set_option maxHeartbeats 1000000 in
theorem TP(P:List ByteArray)(i m:Nat)(A:Ψ)(x:Rat)(hi:i<P.length)(h9':P.length≤1000)(hA:A.length=i*4)(g:aA L run 108 [.sc (.string P[i])] (.tup [rv (some x),.sc (.bool true)]))(h:PF fr P i) :
  ∃ fr' wr',ae (CC L) run k prB ⟨fr,[⟨.live,A++rep (m+1) rz⟩],wr⟩=some (.normal,⟨fr',[⟨.live,(A++rcs x)++rep m rz⟩],wr'⟩)∧PF fr' P (i+1):=by
 obtain⟨h0,h3,h9,h10,h11⟩:=h
 obtain⟨r,x1,x2⟩:=uv uPt P i hi
 have x3:=IW 0 P.length i true hi
 have ho:=Am A m (rcs x) (dh.len x) i hA
 have hw:=bE i (by omega)
 have hok:=dh.okc x
 have hlen:=dh.len x
 rw[jE] at g
 unfold aA at g
 generalize P[i]=s at *
 generalize rcs x=cs at *
 generalize A++rep (m+1) rz=Z at *
 simp only[iv] at h10 h11
 simp[PF,iv,prB,prC,f59,az,ae,aH,aq,ar,aF,ag,ah,aM,an,aj,aC,aG,FzZ,ba,aw,bg,au,partOf,aa,af,ab,bf,and_assoc,bp,h0,h3,h9,h10,h11,hi,x1,x2,x3,g,ho,hok,hlen,hw,aV,iJ,gN,sR,aX,cF,bp]
theorem KS (L:Lst)(run:av)(k:Nat)(X:List Rat)(h9:X.length≤1000)(g:∀ x ∈ X,aA L run 108 [.sc (.string (qb x))] (.tup [rv (some x),.sc (.bool true)])):∀ (n i:Nat) (fr:Ψ) (wr:Ω),i+n=X.length→PF fr (X.map qb) i →
  ∃ fr' wr',cg (ae (CC L) run k prB) (n+1) ⟨fr,[⟨.live,(X.take i).flatMap rcs++rep n rz⟩],wr⟩=some (.exit 0,⟨fr',[⟨.live,X.flatMap rcs⟩],wr'⟩)∧fr'.length=26∧nth fr' 3 = .own 0 4 0 X.length true
 | 0,i,fr,wr,hin,h=>by
  have e:i=(X.map qb).length:=by simpa using hin
  rw[e] at h
  obtain⟨fr',q1,q2,q3⟩:=afd L run k fr [⟨.live,(X.take i).flatMap rcs++rep 0 rz⟩] wr (X.map qb) h
  have e2:(X.take i).flatMap rcs++rep 0 rz=X.flatMap rcs:=by
   rw[take_of_length_le (by omega)];simp[rep]
  rw[e2] at q1 ⊢
  exact⟨fr',wr,br q1,q2,by rw[q3];simp⟩
 | n+1,i,fr,wr,hin,h=>by
  have hi:i<X.length:=by omega
  have hi':i<(X.map qb).length:=by simpa using hi
  have hg:=g X[i] (getElem_mem hi)
  obtain⟨fr1,wr1,q1,q2⟩:=TP L run k fr wr (X.map qb) i n ((X.take i).flatMap rcs) X[i] hi' (by simpa using h9) (by rw[jV,length_take,Nat.min_eq_left (by omega)]) (by rw[getElem_map];exact hg) h
  obtain⟨fr',wr',s1,s2⟩:=KS L run k X h9 g n (i+1) fr1 wr1 (by omega) q2
  refine⟨fr',wr',?_,s2⟩
  rw[bU q1]
  have e:(X.take i).flatMap rcs++rcs X[i]=(X.take (i+1)).flatMap rcs:=by
   rw[take_succ_eq_append_getElem hi,flatMap_append];simp
  rw[e]
  exact s1
def aaM:Code:=seq1 (seq1 (ai 2 prC))
theorem afb:ai 2 prC = .seq (.seq aaM (.block 0 (.loop prB))) (ai 3 prC):=rfl
theorem afc (L:Lst)(run:av)(k:Nat)(P:List ByteArray)(h9:P.length≤1000) :
  ∃ fr fr' wr,bh (CC L) run k 2 prC ⟨entry 26 [pE P],[],[]⟩=some ⟨fr,[⟨.live,rep P.length rz⟩],wr⟩∧ae (CC L) run k aaM ⟨fr,[⟨.live,rep P.length rz⟩],wr⟩=some (.normal,⟨fr',[⟨.live,rep P.length rz⟩],wr⟩)∧PF fr' P 0:=by
 obtain⟨e1,e2⟩:=cV 25 (pE P)
 generalize entry 26 [pE P]=fr0 at *
 have hm:P.length≤cW:=Nat.le_trans h9 (by decide)
 obtain⟨fr,wr,a1,a2,a3,a4⟩:∃ fr wr,bh (CC L) run k 2 prC ⟨fr0,[],[]⟩=some ⟨fr,[⟨.live,rep P.length rz⟩],wr⟩∧fr.length=26∧nth fr 0=pE P∧nth fr 3 = .own 0 4 0 P.length true:=by
  have hrz:rz.length=4:=rfl
  simp[prC,f59,bh,e1,e2,ae,aH,aq,ar,aF,ag,ah,an,aj,aC,aG,FzZ,au,bM,bm,aa,af,ab,bf,and_assoc,eF,uPt,CV,sR,bR,zRz,hm,hrz,bZ,bd]
 refine⟨fr,?_⟩
 simp only[a1]
 simp[PF,iv,aaM,seq1,ai,prC,f59,a2,a3,a4,ae,aH,aq,ar,aF,ag,ah,an,aj,aC,aG,FzZ,au,bM,aa,af,ab,bf,eF,uPt]
theorem aaL(p:PV)(h0:fr.length=26)(h3:nth fr 3=p):∃ st,ae (CC L) run k (ai 3 prC) ⟨fr,hp,wr⟩=some (.ret,st)∧st.hp=hp∧aY TT st.fr st.hp f59.results.toList=some [p]:=by
 simp[prC,ai,f59,h0,h3,ae,aH,aq,ar,aF,ag,ah,an,aj,aC,aG,FzZ,aa,ab,aY]
theorem Ky(id:Nat)(x:Bool)(X:List Rat)(h:aX hp id=some ⟨.live,X.flatMap rcs⟩):bu (snap hp bn) [.own id 4 0 X.length x]=some ([eR x X],[id]):=by
 have ht:bF (bz (X.flatMap rcs) 0) (X.length*4)=some (X.flatMap rcs):=by
  have:=ss dh.toEl X []
  rw[append_nil] at this
  rw[cD,drop_zero,this]
 have h1:Ab.snap hp (11+1) (.own id 4 0 X.length x)=some (eR x X,[id]):=by
  rw[Ab.snap]
  simp only[h]
  rw[if_neg (by simp),ht]
  simp only[dh.sns hp 10 X]
  rfl
 show bu (snap hp 12) _=_
 simp only[bu,h1]
 rfl
def LR1:Lst:=[(108,rrF),(55,tL),(56,qG),(87,ly),(106,nm),(49,wv),(110,VW)]
theorem XT:dt base.P LR1:=⟨vp,sG,oI,oJ,oH,pF,O6,trivial⟩
def RbL (k:Nat)(X:List Rat):Prop:=∀ x ∈ X,Rb k x
def qL (X:List Rat):PV:=pE (X.map qb)
theorem xf {X Y:List Rat}(h:qL X=qL Y):X=Y:=by
 have h1:=Ip h
 clear h
 induction X generalizing Y with
 | nil=>cases Y with
  | nil=>rfl
  | cons b Y=>simp at h1
 | cons a X ih=>cases Y with
  | nil=>simp at h1
  | cons b Y =>
   simp only[map_cons,List.cons.injEq] at h1
   rw[pL h1.1,ih h1.2]
def BR:Ψ→Option Ψ:=ctr (fun X:List Rat=>[qL X]) (fun X=>RbL 1000 X∧X.length≤1000) fun X=>[eR true X]
theorem xh:Ab.Spec base.P 59 BR:=Ab.Spec.bL (C:=CC LR1) (cP XT) fun args rs h=>by
 obtain⟨X,⟨hb,h9⟩,rfl,rfl⟩:=cX h
 have hX:(X.map qb).length=X.length:=length_map _
 obtain⟨fr,fr1,wr,a1,a2,a3⟩:=afc LR1 (runK (CC LR1) (X.length+1)) (X.length+1) (X.map qb) (by omega)
 obtain⟨fr2,wr2,b1,b2,b3⟩:=KS LR1 (runK (CC LR1) (X.length+1)) (X.length+1) X h9 (fun x hx=>ajF rfl _ (hb x hx) (by omega)) X.length 0 fr1 wr (by omega) a3
 rw[hX] at a1 a2
 have hl:ae (CC LR1) (runK (CC LR1) (X.length+1)) (X.length+1) (.seq aaM (.block 0 (.loop prB))) ⟨fr,[⟨.live,rep X.length rz⟩],wr⟩=some (.normal,⟨fr2,[⟨.live,X.flatMap rcs⟩],wr2⟩):=by
  rw[ao a2];exact bD b1
 obtain⟨st,c1,c2,c3⟩:=aaL LR1 (runK (CC LR1) (X.length+1)) (X.length+1) fr2 [⟨.live,X.flatMap rcs⟩] wr2 _ b2 b3
 have hx:ae (CC LR1) (runK (CC LR1) (X.length+1)) (X.length+1) prC ⟨entry 26 [pE (X.map qb)],[],[]⟩=some (.ret,st):=by
  rw[aU 2 a1,afb,ao hl,c1]
 exact⟨_,_,_,_,[eR true X],[0],aZ JT rfl hx c3,by rw[c2];exact Ky _ 0 true X rfl,Wk.refl rfl,trivial⟩
theorem Ct {L:Lst}(hL:bC L 59=fun a=>BR (aK a))(run:av)(X:List Rat)(hb:RbL 1000 X)(h9:X.length≤1000):aA L run 59 [qL X] (eR true X) :=
 gi RD (e:=fun X=>[qL X]) (f:=fun X=>[eR true X]) hL (fun x y _ _ h=>by rw[xf (X:=x) (Y:=y) (by simpa using h)]) run X ⟨hb,h9⟩ (fun _=>rfl) (by simp only[aK,qL,yq])
theorem al1(z:Ψ):aX (bd hp z) hp.length=some ⟨.live,z⟩:=by rw[bP,if_pos rfl]
theorem al2(z:Ψ)(b:Blk):aX (cF (bd hp z) hp.length b) hp.length=some b:=by rw[cN (al1 hp z),if_pos rfl]
theorem al3(z:Ψ)(b:Blk)(i:Nat)(h:i<hp.length):aX (cF (bd hp z) hp.length b) i=aX hp i:=by
 rw[cN (al1 hp z),if_neg (by omega),bP,if_neg (by omega)]
theorem al4(z:Ψ)(b:Blk):(cF (bd hp z) hp.length b).length=hp.length+1:=by rw[bQ];simp[bd]
theorem qU (z cs:Ψ)(h:z.length=cs.length):b9 z 0 cs=some cs:=by
 have:=nG z cs [] h
 simpa using this
theorem lp (cs:Ψ)(h:cs.length=4):bF cs 4=some cs:=by have:=adB cs [] h;simpa using this
theorem PM:base.F.get 60=some f60:=by kernel_rfl
theorem Y2:base.shared 60=false:=by kernel_rfl
def psC:Code:=f60.body.getD .skip
def psB:Code:=(az psC).getD .skip
def JC (fr:Ψ)(X Y:List Rat)(i:Nat):Prop:=fr.length=29∧nth fr 1=vR Y∧nth fr 5 = .own 0 4 0 X.length true∧nth fr 11=vR X∧nth fr 12=iv X.length∧nth fr 13=iv i
theorem afa(X Y:List Rat)(h:JC fr X Y X.length) :
  ∃ fr',ae (CC L) run k psB ⟨fr,hp,wr⟩=some (.exit 0,⟨fr',hp,wr⟩)∧fr'.length=29∧nth fr' 5 = .own 0 4 0 X.length true:=by
 obtain⟨h0,h1,h5,h11,h12,h13⟩:=h
 simp only[iv] at h12 h13
 simp[psB,psC,f60,az,ae,aH,aq,ar,aF,ag,ah,an,aj,aC,aG,FzZ,ba,aw,bg,aa,af,ab,h0,h5,h12,h13]
theorem aaJ(X Y:List Rat)(i m:Nat)(A:Ψ)(hi:i<X.length)(hy:i<Y.length)(h9':X.length≤1000)(hA:A.length=i*4)(g:aA L run 55 [rv (some X[i]),rv (some Y[i])] (rv (some (X[i] - Y[i]))))(h:JC fr X Y i)(hb:aX hp 0=some ⟨.live,A++rep (m+1) rz⟩)(hn:0<hp.length) :
  ∃ fr' hp' wr',ae (CC L) run k psB ⟨fr,hp,wr⟩=some (.normal,⟨fr',hp',wr'⟩)∧JC fr' X Y (i+1)∧aX hp' 0=some ⟨.live,(A++rcs (X[i] - Y[i]))++rep m rz⟩∧0<hp'.length:=by
 obtain⟨h0,h1,h5,h11,h12,h13⟩:=h
 obtain⟨r,x1,x2⟩:=mz false X i hi
 obtain⟨r',y1,y2⟩:=mz false Y i hy
 have x3:=IW 0 X.length i true hi
 have ho:=Am A m (rcs (X[i] - Y[i])) (dh.len _) i hA
 have hw:=bE i (by omega)
 have hx:=al1 hp rz
 have hx1:=qU rz (rcs X[i]) (by rw[dh.len];rfl)
 have hx2:=al2 hp rz ⟨.live,rcs X[i]⟩
 have hx3:=(al3 hp rz ⟨.live,rcs X[i]⟩ 0 hn).trans hb
 have hx4:=lp (rcs X[i]) (dh.len _)
 have hx5:aX (cF (cF (bd hp rz) hp.length ⟨.live,rcs X[i]⟩) 0 ⟨.live,(A++rcs (X[i] - Y[i]))++rep m rz⟩) 0=some ⟨.live,(A++rcs (X[i] - Y[i]))++rep m rz⟩:=by rw[cN hx3,if_pos rfl]
 have hx6:0<(cF (cF (bd hp rz) hp.length ⟨.live,rcs X[i]⟩) 0 ⟨.live,(A++rcs (X[i] - Y[i]))++rep m rz⟩).length:=by rw[bQ,al4];omega
 have hokx:=dh.okc X[i]
 have hlx:=dh.len X[i]
 have hokd:=dh.okc (X[i] - Y[i])
 have hld:=dh.len (X[i] - Y[i])
 have hn0:hp.length≠0:=by omega
 have hn1:(0=hp.length)=False:=by simp;omega
 rw[jE,jE,jE] at g
 unfold aA at g
 generalize rcs (X[i] - Y[i])=cd at *
 generalize rcs X[i]=cx at *
 generalize rcs Y[i]=cy at *
 generalize A++rep (m+1) rz=Z at *
 generalize A++cd++rep m rz=Z' at *
 simp only[iv] at h12 h13
 have hv1:eR false X=vR X:=rfl
 have hv2:eR false Y=vR Y:=rfl
 rw[hv1] at x1
 rw[hv2] at y1
 have zR':=zRz
 simp[JC,iv,psB,psC,f60,az,ae,aH,aq,ar,aF,ag,ah,aM,an,aj,aC,aG,FzZ,ba,aw,bg,au,partOf,aa,af,ab,bf,and_assoc,bp,h0,h1,h5,h11,h12,h13,hi,x1,x2,x3,y1,y2,g,ho,hx,hx1,hx2,hx3,hx4,hx5,hx6,hokx,hlx,hokd,hld,hn1,hw,aV,aR,sR,zR',bz,number,FP.free,cC,FP.apart]
theorem KR (L:Lst)(run:av)(k:Nat)(X Y:List Rat)(h9:X.length≤1000)(hXY:X.length=Y.length)(g:∀ i (h1:i<X.length)(h2:i<Y.length),aA L run 55 [rv (some X[i]),rv (some Y[i])] (rv (some (X[i] - Y[i])))):∀ (n i:Nat) (fr:Ψ) (hp:Θ) (wr:Ω),i+n=X.length→JC fr X Y i→aX hp 0=some ⟨.live,((List.zipWith (· - ·) X Y).take i).flatMap rcs++rep n rz⟩→0<hp.length →
  ∃ fr' hp' wr',cg (ae (CC L) run k psB) (n+1) ⟨fr,hp,wr⟩=some (.exit 0,⟨fr',hp',wr'⟩)∧fr'.length=29∧nth fr' 5 = .own 0 4 0 X.length true∧aX hp' 0=some ⟨.live,(List.zipWith (· - ·) X Y).flatMap rcs⟩
 | 0,i,fr,hp,wr,hin,h,hb,hn=>by
  have e:i=X.length:=by omega
  rw[e] at h
  obtain⟨fr',q1,q2,q3⟩:=afa L run k fr hp wr X Y h
  refine⟨fr',hp,wr,br q1,q2,q3,?_⟩
  rw[hb,take_of_length_le (by rw[length_zipWith];omega)];simp[rep]
 | n+1,i,fr,hp,wr,hin,h,hb,hn=>by
  have hi:i<X.length:=by omega
  have hy:i<Y.length:=by omega
  have hz:i<(List.zipWith (· - ·) X Y).length:=by rw[length_zipWith];omega
  obtain⟨fr1,hp1,wr1,q1,q2,q3,q4⟩:=aaJ L run k fr hp wr X Y i n _ hi hy h9 (by rw[jV,length_take,Nat.min_eq_left (by omega)]) (g i hi hy) h hb hn
  obtain⟨fr',hp',wr',s1,s2⟩:=KR L run k X Y h9 hXY g n (i+1) fr1 hp1 wr1 (by omega) q2 (by
   rw[q3,take_succ_eq_append_getElem hz,flatMap_append];simp) q4
  exact⟨fr',hp',wr',by rw[bU q1];exact s1,s2⟩
def aaK:Code:=seq1 (seq1 (ai 2 psC))
theorem ae8:ai 2 psC = .seq (.seq aaK (.block 0 (.loop psB))) (ai 3 psC):=rfl
theorem ae9 (L:Lst)(run:av)(k:Nat)(X Y:List Rat)(h9:X.length≤1000) :
  ∃ fr fr' wr,bh (CC L) run k 2 psC ⟨entry 29 [vR X,vR Y],[],[]⟩=some ⟨fr,[⟨.live,rep X.length rz⟩],wr⟩∧ae (CC L) run k aaK ⟨fr,[⟨.live,rep X.length rz⟩],wr⟩=some (.normal,⟨fr',[⟨.live,rep X.length rz⟩],wr⟩)∧JC fr' X Y 0:=by
 obtain⟨e1,e2,e3⟩:=cb 27 (vR X) (vR Y)
 generalize entry 29 [vR X,vR Y]=fr0 at *
 have hm:X.length≤cW:=Nat.le_trans h9 (by decide)
 have hl:dc (vR X)=some X.length:=rfl
 obtain⟨fr,wr,a1,a2,a3,a4,a5⟩:∃ fr wr,bh (CC L) run k 2 psC ⟨fr0,[],[]⟩=some ⟨fr,[⟨.live,rep X.length rz⟩],wr⟩∧fr.length=29∧nth fr 0=vR X∧nth fr 5 = .own 0 4 0 X.length true∧nth fr 1=vR Y:=by
  have hrz:rz.length=4:=rfl
  simp[psC,f60,bh,e1,e2,e3,ae,aH,aq,ar,aF,ag,ah,an,aj,aC,aG,FzZ,au,bM,bm,aa,af,ab,bf,and_assoc,CV,hl,sR,bR,zRz,hm,hrz,bZ,bd]
 refine⟨fr,?_⟩
 simp only[a1]
 simp[JC,iv,aaK,seq1,ai,psC,f60,a2,a3,a4,a5,ae,aH,aq,ar,aF,ag,ah,an,aj,aC,aG,FzZ,au,bM,aa,af,ab,bf,CV,hl]
theorem aaI(p:PV)(h0:fr.length=29)(h3:nth fr 5=p):∃ st,ae (CC L) run k (ai 3 psC) ⟨fr,hp,wr⟩=some (.ret,st)∧st.hp=hp∧aY TT st.fr st.hp f60.results.toList=some [p]:=by
 simp[psC,ai,f60,h0,h3,ae,aH,aq,ar,aF,ag,ah,an,aj,aC,aG,FzZ,aa,ab,aY]
theorem Z7 {k:Nat}{x y:Rat}(hx:Rb k x)(hy:Rb k y)(h9:k≤2000000)(h:rcs x=rcs y):x=y:=by
 have h1:rv (some x)=rv (some y):=by rw[jE,jE,h]
 have:=aeF (u:=some x) (v:=some y) hx hy h9 h1
 simpa using this
theorem Gz {k:Nat}{X Y:List Rat}(hX:RbL k X)(hY:RbL k Y)(h9:k≤2000000)(h:vR X=vR Y):X=Y:=by
 unfold vR eR at h
 simp only[PV.imm.injEq,true_and] at h
 obtain⟨h1,h2⟩:=h
 clear h1
 induction X generalizing Y with
 | nil=>cases Y with
  | nil=>rfl
  | cons b Y =>
   have:=congrArg List.length h2
   rw[jV,jV] at this
   simp at this
 | cons a X ih=>cases Y with
  | nil =>
   have:=congrArg List.length h2
   rw[jV,jV] at this
   simp at this
  | cons b Y =>
   rw[flatMap_cons,flatMap_cons] at h2
   have h3:=append_inj h2 (by rw[dh.len,dh.len])
   rw[Z7 (hX a mem_cons_self) (hY b mem_cons_self) h9 h3.1,ih (fun x hx=>hX x (mem_cons_of_mem _ hx)) (fun x hx=>hY x (mem_cons_of_mem _ hx)) h3.2]
abbrev VV:=List Rat × List Rat
def kn (X Y:List Rat):List Rat:=List.zipWith (· - ·) X Y
def afm (p:VV):Prop:=RbL 100000 p.1∧RbL 100000 p.2∧p.1.length=p.2.length∧p.1.length≤1000
theorem acN {p q:VV}(hp:afm p)(hq:afm q)(h:[vR p.1,vR p.2]=[vR q.1,vR q.2]):p=q:=by
 simp only[List.cons.injEq,and_true] at h
 exact Prod.ext (Gz hp.1 hq.1 (by omega) h.1) (Gz hp.2.1 hq.2.1 (by omega) h.2)
def TM:Ψ→Option Ψ:=ctr (fun p:VV=>[vR p.1,vR p.2]) afm fun p=>[eR true (kn p.1 p.2)]
theorem N5:Ab.Spec base.P 60 TM:=Ab.Spec.bL (C:=CC LR1) (cP XT) fun args rs h=>by
 obtain⟨⟨X,Y⟩,⟨hX,hY,hl,h9⟩,rfl,rfl⟩:=cX h
 dsimp only at hX hY hl h9
 obtain⟨fr,fr1,wr,a1,a2,a3⟩:=ae9 LR1 (runK (CC LR1) (X.length+1)) (X.length+1) X Y h9
 obtain⟨fr2,hp2,wr2,b1,b2,b3,b4⟩:=KR LR1 (runK (CC LR1) (X.length+1)) (X.length+1) X Y h9 hl (fun i h1 h2=>ahg rfl _ (u:=some X[i]) (v:=some Y[i]) (hX _ (getElem_mem h1)) (hY _ (getElem_mem h2)) (by omega)) X.length 0 fr1 [⟨.live,rep X.length rz⟩] wr (by omega) a3 (by simp[aX]) (by simp)
 have hL:ae (CC LR1) (runK (CC LR1) (X.length+1)) (X.length+1) (.seq aaK (.block 0 (.loop psB))) ⟨fr,[⟨.live,rep X.length rz⟩],wr⟩=some (.normal,⟨fr2,hp2,wr2⟩):=by
  rw[ao a2];exact bD b1
 obtain⟨st,c1,c2,c3⟩:=aaI LR1 (runK (CC LR1) (X.length+1)) (X.length+1) fr2 hp2 wr2 _ b2 b3
 have hx:ae (CC LR1) (runK (CC LR1) (X.length+1)) (X.length+1) psC ⟨entry 29 [vR X,vR Y],[],[]⟩=some (.ret,st):=by
  rw[aU 2 a1,ae8,ao hL,c1]
 have hlz:(kn X Y).length=X.length:=by unfold kn;rw[length_zipWith];omega
 have ho:=Ky hp2 0 true (kn X Y) b4
 rw[hlz] at ho
 exact⟨_,_,_,_,[eR true (kn X Y)],[0],aZ PM rfl hx c3,by rw[c2];exact ho,Wk.refl rfl,trivial⟩
theorem Jl (x y:Bool)(X Y:List Rat):aK [eR x X,eR y Y]=[vR X,vR Y]:=by simp only[aK,tm]
theorem XY {L:Lst}(hL:bC L 60=fun a=>TM (aK a))(run:av)(x y:Bool)(X Y:List Rat){j k:Nat}(hX:RbL j X)(hY:RbL k Y)(hj:j≤100000)(hk:k≤100000)(hl:X.length=Y.length)(h9:X.length≤1000):aA L run 60 [eR x X,eR y Y] (eR true (kn X Y)):=fun dr hp =>
 rS Y2 hL run dr hp _ [vR X,vR Y] [eR true (kn X Y)] rfl (Jl x y X Y) (pU (x:=(X,Y)) (fun p q hp hq h=>by rw[acN hp hq h]) ⟨fun x hx=>(hX x hx).mono hj,fun x hx=>(hY x hx).mono hk,hl,h9⟩)
def Ce (X Y:List Rat):Nat→Rat
 | 0=>0
 | i+1=>Ce X Y i+X.getD i 0*Y.getD i 0
def dot (X Y:List Rat):Rat:=Ce X Y X.length
theorem LN {k:Nat}{X Y:List Rat}(hX:RbL k X)(hY:RbL k Y)(hl:X.length=Y.length):∀ i,i≤X.length→Rb (i*(2*k+1)+1) (Ce X Y i)
 | 0,_=>Rb.zero _
 | i+1,h=>by
  have h1:=LN hX hY hl i (by omega)
  have hx:Rb k (X.getD i 0):=by
   rw[getD_eq_getElem?_getD,List.getElem?_eq_getElem (by omega)];exact hX _ (getElem_mem _)
  have hy:Rb k (Y.getD i 0):=by
   rw[getD_eq_getElem?_getD,List.getElem?_eq_getElem (by omega)];exact hY _ (getElem_mem _)
  have e:(i+1)*(2*k+1)=i*(2*k+1)+(2*k+1):=Nat.succ_mul i _
  exact (h1.add (hx.mul hy)).mono (by rw[e];omega)
theorem Rc.okc {cs:Ψ}{u:Option Rat}(h:Rc cs u):bj cs=true:=by
 rcases h with rfl | ⟨rfl,rfl⟩
 ·exact AW.okc u
 ·rfl
def ei (z:Int):Ψ:=[.sc (.int .i64 z)]
theorem I8:Ec 1 ei where
 len:=fun _=>rfl
 okc:=fun _=>rfl
 can:=fun _=>rfl
 idf:=fun _=>rfl
 sn:=fun _ _ _=>rfl
def aE (at':List Int):PV:=jM ei at'
theorem mZ:und TT 24=some (.slice 3):=by kernel_rfl
theorem Vv (l:List Int):dc (aE l)=some l.length:=rfl
theorem W6 (l:List Int):canon (aE l)=aE l:=I8.yZ l
theorem aiQ (l:List Int)(i:Nat)(hi:i<l.length):∃ r,bc TT 24 (aE l) (.sc (.int .i64 (i:Int)))=some (.iptr r)∧r.head?=some (.sc (.int .i64 l[i])):=by
 have h:=mG I8.toEl l i hi
 refine⟨bz (l.flatMap ei) (i*1),?_,by rw[h];rfl⟩
 unfold aE jM
 simp only[bc,mZ,bm,sI,hi,if_true]
theorem su:∀ hp:Θ,qw hp.length hp=hp
 | []=>rfl
 | a::l=>by rw[length_cons,qw,su l]
theorem KH {L:Lst}{run:av}{g:Nat}{args:Ψ}{r:PV}{hp:Θ}(hs:base.shared g=true)(hr:run g args hp=some ([r],hp,[]))(hi:r.cG=true)(dr:Bool):bS (CC L) run dr hp g args=some (r,hp,⟨[],[],true,true⟩):=by
 have hs':(CC L).shared g=true:=hs
 unfold bS
 rw[if_pos hs',hr]
 simp only[bT,hi,lC,gW,Bool.and_self,cond_true,iL,su]
theorem adC(g:Nat):(CC L).sorc g=none:=rfl
theorem gw {L:Lst}{k:Nat}{g:FuncId}{args:Ψ}{hp:Θ}{fn:Func}{c:Code}{st:St}{rs:Ψ}(hF:base.F.get g=some fn)(hb:fn.body=some c)(hx:ae (CC L) (runK (CC L) k) k c ⟨entry fn.ntmps args,hp,[]⟩=some (.ret,st))(hr:aY TT st.fr st.hp fn.results.toList=some rs):runK (CC L) (k+1) g args hp=some (rs,st.hp,st.wr):=by
 have h1:(CC L).F g=some fn:=hF
 simp only[runK,adC,rV,h1,hb,hx]
 rw[bf,hr]
theorem Cc (n:Nat)(p q r:PV):(entry (n+3) [p,q,r]).length=n+3∧nth (entry (n+3) [p,q,r]) 0=p∧nth (entry (n+3) [p,q,r]) 1=q∧nth (entry (n+3) [p,q,r]) 2=r:=⟨fD _ _ (by simp),rfl,rfl,rfl⟩
def qC (X:List (List Rat)):PV:=cE (X.map fun P=>P.map qb)
def aN (l:Ω):PV:=aE (l.map Int.ofNat)
theorem aeY(v:PV):eY hp 1 (.imm 1 true [v])=some (1,[v],[]):=by simp[eY]
theorem TU {α:Type}{s:Nat}{e:α→Ψ}(he:El s e){b:Nat}{hp:Θ}{l:List α}{p:PV}(h:cH s e b hp l p):∃ rs ids,bu (snap hp bn) [p]=some (rs,ids)∧WkL rs [jM e l]:=by
 obtain⟨hb,h⟩:=h
 rcases h with ⟨rfl,rfl⟩| ⟨id,m,x,hid,_,rfl,_,h⟩
 ·exact⟨[.sc (.slice none 0 0)],[],rfl,Wk.nil false,trivial⟩
 ·have ht:bF (bz ((l++m).flatMap e) 0) (l.length*s)=some (l.flatMap e):=by
   rw[cD,drop_zero,ss he]
  have h1:Ab.snap hp (11+1) (.own id s 0 l.length x)=some (.imm l.length x (l.flatMap e),[id]):=by
   rw[Ab.snap]
   simp only[h]
   rw[if_neg (by simp),ht]
   simp only[he.sns hp 10 l]
  refine⟨[.imm l.length x (l.flatMap e)],[id],?_,?_,trivial⟩
  ·show bu (snap hp 12) _=_
   simp only[bu,h1]
   rfl
  ·cases x
   ·exact Wk.refl (by simp[PV.cG])
   ·exact Wk.imm _ _ _
def akv (m:Nat)(k:Nat)(X:List (List Rat)):Prop:=∀ P ∈ X,P.length=m∧RbL k P
theorem ae7 {X Y:List (List Rat)}(h:qC X=qC Y):X=Y:=by
 have h1:=Xz h
 clear h
 induction X generalizing Y with
 | nil=>cases Y with
  | nil=>rfl
  | cons b Y=>simp at h1
 | cons a X ih=>cases Y with
  | nil=>simp at h1
  | cons b Y =>
   simp only[map_cons,List.cons.injEq] at h1
   rw[xf (X:=a) (Y:=b) (by unfold qL;rw[h1.1]),ih h1.2]
theorem rY (l:Ω):aG [] l=l:=rfl
theorem jw:∀ {l w:Ω} {i:Nat},i ∈ aG l w→i ∈ l∨i ∈ w
 | [],w,i,h=>.inr h
 | a::l,w,i,h=>by
  unfold aG at h
  cases hc:w.contains a with
  | true =>
   rw[hc,cond_true] at h
   rcases jw h with h | h
   ·exact .inl (mem_cons_of_mem _ h)
   ·exact .inr h
  | false =>
   rw[hc,cond_false] at h
   rcases jw h with h | h
   ·exact .inl (mem_cons_of_mem _ h)
   ·rcases mem_cons.1 h with h | h
    ·exact .inl (h ▸ mem_cons_self)
    ·exact .inr h
theorem nN:∀ {n:Nat} {l:Ω} {i:Nat},i ∈ lC n l→i ∈ l∧i<n
 | n,a::l,i,h=>by
  unfold lC at h
  cases hc:a.blt n with
  | true =>
   rw[hc,cond_true] at h
   rcases mem_cons.1 h with h | h
   ·subst h;rw[Nat.blt_eq] at hc;exact⟨mem_cons_self,hc⟩
   ·exact⟨mem_cons_of_mem _ (nN h).1,(nN h).2⟩
  | false =>
   rw[hc,cond_false] at h
   exact⟨mem_cons_of_mem _ (nN h).1,(nN h).2⟩
theorem vO {hp:Θ}{n:Nat} : ∀ {l:Ω},(∀ i ∈ l,∀ b,aX hp i=some b→eN n b.cs=true)→gW hp n l=true
 | [],_=>rfl
 | a::l,h=>by
  unfold gW
  rw[vO fun i hi=>h i (mem_cons_of_mem _ hi),Bool.and_true]
  cases e:aX hp a with
  | none=>rfl
  | some b=>exact h a mem_cons_self b e
theorem QX {hp hp':Θ}(hl:hp.length≤hp'.length)(h:∀ i,i<hp.length→aX hp' i=aX hp i):qw hp.length hp'=hp:=by
 rw[qv]
 refine ext_getElem? fun i => ?_
 by_cases hi:i<hp.length
 ·rw[getElem?_take_of_lt hi,← cY,← cY,h i hi]
 ·rw[getElem?_eq_none (by simp;omega),getElem?_eq_none (by omega)]
theorem RM {L:Lst}{run:av}{g:Nat}{args:Ψ}{r:PV}{hp hp':Θ}{w:Ω}(hs:base.shared g=true)(hr:run g args hp=some ([r],hp',w))(hi:r.cG=true)(hl:hp.length≤hp'.length)(ho:∀ i,i<hp.length→aX hp' i=aX hp i)(hw:∀ i ∈ lC hp.length w,∀ b,aX hp' i=some b→eN hp.length b.cs=true)(dr:Bool):bS (CC L) run dr hp g args=some (r,hp,⟨[],lC hp.length w,true,true⟩):=by
 have hs':(CC L).shared g=true:=hs
 unfold bS
 rw[if_pos hs',hr]
 simp only[bT,hi,vO hw,Bool.and_self,cond_true,iL,QX hl ho]
def eV (V:List Rat):Ψ:=[vR V]
theorem akh:Ec 1 eV:=dh.list
def mC (M:List (List Rat)):PV:=jM eV M
def bl (b:Bool):PV:=.sc (.bool b)
def ik:Code→Code
 | .cond _ a _=>a
 | c=>c
def WB (b:Nat)(w:Ω):Prop:=∀ i ∈ w,i=2∨b≤i
theorem WB.add {b:Nat}{w l:Ω}(h:WB b w)(h':WB b l):WB b (aG l w):=fun i hi=>by
 rcases jw hi with hi | hi
 ·exact h' i hi
 ·exact h i hi
theorem WB.one {b x:Nat}(h:x=2∨b≤x):WB b [x]:=fun i hi=>by
 rw[mem_singleton] at hi;subst hi;exact h
theorem WB.rep {b m:Nat} : WB b (List.replicate m 2):=fun i hi=>.inl (mem_replicate.1 hi).2
theorem wu {hp:Θ}{i j:Nat}{b b0:Blk}(h:aX hp i=some b0)(hij:j≠i):aX (cF hp i b) j=aX hp j:=by rw[cN h,if_neg hij]
theorem aeB {hp:Θ}{i:Nat}{b b0:Blk}(h:aX hp i=some b0):aX (cF hp i b) i=some b:=by rw[cN h,if_pos rfl]
def cz:Option Rat→Ψ
 | none=>rz
 | some x=>rcs x
theorem agk (n:Nat)(p q r s:PV):(entry (n+4) [p,q,r,s]).length=n+4∧nth (entry (n+4) [p,q,r,s]) 0=p∧nth (entry (n+4) [p,q,r,s]) 1=q∧nth (entry (n+4) [p,q,r,s]) 2=r∧nth (entry (n+4) [p,q,r,s]) 3=s:=⟨fD _ _ (by simp),rfl,rfl,rfl,rfl⟩
def rq (s:ByteArray):Rat:=@Classical.epsilon Rat ⟨0⟩ fun x=>s=qb x
theorem adG (x:Rat):rq (qb x)=x:=by
 have h:qb x=qb (rq (qb x)):=Classical.epsilon_spec (p:=fun y=>qb x=qb y) ⟨x,rfl⟩
 exact (pL h).symm
def toX (c:List (List ByteArray)):List (List Rat):=c.map fun p=>p.map rq
def Cv (c:List (List ByteArray)):Prop:=c.length≤100∧∀ p ∈ c,p.length≤100∧∀ s ∈ p,(bys s).length≤60
theorem Cv.fit {c:List (List ByteArray)}(h:Cv c):Fit c:=⟨h.1,fun p hp=>⟨(h.2 p hp).1,fun s hs=>Nat.le_trans ((h.2 p hp).2 s hs) (by omega)⟩⟩
theorem LX {m:Nat}{p:List ByteArray}(h:rO m p=0)(hs:∀ s ∈ p,(bys s).length≤60):p.length=m∧1≤m∧m≤3∧p=(p.map rq).map qb∧RbL 61 (p.map rq):=by
 unfold rO at h
 by_cases hb:p.length=0∨3<p.length∨p.length≠m
 ·rw[if_pos hb] at h;omega
 ·rw[if_neg hb] at h
  have hall:p.all (fun s=>pB (IsV s))=true:=by
   cases e:p.all (fun s=>pB (IsV s)) with
   | true=>rfl
   | false=>rw[e] at h;cases h
  rw[all_eq_true] at hall
  have hv:∀ s ∈ p,∃ x,s=qb x∧rq s=x∧Rb 61 x:=fun s hsp=>by
   obtain⟨x,hx,-⟩:=BS.1 (hall s hsp)
   refine⟨x,hx,by rw[hx,adG],?_⟩
   exact adI (by rw[← hx];exact hs s hsp)
  refine⟨by omega,by omega,by omega,?_,?_⟩
  ·rw[map_map]
   conv=>lhs;rw[← map_id p]
   refine map_congr_left fun s hsp => ?_
   obtain⟨x,hx,e,-⟩:=hv s hsp
   show s=qb (rq s)
   rw[e];exact hx
  ·intro y hy
   obtain⟨s,hsp,rfl⟩:=mem_map.1 hy
   obtain⟨x,hx,e,hb⟩:=hv s hsp
   rw[e];exact hb
theorem Ck {m:Nat} : ∀ {c:List (List ByteArray)},jG m c=0→∀ p ∈ c,rO m p=0
 | p::r,h,q,hq=>by
  unfold jG at h
  by_cases h0:rO m p=0
  ·rw[if_pos h0] at h
   rcases mem_cons.1 hq with e | e
   ·rw[e];exact h0
   ·exact Ck h q e
  ·rw[if_neg h0] at h;exact absurd h h0
theorem agG {c:List (List ByteArray)}(h:chk c=0)(hF:Cv c):cE c=qC (toX c)∧akv (hdL c) 61 (toX c)∧(c≠[]→1≤hdL c∧hdL c≤3)∧c.length≤64∧(toX c).length=c.length:=by
 unfold chk at h
 by_cases h64:64<c.length
 ·rw[if_pos h64] at h;omega
 ·rw[if_neg h64] at h
  have hp:=fun p hp=>LX (Ck h p hp) (hF.2 p hp).2
  refine⟨?_,?_,?_,by omega,by simp[toX]⟩
  ·unfold qC toX
   congr 1
   rw[map_map]
   conv=>lhs;rw[← map_id c]
   exact map_congr_left fun p hpc=>(hp p hpc).2.2.2.1
  ·intro P hP
   unfold toX at hP
   obtain⟨p,hpc,rfl⟩:=mem_map.1 hP
   have:=hp p hpc
   exact⟨by rw[length_map];exact this.1,this.2.2.2.2⟩
  ·intro hne
   cases c with
   | nil=>exact absurd rfl hne
   | cons p r =>
    have:=hp p mem_cons_self
    exact⟨this.2.1,this.2.2.1⟩
def RowsIn (hp:Θ)(id:Nat):Ψ→List (List Rat)→Prop
 | [],[]=>True
 | v::vs,R::Rs=>(∃ j,v = .own j 4 0 R.length false∧j≠id∧aX hp j=some ⟨.live,R.flatMap rcs⟩)∧RowsIn hp id vs Rs
 | _,_=>False
theorem RowsIn.len {hp:Θ}{id:Nat} : ∀ {vs:Ψ} {Rs:List (List Rat)},RowsIn hp id vs Rs→vs.length=Rs.length
 | [],[],_=>rfl
 | v::vs,R::Rs,h=>by rw[length_cons,length_cons,RowsIn.len h.2]
 | [],_::_,h=>h.elim
 | _::_,[],h=>h.elim
theorem RowsIn.mono {hp hp':Θ}{id id':Nat}(h1:∀ j,j≠id→j<hp.length→aX hp' j=aX hp j∧j≠id'):∀ {vs:Ψ} {Rs:List (List Rat)},RowsIn hp id vs Rs→RowsIn hp' id' vs Rs
 | [],[],_=>trivial
 | v::vs,R::Rs,⟨⟨j,e1,e2,e3⟩,h⟩=>by
  have hj:j<hp.length:=by
   rw[cY] at e3
   exact (List.getElem?_eq_some_iff.1 e3).1
  obtain⟨m1,m2⟩:=h1 j e2 hj
  exact⟨⟨j,e1,m2,by rw[m1,e3]⟩,RowsIn.mono h1 h⟩
 | [],_::_,h=>h.elim
 | _::_,[],h=>h.elim
theorem RowsIn.snoc {hp:Θ}{id j:Nat}{R:List Rat}(hj:j≠id)(hb:aX hp j=some ⟨.live,R.flatMap rcs⟩):∀ {vs:Ψ} {Rs:List (List Rat)},RowsIn hp id vs Rs→RowsIn hp id (vs++[.own j 4 0 R.length false]) (Rs++[R])
 | [],[],_=>⟨⟨j,rfl,hj,hb⟩,trivial⟩
 | v::vs,S::Rs,h=>⟨h.1,RowsIn.snoc hj hb h.2⟩
 | [],_::_,h=>h.elim
 | _::_,[],h=>h.elim
theorem RowsIn.snap {hp:Θ}{id:Nat} : ∀ {vs:Ψ} {Rs:List (List Rat)},RowsIn hp id vs Rs→∃ ids,bu (Ab.snap hp 11) vs=some (Rs.flatMap eV,ids)
 | [],[],_=>⟨[],rfl⟩
 | v::vs,R::Rs,⟨⟨j,e1,_,e3⟩,h⟩=>by
  obtain⟨ids,hi⟩:=RowsIn.snap h
  have ht:bF (bz (R.flatMap rcs) 0) (R.length*4)=some (R.flatMap rcs):=by
   have:=ss dh.toEl R []
   rw[append_nil] at this
   rw[cD,drop_zero,this]
  have h1:Ab.snap hp (10+1) v=some (vR R,[j]):=by
   rw[e1,Ab.snap]
   simp only[e3]
   rw[if_neg (by simp),ht]
   simp only[dh.sns hp 9 R]
   rfl
  refine⟨[j]++ids,?_⟩
  simp only[bu,h1,hi]
  rfl
 | [],_::_,h=>h.elim
 | _::_,[],h=>h.elim
theorem RowsIn.okc {hp:Θ}{id:Nat} : ∀ {vs:Ψ} {Rs:List (List Rat)},RowsIn hp id vs Rs→bj vs=true
 | [],[],_=>rfl
 | v::vs,R::Rs,⟨⟨j,e1,_,_⟩,h⟩=>by rw[bj,RowsIn.okc h,e1];rfl
 | [],_::_,h=>h.elim
 | _::_,[],h=>h.elim
def XN (hp:Θ)(Rs:List (List Rat))(p:PV):Prop:=(Rs=[]∧p = .sc (.slice none 0 0))∨∃ id vs,p = .own id 1 0 Rs.length false∧aX hp id=some ⟨.live,vs⟩∧RowsIn hp id vs Rs
theorem XN.app {hp:Θ}{Rs:List (List Rat)}{p:PV}(h:XN hp Rs p)(R:List Rat)(h9:Rs.length≤1000) :
  ∃ p' hp' fp,cU (bd (bd hp (R.flatMap rcs)) [.own hp.length 4 0 R.length false]) 1 p 1 [.own hp.length 4 0 R.length false]=some (p',hp',fp)∧XN hp' (Rs++[R]) p':=by
 have n1:∀ cs:Ψ,(bd hp cs).length=hp.length+1:=fun cs=>by simp[bd]
 have n2:(bd (bd hp (R.flatMap rcs)) [.own hp.length 4 0 R.length false]).length=hp.length+2:=by simp[bd]
 have hl:∀ j,j<hp.length→aX (bd (bd hp (R.flatMap rcs)) [.own hp.length 4 0 R.length false]) j=aX hp j:=fun j hj=>by
  rw[bP,if_neg (by rw[n1];omega),bP,if_neg (by omega)]
 have hr:aX (bd (bd hp (R.flatMap rcs)) [.own hp.length 4 0 R.length false]) hp.length=some ⟨.live,R.flatMap rcs⟩:=by
  rw[bP,if_neg (by rw[n1];omega),al1]
 rcases h with ⟨rfl,rfl⟩| ⟨id,vs,rfl,hb,hR⟩
 ·refine⟨_,_,_,rfl,.inr ⟨_,[.own hp.length 4 0 R.length false],rfl,al1 _ _,⟨⟨hp.length,rfl,by rw[n2];omega,?_⟩,trivial⟩⟩⟩
  rw[bP,if_neg (by rw[n2];omega),hr]
 ·have hid:id<hp.length:=by
   rw[cY] at hb
   exact (List.getElem?_eq_some_iff.1 hb).1
  have hb':=(hl id hid).trans hb
  have ht:bF (bz vs 0) (Rs.length*1)=some vs:=by
   rw[cD,drop_zero,Nat.mul_one,dk (by rw[hR.len];exact Nat.le_refl _),← hR.len,take_length]
  have hm:Rs.length+1≤cW:=Nat.le_trans (show Rs.length+1≤1001 by omega) (by decide)
  have ha:cU (bd (bd hp (R.flatMap rcs)) [.own hp.length 4 0 R.length false]) 1 (.own id 1 0 Rs.length false) 1 [.own hp.length 4 0 R.length false]=some (.own (hp.length+2) 1 0 (Rs.length+1) false,bd (cF (bd (bd hp (R.flatMap rcs)) [.own hp.length 4 0 R.length false]) id ⟨.dead,[]⟩) (vs++[.own hp.length 4 0 R.length false]),⟨[],[id,hp.length+2],true,false⟩):=by
   simp only[cU,hb',ht,n2]
   rw[if_neg (by simp),if_pos hm]
  refine⟨_,_,_,ha,.inr ⟨hp.length+2,vs++[.own hp.length 4 0 R.length false],by simp,?_,?_⟩⟩
  ·rw[bP,bQ,n2,if_pos rfl]
  ·refine RowsIn.snoc (by omega) ?_ (RowsIn.mono (fun j hj hj2=>⟨?_,by omega⟩) hR)
   ·rw[bP,bQ,n2,if_neg (by omega),cN hb',if_neg (by omega),hr]
   ·rw[bP,bQ,n2,if_neg (by omega),cN hb',if_neg (by omega),hl j hj2]
theorem XN.snap {hp:Θ}{Rs:List (List Rat)}{p:PV}(h:XN hp Rs p):∃ q ids,bu (Ab.snap hp bn) [p]=some ([q],ids)∧canon q=mC Rs:=by
 rcases h with ⟨rfl,rfl⟩| ⟨id,vs,rfl,hb,hR⟩
 ·exact⟨.sc (.slice none 0 0),[],rfl,rfl⟩
 ·obtain⟨ids,hi⟩:=hR.snap
  have ht:bF (bz vs 0) (Rs.length*1)=some vs:=by
   rw[cD,drop_zero,Nat.mul_one,dk (by rw[hR.len];exact Nat.le_refl _),← hR.len,take_length]
  have h1:Ab.snap hp (11+1) (.own id 1 0 Rs.length false)=some (mC Rs,id::ids):=by
   rw[Ab.snap]
   simp only[hb]
   rw[if_neg (by simp),ht]
   simp only[hi]
   rfl
  refine⟨mC Rs,(id::ids)++[],?_,akh.yZ Rs⟩
  show bu (Ab.snap hp 12) _=_
  simp only[bu,h1]
end Go.Proofs.YtjdmodeenbdfpaaGreat
end
