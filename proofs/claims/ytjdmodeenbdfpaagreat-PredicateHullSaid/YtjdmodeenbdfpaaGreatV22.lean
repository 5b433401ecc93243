/- Contracts of fractions, clouds and predicates, part 22; each lemma states its conditions. -/
import Derived.Test.YtjdmodeenbdfpaaGreatV21
set_option linter.unusedSimpArgs false
set_option linter.unusedVariables false
noncomputable section
namespace Go.Proofs.YtjdmodeenbdfpaaGreat
open Go Go.Ab List Tryz
attribute [local simp] FzZ aA aC aF aG aH aM aU aX aZ aa ab ae af ag ah aj an ao aq au av bc bf bp iv partOf seq1
variable(L:Lst)(run:aw)(k:Nat)(fr:Ψ)(hp:Θ)(wr:Ω)
theorem al1(z:Ψ):aL (aO hp z) hp.length=some ⟨.live,z⟩:=by rw[bH,if_pos rfl]
theorem al2(z:Ψ)(b:Blk):aL (cg (aO hp z) hp.length b) hp.length=some b:=by rw[cI (al1 hp z),if_pos rfl]
theorem al3(z:Ψ)(b:Blk)(i:Nat)(h:i<hp.length):aL (cg (aO hp z) hp.length b) i=aL hp i:=by
 rw[cI (al1 hp z),if_neg (by omega),bH,if_neg (by omega)]
theorem al4(z:Ψ)(b:Blk):(cg (aO hp z) hp.length b).length=hp.length+1:=by rw[bJ];simp[aO]
theorem ee (z cs:Ψ)(h:z.length=cs.length):ca z 0 cs=some cs:=by
 have:=nZ z cs [] h
 simpa using this
theorem dG (cs:Ψ)(h:cs.length=4):bF cs 4=some cs:=by have:=aeE cs [] h;simpa using this
theorem QW:base.F.get 60=some f60:=by kernel_rfl
theorem aag:base.shared 60=false:=by kernel_rfl
def psC:Code:=f60.body.getD .skip
def psB:Code:=(aA psC).getD .skip
def JX (fr:Ψ)(X Y:List Rat)(i:Nat):Prop:=fr.length=29∧nth fr 1=vR Y∧nth fr 5 = .own 0 4 0 X.length true∧nth fr 11=vR X∧nth fr 12=iv X.length∧nth fr 13=iv i
theorem afX(X Y:List Rat)(h:JX fr X Y X.length) :
  ∃ fr',ae (CC L) run k psB ⟨fr,hp,wr⟩=some (.exit 0,⟨fr',hp,wr⟩)∧fr'.length=29∧nth fr' 5 = .own 0 4 0 X.length true:=by
 obtain⟨h0,h1,h5,h11,h12,h13⟩:=h
 simp only[iv] at h12 h13
 simp[psB,psC,f60,h0,h5,h12,h13]
theorem abt(X Y:List Rat)(i m:Nat)(A:Ψ)(hi:i<X.length)(hy:i<Y.length)(h9':X.length≤1000)(hA:A.length=i*4)(g:az L run 55 [rv (some X[i]),rv (some Y[i])] (rv (some (X[i] - Y[i]))))(h:JX fr X Y i)(hb:aL hp 0=some ⟨.live,A++rep (m+1) rz⟩)(hn:0<hp.length) :
  ∃ fr' hp' wr',ae (CC L) run k psB ⟨fr,hp,wr⟩=some (.normal,⟨fr',hp',wr'⟩)∧JX fr' X Y (i+1)∧aL hp' 0=some ⟨.live,(A++rcs (X[i] - Y[i]))++rep m rz⟩∧0<hp'.length:=by
 obtain⟨h0,h1,h5,h11,h12,h13⟩:=h
 obtain⟨r,x1,x2⟩:=jT false X i hi
 obtain⟨r',y1,y2⟩:=jT false Y i hy
 have x3:=Jd 0 X.length i true hi
 have ho:=AE A m (rcs (X[i] - Y[i])) (cB.len _) i hA
 have hw:=bD i (by omega)
 have hx:=al1 hp rz
 have hx1:=ee rz (rcs X[i]) (by rw[cB.len];rfl)
 have hx2:=al2 hp rz ⟨.live,rcs X[i]⟩
 have hx3:=(al3 hp rz ⟨.live,rcs X[i]⟩ 0 hn).trans hb
 have hx4:=dG (rcs X[i]) (cB.len _)
 have hx5:aL (cg (cg (aO hp rz) hp.length ⟨.live,rcs X[i]⟩) 0 ⟨.live,(A++rcs (X[i] - Y[i]))++rep m rz⟩) 0=some ⟨.live,(A++rcs (X[i] - Y[i]))++rep m rz⟩:=by rw[cI hx3,if_pos rfl]
 have hx6:0<(cg (cg (aO hp rz) hp.length ⟨.live,rcs X[i]⟩) 0 ⟨.live,(A++rcs (X[i] - Y[i]))++rep m rz⟩).length:=by rw[bJ,al4];omega
 have hokx:=cB.okc X[i]
 have hlx:=cB.len X[i]
 have hokd:=cB.okc (X[i] - Y[i])
 have hld:=cB.len (X[i] - Y[i])
 have hn0:hp.length≠0:=by omega
 have hn1:(0=hp.length)=False:=by simp;omega
 rw[jR,jR,jR] at g
 unfold az at g
 generalize rcs (X[i] - Y[i])=cd at *
 generalize rcs X[i]=cx at *
 generalize rcs Y[i]=cy at *
 generalize A++rep (m+1) rz=Z at *
 generalize A++cd++rep m rz=Z' at *
 simp only[iv] at h12 h13
 have hv1:dz false X=vR X:=rfl
 have hv2:dz false Y=vR Y:=rfl
 rw[hv1] at x1
 rw[hv2] at y1
 have zR':=zRz
 simp[JX,psB,psC,f60,and_assoc,bm,h0,h1,h5,h11,h12,h13,hi,x1,x2,x3,y1,y2,g,ho,hx,hx1,hx2,hx3,hx4,hx5,hx6,hokx,hlx,hokd,hld,hn1,hw,aR,sR,zR',number,FP.free,cw,FP.apart]
theorem Ls (L:Lst)(run:aw)(k:Nat)(X Y:List Rat)(h9:X.length≤1000)(hXY:X.length=Y.length)(g:∀ i (h1:i<X.length)(h2:i<Y.length),az L run 55 [rv (some X[i]),rv (some Y[i])] (rv (some (X[i] - Y[i])))):∀ (n i:Nat) (fr:Ψ) (hp:Θ) (wr:Ω),i+n=X.length→JX fr X Y i→aL hp 0=some ⟨.live,((List.zipWith (· - ·) X Y).take i).flatMap rcs++rep n rz⟩→0<hp.length →
  ∃ fr' hp' wr',cb (ae (CC L) run k psB) (n+1) ⟨fr,hp,wr⟩=some (.exit 0,⟨fr',hp',wr'⟩)∧fr'.length=29∧nth fr' 5 = .own 0 4 0 X.length true∧aL hp' 0=some ⟨.live,(List.zipWith (· - ·) X Y).flatMap rcs⟩
 | 0,i,fr,hp,wr,hin,h,hb,hn=>by
  have e:i=X.length:=by omega
  rw[e] at h
  obtain⟨fr',q1,q2,q3⟩:=afX L run k fr hp wr X Y h
  refine⟨fr',hp,wr,bu q1,q2,q3,?_⟩
  rw[hb,take_of_length_le (by rw[length_zipWith];omega)];simp[rep]
 | n+1,i,fr,hp,wr,hin,h,hb,hn=>by
  have hi:i<X.length:=by omega
  have hy:i<Y.length:=by omega
  have hz:i<(List.zipWith (· - ·) X Y).length:=by rw[length_zipWith];omega
  obtain⟨fr1,hp1,wr1,q1,q2,q3,q4⟩:=abt L run k fr hp wr X Y i n _ hi hy h9 (by rw[kh,length_take,Nat.min_eq_left (by omega)]) (g i hi hy) h hb hn
  obtain⟨fr',hp',wr',s1,s2⟩:=Ls L run k X Y h9 hXY g n (i+1) fr1 hp1 wr1 (by omega) q2 (by
   rw[q3,take_succ_eq_append_getElem hz,flatMap_append];simp) q4
  exact⟨fr',hp',wr',by rw[bT q1];exact s1,s2⟩
def abu:Code:=seq1 (seq1 (ai 2 psC))
theorem afV:ai 2 psC = .seq (.seq abu (.block 0 (.loop psB))) (ai 3 psC):=rfl
theorem afW (L:Lst)(run:aw)(k:Nat)(X Y:List Rat)(h9:X.length≤1000) :
  ∃ fr fr' wr,bh (CC L) run k 2 psC ⟨entry 29 [vR X,vR Y],[],[]⟩=some ⟨fr,[⟨.live,rep X.length rz⟩],wr⟩∧ae (CC L) run k abu ⟨fr,[⟨.live,rep X.length rz⟩],wr⟩=some (.normal,⟨fr',[⟨.live,rep X.length rz⟩],wr⟩)∧JX fr' X Y 0:=by
 obtain⟨e1,e2,e3⟩:=cl 27 (vR X) (vR Y)
 generalize entry 29 [vR X,vR Y]=fr0 at *
 have hm:X.length≤cS:=Nat.le_trans h9 (by decide)
 have hl:cX (vR X)=some X.length:=rfl
 obtain⟨fr,wr,a1,a2,a3,a4,a5⟩:∃ fr wr,bh (CC L) run k 2 psC ⟨fr0,[],[]⟩=some ⟨fr,[⟨.live,rep X.length rz⟩],wr⟩∧fr.length=29∧nth fr 0=vR X∧nth fr 5 = .own 0 4 0 X.length true∧nth fr 1=vR Y:=by
  have hrz:rz.length=4:=rfl
  simp[psC,f60,bh,e1,e2,e3,bL,bn,and_assoc,BA,hl,sR,bR,zRz,hm,hrz,ch,aO]
 refine⟨fr,?_⟩
 simp only[a1]
 simp[JX,abu,ai,psC,f60,a2,a3,a4,a5,bL,BA,hl]
theorem abr(p:PV)(h0:fr.length=29)(h3:nth fr 5=p):∃ st,ae (CC L) run k (ai 3 psC) ⟨fr,hp,wr⟩=some (.ret,st)∧st.hp=hp∧aX TT st.fr st.hp f60.results.toList=some [p]:=by
 simp[psC,ai,f60,h0,h3]
theorem aaW {k:Nat}{x y:Rat}(hx:Rb k x)(hy:Rb k y)(h9:k≤2000000)(h:rcs x=rcs y):x=y:=by
 have h1:rv (some x)=rv (some y):=by rw[jR,jR,h]
 have:=afz (u:=some x) (v:=some y) hx hy h9 h1
 simpa using this
theorem Bx {k:Nat}{X Y:List Rat}(hX:RbL k X)(hY:RbL k Y)(h9:k≤2000000)(h:vR X=vR Y):X=Y:=by
 unfold vR dz at h
 simp only[PV.imm.injEq,true_and] at h
 obtain⟨h1,h2⟩:=h
 clear h1
 induction X generalizing Y with
 | nil=>cases Y with
  | nil=>rfl
  | cons b Y =>
   have:=congrArg List.length h2
   rw[kh,kh] at this
   simp at this
 | cons a X ih=>cases Y with
  | nil =>
   have:=congrArg List.length h2
   rw[kh,kh] at this
   simp at this
  | cons b Y =>
   rw[flatMap_cons,flatMap_cons] at h2
   have h3:=append_inj h2 (by rw[cB.len,cB.len])
   rw[aaW (hX a mem_cons_self) (hY b mem_cons_self) h9 h3.1,ih (fun x hx=>hX x (mem_cons_of_mem _ hx)) (fun x hx=>hY x (mem_cons_of_mem _ hx)) h3.2]
abbrev VV:=List Rat × List Rat
def jc (X Y:List Rat):List Rat:=List.zipWith (· - ·) X Y
def agc (p:VV):Prop:=RbL 100000 p.1∧RbL 100000 p.2∧p.1.length=p.2.length∧p.1.length≤1000
theorem adM {p q:VV}(hp:agc p)(hq:agc q)(h:[vR p.1,vR p.2]=[vR q.1,vR q.2]):p=q:=by
 simp only[List.cons.injEq,and_true] at h
 exact Prod.ext (Bx hp.1 hq.1 (by omega) h.1) (Bx hp.2.1 hq.2.1 (by omega) h.2)
def Lr:Ψ→Option Ψ:=ctr (fun p:VV=>[vR p.1,vR p.2]) agc fun p=>[dz true (jc p.1 p.2)]
theorem Ax:Ab.Spec base.P 60 Lr:=Ab.Spec.bS (C:=CC LR1) (cR yL) fun args rs h=>by
 obtain⟨⟨X,Y⟩,⟨hX,hY,hl,h9⟩,rfl,rfl⟩:=db h
 dsimp only at hX hY hl h9
 obtain⟨fr,fr1,wr,a1,a2,a3⟩:=afW LR1 (runK (CC LR1) (X.length+1)) (X.length+1) X Y h9
 obtain⟨fr2,hp2,wr2,b1,b2,b3,b4⟩:=Ls LR1 (runK (CC LR1) (X.length+1)) (X.length+1) X Y h9 hl (fun i h1 h2=>ait rfl _ (u:=some X[i]) (v:=some Y[i]) (hX _ (getElem_mem h1)) (hY _ (getElem_mem h2)) (by omega)) X.length 0 fr1 [⟨.live,rep X.length rz⟩] wr (by omega) a3 (by simp[aL]) (by simp)
 have hL:ae (CC LR1) (runK (CC LR1) (X.length+1)) (X.length+1) (.seq abu (.block 0 (.loop psB))) ⟨fr,[⟨.live,rep X.length rz⟩],wr⟩=some (.normal,⟨fr2,hp2,wr2⟩):=by
  rw[ar a2];exact bE b1
 obtain⟨st,c1,c2,c3⟩:=abr LR1 (runK (CC LR1) (X.length+1)) (X.length+1) fr2 hp2 wr2 _ b2 b3
 have hx:ae (CC LR1) (runK (CC LR1) (X.length+1)) (X.length+1) psC ⟨entry 29 [vR X,vR Y],[],[]⟩=some (.ret,st):=by
  rw[aY 2 a1,afV,ar hL,c1]
 have hlz:(jc X Y).length=X.length:=by unfold jc;rw[length_zipWith];omega
 have ho:=KU hp2 0 true (jc X Y) b4
 rw[hlz] at ho
 exact⟨_,_,_,_,[dz true (jc X Y)],[0],ba QW rfl hx c3,by rw[c2];exact ho,Wk.refl rfl,trivial⟩
theorem JG (x y:Bool)(X Y:List Rat):aK [dz x X,dz y Y]=[vR X,vR Y]:=by simp only[aK,pw]
theorem J0 {L:Lst}(hL:bx L 60=fun a=>Lr (aK a))(run:aw)(x y:Bool)(X Y:List Rat){j k:Nat}(hX:RbL j X)(hY:RbL k Y)(hj:j≤100000)(hk:k≤100000)(hl:X.length=Y.length)(h9:X.length≤1000):az L run 60 [dz x X,dz y Y] (dz true (jc X Y)):=fun dr hp =>
 ic aag hL run dr hp _ [vR X,vR Y] [dz true (jc X Y)] rfl (JG x y X Y) (oB (x:=(X,Y)) (fun p q hp hq h=>by rw[adM hp hq h]) ⟨fun x hx=>(hX x hx).mono hj,fun x hx=>(hY x hx).mono hk,hl,h9⟩)
theorem QY:base.F.get 61=some f61:=by kernel_rfl
def pdC:Code:=f61.body.getD .skip
def pdB:Code:=(aA pdC).getD .skip
def Xy (X Y:List Rat):Nat→Rat
 | 0=>0
 | i+1=>Xy X Y i+X.getD i 0*Y.getD i 0
def dot (X Y:List Rat):Rat:=Xy X Y X.length
theorem My {k:Nat}{X Y:List Rat}(hX:RbL k X)(hY:RbL k Y)(hl:X.length=Y.length):∀ i,i≤X.length→Rb (i*(2*k+1)+1) (Xy X Y i)
 | 0,_=>Rb.zero _
 | i+1,h=>by
  have h1:=My hX hY hl i (by omega)
  have hx:Rb k (X.getD i 0):=by
   rw[getD_eq_getElem?_getD,List.getElem?_eq_getElem (by omega)];exact hX _ (getElem_mem _)
  have hy:Rb k (Y.getD i 0):=by
   rw[getD_eq_getElem?_getD,List.getElem?_eq_getElem (by omega)];exact hY _ (getElem_mem _)
  have e:(i+1)*(2*k+1)=i*(2*k+1)+(2*k+1):=Nat.succ_mul i _
  exact (h1.add (hx.mul hy)).mono (by rw[e];omega)
def KL (fr:Ψ)(X Y:List Rat)(i:Nat):Prop:=fr.length=25∧nth fr 1=vR Y∧nth fr 4 = .ptr 0 0∧nth fr 5 = .ptr 1 0∧nth fr 8=vR X∧nth fr 9=iv X.length∧nth fr 10=iv i
theorem af5(X Y:List Rat)(h:KL fr X Y X.length) :
  ∃ fr',ae (CC L) run k pdB ⟨fr,hp,wr⟩=some (.exit 0,⟨fr',hp,wr⟩)∧fr'.length=25∧nth fr' 4 = .ptr 0 0∧nth fr' 5 = .ptr 1 0:=by
 obtain⟨h0,h1,h4,h5,h8,h9,h10⟩:=h
 simp only[iv] at h9 h10
 simp[pdB,pdC,f61,h0,h4,h5,h9,h10]
def aje:Code:=aQ (blk (seq1 (aQ (aQ pdB))))
theorem akX:((Region.before (gG aje))[8]?.getD 0).testBit 0=true:=by kernel_rfl
set_option maxHeartbeats 1000000 in
theorem aby(X Y:List Rat)(i:Nat)(sc p1 p2:Ψ)(z:Blk)(hi:i<X.length)(hy:i<Y.length)(h9':X.length≤1000)(hsl:sc.length=4)(hpl:p2.length=4)(hpo:bg p2=true)(g1:az L run 56 [.agg (rcs X[i]),.agg (rcs Y[i])] (.agg p1))(g2:az L run 87 [.agg sc,.agg p1] (.agg p2))(h:KL fr X Y i)(hz:aL hp 0=some z)(hb:aL hp 1=some ⟨.live,sc⟩)(hn:1<hp.length) :
  ∃ fr' hp' wr',ae (CC L) run k pdB ⟨fr,hp,wr⟩=some (.normal,⟨fr',hp',wr'⟩)∧KL fr' X Y (i+1)∧aL hp' 0=some z∧aL hp' 1=some ⟨.live,p2⟩∧1<hp'.length:=by
 obtain⟨h0,h1,h4,h5,h8,h9,h10⟩:=h
 obtain⟨r,x1,x2⟩:=jT false X i hi
 obtain⟨r',y1,y2⟩:=jT false Y i hy
 have hw:=bD i (by omega)
 have hx:=al1 hp rz
 have hx1:=ee rz (rcs X[i]) (by rw[cB.len];rfl)
 have hx2:=al2 hp rz ⟨.live,rcs X[i]⟩
 have hx3:=(al3 hp rz ⟨.live,rcs X[i]⟩ 1 hn).trans hb
 have hx3':=(al3 hp rz ⟨.live,rcs X[i]⟩ 0 (by omega)).trans hz
 have hx4:=dG (rcs X[i]) (cB.len _)
 have hx4':=dG sc hsl
 have ho:=ee sc p2 (by rw[hsl,hpl])
 have hx5:aL (cg (cg (aO hp rz) hp.length ⟨.live,rcs X[i]⟩) 1 ⟨.live,p2⟩) 1=some ⟨.live,p2⟩:=by rw[cI hx3,if_pos rfl]
 have hx5':aL (cg (cg (aO hp rz) hp.length ⟨.live,rcs X[i]⟩) 1 ⟨.live,p2⟩) 0=some z:=by rw[cI hx3,if_neg (by omega),hx3']
 have hx6:1<(cg (cg (aO hp rz) hp.length ⟨.live,rcs X[i]⟩) 1 ⟨.live,p2⟩).length:=by rw[bJ,al4];omega
 have hokx:=cB.okc X[i]
 have hlx:=cB.len X[i]
 have hn0:hp.length≠1:=by omega
 have hn1:(1=hp.length)=False:=by simp;omega
 unfold az at g1 g2
 generalize rcs X[i]=cx at *
 generalize rcs Y[i]=cy at *
 simp only[iv] at h9 h10
 have hv1:dz false X=vR X:=rfl
 have hv2:dz false Y=vR Y:=rfl
 rw[hv1] at x1
 rw[hv2] at y1
 have zR':=zRz
 have hbit:=akX
 simp[-Nat.testBit_zero,aje,pdB,pdC,f61,aQ,blk,gG] at hbit
 simp[-Nat.testBit_zero,hbit,KL,pdB,pdC,f61,and_assoc,bm,h0,h1,h4,h5,h8,h9,h10,hi,x1,x2,y1,y2,g1,g2,ho,hx,hx1,hx2,hx3,hx4,hx4',hx5,hx5',hx6,hokx,hlx,hpo,hpl,hn1,hw,aR,sR,zR',number,FP.free,cw,FP.apart]
theorem Lw (L:Lst)(run:aw)(k:Nat)(X Y:List Rat)(z:Blk)(h9:X.length≤10)(hXY:X.length=Y.length){k0:Nat}(hk0:k0≤10000)(hX:RbL k0 X)(hY:RbL k0 Y)(gm:bx L 56=fun a=>kR (aK a))(ga:bx L 87=fun a=>je (aK a)):∀ (n i:Nat) (fr:Ψ) (hp:Θ) (wr:Ω) (sc:Ψ) (u:Option Rat),i+n=X.length→KL fr X Y i→aL hp 0=some z→aL hp 1=some ⟨.live,sc⟩→1<hp.length→Rc sc u→vv u=Xy X Y i→(i≠0→u≠none) →
  ∃ fr' hp' wr' sc' u',cb (ae (CC L) run k pdB) (n+1) ⟨fr,hp,wr⟩=some (.exit 0,⟨fr',hp',wr'⟩)∧fr'.length=25∧nth fr' 4 = .ptr 0 0∧nth fr' 5 = .ptr 1 0∧aL hp' 0=some z∧aL hp' 1=some ⟨.live,sc'⟩∧1<hp'.length∧Rc sc' u'∧vv u'=dot X Y∧(X.length≠0→u'≠none)
 | 0,i,fr,hp,wr,sc,u,hin,h,hz,hb,hn,hc,hu,hu2=>by
  have e:i=X.length:=by omega
  subst e
  obtain⟨fr',q1,q2,q3,q4⟩:=af5 L run k fr hp wr X Y h
  exact⟨fr',hp,wr,sc,u,bu q1,q2,q3,q4,hz,hb,hn,hc,hu,hu2⟩
 | n+1,i,fr,hp,wr,sc,u,hin,h,hz,hb,hn,hc,hu,hu2=>by
  have hi:i<X.length:=by omega
  have hy:i<Y.length:=by omega
  have hbx:=hX _ (getElem_mem hi)
  have hby:=hY _ (getElem_mem hy)
  have hbs:=My hX hY hXY i (by omega)
  have hi9:i*(2*k0+1)≤10*20001:=Nat.mul_le_mul (by omega) (by omega)
  have g1:=Y3 gm run (p:=.agg (rcs X[i])) (q:=.agg (rcs Y[i])) (u:=some X[i]) (v:=some Y[i]) (.inl rfl) (.inl rfl) hbx hby (by omega)
  have g2:=Y4 ga run (p:=.agg sc) (q:=rv (some (X[i]*Y[i]))) (u:=u) (v:=some (X[i]*Y[i])) hc.p (.inl rfl) (by rw[hu];exact hbs) (hbx.mul hby) (by omega)
  obtain⟨fr1,hp1,wr1,q1,q2,q3,q4,q5⟩:=aby L run k fr hp wr X Y i sc _ (rcs (vv u+X[i]*Y[i])) z hi hy (by omega) hc.len (cB.len _) (cB.okc _) g1 g2 h hz hb hn
  obtain⟨fr',hp',wr',sc',u',s1,s2⟩:=Lw L run k X Y z h9 hXY hk0 hX hY gm ga n (i+1) fr1 hp1 wr1 (rcs (vv u+X[i]*Y[i])) (some (vv u+X[i]*Y[i])) (by omega) q2 q3 q4 q5 (.inl rfl) (by
   show vv u+X[i]*Y[i]=Xy X Y i+X.getD i 0*Y.getD i 0
   rw[hu,getD_eq_getElem?_getD,getD_eq_getElem?_getD,List.getElem?_eq_getElem hi,List.getElem?_eq_getElem hy]
   rfl) (fun _=>nofun)
  exact⟨fr',hp',wr',sc',u',by rw[bT q1];exact s1,s2⟩
def abz:Code:=seq1 (seq1 (ai 2 pdC))
theorem af3:ai 2 pdC = .seq (.seq abz (.block 0 (.loop pdB))) (ai 3 pdC):=rfl
theorem af4 (L:Lst)(run:aw)(k:Nat)(X Y:List Rat) :
  ∃ fr fr' wr,bh (CC L) run k 2 pdC ⟨entry 25 [vR X,vR Y],[],[]⟩=some ⟨fr,[⟨.live,rz⟩,⟨.live,rz⟩],wr⟩∧ae (CC L) run k abz ⟨fr,[⟨.live,rz⟩,⟨.live,rz⟩],wr⟩=some (.normal,⟨fr',[⟨.live,rz⟩,⟨.live,rz⟩],wr⟩)∧KL fr' X Y 0:=by
 obtain⟨e1,e2,e3⟩:=cl 23 (vR X) (vR Y)
 generalize entry 25 [vR X,vR Y]=fr0 at *
 have hl:cX (vR X)=some X.length:=rfl
 obtain⟨fr,wr,a1,a2,a3,a4,a5,a6⟩:∃ fr wr,bh (CC L) run k 2 pdC ⟨fr0,[],[]⟩=some ⟨fr,[⟨.live,rz⟩,⟨.live,rz⟩],wr⟩∧fr.length=25∧nth fr 0=vR X∧nth fr 1=vR Y∧nth fr 4 = .ptr 0 0∧nth fr 5 = .ptr 1 0:=by
  simp[pdC,f61,bh,e1,e2,e3,and_assoc,zRz,aO]
 refine⟨fr,?_⟩
 simp only[a1]
 simp[KL,abz,ai,pdC,f61,a2,a3,a4,a5,a6,bL,BA,hl]
theorem abx(z sc:Ψ)(hsl:sc.length=4)(hso:bg sc=true)(hzl:z.length=4)(h0:fr.length=25)(h4:nth fr 4 = .ptr 0 0)(h5:nth fr 5 = .ptr 1 0)(hz:aL hp 0=some ⟨.live,z⟩)(hb:aL hp 1=some ⟨.live,sc⟩)(hn:1<hp.length) :
  ∃ st,ae (CC L) run k (ai 3 pdC) ⟨fr,hp,wr⟩=some (.ret,st)∧aX TT st.fr st.hp f61.results.toList=some [.agg sc]:=by
 have ho:=ee z sc (by omega)
 have ht:=dG sc hsl
 have h6:aL (cg hp 0 ⟨.live,sc⟩) 0=some ⟨.live,sc⟩:=by rw[cI hz,if_pos rfl]
 simp[pdC,ai,f61,h0,h4,h5,bm,hz,hb,ho,ht,hso,hsl,h6,aR,sR]
def aeJ:Ψ→Option Ψ:=ctr (fun p:VV=>[vR p.1,vR p.2]) (fun p=>RbL 10000 p.1∧RbL 10000 p.2∧p.1.length=p.2.length∧p.1.length≤10∧p.1.length≠0) fun p=>[rv (some (dot p.1 p.2))]
theorem Rc.okc {cs:Ψ}{u:Option Rat}(h:Rc cs u):bg cs=true:=by
 rcases h with rfl | ⟨rfl,rfl⟩
 ·exact rP.okc u
 ·rfl
theorem OL:Ab.Spec base.P 61 aeJ:=Ab.Spec.bS (C:=CC LR1) (cR yL) fun args rs h=>by
 obtain⟨⟨X,Y⟩,⟨hX,hY,hl,h9,hne⟩,rfl,rfl⟩:=db h
 dsimp only at hX hY hl h9 hne
 obtain⟨fr,fr1,wr,a1,a2,a3⟩:=af4 LR1 (runK (CC LR1) (X.length+1)) (X.length+1) X Y
 obtain⟨fr2,hp2,wr2,sc,u,b1,b2,b3,b4,b5,b6,b7,b8,b9,b10⟩:=Lw LR1 (runK (CC LR1) (X.length+1)) (X.length+1) X Y ⟨.live,rz⟩ h9 hl (Nat.le_refl 10000) hX hY rfl rfl X.length 0 fr1 [⟨.live,rz⟩,⟨.live,rz⟩] wr rz none (by omega) a3 (by simp[aL]) (by simp[aL]) (by simp) (.inr ⟨rfl,rfl⟩) rfl (fun h=>absurd rfl h)
 have hL:ae (CC LR1) (runK (CC LR1) (X.length+1)) (X.length+1) (.seq abz (.block 0 (.loop pdB))) ⟨fr,[⟨.live,rz⟩,⟨.live,rz⟩],wr⟩=some (.normal,⟨fr2,hp2,wr2⟩):=by
  rw[ar a2];exact bE b1
 obtain⟨st,c1,c3⟩:=abx LR1 (runK (CC LR1) (X.length+1)) (X.length+1) fr2 hp2 wr2 rz sc b8.len b8.okc rfl b2 b3 b4 b5 b6 b7
 have hx:ae (CC LR1) (runK (CC LR1) (X.length+1)) (X.length+1) pdC ⟨entry 25 [vR X,vR Y],[],[]⟩=some (.ret,st):=by
  rw[aY 2 a1,af3,ar hL,c1]
 have hu:u=some (dot X Y):=by
  cases u with
  | none=>exact absurd rfl (b10 hne)
  | some y=>exact congrArg some b9
 subst hu
 exact⟨_,_,_,_,[.agg sc],[],ba QY rfl hx c3,b8.p.KZ _,b8.p.wk,trivial⟩
def ei (z:Int):Ψ:=[.sc (.int .i64 z)]
theorem PQ:Ec 1 ei where
 len:=fun _=>rfl
 okc:=fun _=>rfl
 can:=fun _=>rfl
 idf:=fun _=>rfl
 sn:=fun _ _ _=>rfl
def aE (at':List Int):PV:=iz ei at'
theorem kM:und TT 24=some (.slice 3):=by kernel_rfl
theorem Ch (l:List Int):cX (aE l)=some l.length:=rfl
theorem yA (l:List Int):canon (aE l)=aE l:=PQ.JH l
theorem LY (l:List Int)(i:Nat)(hi:i<l.length):∃ r,bd TT 24 (aE l) (.sc (.int .i64 (i:Int)))=some (.iptr r)∧r.head?=some (.sc (.int .i64 l[i])):=by
 have h:=mZ PQ.toEl l i hi
 refine⟨bp (l.flatMap ei) (i*1),?_,by rw[h];rfl⟩
 unfold aE iz
 simp only[bd,kM,bn,sI,hi,if_true]
theorem JV:∀ {p q:List Int},aE p=aE q→p=q:=by
 intro p q h
 unfold aE iz at h
 simp only[PV.imm.injEq,true_and] at h
 have:∀ (p q:List Int),p.flatMap ei=q.flatMap ei→p=q:=by
  intro p
  induction p with
  | nil=>intro q h;cases q with
   | nil=>rfl
   | cons a q=>simp[ei] at h
  | cons a p ih=>intro q h;cases q with
   | nil=>simp[ei] at h
   | cons b q =>
    simp only[flatMap_cons,ei,cons_append,nil_append,List.cons.injEq,PV.sc.injEq,Value.int.injEq,true_and] at h
    rw[h.1,ih q h.2]
 exact this p q h.2
theorem sF:∀ hp:Θ,qO hp.length hp=hp
 | []=>rfl
 | a::l=>by rw[length_cons,qO,sF l]
theorem qU {L:Lst}{run:aw}{g:Nat}{args:Ψ}{r:PV}{hp:Θ}(hs:base.shared g=true)(hr:run g args hp=some ([r],hp,[]))(hi:r.cH=true)(dr:Bool):bP (CC L) run dr hp g args=some (r,hp,⟨[],[],true,true⟩):=by
 have hs':(CC L).shared g=true:=hs
 unfold bP
 rw[if_pos hs',hr]
 simp only[bV,hi,ky,ie,Bool.and_self,cond_true,jm,sF]
theorem KC:base.F.get 103=some f103:=by kernel_rfl
theorem Ss:base.shared 103=true:=by kernel_rfl
theorem yS:base.F.get 148=some f148:=by kernel_rfl
theorem SG:base.shared 148=true:=by kernel_rfl
theorem KJ:base.F.get 102=some f102:=by kernel_rfl
theorem SJ:base.shared 102=true:=by kernel_rfl
theorem tG:base.F.get 50=some f50:=by kernel_rfl
theorem aaj:base.shared 50=false:=by kernel_rfl
theorem aeF(g:Nat):(CC L).sorc g=none:=rfl
theorem ez {L:Lst}{k:Nat}{g:FuncId}{args:Ψ}{hp:Θ}{fn:Func}{c:Code}{st:St}{rs:Ψ}(hF:base.F.get g=some fn)(hb:fn.body=some c)(hx:ae (CC L) (runK (CC L) k) k c ⟨entry fn.ntmps args,hp,[]⟩=some (.ret,st))(hr:aX TT st.fr st.hp fn.results.toList=some rs):runK (CC L) (k+1) g args hp=some (rs,st.hp,st.wr):=by
 have h1:(CC L).F g=some fn:=hF
 simp only[runK,aeF,sk,h1,hb,hx]
 rw[bc,hr]
def CE (m:Nat)(z:Int):Bool:=decide (z<0) || decide ((m:Int)≤z)
theorem P5 (L:Lst)(run:aw)(k:Nat)(c:List (List ByteArray))(hp:Θ)(z:Int)(hb:aL hp 0=some ⟨.live,[cE c]⟩) :
  ∃ st,ae (CC L) run k (f103.body.getD .skip) ⟨entry 12 [.sc (.int .i64 z),.ptr 0 0],hp,[]⟩=some (.ret,st)∧st.hp=hp∧st.wr=[]∧aX TT st.fr st.hp f103.results.toList=some [.sc (.bool (CE c.length z))]:=by
 obtain⟨e1,e2,e3⟩:=cl 10 (.sc (.int .i64 z)) (.ptr 0 0)
 generalize entry 12 [.sc (.int .i64 z),.ptr 0 0]=fr0 at *
 have hl:=eG c
 unfold CE
 by_cases h:z<0
 ·simp[f103,e1,e2,h,undef]
 ·by_cases h2:(c.length:Int)≤z
  ·simp[f103,e1,e2,e3,bL,h,h2,hb,hl,uCl,aCl,sCl]
  ·simp[f103,e1,e2,e3,bL,h,h2,hb,hl,uCl,aCl,sCl]
theorem Yr (L:Lst)(k:Nat)(c:List (List ByteArray))(hp:Θ)(z:Int)(hb:aL hp 0=some ⟨.live,[cE c]⟩):runK (CC L) (k+1) 103 [.sc (.int .i64 z),.ptr 0 0] hp=some ([.sc (.bool (CE c.length z))],hp,[]):=by
 obtain⟨st,x1,x2,x3,x4⟩:=P5 L (runK (CC L) k) k c hp z hb
 have:=ez KC rfl x1 x4
 rw[x2,x3] at this
 exact this
def ifC:Code:=f148.body.getD .skip
def ifB:Code:=(aA ifC).getD .skip
def IfF (fr:Ψ)(l:List Int)(f:PV)(i:Nat):Prop:=fr.length=19∧nth fr 0=aE l∧nth fr 1=f∧nth fr 7=iv l.length∧nth fr 8=iv i
theorem ag6(l:List Int)(f:PV)(h:IfF fr l f l.length) :
  ∃ fr',ae (CC L) run k ifB ⟨fr,hp,[]⟩=some (.exit 0,⟨fr',hp,[]⟩)∧fr'.length=19:=by
 obtain⟨h0,h1,h2,h7,h8⟩:=h
 simp only[iv] at h7 h8
 simp[ifB,ifC,f148,h0,h7,h8]
theorem WD(l:List Int)(g:Nat)(caps:Ψ)(i:Nat)(v:Bool)(hi:i<l.length)(h9:l.length<1000000)(hc:∀ dr,bP (CC L) run dr hp g ([.sc (.int .i64 l[i])]++caps)=some (.sc (.bool v),hp,⟨[],[],true,true⟩))(h:IfF fr l (.clos g caps) i) :
  ∃ fr',ae (CC L) run k ifB ⟨fr,hp,[]⟩=some (bif v then .ret else .normal,⟨fr',hp,[]⟩)∧(v=true→nth fr' 4=iv i)∧(v=false→IfF fr' l (.clos g caps) (i+1)):=by
 obtain⟨h0,h1,h2,h7,h8⟩:=h
 obtain⟨r,x1,x2⟩:=LY l i hi
 have hw:=bD i (by omega)
 generalize l[i]=z at *
 simp only[iv] at h7 h8
 simp only[cons_append,nil_append] at hc
 cases v <;> simp[IfF,ifB,ifC,f148,h0,h1,h2,h7,h8,hi,x1,x2,hc,hw,aI,sI]
theorem Md (L:Lst)(run:aw)(k:Nat)(hp:Θ)(l:List Int)(g:Nat)(caps:Ψ)(b:Int→Bool)(h9:l.length<1000000)(hc:∀ z ∈ l,∀ dr,bP (CC L) run dr hp g ([.sc (.int .i64 z)]++caps)=some (.sc (.bool (b z)),hp,⟨[],[],true,true⟩)):∀ (n i:Nat) (fr:Ψ),i+n=l.length→IfF fr l (.clos g caps) i →
  (∃ fr',(l.drop i).any b=false∧cb (ae (CC L) run k ifB) (n+1) ⟨fr,hp,[]⟩=some (.exit 0,⟨fr',hp,[]⟩)∧fr'.length=19)∨∃ fr' j,(l.drop i).any b=true∧cb (ae (CC L) run k ifB) (n+1) ⟨fr,hp,[]⟩=some (.ret,⟨fr',hp,[]⟩)∧nth fr' 4=iv j
 | 0,i,fr,hin,h=>by
  have e:i=l.length:=by omega
  subst e
  obtain⟨fr',q1,q2⟩:=ag6 L run k fr hp l _ h
  rw[drop_length]
  exact .inl ⟨fr',rfl,bu q1,q2⟩
 | n+1,i,fr,hin,h=>by
  have hi:i<l.length:=by omega
  obtain⟨fr1,q1,q2,q3⟩:=WD L run k fr hp l g caps i _ hi h9 (hc _ (getElem_mem hi)) h
  rw[drop_eq_getElem_cons hi,any_cons]
  cases hv:b l[i] with
  | true =>
   rw[hv] at q1 q2
   exact .inr ⟨fr1,i,rfl,du q1,q2 rfl⟩
  | false =>
   rw[hv] at q1 q3
   rw[Bool.false_or,bT q1]
   exact Md L run k hp l g caps b h9 hc n (i+1) fr1 (by omega) (q3 rfl)
def WE:Code:=seq1 (seq1 (ai 1 ifC))
theorem WC:ai 1 ifC = .seq (.seq WE (.block 0 (.loop ifB))) (ai 2 ifC):=rfl
theorem ag5 (L:Lst)(run:aw)(k:Nat)(l:List Int)(f:PV)(hp:Θ):∃ fr fr',bh (CC L) run k 1 ifC ⟨entry 19 [aE l,f],hp,[]⟩=some ⟨fr,hp,[]⟩∧ae (CC L) run k WE ⟨fr,hp,[]⟩=some (.normal,⟨fr',hp,[]⟩)∧IfF fr' l f 0:=by
 obtain⟨e1,e2,e3⟩:=cl 17 (aE l) f
 generalize entry 19 [aE l,f]=fr0 at *
 have hl:=Ch l
 obtain⟨fr,a1,a2,a3,a4⟩:∃ fr,bh (CC L) run k 1 ifC ⟨fr0,hp,[]⟩=some ⟨fr,hp,[]⟩∧fr.length=19∧nth fr 0=aE l∧nth fr 1=f:=by
  simp[ifC,f148,bh,e1,e2,e3]
 refine⟨fr,?_⟩
 rw[a1]
 simp[IfF,WE,ai,ifC,f148,a2,a3,a4,bL,hl,kM]
theorem ac4(h0:fr.length=19):∃ st,ae (CC L) run k (ai 2 ifC) ⟨fr,hp,[]⟩=some (.ret,st)∧st.hp=hp∧st.wr=[]∧aX TT st.fr st.hp f148.results.toList=some [.sc (.int .i64 (-1))]:=by
 simp[ifC,ai,f148,h0]
theorem ag4(n:Nat)(h:nth fr 4=iv n):aX TT fr hp f148.results.toList=some [iv n]:=by
 simp[f148,h]
theorem ag3(l:List Int)(g:Nat)(caps:Ψ)(b:Int→Bool)(hk:l.length<k)(h9:l.length<1000000)(hc:∀ z ∈ l,∀ dr,bP (CC L) (runK (CC L) k) dr hp g ([.sc (.int .i64 z)]++caps)=some (.sc (.bool (b z)),hp,⟨[],[],true,true⟩)) :
  ∃ r:Int,runK (CC L) (k+1) 148 [aE l,.clos g caps] hp=some ([.sc (.int .i64 r)],hp,[])∧decide (0≤r)=l.any b:=by
 obtain⟨fr,fr1,a1,a2,a3⟩:=ag5 L (runK (CC L) k) k l (.clos g caps) hp
 have hl:=Md L (runK (CC L) k) k hp l g caps b h9 hc l.length 0 fr1 (by omega) a3
 rw[drop_zero] at hl
 rcases hl with ⟨fr2,h0,b1,b2⟩| ⟨fr2,j,h0,b1,b2⟩
 ·have:ae (CC L) (runK (CC L) k) k (.seq WE (.block 0 (.loop ifB))) ⟨fr,hp,[]⟩=some (.normal,⟨fr2,hp,[]⟩):=by
   rw[ar a2];exact bE (bK b1 (by omega))
  obtain⟨st,c1,c2,c3,c4⟩:=ac4 L (runK (CC L) k) k fr2 hp b2
  have hx:ae (CC L) (runK (CC L) k) k ifC ⟨entry 19 [aE l,.clos g caps],hp,[]⟩=some (.ret,st):=by
   rw[aY 1 a1,WC,ar this,c1]
  have:=ez yS rfl hx c4
  rw[c2,c3] at this
  exact⟨-1,this,by rw[h0];rfl⟩
 ·have:ae (CC L) (runK (CC L) k) k (.seq WE (.block 0 (.loop ifB))) ⟨fr,hp,[]⟩=some (.ret,⟨fr2,hp,[]⟩):=by
   rw[ar a2];exact cJ (bK b1 (by omega))
  have hx:ae (CC L) (runK (CC L) k) k ifC ⟨entry 19 [aE l,.clos g caps],hp,[]⟩=some (.ret,⟨fr2,hp,[]⟩):=by
   rw[aY 1 a1,WC,bO this]
  have:=ez yS rfl hx (ag4 fr2 hp j b2)
  exact⟨j,this,by rw[h0];simp⟩
theorem ahQ(l:List Int)(g:Nat)(caps:Ψ)(b:Int→Bool)(hk:l.length<k)(h9:l.length<1000000)(hc:∀ z ∈ l,∀ dr,bP (CC L) (runK (CC L) k) dr hp g ([.sc (.int .i64 z)]++caps)=some (.sc (.bool (b z)),hp,⟨[],[],true,true⟩)) :
  runK (CC L) (k+2) 102 [aE l,.clos g caps] hp=some ([.sc (.bool (l.any b))],hp,[]):=by
 obtain⟨r,h1,h2⟩:=ag3 L k hp l g caps b hk h9 hc
 have hcall:=qU (L:=L) SG h1 rfl
 obtain⟨e1,e2,e3⟩:=cl 7 (aE l) (.clos g caps)
 rw[← h2]
 have hx:∃ st,ae (CC L) (runK (CC L) (k+1)) (k+1) (f102.body.getD .skip) ⟨entry 9 [aE l,.clos g caps],hp,[]⟩=some (.ret,st)∧st.hp=hp∧st.wr=[]∧aX TT st.fr st.hp f102.results.toList=some [.sc (.bool (decide (0≤r)))]:=by
  generalize entry 9 [aE l,.clos g caps]=fr0 at *
  simp[f102,e1,e2,e3,hcall]
 obtain⟨st,x1,x2,x3,x4⟩:=hx
 have:=ez KJ rfl x1 x4
 rw[x2,x3] at this
 exact this
def tz (c:List (List ByteArray))(l:List Int)(n:Int):Nat:=if chk c≠0 then chk c else if 0≤n∧(l.length:Int)≠n then 10 else bif l.any (CE c.length) then 4 else 0
def LR2:Lst:=(80,Cy)::LR1
theorem Y0:dE base.P LR2:=⟨FY,yL⟩
theorem yh (n:Nat)(p q r:PV):(entry (n+3) [p,q,r]).length=n+3∧nth (entry (n+3) [p,q,r]) 0=p∧nth (entry (n+3) [p,q,r]) 1=q∧nth (entry (n+3) [p,q,r]) 2=r:=⟨fG _ _ (by simp),rfl,rfl,rfl⟩
theorem ak0(c:List (List ByteArray))(l:List Int)(n:Int)(e:Nat)(he:e≠0)(g:az L run 80 [cE c] (iv e)) :
  ∃ st,ae (CC L) run k (f50.body.getD .skip) ⟨entry 24 [cE c,aE l,.sc (.int .i64 n)],[],[]⟩=some (.ret,st)∧aX TT st.fr st.hp f50.results.toList=some [iv e]:=by
 obtain⟨e1,e2,e3,e4⟩:=yh 21 (cE c) (aE l) (.sc (.int .i64 n))
 generalize entry 24 [cE c,aE l,.sc (.int .i64 n)]=fr0 at *
 unfold az at g
 have hb:((e:Int) != 0)=true:=by simp;omega
 simp only[iv] at g ⊢
 simp[f50,e1,e2,se,g,hb,aCl,sCl,aO,aL]
theorem akZ(c:List (List ByteArray))(l:List Int)(n:Int)(hn:0≤n)(hl:(l.length:Int)≠n)(g:az L run 80 [cE c] (iv 0)) :
  ∃ st,ae (CC L) run k (f50.body.getD .skip) ⟨entry 24 [cE c,aE l,.sc (.int .i64 n)],[],[]⟩=some (.ret,st)∧aX TT st.fr st.hp f50.results.toList=some [iv 10]:=by
 obtain⟨e1,e2,e3,e4⟩:=yh 21 (cE c) (aE l) (.sc (.int .i64 n))
 generalize entry 24 [cE c,aE l,.sc (.int .i64 n)]=fr0 at *
 unfold az at g
 have hl1:=Ch l
 have hb:((l.length:Int) != n)=true:=by simp[hl]
 have hb2:((0:Int) != 0)=false:=rfl
 simp only[iv,Int.cast_ofNat_Int] at g ⊢
 simp[f50,e1,e2,e3,e4,bL,se,g,hb,hl1,hn,aCl,sCl,kM,aO,aL]
theorem akY(c:List (List ByteArray))(l:List Int)(n:Int)(hn : ¬ (0≤n∧(l.length:Int)≠n))(v:Bool)(g:az L run 80 [cE c] (iv 0))(hc:bP (CC L) run false [⟨.live,[cE c]⟩] 102 [aE l,.clos 103 [.ptr 0 0]]=some (.sc (.bool v),[⟨.live,[cE c]⟩],⟨[],[],true,true⟩)) :
  ∃ st,ae (CC L) run k (f50.body.getD .skip) ⟨entry 24 [cE c,aE l,.sc (.int .i64 n)],[],[]⟩=some (.ret,st)∧aX TT st.fr st.hp f50.results.toList=some [iv (bif v then 4 else 0)]:=by
 obtain⟨e1,e2,e3,e4⟩:=yh 21 (cE c) (aE l) (.sc (.int .i64 n))
 generalize entry 24 [cE c,aE l,.sc (.int .i64 n)]=fr0 at *
 unfold az at g
 have hl1:=Ch l
 simp only[iv,Int.cast_ofNat_Int] at g ⊢
 by_cases h0:0≤n
 ·have hl:(l.length:Int)=n:=Classical.byContradiction fun e=>hn ⟨h0,e⟩
  have hb:((l.length:Int) != n)=false:=by simp[hl]
  cases v <;> simp[f50,e1,e2,e3,e4,bL,se,g,hl,hl1,h0,hc,aCl,sCl,kM,aO,aL]
 ·cases v <;> simp[f50,e1,e2,e3,e4,se,g,h0,hc,aCl,sCl,aO,aL,undef]
abbrev CL:=List (List ByteArray) × List Int × Int
def eCL (p:CL):Ψ:=[cE p.1,aE p.2.1,.sc (.int .i64 p.2.2)]
theorem adK {p q:CL}(h:eCL p=eCL q):p=q:=by
 simp only[eCL,List.cons.injEq,and_true,PV.sc.injEq,Value.int.injEq,true_and] at h
 exact Prod.ext (CD h.1) (Prod.ext (JV h.2.1) h.2.2)
def UE:Ψ→Option Ψ:=ctr eCL (fun p=>Fit p.1∧p.2.1.length≤1000) fun p=>[iv (tz p.1 p.2.1 p.2.2)]
theorem ON:Ab.Spec base.P 50 UE:=Ab.Spec.bS (C:=CC LR2) (cR Y0) fun args rs h=>by
 obtain⟨⟨c,l,n⟩,⟨hF,h9⟩,rfl,rfl⟩:=db h
 dsimp only at hF h9
 have g:=Y9 (L:=LR2) rfl (runK (CC LR2) (l.length+4)) c hF
 show ∃ k rs1 hp1 wr rs2 ids,runK (CC LR2) k 50 [cE c,aE l,.sc (.int .i64 n)] []=_∧_∧WkL rs2 [iv (tz c l n)]
 unfold tz
 by_cases h1:chk c≠0
 ·rw[if_pos h1]
  obtain⟨st,x1,x2⟩:=ak0 LR2 (runK (CC LR2) (l.length+4)) (l.length+4) c l n (chk c) h1 g
  exact⟨_,_,_,_,_,_,ba tG rfl x1 x2,rfl,Wk.refl rfl,trivial⟩
 ·rw[if_neg h1]
  have h2:chk c=0:=Classical.byContradiction h1
  rw[h2] at g
  by_cases h3:0≤n∧(l.length:Int)≠n
  ·rw[if_pos h3]
   obtain⟨st,x1,x2⟩:=akZ LR2 (runK (CC LR2) (l.length+4)) (l.length+4) c l n h3.1 h3.2 g
   exact⟨_,_,_,_,_,_,ba tG rfl x1 x2,rfl,Wk.refl rfl,trivial⟩
  ·rw[if_neg h3]
   have hr:=ahQ LR2 (l.length+2) [⟨.live,[cE c]⟩] l 103 [.ptr 0 0] (CE c.length) (by omega) (by omega) (fun z _ dr=>qU Ss (Yr LR2 (l.length+1) c _ z rfl) rfl dr)
   have hc:=qU (L:=LR2) SJ hr rfl false
   obtain⟨st,x1,x2⟩:=akY LR2 (runK (CC LR2) (l.length+4)) (l.length+4) c l n h3 _ g hc
   exact⟨_,_,_,_,_,_,ba tG rfl x1 x2,rfl,Wk.refl rfl,trivial⟩
theorem aix {L:Lst}(hL:bx L 50=fun a=>UE (aK a))(run:aw)(c:List (List ByteArray))(l:List Int)(n:Int)(hF:Fit c)(h9:l.length≤1000):az L run 50 [cE c,aE l,.sc (.int .i64 n)] (iv (tz c l n)) :=
 ji aaj (e:=eCL) (f:=fun p=>[iv (tz p.1 p.2.1 p.2.2)]) hL (fun x y _ _ h=>by rw[adK h]) run (c,l,n) ⟨hF,h9⟩ (fun _=>rfl) (by simp only[eCL,aK,iY,yA];rfl)
theorem KK:base.F.get 81=some f81:=by kernel_rfl
theorem SK:base.shared 81=false:=by kernel_rfl
def lJ (c:List (List ByteArray)):Nat:=if chk c=0 then hdL c else 0
def YQ:Ψ→Option Ψ:=ctr (fun c=>[cE c]) Fit fun c=>[iv (lJ c)]
theorem neI (e:Nat):((e:Int) != 0) = !decide (e=0):=by
 by_cases h:e=0
 ·subst h;rfl
 ·have:((e:Int) != 0)=true:=by simp;omega
  rw[this,decide_eq_false h];rfl
theorem aej(c:List (List ByteArray))(g:az L run 80 [cE c] (iv (chk c))) :
  ∃ st,ae (CC L) run k (f81.body.getD .skip) ⟨entry 15 [cE c],[],[]⟩=some (.ret,st)∧aX TT st.fr st.hp f81.results.toList=some [iv (lJ c)]:=by
 obtain⟨e1,e2⟩:=cO 14 (cE c)
 generalize entry 15 [cE c]=fr0 at *
 unfold az at g
 unfold lJ
 have hne:=neI (chk c)
 cases hc:c with
 | nil =>
  have hl:cX (cE [])=some 0:=rfl
  rw[hc] at e2
  have h0:(if chk []=0 then hdL [] else 0)=0:=by split <;> rfl
  rw[h0]
  simp[f81,e1,e2,bL,hl,uCl,undef]
 | cons p r =>
  rw[← hc]
  obtain⟨q,x1,x2⟩:=jH uCl c 0 (by rw[hc];simp)
  have hp:c[0]'(by rw[hc];simp)=p:=by subst hc;rfl
  rw[hp] at x2
  rw[show (((0:Nat):Int))=(0:Int) from rfl] at x1
  have hh:hdL c=p.length:=by rw[hc];rfl
  have hl:=eG c
  have hl0:((c.length:Int) == 0)=false:=by rw[beq_eq_false_iff_ne,hc];simp;omega
  have hlp:=eF p
  rw[hh]
  generalize chk c=e at *
  simp only[iv] at g ⊢
  have hcl : ¬ c.length=0:=by rw[hc];simp
  have hcn : ¬ c=[]:=by rw[hc];simp
  by_cases h:e=0
  ·subst h
   simp[f81,e1,e2,bL,hl,hl0,hlp,uCl,uPt,g,x1,x2,aPt,sPt]
  ·have hne2:((e:Int) != 0)=true:=by rw[hne,decide_eq_false h];rfl
   simp[f81,e1,e2,bL,hl,hl0,uCl,g,hne2,h]
def LR3:Lst:=(22,Cy)::LR2
theorem aih:dE base.P LR3:=⟨sX,Y0⟩
theorem QO:Ab.Spec base.P 81 YQ:=Ab.Spec.bS (C:=CC LR3) (cR aih) fun args rs h=>by
 obtain⟨c,hF,rfl,rfl⟩:=db h
 obtain⟨st,x1,x2⟩:=aej LR3 (runK (CC LR3) 1) 1 c (Y9 rfl _ c hF)
 exact⟨2,_,_,_,_,_,ba KK rfl x1 x2,rfl,Wk.refl rfl,trivial⟩
theorem aiC {L:Lst}(hL:bx L 81=fun a=>YQ (aK a))(run:aw)(c:List (List ByteArray))(hF:Fit c):az L run 81 [cE c] (iv (lJ c)) :=
 ji SK (e:=fun c=>[cE c]) (f:=fun c=>[iv (lJ c)]) hL (fun x y _ _ h=>by rw[ll h]) run c hF (qR · c) (px c)
def eT (V:List Rat):Ψ:=[dz true V]
theorem aki:El 1 eT where
 len:=fun _=>rfl
 okc:=fun _=>rfl
 idf:=fun _=>rfl
 sn:=fun _ _ _=>rfl
def mT (M:List (List Rat)):PV:=.imm M.length false (M.flatMap eT)
def qC (X:List (List Rat)):PV:=cE (X.map fun P=>P.map qb)
def aN (l:Ω):PV:=aE (l.map Int.ofNat)
def jK (X:List (List Rat))(l:Ω):List (List Rat):=l.tail.map fun i=>jc (X.getD i []) (X.getD (l.headD 0) [])
theorem KA:base.F.get 51=some f51:=by kernel_rfl
theorem Sp:base.shared 51=false:=by kernel_rfl
theorem zE:und TT 80=some (.slice 84):=by kernel_rfl
theorem aly:ja TT 84=some 24:=by kernel_rfl
theorem aiE:dU TT 84=some [.sc (.slice none 0 0)]:=by kernel_rfl
def dfC:Code:=f51.body.getD .skip
def dfB:Code:=(aA dfC).getD .skip
def DfF (fr:Ψ)(X:List (List Rat))(l:Ω)(V:List Rat)(i:Nat):Prop:=fr.length=35∧nth fr 0=qC X∧nth fr 5=dz true V∧nth fr 17=aN l∧nth fr 18=iv l.length∧nth fr 19=iv i
theorem ahB(X:List (List Rat))(l:Ω)(V:List Rat)(h:DfF fr X l V l.length) :
  ∃ fr',ae (CC L) run k dfB ⟨fr,hp,wr⟩=some (.exit 0,⟨fr',hp,wr⟩)∧fr'.length=35∧nth fr' 6=nth fr 6:=by
 obtain⟨h0,h1,h5,h17,h18,h19⟩:=h
 simp only[iv] at h18 h19
 simp[dfB,dfC,f51,h0,h18,h19]
theorem ajA (v:PV)(hv:v.cells?=some [v]):fY TT 80 1 [(0,v)]=some (1,[v]):=by
 simp[fY,zE,DI,aiE,rep,dH,hv,ca]
theorem ajb(v:PV):fW hp 1 (.imm 1 true [v])=some (1,[v],[]):=by simp[fW]
theorem XM(X:List (List Rat))(l:Ω)(V:List Rat)(i:Nat)(out:List (List Rat))(hi:i<l.length)(h9:l.length≤1000)(ho9:out.length≤1000)(hX:l[i]<X.length)(g1:az L run 59 [qL X[l[i]]] (dz true X[l[i]]))(g2:az L run 60 [dz true X[l[i]],dz true V] (dz true (jc X[l[i]] V)))(hO:da 1 eT 0 hp out (nth fr 6))(h:DfF fr X l V i) :
  ∃ fr' hp' wr',ae (CC L) run k dfB ⟨fr,hp,wr⟩=some (.normal,⟨fr',hp',wr'⟩)∧DfF fr' X l V (i+1)∧da 1 eT 0 hp' (out++[jc X[l[i]] V]) (nth fr' 6):=by
 obtain⟨h0,h1,h5,h17,h18,h19⟩:=h
 have hi':i<(l.map Int.ofNat).length:=by simpa using hi
 obtain⟨r,x1,x2⟩:=LY (l.map Int.ofNat) i hi'
 have hX':l[i]<(X.map fun P=>P.map qb).length:=by simpa using hX
 obtain⟨r',y1,y2⟩:=jH uCl (X.map fun P=>P.map qb) l[i] hX'
 have e1:pE (X.map fun P=>P.map qb)[l[i]]=qL X[l[i]]:=by rw[getElem_map];rfl
 rw[e1] at y2
 rw[getElem_map] at x2
 rw[show aE (l.map Int.ofNat)=aN l from rfl] at x1
 rw[show cE (X.map fun P=>P.map qb)=qC X from rfl] at y1
 obtain⟨p',hp',fp,a1,a2,-⟩:=hO.app aki [jc X[l[i]] V] (by simp) (by simp;omega)
 have hw:=bD i (by omega)
 have hlv:=ajA (dz true (jc X[l[i]] V)) rfl
 have hrd:=fun hp=>ajb hp (dz true (jc X[l[i]] V))
 have e2:[jc X[l[i]] V].flatMap eT=[dz true (jc X[l[i]] V)]:=rfl
 rw[e2] at a1
 unfold az at g1 g2
 have hid:(dz true (jc X[l[i]] V)).cH=true:=rfl
 have hok:=II true (jc X[l[i]] V)
 generalize dz true (jc X[l[i]] V)=v at *
 generalize jc X[l[i]] V=W at *
 generalize dz true X[l[i]]=u at *
 generalize qL X[l[i]]=q at *
 generalize l[i]=j at *
 rw[show Int.ofNat j=(j:Int) from rfl] at x2
 rw[show [W].length=1 from rfl] at a1
 simp only[iv] at h18 h19
 simp[DfF,dfB,dfC,f51,and_assoc,bg,h0,h1,h5,h17,h18,h19,hi,x1,x2,y1,y2,g1,g2,hlv,hrd,hid,hok,hw,aI,sI,aPt,sPt,bV,zE,DI,aly,aiE,ch,a1,a2]
theorem MA (L:Lst)(run:aw)(k:Nat)(X:List (List Rat))(l:Ω)(V:List Rat)(h9:l.length≤1000)(hl:∀ i ∈ l,∃ h:i<X.length,az L run 59 [qL X[i]] (dz true X[i])∧az L run 60 [dz true X[i],dz true V] (dz true (jc X[i] V))):∀ (n i:Nat) (fr:Ψ) (hp:Θ) (wr:Ω) (out:List (List Rat)),i+n=l.length→out=(l.take i).map (fun j=>jc (X.getD j []) V)→da 1 eT 0 hp out (nth fr 6)→DfF fr X l V i →
  ∃ fr' hp' wr',cb (ae (CC L) run k dfB) (n+1) ⟨fr,hp,wr⟩=some (.exit 0,⟨fr',hp',wr'⟩)∧fr'.length=35∧da 1 eT 0 hp' (l.map (fun j=>jc (X.getD j []) V)) (nth fr' 6)
 | 0,i,fr,hp,wr,out,hin,ho,hO,h=>by
  have e:i=l.length:=by omega
  subst e
  obtain⟨fr',q1,q2,q3⟩:=ahB L run k fr hp wr X l V h
  refine⟨fr',hp,wr,bu q1,q2,?_⟩
  rw[take_length] at ho
  rw[q3,← ho]
  exact hO
 | n+1,i,fr,hp,wr,out,hin,ho,hO,h=>by
  have hi:i<l.length:=by omega
  obtain⟨hX,g1,g2⟩:=hl l[i] (getElem_mem hi)
  obtain⟨fr1,hp1,wr1,q1,q2,q3⟩:=XM L run k fr hp wr X l V i out hi h9 (by rw[ho];simp;omega) hX g1 g2 hO h
  obtain⟨fr',hp',wr',s1,s2⟩:=MA L run k X l V h9 hl n (i+1) fr1 hp1 wr1 _ (by omega) (by
   rw[ho,take_succ_eq_append_getElem hi,map_append,map_cons,map_nil,getD_eq_getElem?_getD,List.getElem?_eq_getElem hX];rfl) q3 q2
  exact⟨fr',hp',wr',by rw[bT q1];exact s1,s2⟩
def adU:Code:=seq1 (seq1 (ai 3 dfC))
theorem ahz:ai 3 dfC = .seq (.seq adU (.block 0 (.loop dfB))) (ai 4 dfC):=rfl
theorem aiY(j:Nat)(l:Ω):dw TT hp 24 (aN (j::l)) (some (.sc (.int .i64 1))) none none=some (aN l):=by
 have h1:aN (j::l) = .imm (l.length+1) false (.sc (.int .i64 (Int.ofNat j))::(l.map Int.ofNat).flatMap ei):=by
  simp[aN,aE,iz,ei]
 have h2:aN l = .imm l.length false ((l.map Int.ofNat).flatMap ei):=by simp[aN,aE,iz]
 have h3:((l.map Int.ofNat).flatMap ei).length=l.length:=by
  have:=PQ.toEl.length (l.map Int.ofNat)
  simpa using this
 rw[h1,h2]
 have ht:bF ((l.map Int.ofNat).flatMap ei) l.length=some ((l.map Int.ofNat).flatMap ei):=by
  rw[dh (by omega),← h3,take_length]
 simp[dw,kM,iJ,sI,bnd,fv,aen,gK,h3,ht]
theorem ahA (L:Lst)(run:aw)(k:Nat)(X:List (List Rat))(j:Nat)(l:Ω)(hj:j<X.length)(g:az L run 59 [qL X[j]] (dz true X[j])) :
  ∃ fr fr',bh (CC L) run k 3 dfC ⟨entry 35 [qC X,aN (j::l)],[],[]⟩=some ⟨fr,[],[]⟩∧ae (CC L) run k adU ⟨fr,[],[]⟩=some (.normal,⟨fr',[],[]⟩)∧DfF fr' X l X[j] 0∧nth fr' 6 = .sc (.slice none 0 0):=by
 obtain⟨e1,e2,e3⟩:=cl 33 (qC X) (aN (j::l))
 generalize entry 35 [qC X,aN (j::l)]=fr0 at *
 have hX':j<(X.map fun P=>P.map qb).length:=by simpa using hj
 obtain⟨r',y1,y2⟩:=jH uCl (X.map fun P=>P.map qb) j hX'
 obtain⟨r,x1,x2⟩:=LY ((j::l).map Int.ofNat) 0 (by simp)
 have e4:pE (X.map fun P=>P.map qb)[j]=qL X[j]:=by rw[getElem_map];rfl
 rw[e4] at y2
 rw[show ((j::l).map Int.ofNat)[0]'(by simp)=(j:Int) from rfl] at x2
 rw[show aE ((j::l).map Int.ofNat)=aN (j::l) from rfl,show (((0:Nat):Int))=(0:Int) from rfl] at x1
 rw[show cE (X.map fun P=>P.map qb)=qC X from rfl] at y1
 have hsl:=fun hp=>aiY hp j l
 have hl:cX (aN l)=some l.length:=by simp[aN,aE,iz,cX]
 unfold az at g
 obtain⟨fr,a1,a2,a3,a4,a5,a6⟩:∃ fr,bh (CC L) run k 3 dfC ⟨fr0,[],[]⟩=some ⟨fr,[],[]⟩∧fr.length=35∧nth fr 0=qC X∧nth fr 1=aN (j::l)∧nth fr 5=dz true X[j]∧nth fr 6 = .sc (.slice none 0 0):=by
  simp[dfC,f51,bh,e1,e2,e3,x1,x2,y1,y2,g,aI,sI,aPt,sPt]
 refine⟨fr,?_⟩
 rw[a1]
 obtain⟨cs,hal⟩:∃ cs,aN (j::l) = .imm (l.length+1) false cs:=⟨_,by simp only[aN,aE,iz,length_map,length_cons];rfl⟩
 rw[hal] at a4
 simp only[hal] at hsl
 simp[DfF,adU,ai,dfC,f51,a2,a3,a4,a5,a6,bL,and_assoc,hsl,hl,kM]
theorem adT(p:PV)(h0:fr.length=35)(h3:nth fr 6=p):∃ st,ae (CC L) run k (ai 4 dfC) ⟨fr,hp,wr⟩=some (.ret,st)∧st.hp=hp∧aX TT st.fr st.hp f51.results.toList=some [p]:=by
 simp[dfC,ai,f51,h0,h3]
theorem UG {α:Type}{s:Nat}{e:α→Ψ}(he:El s e){b:Nat}{hp:Θ}{l:List α}{p:PV}(h:da s e b hp l p):∃ rs ids,bw (snap hp bq) [p]=some (rs,ids)∧WkL rs [iz e l]:=by
 obtain⟨hb,h⟩:=h
 rcases h with ⟨rfl,rfl⟩| ⟨id,m,x,hid,_,rfl,_,h⟩
 ·exact⟨[.sc (.slice none 0 0)],[],rfl,Wk.nil false,trivial⟩
 ·have ht:bF (bp ((l++m).flatMap e) 0) (l.length*s)=some (l.flatMap e):=by
   rw[cF,drop_zero,sE he]
  have h1:Ab.snap hp (11+1) (.own id s 0 l.length x)=some (.imm l.length x (l.flatMap e),[id]):=by
   rw[Ab.snap]
   simp only[h]
   rw[if_neg (by simp),ht]
   simp only[he.sns hp 10 l]
  refine⟨[.imm l.length x (l.flatMap e)],[id],?_,?_,trivial⟩
  ·show bw (snap hp 12) _=_
   simp only[bw,h1]
   rfl
  ·cases x
   ·exact Wk.refl (by simp[PV.cH])
   ·exact Wk.imm _ _ _
def LR4:Lst:=[(59,xt),(60,Lr),(61,aeJ)]
theorem aif:dE base.P LR4:=⟨pY,Ax,OL,trivial⟩
abbrev XN:=List (List Rat) × Ω
def aez (m:Nat)(k:Nat)(X:List (List Rat)):Prop:=∀ P ∈ X,P.length=m∧RbL k P
theorem afU {X Y:List (List Rat)}(h:qC X=qC Y):X=Y:=by
 have h1:=CD h
 clear h
 induction X generalizing Y with
 | nil=>cases Y with
  | nil=>rfl
  | cons b Y=>simp at h1
 | cons a X ih=>cases Y with
  | nil=>simp at h1
  | cons b Y =>
   simp only[map_cons,List.cons.injEq] at h1
   rw[Ux (X:=a) (Y:=b) (by unfold qL;rw[h1.1]),ih h1.2]
theorem ah2 {p q:Ω}(h:aN p=aN q):p=q:=by
 have h1:=JV h
 exact map_inj_right (fun x y h=>Int.ofNat.inj h) |>.1 h1
def Iy:Ψ→Option Ψ:=ctr (fun p:XN=>[qC p.1,aN p.2]) (fun p=>p.2≠[]∧p.2.length≤1000∧(∀ i ∈ p.2,i<p.1.length)∧∃ m,m≤1000∧aez m 1000 p.1) fun p=>[mT (jK p.1 p.2)]
theorem Ix:Ab.Spec base.P 51 Iy:=Ab.Spec.bS (C:=CC LR4) (cR aif) fun args rs h=>by
 obtain⟨⟨X,l⟩,⟨hne,h9,hin,m,hm,hE⟩,rfl,rfl⟩:=db h
 dsimp only at hne h9 hin hE
 cases l with
 | nil=>exact absurd rfl hne
 | cons j l =>
  have hj:=hin j mem_cons_self
  have hEj:=hE _ (getElem_mem hj)
  obtain⟨fr,fr1,a1,a2,a3,a4⟩:=ahA LR4 (runK (CC LR4) (l.length+1)) (l.length+1) X j l hj (sv rfl _ _ hEj.2 (by omega))
  obtain⟨fr2,hp2,wr2,b1,b2,b3⟩:=MA LR4 (runK (CC LR4) (l.length+1)) (l.length+1) X l X[j] (by simp at h9;omega) (fun i hi=>by
   have h1:=hin i (mem_cons_of_mem _ hi)
   have hEi:=hE _ (getElem_mem h1)
   exact⟨h1,sv rfl _ _ hEi.2 (by omega),J0 rfl _ true true _ _ hEi.2 hEj.2 (by omega) (by omega) (by omega) (by omega)⟩) l.length 0 fr1 [] [] [] (by omega) rfl (by rw[a4];exact da.nil (Nat.le_refl _)) a3
  have hL:ae (CC LR4) (runK (CC LR4) (l.length+1)) (l.length+1) (.seq adU (.block 0 (.loop dfB))) ⟨fr,[],[]⟩=some (.normal,⟨fr2,hp2,wr2⟩):=by
   rw[ar a2];exact bE b1
  obtain⟨st,c1,c2,c3⟩:=adT LR4 (runK (CC LR4) (l.length+1)) (l.length+1) fr2 hp2 wr2 _ b2 rfl
  have hx:ae (CC LR4) (runK (CC LR4) (l.length+1)) (l.length+1) dfC ⟨entry 35 [qC X,aN (j::l)],[],[]⟩=some (.ret,st):=by
   rw[aY 3 a1,ahz,ar hL,c1]
  obtain⟨rs,ids,d1,d2⟩:=UG aki b3
  refine⟨_,_,_,_,rs,ids,ba KA rfl hx c3,by rw[c2];exact d1,?_⟩
  have e:(jK X (j::l))=l.map (fun i=>jc (X.getD i []) X[j]):=by
   unfold jK
   simp only[tail_cons,headD_cons,getD_eq_getElem?_getD,List.getElem?_eq_getElem hj,Option.getD_some]
  show WkL rs [mT (jK X (j::l))]
  rw[e]
  exact d2
theorem aeu {L:Lst}(hL:bx L 51=fun a=>Iy (aK a))(run:aw)(X:List (List Rat))(l:Ω)(hne:l≠[])(h9:l.length≤1000)(hin:∀ i ∈ l,i<X.length){m k:Nat}(hm:m≤1000)(hk:k≤1000)(hE:aez m k X):az L run 51 [qC X,aN l] (mT (jK X l)) :=
 ji Sp (e:=fun p:XN=>[qC p.1,aN p.2]) (f:=fun p=>[mT (jK p.1 p.2)]) hL (fun x y _ _ h=>by
  simp only[List.cons.injEq,and_true] at h
  rw[Prod.ext (afU h.1) (ah2 h.2)]) run (X,l) ⟨hne,h9,hin,m,hm,fun P hP=>⟨(hE P hP).1,fun x hx=>((hE P hP).2 x hx).mono hk⟩⟩ (fun _=>rfl) (by simp only[aK,qC,aN,iY,yA])
def exS (f:Nat→Rat)(r:List Rat)(S:List Bool):Nat→Option Rat × Bool
 | 0=>(none,false)
 | i+1=>if S.getD i false=true then exS f r S i else if r.getD i 0=0 then ((exS f r S i).1, !(exS f r S i).2) else
   (some (vv (exS f r S i).1+(bif (exS f r S i).2 then -(r.getD i 0*f i) else r.getD i 0*f i)), !(exS f r S i).2)
def exU (n:Nat):List (List Rat)→List Bool→Option Rat
 | [],_=>some 1
 | r::rs,S=>(exS (fun k=>vv (exU n rs (S.set k true))) r S n).1
def exB (n k:Nat):Nat→Nat
 | 0=>1
 | d+1=>n*(k+exB n k d+1)+1
theorem Jp {f:Nat→Rat}{r:List Rat}{S:List Bool}{k b:Nat}(hf:∀ i,Rb b (f i))(hr:RbL k r)(hk:0<k):∀ i,Rb (i*(k+b+1)+1) (vv (exS f r S i).1)
 | 0=>Rb.zero _
 | i+1=>by
  have ih:=Jp hf hr hk i (S:=S)
  have e:(i+1)*(k+b+1)=i*(k+b+1)+(k+b+1):=Nat.succ_mul i _
  have hx:Rb k (r.getD i 0):=by
   rw[getD_eq_getElem?_getD]
   cases h:r[i]? with
   | none=>exact (Rb.zero 0).mono (by omega)
   | some x=>exact hr x (mem_of_getElem? h)
  unfold exS
  by_cases h1:S.getD i false=true
  ·rw[if_pos h1];exact ih.mono (by rw[e];omega)
  ·rw[if_neg h1]
   by_cases h2:r.getD i 0=0
   ·rw[if_pos h2];exact ih.mono (by rw[e];omega)
   ·rw[if_neg h2]
    have hm:=hx.mul (hf i)
    have ht:Rb (k+b) (bif (exS f r S i).2 then -(r.getD i 0*f i) else r.getD i 0*f i):=by
     cases (exS f r S i).2
     ·exact hm
     ·exact hm.neg
    exact (ih.add ht).mono (by rw[e];omega)
theorem Jo {n k:Nat}(hk:0<k):∀ (rows:List (List Rat)) (S:List Bool),(∀ r ∈ rows,RbL k r)→Rb (exB n k rows.length) (vv (exU n rows S))
 | [],S,_=>Rb.one 0
 | r::rs,S,h=>Jp (fun i=>Jo hk rs _ fun r' hr'=>h r' (mem_cons_of_mem _ hr')) (h r mem_cons_self) hk n
theorem dJ (l:Ω):aC [] l=l:=rfl
theorem jG:∀ {l w:Ω} {i:Nat},i ∈ aC l w→i ∈ l∨i ∈ w
 | [],w,i,h=>.inr h
 | a::l,w,i,h=>by
  unfold aC at h
  cases hc:w.contains a with
  | true =>
   rw[hc,cond_true] at h
   rcases jG h with h | h
   ·exact .inl (mem_cons_of_mem _ h)
   ·exact .inr h
  | false =>
   rw[hc,cond_false] at h
   rcases jG h with h | h
   ·exact .inl (mem_cons_of_mem _ h)
   ·rcases mem_cons.1 h with h | h
    ·exact .inl (h ▸ mem_cons_self)
    ·exact .inr h
theorem kA:∀ {n:Nat} {l:Ω} {i:Nat},i ∈ ky n l→i ∈ l∧i<n
 | n,a::l,i,h=>by
  unfold ky at h
  cases hc:a.blt n with
  | true =>
   rw[hc,cond_true] at h
   rcases mem_cons.1 h with h | h
   ·subst h;rw[Nat.blt_eq] at hc;exact⟨mem_cons_self,hc⟩
   ·exact⟨mem_cons_of_mem _ (kA h).1,(kA h).2⟩
  | false =>
   rw[hc,cond_false] at h
   exact⟨mem_cons_of_mem _ (kA h).1,(kA h).2⟩
theorem vZ {hp:Θ}{n:Nat} : ∀ {l:Ω},(∀ i ∈ l,∀ b,aL hp i=some b→ew n b.cs=true)→ie hp n l=true
 | [],_=>rfl
 | a::l,h=>by
  unfold ie
  rw[vZ fun i hi=>h i (mem_cons_of_mem _ hi),Bool.and_true]
  cases e:aL hp a with
  | none=>rfl
  | some b=>exact h a mem_cons_self b e
theorem RX {hp hp':Θ}(hl:hp.length≤hp'.length)(h:∀ i,i<hp.length→aL hp' i=aL hp i):qO hp.length hp'=hp:=by
 rw[qN]
 refine ext_getElem? fun i => ?_
 by_cases hi:i<hp.length
 ·rw[getElem?_take_of_lt hi,← cV,← cV,h i hi]
 ·rw[getElem?_eq_none (by simp;omega),getElem?_eq_none (by omega)]
theorem wG {L:Lst}{run:aw}{g:Nat}{args:Ψ}{r:PV}{hp hp':Θ}{w:Ω}(hs:base.shared g=true)(hr:run g args hp=some ([r],hp',w))(hi:r.cH=true)(hl:hp.length≤hp'.length)(ho:∀ i,i<hp.length→aL hp' i=aL hp i)(hw:∀ i ∈ ky hp.length w,∀ b,aL hp' i=some b→ew hp.length b.cs=true)(dr:Bool):bP (CC L) run dr hp g args=some (r,hp,⟨[],ky hp.length w,true,true⟩):=by
 have hs':(CC L).shared g=true:=hs
 unfold bP
 rw[if_pos hs',hr]
 simp only[bV,hi,vZ hw,Bool.and_self,cond_true,jm,RX hl ho]
theorem MO {l:Ω}{a:Nat}(h:∀ i ∈ l,i=a):l=List.replicate l.length a:=eq_replicate_iff.2 ⟨rfl,h⟩
def eV (V:List Rat):Ψ:=[vR V]
theorem akk:Ec 1 eV:=cB.list
def mC (M:List (List Rat)):PV:=iz eV M
theorem I8 (M:List (List Rat)):cX (mC M)=some M.length:=rfl
theorem ajV (M:List (List Rat))(i:Nat)(hi:i<M.length):∃ r,bd TT 80 (mC M) (.sc (.int .i64 (i:Int)))=some (.iptr r)∧r.head?=some (vR M[i]):=by
 have h:=mZ akk.toEl M i hi
 refine⟨bp (M.flatMap eV) (i*1),?_,by rw[h];rfl⟩
 unfold mC iz
 simp only[bd,zE,bn,DI,hi,if_true]
theorem MP:fR TT 80=some false:=by kernel_rfl
theorem Lj:de TT 80=some 1:=by kernel_rfl
theorem GR:und TT 140=some (.slice 4):=by kernel_rfl
theorem wJ:de TT 140=some 1:=by kernel_rfl
theorem CI:fR TT 140=some false:=by kernel_rfl
def bl (b:Bool):PV:=.sc (.bool b)
theorem Bq:base.F.get 109=some f109:=by kernel_rfl
theorem Le:base.shared 109=true:=by kernel_rfl
theorem sFn:de TT 141=some 1:=by kernel_rfl
theorem aFn:fR TT 141=some false:=by kernel_rfl
def exC:Code:=f109.body.getD .skip
def exL:Code:=(aA exC).getD .skip
def ahn:Code:=seq1 exL
def ahm:Code:=seq1 (aQ exL)
def pG:Code:=blk (seq1 (aQ (aQ exL)))
def W3:Code:=aQ (aQ (aQ exL))
def adG:Code:=seq1 pG
def adF:Code:=seq1 (aQ pG)
def ox:Code:=seq1 (aQ (aQ pG))
def Mv:Code:=aQ (aQ (aQ pG))
def adE:Code:=seq1 ox
def W2:Code:=seq1 (aQ ox)
def lF:Code→Code
 | .cond _ a _=>a
 | c=>c
def exT:Code:=lF (aQ (aQ ox))
def W1:Code:=seq1 exT
def A8:Code:=seq1 (aQ exT)
def W0:Code:=seq1 (aQ (aQ exT))
def A7:Code:=seq1 (aQ (aQ (aQ exT)))
def WZ:Code:=aQ (aQ (aQ (aQ exT)))
theorem ahl:exL = .seq ahn (.seq ahm (.seq (.block 1 (.seq adG (.seq adF (.seq ox Mv)))) W3)):=rfl
theorem Mu:ox = .seq adE (.seq W2 (.cond (.tmp 33) exT .skip)):=rfl
theorem ahk:exT = .seq W1 (.seq A8 (.seq W0 (.seq A7 WZ))):=rfl
def XF (fr:Ψ)(b row n i:Nat)(neg:Bool):Prop:=fr.length=56∧nth fr 0=iv row∧nth fr 1 = .ptr 0 0∧nth fr 2 = .ptr 3 0∧nth fr 3 = .ptr 4 0∧nth fr 5 = .ptr b 0∧nth fr 6 = .ptr (b+1) 0∧nth fr 7 = .sc (.bool neg)∧nth fr 16=iv n∧nth fr 17=iv i
def fnP:PV:=.clos 109 [.ptr 0 0,.ptr 3 0,.ptr 4 0]
def H0 (hp:Θ)(M:List (List Rat))(n:Nat)(S:List Bool):Prop:=aL hp 0=some ⟨.live,[mC M]⟩∧aL hp 2=some ⟨.live,S.map bl⟩∧aL hp 3=some ⟨.live,[.own 2 1 0 n true]⟩∧aL hp 4=some ⟨.live,[fnP]⟩
theorem ahh(b row n:Nat)(neg:Bool)(h:XF fr b row n n neg) :
  ∃ fr',ae (CC L) run k exL ⟨fr,hp,wr⟩=some (.exit 0,⟨fr',hp,wr⟩)∧XF fr' b row n n neg:=by
 obtain⟨h0,h1,h2,h3,h4,h5,h6,h7,h8,h9⟩:=h
 simp only[iv] at h1 h8 h9
 simp[XF,exL,exC,f109,h0,h1,h2,h3,h4,h5,h6,h7,h8,h9]
theorem alm(b row n i:Nat)(neg:Bool)(hi:i<n)(h:XF fr b row n i neg) :
  ∃ fr1 fr2,ae (CC L) run k ahn ⟨fr,hp,wr⟩=some (.normal,⟨fr1,hp,wr⟩)∧ae (CC L) run k ahm ⟨fr1,hp,wr⟩=some (.normal,⟨fr1,hp,wr⟩)∧ae (CC L) run k adG ⟨fr1,hp,wr⟩=some (.normal,⟨fr2,hp,wr⟩)∧XF fr2 b row n i neg∧nth fr2 8=iv i:=by
 obtain⟨h0,h1,h2,h3,h4,h5,h6,h7,h8,h9⟩:=h
 simp only[iv] at h1 h8 h9
 refine⟨eX fr 18 (.sc (.bool true)),?_⟩
 simp[XF,ahn,ahm,adG,pG,blk,aQ,exL,exC,f109,and_assoc,dJ,h0,h1,h2,h3,h4,h5,h6,h7,h8,h9,hi]
theorem Wx (n i:Nat)(hi:i<n):bd TT 140 (.own 2 1 0 n true) (.sc (.int .i64 (i:Int)))=some (.ptr 2 i):=by
 simp only[bd,GR,bn,sB,hi,and_self,if_true,Nat.zero_add,Nat.mul_one]
theorem Mq(b row n i:Nat)(neg:Bool)(M:List (List Rat))(S:List Bool)(hi:i<n)(hS:S.length=n)(v:Bool)(hv:S.getD i false=v)(h:XF fr b row n i neg)(h8':nth fr 8=iv i)(hh:H0 hp M n S) :
  ∃ fr',ae (CC L) run k adF ⟨fr,hp,wr⟩=some (bif v then .exit 1 else .normal,⟨fr',hp,wr⟩)∧XF fr' b row n i neg∧nth fr' 8=iv i:=by
 obtain⟨h0,h1,h2,h3,h4,h5,h6,h7,h8,h9⟩:=h
 obtain⟨k0,k2,k3,k4⟩:=hh
 have hx:=Wx n i hi
 have hd:=mV (e:=bl) S i (by omega)
 have hv':S[i]'(by omega)=v:=by rw[← hv,getD_eq_getElem?_getD,List.getElem?_eq_getElem (by omega)];rfl
 rw[hv'] at hd
 simp only[iv] at h1 h8 h9 h8'
 simp only[bl] at hd
 have k2':aL hp 2=some ⟨.live,S.map fun b=>.sc (.bool b)⟩:=k2
 have hd':(bp (S.map fun b=>(PV.sc (.bool b))) i).head?=some (.sc (.bool v)):=hd
 generalize (S.map fun b=>(PV.sc (.bool b)))=cs at *
 cases v <;> simp[XF,adF,pG,blk,aQ,exL,exC,f109,and_assoc,dJ,h0,h1,h2,h3,h4,h5,h6,h7,h8,h9,h8',k2',k3,hx,hd',CI,wJ,aB,sB]
theorem aln(b row n i:Nat)(neg:Bool)(M:List (List Rat))(S:List Bool)(hr:row<M.length)(hi:i<M[row].length)(v:Bool)(gs:az L run 49 [.agg (rcs M[row][i])] (Ab.bN (ko M[row][i])))(hv:(ko M[row][i] != 0)=v)(h:XF fr b row n i neg)(h8':nth fr 8=iv i)(hh:H0 hp M n S) :
  ∃ fr1 fr',ae (CC L) run k adE ⟨fr,hp,wr⟩=some (.normal,⟨fr1,cg (aO hp rz) hp.length ⟨.live,rcs M[row][i]⟩,aC [hp.length] (aC [hp.length] wr)⟩)∧ae (CC L) run k W2 ⟨fr1,cg (aO hp rz) hp.length ⟨.live,rcs M[row][i]⟩,aC [hp.length] (aC [hp.length] wr)⟩=some (.normal,⟨fr',cg (aO hp rz) hp.length ⟨.live,rcs M[row][i]⟩,aC [hp.length] (aC [hp.length] wr)⟩)∧XF fr' b row n i neg∧nth fr' 8=iv i∧nth fr' 9 = .ptr hp.length 0∧nth fr' 33 = .sc (.bool v):=by
 obtain⟨h0,h1,h2,h3,h4,h5,h6,h7,h8,h9⟩:=h
 obtain⟨k0,k2,k3,k4⟩:=hh
 obtain⟨r,x1,x2⟩:=ajV M row hr
 obtain⟨r',y1,y2⟩:=jT false M[row] i hi
 rw[show dz false M[row]=vR M[row] from rfl] at y1
 have hx:=al1 hp rz
 have hx1:=ee rz (rcs M[row][i]) (by rw[cB.len];rfl)
 have hx2:=al2 hp rz ⟨.live,rcs M[row][i]⟩
 have hx4:=dG (rcs M[row][i]) (cB.len _)
 have hokx:=cB.okc M[row][i]
 have hlx:=cB.len M[row][i]
 unfold az at gs
 simp only[Ab.bN] at gs
 generalize ko M[row][i]=sg at *
 generalize rcs M[row][i]=cx at *
 generalize M[row]=R at *
 simp only[iv] at h1 h8 h9 h8'
 have zR':=zRz
 obtain⟨fr1,a1,a2,a3,a4,a5,a6,a7,a8,a9,a10,a11,a12,a13⟩:∃ fr1,ae (CC L) run k adE ⟨fr,hp,wr⟩=some (.normal,⟨fr1,cg (aO hp rz) hp.length ⟨.live,cx⟩,aC [hp.length] (aC [hp.length] wr)⟩)∧fr1.length=56∧nth fr1 0 = .sc (.int .i64 (row:Int))∧nth fr1 1 = .ptr 0 0∧nth fr1 2 = .ptr 3 0∧nth fr1 3 = .ptr 4 0∧nth fr1 5 = .ptr b 0∧nth fr1 6 = .ptr (b+1) 0∧nth fr1 7 = .sc (.bool neg)∧nth fr1 16 = .sc (.int .i64 (n:Int))∧nth fr1 17 = .sc (.int .i64 (i:Int))∧nth fr1 8 = .sc (.int .i64 (i:Int))∧nth fr1 9 = .ptr hp.length 0:=by
  simp[adE,ox,pG,blk,aQ,exL,exC,f109,bm,dJ,h0,h1,h2,h3,h4,h5,h6,h7,h8,h9,h8',k0,x1,x2,y1,y2,hx,hx1,hokx,hlx,MP,Lj,YU,DI,aR,sR,zR']
 refine⟨fr1,?_⟩
 rw[a1]
 simp[XF,W2,ox,pG,blk,aQ,exL,exC,f109,and_assoc,dJ,a2,a3,a4,a5,a6,a7,a8,a9,a10,a11,a12,a13,gs,hv,hx2,hx4,aR,sR]
theorem aeV(b row n i:Nat)(neg:Bool)(h:XF fr b row n i neg) :
  ∃ fr',ae (CC L) run k Mv ⟨fr,hp,wr⟩=some (.normal,⟨fr',hp,wr⟩)∧XF fr' b row n i (!neg):=by
 obtain⟨h0,h1,h2,h3,h4,h5,h6,h7,h8,h9⟩:=h
 simp only[iv] at h1 h8 h9
 simp[XF,Mv,pG,blk,aQ,exL,exC,f109,unP,dJ,h0,h1,h2,h3,h4,h5,h6,h7,h8,h9]
theorem aj9(b row n i:Nat)(neg:Bool)(hi:i<1000)(h:XF fr b row n i neg) :
  ∃ fr',ae (CC L) run k W3 ⟨fr,hp,wr⟩=some (.normal,⟨fr',hp,wr⟩)∧XF fr' b row n (i+1) neg:=by
 obtain⟨h0,h1,h2,h3,h4,h5,h6,h7,h8,h9⟩:=h
 have hw:=bD i (by omega)
 simp only[iv] at h1 h8 h9
 simp[XF,W3,aQ,exL,exC,f109,dJ,h0,h1,h2,h3,h4,h5,h6,h7,h8,h9,hw]
theorem aj7:(Region.before (gG A8))[6]?.getD 0=63:=by kernel_rfl
theorem aj8:(Region.before (gG A8))[4]?.getD 0=14:=by kernel_rfl
def YF (fr:Ψ)(b row n i x:Nat)(neg:Bool):Prop:=XF fr b row n i neg∧nth fr 8=iv i∧nth fr 9 = .ptr x 0
theorem Lx (S:List Bool)(i:Nat)(v:Bool)(hi:i<S.length):ca (S.map bl) i [.sc (.bool v)]=some ((S.set i v).map bl):=mK (e:=bl) S i v hi
theorem akd(b row n i x:Nat)(neg:Bool)(S:List Bool)(hi:i<n)(hS:S.length=n)(h:YF fr b row n i x neg)(k2:aL hp 2=some ⟨.live,S.map bl⟩)(k3:aL hp 3=some ⟨.live,[.own 2 1 0 n true]⟩) :
  ∃ fr',ae (CC L) run k W1 ⟨fr,hp,wr⟩=some (.normal,⟨fr',cg hp 2 ⟨.live,(S.set i true).map bl⟩,aC [2] wr⟩)∧YF fr' b row n i x neg:=by
 obtain⟨⟨h0,h1,h2,h3,h4,h5,h6,h7,h8,h9⟩,h10,h11⟩:=h
 have hx:=Wx n i hi
 have ho:=Lx S i true (by omega)
 simp only[iv] at h1 h8 h9 h10
 generalize S.map bl=cs at *
 generalize (S.set i true).map bl=cs' at *
 simp[YF,XF,W1,exT,lF,ox,pG,blk,aQ,exL,exC,f109,and_assoc,kE,bG,bg,dJ,h0,h1,h2,h3,h4,h5,h6,h7,h8,h9,h10,h11,k2,k3,hx,ho,CI,wJ,sB]
theorem akb(b row n i x:Nat)(neg:Bool)(S:List Bool)(hi:i<n)(hS:S.length=n)(h:YF fr b row n i x neg)(k2:aL hp 2=some ⟨.live,S.map bl⟩)(k3:aL hp 3=some ⟨.live,[.own 2 1 0 n true]⟩) :
  ∃ fr',ae (CC L) run k W0 ⟨fr,hp,wr⟩=some (.normal,⟨fr',cg hp 2 ⟨.live,(S.set i false).map bl⟩,aC [2] wr⟩)∧YF fr' b row n i x neg:=by
 obtain⟨⟨h0,h1,h2,h3,h4,h5,h6,h7,h8,h9⟩,h10,h11⟩:=h
 have hx:=Wx n i hi
 have ho:=Lx S i false (by omega)
 simp only[iv] at h1 h8 h9 h10
 generalize S.map bl=cs at *
 generalize (S.set i false).map bl=cs' at *
 simp[YF,XF,W0,exT,lF,ox,pG,blk,aQ,exL,exC,f109,and_assoc,kE,bG,bg,dJ,h0,h1,h2,h3,h4,h5,h6,h7,h8,h9,h10,h11,k2,k3,hx,ho,CI,wJ,sB]
set_option maxHeartbeats 2000000 in
theorem akc(b row n i x m:Nat)(neg:Bool)(cx cr cp:Ψ)(hlx:cx.length=4)(hlp:cp.length=4)(hop:bg cp=true)(h9':row<1000)(hx2:2≠x)(hcall:bP (CC L) run true hp 109 [.sc (.int .i64 ((row:Int)+1)),.ptr 0 0,.ptr 3 0,.ptr 4 0]=some (.agg cr,hp,⟨[],List.replicate m 2,true,true⟩))(g:az L run 56 [.agg cx,.agg cr] (.agg cp))(h:YF fr b row n i x neg)(k4:aL hp 4=some ⟨.live,[fnP]⟩)(kx:aL hp x=some ⟨.live,cx⟩) :
  ∃ fr',ae (CC L) run k A8 ⟨fr,hp,wr⟩=some (.normal,⟨fr',cg hp x ⟨.live,cp⟩,aC [x] (aC (List.replicate m 2) wr)⟩)∧YF fr' b row n i x neg:=by
 obtain⟨⟨h0,h1,h2,h3,h4,h5,h6,h7,h8,h9⟩,h10,h11⟩:=h
 have hw:=bD row (by omega)
 have ht:=dG cx hlx
 have ho:=ee cx cp (by omega)
 have hb6:=aj7
 have hb4:=aj8
 simp[A8,exT,lF,ox,pG,blk,aQ,exL,exC,f109,gG] at hb6 hb4
 have t0:Nat.testBit 63 0=true:=by decide
 have t1:Nat.testBit 63 1=true:=by decide
 have t4:Nat.testBit 63 4=true:=by decide
 have t5:Nat.testBit 14 1=true:=by decide
 have t6:Nat.testBit 14 0=false:=by decide
 have hx3 : ¬ (2=x):=hx2
 have hx4 : ¬ (x=2):=fun e=>hx2 e.symm
 unfold az at g
 unfold fnP at k4
 simp only[iv] at h1 h8 h9 h10
 simp[-Nat.testBit_zero,hb6,hb4,t0,t1,t4,t5,t6,YF,XF,A8,exT,lF,ox,pG,blk,aQ,exL,exC,f109,and_assoc,bm,dJ,h0,h1,h2,h3,h4,h5,h6,h7,h8,h9,h10,h11,k4,kx,ht,ho,hw,hcall,g,hop,hlp,hx3,aR,sR,sFn,aFn,number,FP.free,cw,FP.apart]
theorem ahj(b row n i x:Nat)(cx cp:Ψ)(hlx:cx.length=4)(hlp:cp.length=4)(hop:bg cp=true)(g:az L run 106 [.agg cx] (.agg cp))(h:YF fr b row n i x true)(kx:aL hp x=some ⟨.live,cx⟩) :
  ∃ fr',ae (CC L) run k A7 ⟨fr,hp,wr⟩=some (.normal,⟨fr',cg hp x ⟨.live,cp⟩,aC [x] wr⟩)∧YF fr' b row n i x true:=by
 obtain⟨⟨h0,h1,h2,h3,h4,h5,h6,h7,h8,h9⟩,h10,h11⟩:=h
 have ht:=dG cx hlx
 have ho:=ee cx cp (by omega)
 unfold az at g
 simp only[iv] at h1 h8 h9 h10
 simp[YF,XF,A7,exT,lF,ox,pG,blk,aQ,exL,exC,f109,and_assoc,bm,dJ,h0,h1,h2,h3,h4,h5,h6,h7,h8,h9,h10,h11,kx,ht,ho,g,hop,hlp,aR,sR]
theorem ahi(b row n i x:Nat)(h:YF fr b row n i x false) :
  ∃ fr',ae (CC L) run k A7 ⟨fr,hp,wr⟩=some (.normal,⟨fr',hp,wr⟩)∧YF fr' b row n i x false:=by
 obtain⟨⟨h0,h1,h2,h3,h4,h5,h6,h7,h8,h9⟩,h10,h11⟩:=h
 simp only[iv] at h1 h8 h9 h10
 simp[YF,XF,A7,exT,lF,ox,pG,blk,aQ,exL,exC,f109,and_assoc,dJ,h0,h1,h2,h3,h4,h5,h6,h7,h8,h9,h10,h11]
theorem aka(b row n i x:Nat)(neg:Bool)(sc cx cp:Ψ)(hls:sc.length=4)(hlx:cx.length=4)(hlp:cp.length=4)(hop:bg cp=true)(g:az L run 87 [.agg sc,.agg cx] (.agg cp))(h:YF fr b row n i x neg)(kx:aL hp x=some ⟨.live,cx⟩)(ks:aL hp (b+1)=some ⟨.live,sc⟩) :
  ∃ fr',ae (CC L) run k WZ ⟨fr,hp,wr⟩=some (.normal,⟨fr',cg hp (b+1) ⟨.live,cp⟩,aC [b+1] wr⟩)∧XF fr' b row n i neg:=by
 obtain⟨⟨h0,h1,h2,h3,h4,h5,h6,h7,h8,h9⟩,h10,h11⟩:=h
 have ht:=dG cx hlx
 have hts:=dG sc hls
 have ho:=ee sc cp (by omega)
 unfold az at g
 simp only[iv] at h1 h8 h9 h10
 simp[XF,WZ,exT,lF,ox,pG,blk,aQ,exL,exC,f109,bm,dJ,h0,h1,h2,h3,h4,h5,h6,h7,h8,h9,h11,kx,ks,ht,hts,ho,g,hop,hlp,aR,sR]
def XH (hp0 hp:Θ)(sc:Ψ):Prop:=hp0.length+2≤hp.length∧(∀ i,i<hp0.length→aL hp i=aL hp0 i)∧aL hp hp0.length=some ⟨.live,rz⟩∧aL hp (hp0.length+1)=some ⟨.live,sc⟩
def WB (b:Nat)(w:Ω):Prop:=∀ i ∈ w,i=2∨b≤i
theorem WB.add {b:Nat}{w l:Ω}(h:WB b w)(h':WB b l):WB b (aC l w):=fun i hi=>by
 rcases jG hi with hi | hi
 ·exact h' i hi
 ·exact h i hi
theorem WB.one {b x:Nat}(h:x=2∨b≤x):WB b [x]:=fun i hi=>by
 rw[mem_singleton] at hi;subst hi;exact h
theorem WB.rep {b m:Nat} : WB b (List.replicate m 2):=fun i hi=>.inl (mem_replicate.1 hi).2
theorem jQ {hp:Θ}{i j:Nat}{b b0:Blk}(h:aL hp i=some b0)(hij:j≠i):aL (cg hp i b) j=aL hp j:=by rw[cI h,if_neg hij]
theorem pV {hp:Θ}{i:Nat}{b b0:Blk}(h:aL hp i=some b0):aL (cg hp i b) i=some b:=by rw[cI h,if_pos rfl]
theorem SW (S:List Bool)(i:Nat)(hi:i<S.length)(h:S.getD i false=false):(S.set i true).set i false=S:=by
 rw[set_set]
 have:S[i]=false:=by rw[← h,getD_eq_getElem?_getD,List.getElem?_eq_getElem hi];rfl
 rw[← this,set_getElem_self]
theorem adA (L:Lst)(run:aw)(k:Nat)(gm:bx L 56=fun a=>kR (aK a))(ga:bx L 87=fun a=>je (aK a))(gn:bx L 106=fun a=>kp (aK a))(hp0 hp:Θ)(fr:Ψ)(wr:Ω)(row n i x:Nat)(neg:Bool)(M:List (List Rat))(S:List Bool)(sc:Ψ)(u:Option Rat)(e f:Rat)(cr:Ψ)(uf:Option Rat){j k1 k2:Nat}
  (hi:i<n) (hS:S.length=n) (h9':row<1000) (hSi:S.getD i false=false) (h5:5≤hp0.length) (hH:H0 hp0 M n S) (hX:XH hp0 hp sc) (hx:hp0.length+2≤x) (hx':x<hp.length) (kx:aL hp x=some ⟨.live,rcs e⟩) (hY:YF fr hp0.length row n i x neg) (hc:Rc sc u) (hcr:Rc cr uf) (hf:vv uf=f)
  (hb1:Rb j (vv u)) (hb2:Rb k1 e) (hb3:Rb k2 f) (h6:j+k1+k2≤1000000) (hw:WB hp0.length wr)
  (hcall:∀ hp1:Θ,hp0.length≤hp1.length→(∀ i,i<hp0.length→i≠2→aL hp1 i=aL hp0 i)→aL hp1 2=some ⟨.live,(S.set i true).map bl⟩→∃ m,bP (CC L) run true hp1 109 [.sc (.int .i64 ((row:Int)+1)),.ptr 0 0,.ptr 3 0,.ptr 4 0]=some (.agg cr,hp1,⟨[],List.replicate m 2,true,true⟩)) :
  ∃ fr' hp' wr' sc',ae (CC L) run k exT ⟨fr,hp,wr⟩=some (.normal,⟨fr',hp',wr'⟩)∧XF fr' hp0.length row n i neg∧XH hp0 hp' sc'∧WB hp0.length wr'∧Rc sc' (some (vv u+(bif neg then -(e*f) else e*f))):=by
 obtain⟨q1,q2,q3,q4⟩:=hX
 obtain⟨p0,p2,p3,p4⟩:=hH
 have k2':aL hp 2=some ⟨.live,S.map bl⟩:=by rw[q2 2 (by omega),p2]
 have k3':aL hp 3=some ⟨.live,[.own 2 1 0 n true]⟩:=by rw[q2 3 (by omega),p3]
 have k4':aL hp 4=some ⟨.live,[fnP]⟩:=by rw[q2 4 (by omega),p4]
 obtain⟨fr1,a1,a2⟩:=akd L run k fr hp wr hp0.length row n i x neg S hi hS hY k2' k3'
 generalize hg1:cg hp 2 ⟨.live,(S.set i true).map bl⟩=hp1 at *
 have l1:hp1.length=hp.length:=by rw[← hg1,bJ]
 have n1:∀ t,t≠2→aL hp1 t=aL hp t:=fun t ht=>by rw[← hg1];exact jQ k2' ht
 have n12:aL hp1 2=some ⟨.live,(S.set i true).map bl⟩:=by rw[← hg1];exact pV k2'
 obtain⟨m,hcm⟩:=hcall hp1 (by omega) (fun t ht ht2=>by rw[n1 t ht2,q2 t ht]) n12
 have WN:=Y3 gm run (p:=.agg (rcs e)) (q:=.agg cr) (u:=some e) (v:=uf) (.inl rfl) hcr.p hb2 (by rw[hf];exact hb3) (by omega)
 rw[hf] at WN
 obtain⟨fr2,b1,b2⟩:=akc L run k fr1 hp1 (aC [2] wr) hp0.length row n i x m neg (rcs e) cr (rcs (e*f)) (cB.len _) (cB.len _) (cB.okc _) h9' (by omega) hcm WN a2 (by rw[n1 4 (by omega),k4']) (by rw[n1 x (by omega),kx])
 have kx1:aL hp1 x=some ⟨.live,rcs e⟩:=by rw[n1 x (by omega),kx]
 generalize hg2:cg hp1 x ⟨.live,rcs (e*f)⟩=hp2 at *
 have l2:hp2.length=hp.length:=by rw[← hg2,bJ,l1]
 have n2:∀ t,t≠x→aL hp2 t=aL hp1 t:=fun t ht=>by rw[← hg2];exact jQ kx1 ht
 have n2x:aL hp2 x=some ⟨.live,rcs (e*f)⟩:=by rw[← hg2];exact pV kx1
 have n22:aL hp2 2=some ⟨.live,(S.set i true).map bl⟩:=by rw[n2 2 (by omega),n12]
 obtain⟨fr3,c1,c2⟩:=akb L run k fr2 hp2 (aC [x] (aC (List.replicate m 2) (aC [2] wr))) hp0.length row n i x neg (S.set i true) hi (by rw[length_set];exact hS) b2 n22 (by rw[n2 3 (by omega),n1 3 (by omega),k3'])
 rw[SW S i (by omega) hSi] at c1
 generalize hg3:cg hp2 2 ⟨.live,S.map bl⟩=hp3 at *
 have l3:hp3.length=hp.length:=by rw[← hg3,bJ,l2]
 have n3:∀ t,t≠2→aL hp3 t=aL hp2 t:=fun t ht=>by rw[← hg3];exact jQ n22 ht
 have n32:aL hp3 2=some ⟨.live,S.map bl⟩:=by rw[← hg3];exact pV n22
 have n3x:aL hp3 x=some ⟨.live,rcs (e*f)⟩:=by rw[n3 x (by omega),n2x]
 have w3:WB hp0.length (aC [2] (aC [x] (aC (List.replicate m 2) (aC [2] wr)))):=(((hw.add (WB.one (.inl rfl))).add WB.rep).add (WB.one (.inr (by omega)))).add (WB.one (.inl rfl))
 have old3:∀ t,t<hp0.length→aL hp3 t=aL hp0 t:=fun t ht=>by
  by_cases e2:t=2
  ·subst e2;rw[n32,p2]
  ·rw[n3 t e2,n2 t (by omega),n1 t e2,q2 t ht]
 have s3:aL hp3 (hp0.length+1)=some ⟨.live,sc⟩:=by rw[n3 _ (by omega),n2 _ (by omega),n1 _ (by omega),q4]
 have r3:aL hp3 hp0.length=some ⟨.live,rz⟩:=by rw[n3 _ (by omega),n2 _ (by omega),n1 _ (by omega),q3]
 have fin:∀ (fr4:Ψ) (hp4:Θ) (wr4:Ω) (t:Rat),Rb (k1+k2) t→ae (CC L) run k A7 ⟨fr3,hp3,aC [2] (aC [x] (aC (List.replicate m 2) (aC [2] wr)))⟩=some (.normal,⟨fr4,hp4,wr4⟩)→YF fr4 hp0.length row n i x neg→hp4.length=hp.length→(∀ s,s≠x→aL hp4 s=aL hp3 s)→aL hp4 x=some ⟨.live,rcs t⟩→WB hp0.length wr4→(bif neg then -(e*f) else e*f)=t →
   ∃ fr' hp' wr' sc',ae (CC L) run k exT ⟨fr,hp,wr⟩=some (.normal,⟨fr',hp',wr'⟩)∧XF fr' hp0.length row n i neg∧XH hp0 hp' sc'∧WB hp0.length wr'∧Rc sc' (some (vv u+(bif neg then -(e*f) else e*f))):=by
  intro fr4 hp4 wr4 t hbt d1 d2 l4 n4 n4x w4 ht
  have gadd:=Y4 ga run (p:=.agg sc) (q:=.agg (rcs t)) (u:=u) (v:=some t) hc.p (.inl rfl) hb1 hbt (by omega)
  have s4:aL hp4 (hp0.length+1)=some ⟨.live,sc⟩:=by rw[n4 _ (by omega),s3]
  obtain⟨fr5,e1,e2⟩:=aka L run k fr4 hp4 wr4 hp0.length row n i x neg sc (rcs t) (rcs (vv u+t)) hc.len (cB.len _) (cB.len _) (cB.okc _) gadd d2 n4x s4
  refine⟨fr5,cg hp4 (hp0.length+1) ⟨.live,rcs (vv u+t)⟩,aC [hp0.length+1] wr4,rcs (vv u+t),?_,e2,⟨?_,?_,?_,?_⟩,w4.add (WB.one (x:=hp0.length+1) (.inr (by omega))),?_⟩
  ·rw[ahk,ar a1,ar b1,ar c1,ar d1];exact e1
  ·rw[bJ];omega
  ·intro t' ht';rw[jQ (j:=t') s4 (by omega),n4 t' (by omega),old3 t' ht']
  ·rw[jQ (j:=hp0.length) s4 (by omega),n4 hp0.length (by omega),r3]
  ·rw[pV s4]
  ·rw[ht];exact .inl rfl
 cases neg with
 | false =>
  obtain⟨fr4,d1,d2⟩:=ahi L run k fr3 hp3 (aC [2] (aC [x] (aC (List.replicate m 2) (aC [2] wr)))) hp0.length row n i x c2
  exact fin fr4 hp3 _ (e*f) (hb2.mul hb3) d1 d2 l3 (fun _ _=>rfl) n3x w3 rfl
 | true =>
  have gneg:=aip gn run (p:=.agg (rcs (e*f))) (u:=some (e*f)) (.inl rfl) (hb2.mul hb3) (by omega)
  obtain⟨fr4,d1,d2⟩:=ahj L run k fr3 hp3 (aC [2] (aC [x] (aC (List.replicate m 2) (aC [2] wr)))) hp0.length row n i x (rcs (e*f)) (rcs (-(e*f))) (cB.len _) (cB.len _) (cB.okc _) gneg c2 n3x
  exact fin fr4 _ _ (-(e*f)) (hb2.mul hb3).neg d1 d2 (by rw[bJ,l3]) (fun s hs=>jQ n3x hs) (pV n3x) (w3.add (WB.one (.inr (by omega)))) rfl
end Go.Proofs.YtjdmodeenbdfpaaGreat
end
