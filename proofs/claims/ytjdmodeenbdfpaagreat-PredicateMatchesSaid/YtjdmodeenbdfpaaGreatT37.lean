/- Contracts of fractions, clouds and predicates, part 37 of the proof; each lemma states its own conditions. -/
import Derived.Test.YtjdmodeenbdfpaaGreatT36
set_option linter.unusedSimpArgs false
set_option linter.unusedVariables false
noncomputable section
namespace Go.Proofs.YtjdmodeenbdfpaaGreat
open Go Go.Ab List Tryz
attribute [local simp] FzZ aA aF aG aH aU aV aa ab ae af ag ai aj an ao aq aw az bc bd bj br partOf
variable(L:Lst)(run:ar)(k:Nat)(fr:List PV)(hp:List Blk)(wr:List Nat)
theorem al1(z:List PV):aY (aM hp z) hp.length=some ⟨.live,z⟩:=by rw[bK,if_pos rfl]
theorem al2(z:List PV)(b:Blk):aY (bZ (aM hp z) hp.length b) hp.length=some b:=by rw[cT (al1 hp z),if_pos rfl]
theorem al3(z:List PV)(b:Blk)(i:Nat)(h:i<hp.length):aY (bZ (aM hp z) hp.length b) i=aY hp i:=by
 rw[cT (al1 hp z),if_neg (by omega),bK,if_neg (by omega)]
theorem al4(z:List PV)(b:Blk):(bZ (aM hp z) hp.length b).length=hp.length+1:=by rw[bL];simp[aM]
theorem dW (z cs:List PV)(h:z.length=cs.length):cq z 0 cs=some cs:=by
 have:=xD z cs [] h
 simpa using this
theorem eo (cs:List PV)(h:cs.length=4):bF cs 4=some cs:=by have:=ac9 cs [] h;simpa using this
theorem PE:base.F.get 60=some f60:=by kernel_rfl
theorem YS:base.shared 60=false:=by kernel_rfl
def psC:Code:=f60.body.getD .skip
def psB:Code:=(aC psC).getD .skip
def Jc (fr:List PV)(X Y:List Rat)(i:Nat):Prop:=fr.length=29∧nth fr 1=vR Y∧nth fr 5 = .own 0 4 0 X.length true∧nth fr 11=vR X∧nth fr 12=iv X.length∧nth fr 13=iv i
theorem aey(X Y:List Rat)(h:Jc fr X Y X.length) :
  ∃ fr',af (CC L) run k psB ⟨fr,hp,wr⟩=some (.exit 0,⟨fr',hp,wr⟩)∧fr'.length=29∧nth fr' 5 = .own 0 4 0 X.length true:=by
 obtain⟨h0,h1,h5,h11,h12,h13⟩:=h
 simp only[iv] at h12 h13
 simp[psB,psC,f60,aC,h0,h5,h12,h13]
theorem ZZ(X Y:List Rat)(i m:Nat)(A:List PV)(hi:i<X.length)(hy:i<Y.length)(h9':X.length≤1000)(hA:A.length=i*4)(g:au L run 55 [rv (some X[i]),rv (some Y[i])] (rv (some (X[i] - Y[i]))))(h:Jc fr X Y i)(hb:aY hp 0=some ⟨.live,A++rep (m+1) rz⟩)(hn:0<hp.length) :
  ∃ fr' hp' wr',af (CC L) run k psB ⟨fr,hp,wr⟩=some (.normal,⟨fr',hp',wr'⟩)∧Jc fr' X Y (i+1)∧aY hp' 0=some ⟨.live,(A++rcs (X[i] - Y[i]))++rep m rz⟩∧0<hp'.length:=by
 obtain⟨h0,h1,h5,h11,h12,h13⟩:=h
 obtain⟨r,x1,x2⟩:=od false X i hi
 obtain⟨r',y1,y2⟩:=od false Y i hy
 have x3:=tc 0 X.length i true hi
 have ho:=sX A m (rcs (X[i] - Y[i])) (cD.len _) i hA
 have hw:=bH i (by omega)
 have hx:=al1 hp rz
 have hx1:=dW rz (rcs X[i]) (by rw[cD.len];rfl)
 have hx2:=al2 hp rz ⟨.live,rcs X[i]⟩
 have hx3:=(al3 hp rz ⟨.live,rcs X[i]⟩ 0 hn).trans hb
 have hx4:=eo (rcs X[i]) (cD.len _)
 have hx5:aY (bZ (bZ (aM hp rz) hp.length ⟨.live,rcs X[i]⟩) 0 ⟨.live,(A++rcs (X[i] - Y[i]))++rep m rz⟩) 0=some ⟨.live,(A++rcs (X[i] - Y[i]))++rep m rz⟩:=by rw[cT hx3,if_pos rfl]
 have hx6:0<(bZ (bZ (aM hp rz) hp.length ⟨.live,rcs X[i]⟩) 0 ⟨.live,(A++rcs (X[i] - Y[i]))++rep m rz⟩).length:=by rw[bL,al4];omega
 have hokx:=cD.okc X[i]
 have hlx:=cD.len X[i]
 have hokd:=cD.okc (X[i] - Y[i])
 have hld:=cD.len (X[i] - Y[i])
 have hn0:hp.length≠0:=by omega
 have hn1:(0=hp.length)=False:=by simp;omega
 rw[ji,ji,ji] at g
 unfold au at g
 generalize rcs (X[i] - Y[i])=cd at *
 generalize rcs X[i]=cx at *
 generalize rcs Y[i]=cy at *
 generalize A++rep (m+1) rz=Z at *
 generalize A++cd++rep m rz=Z' at *
 simp only[iv] at h12 h13
 have hv1:dp false X=vR X:=rfl
 have hv2:dp false Y=vR Y:=rfl
 rw[hv1] at x1
 rw[hv2] at y1
 have zR':=zRz
 simp[Jc,iv,psB,psC,f60,aC,aL,and_assoc,bp,h0,h1,h5,h11,h12,h13,hi,x1,x2,x3,y1,y2,g,ho,hx,hx1,hx2,hx3,hx4,hx5,hx6,hokx,hlx,hokd,hld,hn1,hw,aR,sR,zR',number,FP.free,cH,FP.apart]
theorem KB (L:Lst)(run:ar)(k:Nat)(X Y:List Rat)(h9:X.length≤1000)(hXY:X.length=Y.length)(g:∀ i (h1:i<X.length)(h2:i<Y.length),au L run 55 [rv (some X[i]),rv (some Y[i])] (rv (some (X[i] - Y[i])))):∀ (n i:Nat) (fr:List PV) (hp:List Blk) (wr:List Nat),i+n=X.length→Jc fr X Y i→aY hp 0=some ⟨.live,((List.zipWith (· - ·) X Y).take i).flatMap rcs++rep n rz⟩→0<hp.length →
  ∃ fr' hp' wr',cu (af (CC L) run k psB) (n+1) ⟨fr,hp,wr⟩=some (.exit 0,⟨fr',hp',wr'⟩)∧fr'.length=29∧nth fr' 5 = .own 0 4 0 X.length true∧aY hp' 0=some ⟨.live,(List.zipWith (· - ·) X Y).flatMap rcs⟩
 | 0,i,fr,hp,wr,hin,h,hb,hn=>by
  have e:i=X.length:=by omega
  rw[e] at h
  obtain⟨fr',q1,q2,q3⟩:=aey L run k fr hp wr X Y h
  refine⟨fr',hp,wr,bD q1,q2,q3,?_⟩
  rw[hb,take_of_length_le (by rw[length_zipWith];omega)];simp[rep]
 | n+1,i,fr,hp,wr,hin,h,hb,hn=>by
  have hi:i<X.length:=by omega
  have hy:i<Y.length:=by omega
  have hz:i<(List.zipWith (· - ·) X Y).length:=by rw[length_zipWith];omega
  obtain⟨fr1,hp1,wr1,q1,q2,q3,q4⟩:=ZZ L run k fr hp wr X Y i n _ hi hy h9 (by rw[iH,length_take,Nat.min_eq_left (by omega)]) (g i hi hy) h hb hn
  obtain⟨fr',hp',wr',s1,s2⟩:=KB L run k X Y h9 hXY g n (i+1) fr1 hp1 wr1 (by omega) q2 (by
   rw[q3,take_succ_eq_append_getElem hz,flatMap_append];simp) q4
  exact⟨fr',hp',wr',by rw[ct q1];exact s1,s2⟩
def Z0:Code:=seq1 (seq1 (ah 2 psC))
theorem aew:ah 2 psC = .seq (.seq Z0 (.block 0 (.loop psB))) (ah 3 psC):=rfl
theorem aex (L:Lst)(run:ar)(k:Nat)(X Y:List Rat)(h9:X.length≤1000) :
  ∃ fr fr' wr,aX (CC L) run k 2 psC ⟨entry 29 [vR X,vR Y],[],[]⟩=some ⟨fr,[⟨.live,rep X.length rz⟩],wr⟩∧af (CC L) run k Z0 ⟨fr,[⟨.live,rep X.length rz⟩],wr⟩=some (.normal,⟨fr',[⟨.live,rep X.length rz⟩],wr⟩)∧Jc fr' X Y 0:=by
 obtain⟨e1,e2,e3⟩:=cn 27 (vR X) (vR Y)
 generalize entry 29 [vR X,vR Y]=fr0 at *
 have hm:X.length≤cS:=Nat.le_trans h9 (by decide)
 have hl:dn (vR X)=some X.length:=rfl
 obtain⟨fr,wr,a1,a2,a3,a4,a5⟩:∃ fr wr,aX (CC L) run k 2 psC ⟨fr0,[],[]⟩=some ⟨fr,[⟨.live,rep X.length rz⟩],wr⟩∧fr.length=29∧nth fr 0=vR X∧nth fr 5 = .own 0 4 0 X.length true∧nth fr 1=vR Y:=by
  have hrz:rz.length=4:=rfl
  simp[psC,f60,aX,e1,e2,e3,bO,bm,and_assoc,uY,hl,sR,bR,zRz,hm,hrz,cg,aM]
 refine⟨fr,?_⟩
 simp only[a1]
 simp[Jc,iv,Z0,seq1,ah,psC,f60,a2,a3,a4,a5,bO,uY,hl]
theorem ZY(p:PV)(h0:fr.length=29)(h3:nth fr 5=p):∃ st,af (CC L) run k (ah 3 psC) ⟨fr,hp,wr⟩=some (.ret,st)∧st.hp=hp∧aU TT st.fr st.hp f60.results.toList=some [p]:=by
 simp[psC,ah,f60,h0,h3]
theorem Zw {k:Nat}{x y:Rat}(hx:Rb k x)(hy:Rb k y)(h9:k≤2000000)(h:rcs x=rcs y):x=y:=by
 have h1:rv (some x)=rv (some y):=by rw[ji,ji,h]
 have:=Bp (u:=some x) (v:=some y) hx hy h9 h1
 simpa using this
theorem vX {k:Nat}{X Y:List Rat}(hX:RbL k X)(hY:RbL k Y)(h9:k≤2000000)(h:vR X=vR Y):X=Y:=by
 unfold vR dp at h
 simp only[PV.imm.injEq,true_and] at h
 obtain⟨h1,h2⟩:=h
 clear h1
 induction X generalizing Y with
 | nil=>cases Y with
  | nil=>rfl
  | cons b Y =>
   have:=congrArg List.length h2
   rw[iH,iH] at this
   simp at this
 | cons a X ih=>cases Y with
  | nil =>
   have:=congrArg List.length h2
   rw[iH,iH] at this
   simp at this
  | cons b Y =>
   rw[flatMap_cons,flatMap_cons] at h2
   have h3:=append_inj h2 (by rw[cD.len,cD.len])
   rw[Zw (hX a mem_cons_self) (hY b mem_cons_self) h9 h3.1,ih (fun x hx=>hX x (mem_cons_of_mem _ hx)) (fun x hx=>hY x (mem_cons_of_mem _ hx)) h3.2]
abbrev VV:=List Rat × List Rat
def dy (X Y:List Rat):List Rat:=List.zipWith (· - ·) X Y
def aeL (p:VV):Prop:=RbL 100000 p.1∧RbL 100000 p.2∧p.1.length=p.2.length∧p.1.length≤1000
theorem acq {p q:VV}(hp:aeL p)(hq:aeL q)(h:[vR p.1,vR p.2]=[vR q.1,vR q.2]):p=q:=by
 simp only[List.cons.injEq,and_true] at h
 exact Prod.ext (vX hp.1 hq.1 (by omega) h.1) (vX hp.2.1 hq.2.1 (by omega) h.2)
def xp:List PV→Option (List PV):=ctr (fun p:VV=>[vR p.1,vR p.2]) aeL fun p=>[dp true (dy p.1 p.2)]
theorem sT:Ab.Spec base.P 60 xp:=Ab.Spec.bM (C:=CC LR1) (cP yz) fun args rs h=>by
 obtain⟨⟨X,Y⟩,⟨hX,hY,hl,h9⟩,rfl,rfl⟩:=cN h
 dsimp only at hX hY hl h9
 obtain⟨fr,fr1,wr,a1,a2,a3⟩:=aex LR1 (runK (CC LR1) (X.length+1)) (X.length+1) X Y h9
 obtain⟨fr2,hp2,wr2,b1,b2,b3,b4⟩:=KB LR1 (runK (CC LR1) (X.length+1)) (X.length+1) X Y h9 hl (fun i h1 h2=>ahg rfl _ (u:=some X[i]) (v:=some Y[i]) (hX _ (getElem_mem h1)) (hY _ (getElem_mem h2)) (by omega)) X.length 0 fr1 [⟨.live,rep X.length rz⟩] wr (by omega) a3 (by simp[aY]) (by simp)
 have hL:af (CC LR1) (runK (CC LR1) (X.length+1)) (X.length+1) (.seq Z0 (.block 0 (.loop psB))) ⟨fr,[⟨.live,rep X.length rz⟩],wr⟩=some (.normal,⟨fr2,hp2,wr2⟩):=by
  rw[av a2];exact bN b1
 obtain⟨st,c1,c2,c3⟩:=ZY LR1 (runK (CC LR1) (X.length+1)) (X.length+1) fr2 hp2 wr2 _ b2 b3
 have hx:af (CC LR1) (runK (CC LR1) (X.length+1)) (X.length+1) psC ⟨entry 29 [vR X,vR Y],[],[]⟩=some (.ret,st):=by
  rw[aO 2 a1,aew,av hL,c1]
 have hlz:(dy X Y).length=X.length:=by unfold dy;rw[length_zipWith];omega
 have ho:=JP hp2 0 true (dy X Y) b4
 rw[hlz] at ho
 exact⟨_,_,_,_,[dp true (dy X Y)],[0],aP PE rfl hx c3,by rw[c2];exact ho,Wk.refl rfl,trivial⟩
theorem yo (x y:Bool)(X Y:List Rat):aJ [dp x X,dp y Y]=[vR X,vR Y]:=by simp only[aJ,AY]
theorem Ji {L:Lst}(hL:bu L 60=fun a=>xp (aJ a))(run:ar)(x y:Bool)(X Y:List Rat){j k:Nat}(hX:RbL j X)(hY:RbL k Y)(hj:j≤100000)(hk:k≤100000)(hl:X.length=Y.length)(h9:X.length≤1000):au L run 60 [dp x X,dp y Y] (dp true (dy X Y)):=fun dr hp =>
 jO YS hL run dr hp _ [vR X,vR Y] [dp true (dy X Y)] rfl (yo x y X Y) (jn (x:=(X,Y)) (fun p q hp hq h=>by rw[acq hp hq h]) ⟨fun x hx=>(hX x hx).mono hj,fun x hx=>(hY x hx).mono hk,hl,h9⟩)
theorem PH:base.F.get 61=some f61:=by kernel_rfl
theorem YU:base.shared 61=false:=by kernel_rfl
def pdC:Code:=f61.body.getD .skip
def pdB:Code:=(aC pdC).getD .skip
def rH (X Y:List Rat):Nat→Rat
 | 0=>0
 | i+1=>rH X Y i+X.getD i 0*Y.getD i 0
def dot (X Y:List Rat):Rat:=rH X Y X.length
theorem vK {k:Nat}{X Y:List Rat}(hX:RbL k X)(hY:RbL k Y)(hl:X.length=Y.length):∀ i,i≤X.length→Rb (i*(2*k+1)+1) (rH X Y i)
 | 0,_=>Rb.zero _
 | i+1,h=>by
  have h1:=vK hX hY hl i (by omega)
  have hx:Rb k (X.getD i 0):=by
   rw[getD_eq_getElem?_getD,getElem?_eq_getElem (by omega)];exact hX _ (getElem_mem _)
  have hy:Rb k (Y.getD i 0):=by
   rw[getD_eq_getElem?_getD,getElem?_eq_getElem (by omega)];exact hY _ (getElem_mem _)
  have e:(i+1)*(2*k+1)=i*(2*k+1)+(2*k+1):=Nat.succ_mul i _
  exact (h1.add (hx.mul hy)).mono (by rw[e];omega)
def JD (fr:List PV)(X Y:List Rat)(i:Nat):Prop:=fr.length=25∧nth fr 1=vR Y∧nth fr 4 = .ptr 0 0∧nth fr 5 = .ptr 1 0∧nth fr 8=vR X∧nth fr 9=iv X.length∧nth fr 10=iv i
theorem aeG(X Y:List Rat)(h:JD fr X Y X.length) :
  ∃ fr',af (CC L) run k pdB ⟨fr,hp,wr⟩=some (.exit 0,⟨fr',hp,wr⟩)∧fr'.length=25∧nth fr' 4 = .ptr 0 0∧nth fr' 5 = .ptr 1 0:=by
 obtain⟨h0,h1,h4,h5,h8,h9,h10⟩:=h
 simp only[iv] at h9 h10
 simp[pdB,pdC,f61,aC,h0,h4,h5,h9,h10]
def ah3:Code:=cw (blk (seq1 (cw (cw pdB))))
theorem ajn:((Region.before (fx ah3))[8]?.getD 0).testBit 0=true:=by kernel_rfl
set_option maxHeartbeats 1000000 in
theorem Z4(X Y:List Rat)(i:Nat)(sc p1 p2:List PV)(z:Blk)(hi:i<X.length)(hy:i<Y.length)(h9':X.length≤1000)(hsl:sc.length=4)(hpl:p2.length=4)(hpo:bh p2=true)(g1:au L run 56 [.agg (rcs X[i]),.agg (rcs Y[i])] (.agg p1))(g2:au L run 87 [.agg sc,.agg p1] (.agg p2))(h:JD fr X Y i)(hz:aY hp 0=some z)(hb:aY hp 1=some ⟨.live,sc⟩)(hn:1<hp.length) :
  ∃ fr' hp' wr',af (CC L) run k pdB ⟨fr,hp,wr⟩=some (.normal,⟨fr',hp',wr'⟩)∧JD fr' X Y (i+1)∧aY hp' 0=some z∧aY hp' 1=some ⟨.live,p2⟩∧1<hp'.length:=by
 obtain⟨h0,h1,h4,h5,h8,h9,h10⟩:=h
 obtain⟨r,x1,x2⟩:=od false X i hi
 obtain⟨r',y1,y2⟩:=od false Y i hy
 have hw:=bH i (by omega)
 have hx:=al1 hp rz
 have hx1:=dW rz (rcs X[i]) (by rw[cD.len];rfl)
 have hx2:=al2 hp rz ⟨.live,rcs X[i]⟩
 have hx3:=(al3 hp rz ⟨.live,rcs X[i]⟩ 1 hn).trans hb
 have hx3':=(al3 hp rz ⟨.live,rcs X[i]⟩ 0 (by omega)).trans hz
 have hx4:=eo (rcs X[i]) (cD.len _)
 have hx4':=eo sc hsl
 have ho:=dW sc p2 (by rw[hsl,hpl])
 have hx5:aY (bZ (bZ (aM hp rz) hp.length ⟨.live,rcs X[i]⟩) 1 ⟨.live,p2⟩) 1=some ⟨.live,p2⟩:=by rw[cT hx3,if_pos rfl]
 have hx5':aY (bZ (bZ (aM hp rz) hp.length ⟨.live,rcs X[i]⟩) 1 ⟨.live,p2⟩) 0=some z:=by rw[cT hx3,if_neg (by omega),hx3']
 have hx6:1<(bZ (bZ (aM hp rz) hp.length ⟨.live,rcs X[i]⟩) 1 ⟨.live,p2⟩).length:=by rw[bL,al4];omega
 have hokx:=cD.okc X[i]
 have hlx:=cD.len X[i]
 have hn0:hp.length≠1:=by omega
 have hn1:(1=hp.length)=False:=by simp;omega
 unfold au at g1 g2
 generalize rcs X[i]=cx at *
 generalize rcs Y[i]=cy at *
 simp only[iv] at h9 h10
 have hv1:dp false X=vR X:=rfl
 have hv2:dp false Y=vR Y:=rfl
 rw[hv1] at x1
 rw[hv2] at y1
 have zR':=zRz
 have hbit:=ajn
 simp[-Nat.testBit_zero,ah3,pdB,pdC,f61,aC,cw,seq1,blk,fx] at hbit
 simp[-Nat.testBit_zero,hbit,JD,iv,pdB,pdC,f61,aC,aL,and_assoc,bp,h0,h1,h4,h5,h8,h9,h10,hi,x1,x2,y1,y2,g1,g2,ho,hx,hx1,hx2,hx3,hx4,hx4',hx5,hx5',hx6,hokx,hlx,hpo,hpl,hn1,hw,aR,sR,zR',number,FP.free,cH,FP.apart]
theorem KE (L:Lst)(run:ar)(k:Nat)(X Y:List Rat)(z:Blk)(h9:X.length≤10)(hXY:X.length=Y.length){k0:Nat}(hk0:k0≤10000)(hX:RbL k0 X)(hY:RbL k0 Y)(gm:bu L 56=fun a=>kS (aJ a))(ga:bu L 87=fun a=>jb (aJ a)):∀ (n i:Nat) (fr:List PV) (hp:List Blk) (wr:List Nat) (sc:List PV) (u:Option Rat),i+n=X.length→JD fr X Y i→aY hp 0=some z→aY hp 1=some ⟨.live,sc⟩→1<hp.length→Rc sc u→vv u=rH X Y i→(i≠0→u≠none) →
  ∃ fr' hp' wr' sc' u',cu (af (CC L) run k pdB) (n+1) ⟨fr,hp,wr⟩=some (.exit 0,⟨fr',hp',wr'⟩)∧fr'.length=25∧nth fr' 4 = .ptr 0 0∧nth fr' 5 = .ptr 1 0∧aY hp' 0=some z∧aY hp' 1=some ⟨.live,sc'⟩∧1<hp'.length∧Rc sc' u'∧vv u'=dot X Y∧(X.length≠0→u'≠none)
 | 0,i,fr,hp,wr,sc,u,hin,h,hz,hb,hn,hc,hu,hu2=>by
  have e:i=X.length:=by omega
  subst e
  obtain⟨fr',q1,q2,q3,q4⟩:=aeG L run k fr hp wr X Y h
  exact⟨fr',hp,wr,sc,u,bD q1,q2,q3,q4,hz,hb,hn,hc,hu,hu2⟩
 | n+1,i,fr,hp,wr,sc,u,hin,h,hz,hb,hn,hc,hu,hu2=>by
  have hi:i<X.length:=by omega
  have hy:i<Y.length:=by omega
  have hbx:=hX _ (getElem_mem hi)
  have hby:=hY _ (getElem_mem hy)
  have hbs:=vK hX hY hXY i (by omega)
  have hi9:i*(2*k0+1)≤10*20001:=Nat.mul_le_mul (by omega) (by omega)
  have g1:=Jh gm run (p:=.agg (rcs X[i])) (q:=.agg (rcs Y[i])) (u:=some X[i]) (v:=some Y[i]) (.inl rfl) (.inl rfl) hbx hby (by omega)
  have g2:=XL ga run (p:=.agg sc) (q:=rv (some (X[i]*Y[i]))) (u:=u) (v:=some (X[i]*Y[i])) hc.p (.inl rfl) (by rw[hu];exact hbs) (hbx.mul hby) (by omega)
  obtain⟨fr1,hp1,wr1,q1,q2,q3,q4,q5⟩:=Z4 L run k fr hp wr X Y i sc _ (rcs (vv u+X[i]*Y[i])) z hi hy (by omega) hc.len (cD.len _) (cD.okc _) g1 g2 h hz hb hn
  obtain⟨fr',hp',wr',sc',u',s1,s2⟩:=KE L run k X Y z h9 hXY hk0 hX hY gm ga n (i+1) fr1 hp1 wr1 (rcs (vv u+X[i]*Y[i])) (some (vv u+X[i]*Y[i])) (by omega) q2 q3 q4 q5 (.inl rfl) (by
   show vv u+X[i]*Y[i]=rH X Y i+X.getD i 0*Y.getD i 0
   rw[hu,getD_eq_getElem?_getD,getD_eq_getElem?_getD,getElem?_eq_getElem hi,getElem?_eq_getElem hy]
   rfl) (fun _=>nofun)
  exact⟨fr',hp',wr',sc',u',by rw[ct q1];exact s1,s2⟩
def Z5:Code:=seq1 (seq1 (ah 2 pdC))
theorem aeE:ah 2 pdC = .seq (.seq Z5 (.block 0 (.loop pdB))) (ah 3 pdC):=rfl
theorem aeF (L:Lst)(run:ar)(k:Nat)(X Y:List Rat) :
  ∃ fr fr' wr,aX (CC L) run k 2 pdC ⟨entry 25 [vR X,vR Y],[],[]⟩=some ⟨fr,[⟨.live,rz⟩,⟨.live,rz⟩],wr⟩∧af (CC L) run k Z5 ⟨fr,[⟨.live,rz⟩,⟨.live,rz⟩],wr⟩=some (.normal,⟨fr',[⟨.live,rz⟩,⟨.live,rz⟩],wr⟩)∧JD fr' X Y 0:=by
 obtain⟨e1,e2,e3⟩:=cn 23 (vR X) (vR Y)
 generalize entry 25 [vR X,vR Y]=fr0 at *
 have hl:dn (vR X)=some X.length:=rfl
 obtain⟨fr,wr,a1,a2,a3,a4,a5,a6⟩:∃ fr wr,aX (CC L) run k 2 pdC ⟨fr0,[],[]⟩=some ⟨fr,[⟨.live,rz⟩,⟨.live,rz⟩],wr⟩∧fr.length=25∧nth fr 0=vR X∧nth fr 1=vR Y∧nth fr 4 = .ptr 0 0∧nth fr 5 = .ptr 1 0:=by
  simp[pdC,f61,aX,e1,e2,e3,and_assoc,zRz,aM]
 refine⟨fr,?_⟩
 simp only[a1]
 simp[JD,iv,Z5,seq1,ah,pdC,f61,a2,a3,a4,a5,a6,bO,uY,hl]
theorem Z3(z sc:List PV)(hsl:sc.length=4)(hso:bh sc=true)(hzl:z.length=4)(h0:fr.length=25)(h4:nth fr 4 = .ptr 0 0)(h5:nth fr 5 = .ptr 1 0)(hz:aY hp 0=some ⟨.live,z⟩)(hb:aY hp 1=some ⟨.live,sc⟩)(hn:1<hp.length) :
  ∃ st,af (CC L) run k (ah 3 pdC) ⟨fr,hp,wr⟩=some (.ret,st)∧aU TT st.fr st.hp f61.results.toList=some [.agg sc]:=by
 have ho:=dW z sc (by omega)
 have ht:=eo sc hsl
 have h6:aY (bZ hp 0 ⟨.live,sc⟩) 0=some ⟨.live,sc⟩:=by rw[cT hz,if_pos rfl]
 simp[pdC,ah,f61,h0,h4,h5,bp,hz,hb,ho,ht,hso,hsl,h6,aR,sR]
def KD:List PV→Option (List PV):=ctr (fun p:VV=>[vR p.1,vR p.2]) (fun p=>RbL 10000 p.1∧RbL 10000 p.2∧p.1.length=p.2.length∧p.1.length≤10∧p.1.length≠0) fun p=>[rv (some (dot p.1 p.2))]
theorem Rc.okc {cs:List PV}{u:Option Rat}(h:Rc cs u):bh cs=true:=by
 rcases h with rfl | ⟨rfl,rfl⟩
 ·exact pF.okc u
 ·rfl
theorem Ak:Ab.Spec base.P 61 KD:=Ab.Spec.bM (C:=CC LR1) (cP yz) fun args rs h=>by
 obtain⟨⟨X,Y⟩,⟨hX,hY,hl,h9,hne⟩,rfl,rfl⟩:=cN h
 dsimp only at hX hY hl h9 hne
 obtain⟨fr,fr1,wr,a1,a2,a3⟩:=aeF LR1 (runK (CC LR1) (X.length+1)) (X.length+1) X Y
 obtain⟨fr2,hp2,wr2,sc,u,b1,b2,b3,b4,b5,b6,b7,b8,b9,b10⟩:=KE LR1 (runK (CC LR1) (X.length+1)) (X.length+1) X Y ⟨.live,rz⟩ h9 hl (Nat.le_refl 10000) hX hY rfl rfl X.length 0 fr1 [⟨.live,rz⟩,⟨.live,rz⟩] wr rz none (by omega) a3 (by simp[aY]) (by simp[aY]) (by simp) (.inr ⟨rfl,rfl⟩) rfl (fun h=>absurd rfl h)
 have hL:af (CC LR1) (runK (CC LR1) (X.length+1)) (X.length+1) (.seq Z5 (.block 0 (.loop pdB))) ⟨fr,[⟨.live,rz⟩,⟨.live,rz⟩],wr⟩=some (.normal,⟨fr2,hp2,wr2⟩):=by
  rw[av a2];exact bN b1
 obtain⟨st,c1,c3⟩:=Z3 LR1 (runK (CC LR1) (X.length+1)) (X.length+1) fr2 hp2 wr2 rz sc b8.len b8.okc rfl b2 b3 b4 b5 b6 b7
 have hx:af (CC LR1) (runK (CC LR1) (X.length+1)) (X.length+1) pdC ⟨entry 25 [vR X,vR Y],[],[]⟩=some (.ret,st):=by
  rw[aO 2 a1,aeE,av hL,c1]
 have hu:u=some (dot X Y):=by
  cases u with
  | none=>exact absurd rfl (b10 hne)
  | some y=>exact congrArg some b9
 subst hu
 exact⟨_,_,_,_,[.agg sc],[],aP PH rfl hx c3,b8.p.JX _,b8.p.wk,trivial⟩
theorem ahk {L:Lst}(hL:bu L 61=fun a=>KD (aJ a))(run:ar)(x y:Bool)(X Y:List Rat){j k:Nat}(hX:RbL j X)(hY:RbL k Y)(hj:j≤10000)(hk:k≤10000)(hl:X.length=Y.length)(h9:X.length≤10)(hne:X.length≠0):au L run 61 [dp x X,dp y Y] (rv (some (dot X Y))):=fun dr hp =>
 jO YU hL run dr hp _ [vR X,vR Y] [rv (some (dot X Y))] rfl (yo x y X Y) (jn (x:=(X,Y)) (fun p q hp hq h=>by
  simp only[List.cons.injEq,and_true] at h
  rw[vX hp.1 hq.1 (by omega) h.1,vX hp.2.1 hq.2.1 (by omega) h.2]) ⟨fun x hx=>(hX x hx).mono hj,fun x hx=>(hY x hx).mono hk,hl,h9,hne⟩)
def ei (z:Int):List PV:=[.sc (.int .i64 z)]
theorem E7:Ec 1 ei where
 len:=fun _=>rfl
 okc:=fun _=>rfl
 can:=fun _=>rfl
 idf:=fun _=>rfl
 sn:=fun _ _ _=>rfl
def aE (at':List Int):PV:=fg ei at'
theorem jA:und TT 24=some (.slice 3):=by kernel_rfl
theorem pX (l:List Int):dn (aE l)=some l.length:=rfl
theorem ja (l:List Int):canon (aE l)=aE l:=E7.B8 l
theorem nm (l:List Int)(i:Nat)(hi:i<l.length):∃ r,bg TT 24 (aE l) (.sc (.int .i64 (i:Int)))=some (.iptr r)∧r.head?=some (.sc (.int .i64 l[i])):=by
 have h:=lh E7.toEl l i hi
 refine⟨br (l.flatMap ei) (i*1),?_,by rw[h];rfl⟩
 unfold aE fg
 simp only[bg,jA,bm,sI,hi,if_true]
theorem Ja:∀ {p q:List Int},aE p=aE q→p=q:=by
 intro p q h
 unfold aE fg at h
 simp only[PV.imm.injEq,true_and] at h
 have:∀ (p q:List Int),p.flatMap ei=q.flatMap ei→p=q:=by
  intro p
  induction p with
  | nil=>intro q h;cases q with
   | nil=>rfl
   | cons a q=>simp[ei] at h
  | cons a p ih=>intro q h;cases q with
   | nil=>simp[ei] at h
   | cons b q =>
    simp only[flatMap_cons,ei,cons_append,nil_append,List.cons.injEq,PV.sc.injEq,Value.int.injEq,true_and] at h
    rw[h.1,ih q h.2]
 exact this p q h.2
theorem zp:∀ hp:List Blk,tH hp.length hp=hp
 | []=>rfl
 | a::l=>by rw[length_cons,tH,zp l]
theorem mo {L:Lst}{run:ar}{g:Nat}{args:List PV}{r:PV}{hp:List Blk}(hs:base.shared g=true)(hr:run g args hp=some ([r],hp,[]))(hi:r.cO=true)(dr:Bool):bX (CC L) run dr hp g args=some (r,hp,⟨[],[],true,true⟩):=by
 have hs':(CC L).shared g=true:=hs
 unfold bX
 rw[if_pos hs',hr]
 simp only[bU,hi,lU,iL,Bool.and_self,cond_true,jk,zp]
theorem Jw:base.F.get 103=some f103:=by kernel_rfl
theorem Q8:base.shared 103=true:=by kernel_rfl
theorem yH:base.F.get 148=some f148:=by kernel_rfl
theorem Rx:base.shared 148=true:=by kernel_rfl
theorem JB:base.F.get 102=some f102:=by kernel_rfl
theorem RA:base.shared 102=true:=by kernel_rfl
theorem tA:base.F.get 50=some f50:=by kernel_rfl
theorem YW:base.shared 50=false:=by kernel_rfl
theorem ahK(g:Nat):(CC L).sorc g=none:=rfl
theorem jz {L:Lst}{k:Nat}{g:FuncId}{args:List PV}{hp:List Blk}{fn:Func}{c:Code}{st:St}{rs:List PV}(hF:base.F.get g=some fn)(hb:fn.body=some c)(hx:af (CC L) (runK (CC L) k) k c ⟨entry fn.ntmps args,hp,[]⟩=some (.ret,st))(hr:aU TT st.fr st.hp fn.results.toList=some rs):runK (CC L) (k+1) g args hp=some (rs,st.hp,st.wr):=by
 have h1:(CC L).F g=some fn:=hF
 simp only[runK,ahK,uK,h1,hb,hx]
 rw[bd,hr]
def pt (m:Nat)(z:Int):Bool:=decide (z<0) || decide ((m:Int)≤z)
theorem O8 (L:Lst)(run:ar)(k:Nat)(c:List (List ByteArray))(hp:List Blk)(z:Int)(hb:aY hp 0=some ⟨.live,[cE c]⟩) :
  ∃ st,af (CC L) run k (f103.body.getD .skip) ⟨entry 12 [.sc (.int .i64 z),.ptr 0 0],hp,[]⟩=some (.ret,st)∧st.hp=hp∧st.wr=[]∧aU TT st.fr st.hp f103.results.toList=some [.sc (.bool (pt c.length z))]:=by
 obtain⟨e1,e2,e3⟩:=cn 10 (.sc (.int .i64 z)) (.ptr 0 0)
 generalize entry 12 [.sc (.int .i64 z),.ptr 0 0]=fr0 at *
 have hl:=gD c
 unfold pt
 by_cases h:z<0
 ·simp[f103,e1,e2,h,undef]
 ·by_cases h2:(c.length:Int)≤z
  ·simp[f103,e1,e2,e3,bO,h,h2,hb,hl,uCl,aCl,sCl]
  ·simp[f103,e1,e2,e3,bO,h,h2,hb,hl,uCl,aCl,sCl]
theorem WT (L:Lst)(k:Nat)(c:List (List ByteArray))(hp:List Blk)(z:Int)(hb:aY hp 0=some ⟨.live,[cE c]⟩):runK (CC L) (k+1) 103 [.sc (.int .i64 z),.ptr 0 0] hp=some ([.sc (.bool (pt c.length z))],hp,[]):=by
 obtain⟨st,x1,x2,x3,x4⟩:=O8 L (runK (CC L) k) k c hp z hb
 have:=jz Jw rfl x1 x4
 rw[x2,x3] at this
 exact this
def ifC:Code:=f148.body.getD .skip
def ifB:Code:=(aC ifC).getD .skip
def IfF (fr:List PV)(l:List Int)(f:PV)(i:Nat):Prop:=fr.length=19∧nth fr 0=aE l∧nth fr 1=f∧nth fr 7=iv l.length∧nth fr 8=iv i
theorem af2(l:List Int)(f:PV)(h:IfF fr l f l.length) :
  ∃ fr',af (CC L) run k ifB ⟨fr,hp,[]⟩=some (.exit 0,⟨fr',hp,[]⟩)∧fr'.length=19:=by
 obtain⟨h0,h1,h2,h7,h8⟩:=h
 simp only[iv] at h7 h8
 simp[ifB,ifC,f148,aC,h0,h7,h8]
theorem Vr(l:List Int)(g:Nat)(caps:List PV)(i:Nat)(v:Bool)(hi:i<l.length)(h9:l.length<1000000)(hc:∀ dr,bX (CC L) run dr hp g ([.sc (.int .i64 l[i])]++caps)=some (.sc (.bool v),hp,⟨[],[],true,true⟩))(h:IfF fr l (.clos g caps) i) :
  ∃ fr',af (CC L) run k ifB ⟨fr,hp,[]⟩=some (bif v then .ret else .normal,⟨fr',hp,[]⟩)∧(v=true→nth fr' 4=iv i)∧(v=false→IfF fr' l (.clos g caps) (i+1)):=by
 obtain⟨h0,h1,h2,h7,h8⟩:=h
 obtain⟨r,x1,x2⟩:=nm l i hi
 have hw:=bH i (by omega)
 generalize l[i]=z at *
 simp only[iv] at h7 h8
 simp only[cons_append,nil_append] at hc
 cases v <;> simp[IfF,iv,ifB,ifC,f148,aC,aL,h0,h1,h2,h7,h8,hi,x1,x2,hc,hw,aI,sI]
theorem KX (L:Lst)(run:ar)(k:Nat)(hp:List Blk)(l:List Int)(g:Nat)(caps:List PV)(b:Int→Bool)(h9:l.length<1000000)(hc:∀ z ∈ l,∀ dr,bX (CC L) run dr hp g ([.sc (.int .i64 z)]++caps)=some (.sc (.bool (b z)),hp,⟨[],[],true,true⟩)):∀ (n i:Nat) (fr:List PV),i+n=l.length→IfF fr l (.clos g caps) i →
  (∃ fr',(l.drop i).any b=false∧cu (af (CC L) run k ifB) (n+1) ⟨fr,hp,[]⟩=some (.exit 0,⟨fr',hp,[]⟩)∧fr'.length=19)∨∃ fr' j,(l.drop i).any b=true∧cu (af (CC L) run k ifB) (n+1) ⟨fr,hp,[]⟩=some (.ret,⟨fr',hp,[]⟩)∧nth fr' 4=iv j
 | 0,i,fr,hin,h=>by
  have e:i=l.length:=by omega
  subst e
  obtain⟨fr',q1,q2⟩:=af2 L run k fr hp l _ h
  rw[drop_length]
  exact .inl ⟨fr',rfl,bD q1,q2⟩
 | n+1,i,fr,hin,h=>by
  have hi:i<l.length:=by omega
  obtain⟨fr1,q1,q2,q3⟩:=Vr L run k fr hp l g caps i _ hi h9 (hc _ (getElem_mem hi)) h
  rw[drop_eq_getElem_cons hi,any_cons]
  cases hv:b l[i] with
  | true =>
   rw[hv] at q1 q2
   exact .inr ⟨fr1,i,rfl,eM q1,q2 rfl⟩
  | false =>
   rw[hv] at q1 q3
   rw[Bool.false_or,ct q1]
   exact KX L run k hp l g caps b h9 hc n (i+1) fr1 (by omega) (q3 rfl)
def Vt:Code:=seq1 (seq1 (ah 1 ifC))
theorem Vq:ah 1 ifC = .seq (.seq Vt (.block 0 (.loop ifB))) (ah 2 ifC):=rfl
theorem af1 (L:Lst)(run:ar)(k:Nat)(l:List Int)(f:PV)(hp:List Blk):∃ fr fr',aX (CC L) run k 1 ifC ⟨entry 19 [aE l,f],hp,[]⟩=some ⟨fr,hp,[]⟩∧af (CC L) run k Vt ⟨fr,hp,[]⟩=some (.normal,⟨fr',hp,[]⟩)∧IfF fr' l f 0:=by
 obtain⟨e1,e2,e3⟩:=cn 17 (aE l) f
 generalize entry 19 [aE l,f]=fr0 at *
 have hl:=pX l
 obtain⟨fr,a1,a2,a3,a4⟩:∃ fr,aX (CC L) run k 1 ifC ⟨fr0,hp,[]⟩=some ⟨fr,hp,[]⟩∧fr.length=19∧nth fr 0=aE l∧nth fr 1=f:=by
  simp[ifC,f148,aX,e1,e2,e3]
 refine⟨fr,?_⟩
 rw[a1]
 simp[IfF,iv,Vt,seq1,ah,ifC,f148,a2,a3,a4,bO,hl,jA]
theorem abP(h0:fr.length=19):∃ st,af (CC L) run k (ah 2 ifC) ⟨fr,hp,[]⟩=some (.ret,st)∧st.hp=hp∧st.wr=[]∧aU TT st.fr st.hp f148.results.toList=some [.sc (.int .i64 (-1))]:=by
 simp[ifC,ah,f148,h0]
theorem af0(n:Nat)(h:nth fr 4=iv n):aU TT fr hp f148.results.toList=some [iv n]:=by
 simp[f148,h]
theorem afZ(l:List Int)(g:Nat)(caps:List PV)(b:Int→Bool)(hk:l.length<k)(h9:l.length<1000000)(hc:∀ z ∈ l,∀ dr,bX (CC L) (runK (CC L) k) dr hp g ([.sc (.int .i64 z)]++caps)=some (.sc (.bool (b z)),hp,⟨[],[],true,true⟩)) :
  ∃ r:Int,runK (CC L) (k+1) 148 [aE l,.clos g caps] hp=some ([.sc (.int .i64 r)],hp,[])∧decide (0≤r)=l.any b:=by
 obtain⟨fr,fr1,a1,a2,a3⟩:=af1 L (runK (CC L) k) k l (.clos g caps) hp
 have hl:=KX L (runK (CC L) k) k hp l g caps b h9 hc l.length 0 fr1 (by omega) a3
 rw[drop_zero] at hl
 rcases hl with ⟨fr2,h0,b1,b2⟩| ⟨fr2,j,h0,b1,b2⟩
 ·have:af (CC L) (runK (CC L) k) k (.seq Vt (.block 0 (.loop ifB))) ⟨fr,hp,[]⟩=some (.normal,⟨fr2,hp,[]⟩):=by
   rw[av a2];exact bN (ca b1 (by omega))
  obtain⟨st,c1,c2,c3,c4⟩:=abP L (runK (CC L) k) k fr2 hp b2
  have hx:af (CC L) (runK (CC L) k) k ifC ⟨entry 19 [aE l,.clos g caps],hp,[]⟩=some (.ret,st):=by
   rw[aO 1 a1,Vq,av this,c1]
  have:=jz yH rfl hx c4
  rw[c2,c3] at this
  exact⟨-1,this,by rw[h0];rfl⟩
 ·have:af (CC L) (runK (CC L) k) k (.seq Vt (.block 0 (.loop ifB))) ⟨fr,hp,[]⟩=some (.ret,⟨fr2,hp,[]⟩):=by
   rw[av a2];exact df (ca b1 (by omega))
  have hx:af (CC L) (runK (CC L) k) k ifC ⟨entry 19 [aE l,.clos g caps],hp,[]⟩=some (.ret,⟨fr2,hp,[]⟩):=by
   rw[aO 1 a1,Vq,cC this]
  have:=jz yH rfl hx (af0 fr2 hp j b2)
  exact⟨j,this,by rw[h0];simp⟩
theorem agJ(l:List Int)(g:Nat)(caps:List PV)(b:Int→Bool)(hk:l.length<k)(h9:l.length<1000000)(hc:∀ z ∈ l,∀ dr,bX (CC L) (runK (CC L) k) dr hp g ([.sc (.int .i64 z)]++caps)=some (.sc (.bool (b z)),hp,⟨[],[],true,true⟩)) :
  runK (CC L) (k+2) 102 [aE l,.clos g caps] hp=some ([.sc (.bool (l.any b))],hp,[]):=by
 obtain⟨r,h1,h2⟩:=afZ L k hp l g caps b hk h9 hc
 have hcall:=mo (L:=L) Rx h1 rfl
 obtain⟨e1,e2,e3⟩:=cn 7 (aE l) (.clos g caps)
 rw[← h2]
 have hx:∃ st,af (CC L) (runK (CC L) (k+1)) (k+1) (f102.body.getD .skip) ⟨entry 9 [aE l,.clos g caps],hp,[]⟩=some (.ret,st)∧st.hp=hp∧st.wr=[]∧aU TT st.fr st.hp f102.results.toList=some [.sc (.bool (decide (0≤r)))]:=by
  generalize entry 9 [aE l,.clos g caps]=fr0 at *
  simp[f102,e1,e2,e3,aL,hcall]
 obtain⟨st,x1,x2,x3,x4⟩:=hx
 have:=jz JB rfl x1 x4
 rw[x2,x3] at this
 exact this
def gw (c:List (List ByteArray))(l:List Int)(n:Int):Nat:=if chk c≠0 then chk c else if 0≤n∧(l.length:Int)≠n then 10 else bif l.any (pt c.length) then 4 else 0
def LR2:Lst:=(80,IQ)::LR1
theorem XG:dw base.P LR2:=⟨WS,yz⟩
theorem jY (n:Nat)(p q r:PV):(entry (n+3) [p,q,r]).length=n+3∧nth (entry (n+3) [p,q,r]) 0=p∧nth (entry (n+3) [p,q,r]) 1=q∧nth (entry (n+3) [p,q,r]) 2=r:=⟨gX _ _ (by simp),rfl,rfl,rfl⟩
theorem ajq(c:List (List ByteArray))(l:List Int)(n:Int)(e:Nat)(he:e≠0)(g:au L run 80 [cE c] (iv e)) :
  ∃ st,af (CC L) run k (f50.body.getD .skip) ⟨entry 24 [cE c,aE l,.sc (.int .i64 n)],[],[]⟩=some (.ret,st)∧aU TT st.fr st.hp f50.results.toList=some [iv e]:=by
 obtain⟨e1,e2,e3,e4⟩:=jY 21 (cE c) (aE l) (.sc (.int .i64 n))
 generalize entry 24 [cE c,aE l,.sc (.int .i64 n)]=fr0 at *
 unfold au at g
 have hb:((e:Int) != 0)=true:=by simp;omega
 simp only[iv] at g ⊢
 simp[f50,e1,e2,aL,rS,g,hb,aCl,sCl,aM,aY]
theorem ajp(c:List (List ByteArray))(l:List Int)(n:Int)(hn:0≤n)(hl:(l.length:Int)≠n)(g:au L run 80 [cE c] (iv 0)) :
  ∃ st,af (CC L) run k (f50.body.getD .skip) ⟨entry 24 [cE c,aE l,.sc (.int .i64 n)],[],[]⟩=some (.ret,st)∧aU TT st.fr st.hp f50.results.toList=some [iv 10]:=by
 obtain⟨e1,e2,e3,e4⟩:=jY 21 (cE c) (aE l) (.sc (.int .i64 n))
 generalize entry 24 [cE c,aE l,.sc (.int .i64 n)]=fr0 at *
 unfold au at g
 have hl1:=pX l
 have hb:((l.length:Int) != n)=true:=by simp[hl]
 have hb2:((0:Int) != 0)=false:=rfl
 simp only[iv,Int.cast_ofNat_Int] at g ⊢
 simp[f50,e1,e2,e3,e4,aL,bO,rS,g,hb,hl1,hn,aCl,sCl,jA,aM,aY]
theorem ajo(c:List (List ByteArray))(l:List Int)(n:Int)(hn : ¬ (0≤n∧(l.length:Int)≠n))(v:Bool)(g:au L run 80 [cE c] (iv 0))(hc:bX (CC L) run false [⟨.live,[cE c]⟩] 102 [aE l,.clos 103 [.ptr 0 0]]=some (.sc (.bool v),[⟨.live,[cE c]⟩],⟨[],[],true,true⟩)) :
  ∃ st,af (CC L) run k (f50.body.getD .skip) ⟨entry 24 [cE c,aE l,.sc (.int .i64 n)],[],[]⟩=some (.ret,st)∧aU TT st.fr st.hp f50.results.toList=some [iv (bif v then 4 else 0)]:=by
 obtain⟨e1,e2,e3,e4⟩:=jY 21 (cE c) (aE l) (.sc (.int .i64 n))
 generalize entry 24 [cE c,aE l,.sc (.int .i64 n)]=fr0 at *
 unfold au at g
 have hl1:=pX l
 simp only[iv,Int.cast_ofNat_Int] at g ⊢
 by_cases h0:0≤n
 ·have hl:(l.length:Int)=n:=Classical.byContradiction fun e=>hn ⟨h0,e⟩
  have hb:((l.length:Int) != n)=false:=by simp[hl]
  cases v <;> simp[f50,e1,e2,e3,e4,aL,bO,rS,g,hl,hl1,h0,hc,aCl,sCl,jA,aM,aY]
 ·cases v <;> simp[f50,e1,e2,e3,e4,aL,rS,g,h0,hc,aCl,sCl,aM,aY,undef]
abbrev CL:=List (List ByteArray) × List Int × Int
def eCL (p:CL):List PV:=[cE p.1,aE p.2.1,.sc (.int .i64 p.2.2)]
theorem BZ {p q:CL}(h:eCL p=eCL q):p=q:=by
 simp only[eCL,List.cons.injEq,and_true,PV.sc.injEq,Value.int.injEq,true_and] at h
 exact Prod.ext (Ca h.1) (Prod.ext (Ja h.2.1) h.2.2)
def uv:List PV→Option (List PV):=ctr eCL (fun p=>Fit p.1∧p.2.1.length≤1000) fun p=>[iv (gw p.1 p.2.1 p.2.2)]
theorem Al:Ab.Spec base.P 50 uv:=Ab.Spec.bM (C:=CC LR2) (cP XG) fun args rs h=>by
 obtain⟨⟨c,l,n⟩,⟨hF,h9⟩,rfl,rfl⟩:=cN h
 dsimp only at hF h9
 have g:=adB (L:=LR2) rfl (runK (CC LR2) (l.length+4)) c hF
 show ∃ k rs1 hp1 wr rs2 ids,runK (CC LR2) k 50 [cE c,aE l,.sc (.int .i64 n)] []=_∧_∧WkL rs2 [iv (gw c l n)]
 unfold gw
 by_cases h1:chk c≠0
 ·rw[if_pos h1]
  obtain⟨st,x1,x2⟩:=ajq LR2 (runK (CC LR2) (l.length+4)) (l.length+4) c l n (chk c) h1 g
  exact⟨_,_,_,_,_,_,aP tA rfl x1 x2,rfl,Wk.refl rfl,trivial⟩
 ·rw[if_neg h1]
  have h2:chk c=0:=Classical.byContradiction h1
  rw[h2] at g
  by_cases h3:0≤n∧(l.length:Int)≠n
  ·rw[if_pos h3]
   obtain⟨st,x1,x2⟩:=ajp LR2 (runK (CC LR2) (l.length+4)) (l.length+4) c l n h3.1 h3.2 g
   exact⟨_,_,_,_,_,_,aP tA rfl x1 x2,rfl,Wk.refl rfl,trivial⟩
  ·rw[if_neg h3]
   have hr:=agJ LR2 (l.length+2) [⟨.live,[cE c]⟩] l 103 [.ptr 0 0] (pt c.length) (by omega) (by omega) (fun z _ dr=>mo Q8 (WT LR2 (l.length+1) c _ z rfl) rfl dr)
   have hc:=mo (L:=LR2) RA hr rfl false
   obtain⟨st,x1,x2⟩:=ajo LR2 (runK (CC LR2) (l.length+4)) (l.length+4) c l n h3 _ g hc
   exact⟨_,_,_,_,_,_,aP tA rfl x1 x2,rfl,Wk.refl rfl,trivial⟩
theorem Jj {L:Lst}(hL:bu L 50=fun a=>uv (aJ a))(run:ar)(c:List (List ByteArray))(l:List Int)(n:Int)(hF:Fit c)(h9:l.length≤1000):au L run 50 [cE c,aE l,.sc (.int .i64 n)] (iv (gw c l n)) :=
 fH YW (e:=eCL) (f:=fun p=>[iv (gw p.1 p.2.1 p.2.2)]) hL (fun x y _ _ h=>by rw[BZ h]) run (c,l,n) ⟨hF,h9⟩ (fun _=>rfl) (by simp only[eCL,aJ,fV,ja];rfl)
end Go.Proofs.YtjdmodeenbdfpaaGreat
end
