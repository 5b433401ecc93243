/- Contracts of fractions, clouds and predicates, part 39 of the proof; each lemma states its own conditions. -/
import Derived.Test.YtjdmodeenbdfpaaGreatR38
set_option linter.unusedSimpArgs false
set_option linter.unusedVariables false
namespace Go.Proofs.YtjdmodeenbdfpaaGreat
open Go Go.Ab
theorem al1 (hp:List Blk)(z:List PV):aV (aO hp z) hp.length=some ⟨.live,z⟩:=by rw[bN,if_pos rfl]
theorem al2 (hp:List Blk)(z:List PV)(b:Blk):aV (bO (aO hp z) hp.length b) hp.length=some b:=by rw[cQ (al1 hp z),if_pos rfl]
theorem al3 (hp:List Blk)(z:List PV)(b:Blk)(i:Nat)(h:i<hp.length):aV (bO (aO hp z) hp.length b) i=aV hp i:=by
 rw[cQ (al1 hp z),if_neg (by omega),bN,if_neg (by omega)]
theorem al4 (hp:List Blk)(z:List PV)(b:Blk):(bO (aO hp z) hp.length b).length=hp.length+1:=by rw[bF];simp[aO]
theorem ee (z cs:List PV)(h:z.length=cs.length):cj z 0 cs=some cs:=by
 have:=vM z cs [] h
 simpa using this
theorem ed (cs:List PV)(h:cs.length=4):bG cs 4=some cs:=by have:=aao cs [] h;simpa using this
theorem NA:base.F.get 60=some Tryz.f60:=by kernel_rfl
theorem VO:base.shared 60=false:=by kernel_rfl
noncomputable def psC:Code:=Tryz.f60.body.getD .skip
noncomputable def psB:Code:=(az psC).getD .skip
def Hw (fr:List PV)(X Y:List Rat)(i:Nat):Prop:=fr.length=29∧nth fr 1=vR Y∧nth fr 5 = .own 0 4 0 X.length true∧nth fr 11=vR X∧nth fr 12=iv X.length∧nth fr 13=iv i
theorem abx (L:Lst)(run:ar)(k:Nat)(fr:List PV)(hp:List Blk)(wr:List Nat)(X Y:List Rat)(h:Hw fr X Y X.length) :
  ∃ fr',af (CC L) run k psB ⟨fr,hp,wr⟩=some (.exit 0,⟨fr',hp,wr⟩)∧fr'.length=29∧nth fr' 5 = .own 0 4 0 X.length true:=by
 obtain⟨h0,h1,h5,h11,h12,h13⟩:=h
 simp only[iv] at h12 h13
 simp[psB,psC,Tryz.f60,az,af,aJ,ao,aq,aH,ag,ai,aj,an,aF,aC,FP.none,bd,au,bj,aa,ae,ab,h0,h5,h12,h13]
theorem W3 (L:Lst)(run:ar)(k:Nat)(fr:List PV)(hp:List Blk)(wr:List Nat)(X Y:List Rat)(i m:Nat)(A:List PV)(hi:i<X.length)(hy:i<Y.length)(h9':X.length≤1000)(hA:A.length=i*4)(g:aA L run 55 [rv (some X[i]),rv (some Y[i])] (rv (some (X[i] - Y[i]))))(h:Hw fr X Y i)(hb:aV hp 0=some ⟨.live,A++rep (m+1) rz⟩)(hn:0<hp.length) :
  ∃ fr' hp' wr',af (CC L) run k psB ⟨fr,hp,wr⟩=some (.normal,⟨fr',hp',wr'⟩)∧Hw fr' X Y (i+1)∧aV hp' 0=some ⟨.live,(A++rcs (X[i] - Y[i]))++rep m rz⟩∧0<hp'.length:=by
 obtain⟨h0,h1,h5,h11,h12,h13⟩:=h
 obtain⟨r,x1,x2⟩:=m9 false X i hi
 obtain⟨r',y1,y2⟩:=m9 false Y i hy
 have x3:=rG 0 X.length i true hi
 have ho:=ru A m (rcs (X[i] - Y[i])) (cG.len _) i hA
 have hw:=bE i (by omega)
 have hx:=al1 hp rz
 have hx1:=ee rz (rcs X[i]) (by rw[cG.len];rfl)
 have hx2:=al2 hp rz ⟨.live,rcs X[i]⟩
 have hx3:=(al3 hp rz ⟨.live,rcs X[i]⟩ 0 hn).trans hb
 have hx4:=ed (rcs X[i]) (cG.len _)
 have hx5:aV (bO (bO (aO hp rz) hp.length ⟨.live,rcs X[i]⟩) 0 ⟨.live,(A++rcs (X[i] - Y[i]))++rep m rz⟩) 0=some ⟨.live,(A++rcs (X[i] - Y[i]))++rep m rz⟩:=by rw[cQ hx3,if_pos rfl]
 have hx6:0<(bO (bO (aO hp rz) hp.length ⟨.live,rcs X[i]⟩) 0 ⟨.live,(A++rcs (X[i] - Y[i]))++rep m rz⟩).length:=by rw[bF,al4];omega
 have hokx:=cG.okc X[i]
 have hlx:=cG.len X[i]
 have hokd:=cG.okc (X[i] - Y[i])
 have hld:=cG.len (X[i] - Y[i])
 have hn0:hp.length≠0:=by omega
 have hn1:(0=hp.length)=False:=by simp;omega
 rw[js,js,js] at g
 unfold aA at g
 generalize rcs (X[i] - Y[i])=cd at *
 generalize rcs X[i]=cx at *
 generalize rcs Y[i]=cy at *
 generalize A++rep (m+1) rz=Z at *
 generalize A++cd++rep m rz=Z' at *
 simp only[iv] at h12 h13
 have hv1:eu false X=vR X:=rfl
 have hv2:eu false Y=vR Y:=rfl
 rw[hv1] at x1
 rw[hv2] at y1
 have zR':=zRz
 simp[Hw,iv,psB,psC,Tryz.f60,az,af,aJ,ao,aq,aH,ag,ai,aQ,aj,an,aF,aC,FP.none,bd,au,bj,aw,partOf,aa,ae,ab,bh,and_assoc,bn,h0,h1,h5,h11,h12,h13,hi,x1,x2,x3,y1,y2,g,ho,hx,hx1,hx2,hx3,hx4,hx5,hx6,hokx,hlx,hokd,hld,hn1,hw,aU,aR,sR,zR',br,number,FP.free,cF,FP.apart]
theorem Ix (L:Lst)(run:ar)(k:Nat)(X Y:List Rat)(h9:X.length≤1000)(hXY:X.length=Y.length)(g:∀ i (h1:i<X.length)(h2:i<Y.length),aA L run 55 [rv (some X[i]),rv (some Y[i])] (rv (some (X[i] - Y[i])))):∀ (n i:Nat) (fr:List PV) (hp:List Blk) (wr:List Nat),i+n=X.length→Hw fr X Y i→aV hp 0=some ⟨.live,((List.zipWith (· - ·) X Y).take i).flatMap rcs++rep n rz⟩→0<hp.length →
  ∃ fr' hp' wr',cl (af (CC L) run k psB) (n+1) ⟨fr,hp,wr⟩=some (.exit 0,⟨fr',hp',wr'⟩)∧fr'.length=29∧nth fr' 5 = .own 0 4 0 X.length true∧aV hp' 0=some ⟨.live,(List.zipWith (· - ·) X Y).flatMap rcs⟩
 | 0,i,fr,hp,wr,hin,h,hb,hn=>by
  have e:i=X.length:=by omega
  rw[e] at h
  obtain⟨fr',q1,q2,q3⟩:=abx L run k fr hp wr X Y h
  refine⟨fr',hp,wr,bD q1,q2,q3,?_⟩
  rw[hb,List.take_of_length_le (by rw[List.length_zipWith];omega)];simp[rep]
 | n+1,i,fr,hp,wr,hin,h,hb,hn=>by
  have hi:i<X.length:=by omega
  have hy:i<Y.length:=by omega
  have hz:i<(List.zipWith (· - ·) X Y).length:=by rw[List.length_zipWith];omega
  obtain⟨fr1,hp1,wr1,q1,q2,q3,q4⟩:=W3 L run k fr hp wr X Y i n _ hi hy h9 (by rw[iP,List.length_take,Nat.min_eq_left (by omega)]) (g i hi hy) h hb hn
  obtain⟨fr',hp',wr',s1,s2⟩:=Ix L run k X Y h9 hXY g n (i+1) fr1 hp1 wr1 (by omega) q2 (by
   rw[q3,List.take_succ_eq_append_getElem hz,List.flatMap_append];simp) q4
  exact⟨fr',hp',wr',by rw[ch q1];exact s1,s2⟩
noncomputable def W4:Code:=seq1 (seq1 (ah 2 psC))
theorem abv:ah 2 psC = .seq (.seq W4 (.block 0 (.loop psB))) (ah 3 psC):=rfl
theorem abw (L:Lst)(run:ar)(k:Nat)(X Y:List Rat)(h9:X.length≤1000) :
  ∃ fr fr' wr,aY (CC L) run k 2 psC ⟨entry 29 [vR X,vR Y],[],[]⟩=some ⟨fr,[⟨.live,rep X.length rz⟩],wr⟩∧af (CC L) run k W4 ⟨fr,[⟨.live,rep X.length rz⟩],wr⟩=some (.normal,⟨fr',[⟨.live,rep X.length rz⟩],wr⟩)∧Hw fr' X Y 0:=by
 obtain⟨e1,e2,e3⟩:=cC 27 (vR X) (vR Y)
 generalize entry 29 [vR X,vR Y]=fr0 at *
 have hm:X.length≤cY:=Nat.le_trans h9 (by decide)
 have hl:ef (vR X)=some X.length:=rfl
 obtain⟨fr,wr,a1,a2,a3,a4,a5⟩:∃ fr wr,aY (CC L) run k 2 psC ⟨fr0,[],[]⟩=some ⟨fr,[⟨.live,rep X.length rz⟩],wr⟩∧fr.length=29∧nth fr 0=vR X∧nth fr 5 = .own 0 4 0 X.length true∧nth fr 1=vR Y:=by
  have hrz:rz.length=4:=rfl
  simp[psC,Tryz.f60,aY,e1,e2,e3,af,aJ,ao,aq,aH,ag,ai,aj,an,aF,aC,FP.none,aw,bM,bm,aa,ae,ab,bh,and_assoc,Bd,hl,sR,bR,zRz,hm,hrz,cn,aO]
 refine⟨fr,?_⟩
 simp only[a1]
 simp[Hw,iv,W4,seq1,ah,psC,Tryz.f60,a2,a3,a4,a5,af,aJ,ao,aq,aH,ag,ai,aj,an,aF,aC,FP.none,aw,bM,aa,ae,ab,bh,Bd,hl]
theorem W2 (L:Lst)(run:ar)(k:Nat)(fr:List PV)(hp:List Blk)(wr:List Nat)(p:PV)(h0:fr.length=29)(h3:nth fr 5=p):∃ st,af (CC L) run k (ah 3 psC) ⟨fr,hp,wr⟩=some (.ret,st)∧st.hp=hp∧aZ TT st.fr st.hp Tryz.f60.results.toList=some [p]:=by
 simp[psC,ah,Tryz.f60,h0,h3,af,aJ,ao,aq,aH,ag,ai,aj,an,aF,aC,FP.none,aa,ab,aZ]
theorem Wx {k:Nat}{x y:Rat}(hx:Rb k x)(hy:Rb k y)(h9:k≤2000000)(h:rcs x=rcs y):x=y:=by
 have h1:rv (some x)=rv (some y):=by rw[js,js,h]
 have:=E5 (u:=some x) (v:=some y) hx hy h9 h1
 simpa using this
theorem Et {k:Nat}{X Y:List Rat}(hX:RbL k X)(hY:RbL k Y)(h9:k≤2000000)(h:vR X=vR Y):X=Y:=by
 unfold vR eu at h
 simp only[PV.imm.injEq,true_and] at h
 obtain⟨h1,h2⟩:=h
 clear h1
 induction X generalizing Y with
 | nil=>cases Y with
  | nil=>rfl
  | cons b Y =>
   have:=congrArg List.length h2
   rw[iP,iP] at this
   simp at this
 | cons a X ih=>cases Y with
  | nil =>
   have:=congrArg List.length h2
   rw[iP,iP] at this
   simp at this
  | cons b Y =>
   rw[List.flatMap_cons,List.flatMap_cons] at h2
   have h3:=List.append_inj h2 (by rw[cG.len,cG.len])
   rw[Wx (hX a List.mem_cons_self) (hY b List.mem_cons_self) h9 h3.1,ih (fun x hx=>hX x (List.mem_cons_of_mem _ hx)) (fun x hx=>hY x (List.mem_cons_of_mem _ hx)) h3.2]
abbrev VV:=List Rat × List Rat
def ij (X Y:List Rat):List Rat:=List.zipWith (· - ·) X Y
def abJ (p:VV):Prop:=RbL 100000 p.1∧RbL 100000 p.2∧p.1.length=p.2.length∧p.1.length≤1000
theorem ZE {p q:VV}(hp:abJ p)(hq:abJ q)(h:[vR p.1,vR p.2]=[vR q.1,vR q.2]):p=q:=by
 simp only[List.cons.injEq,and_true] at h
 exact Prod.ext (Et hp.1 hq.1 (by omega) h.1) (Et hp.2.1 hq.2.1 (by omega) h.2)
noncomputable def yy:List PV→Option (List PV):=ctr (fun p:VV=>[vR p.1,vR p.2]) abJ fun p=>[eu true (ij p.1 p.2)]
theorem yx:Ab.Spec base.P 60 yy:=Ab.Spec.bQ (C:=CC LR1) (cV wZ) fun args rs h=>by
 obtain⟨⟨X,Y⟩,⟨hX,hY,hl,h9⟩,rfl,rfl⟩:=dz h
 dsimp only at hX hY hl h9
 obtain⟨fr,fr1,wr,a1,a2,a3⟩:=abw LR1 (runK (CC LR1) (X.length+1)) (X.length+1) X Y h9
 obtain⟨fr2,hp2,wr2,b1,b2,b3,b4⟩:=Ix LR1 (runK (CC LR1) (X.length+1)) (X.length+1) X Y h9 hl (fun i h1 h2=>aef rfl _ (u:=some X[i]) (v:=some Y[i]) (hX _ (List.getElem_mem h1)) (hY _ (List.getElem_mem h2)) (by omega)) X.length 0 fr1 [⟨.live,rep X.length rz⟩] wr (by omega) a3 (by simp[aV]) (by simp)
 have hL:af (CC LR1) (runK (CC LR1) (X.length+1)) (X.length+1) (.seq W4 (.block 0 (.loop psB))) ⟨fr,[⟨.live,rep X.length rz⟩],wr⟩=some (.normal,⟨fr2,hp2,wr2⟩):=by
  rw[av a2];exact bH b1
 obtain⟨st,c1,c2,c3⟩:=W2 LR1 (runK (CC LR1) (X.length+1)) (X.length+1) fr2 hp2 wr2 _ b2 b3
 have hx:af (CC LR1) (runK (CC LR1) (X.length+1)) (X.length+1) psC ⟨entry 29 [vR X,vR Y],[],[]⟩=some (.ret,st):=by
  rw[aP 2 a1,abv,av hL,c1]
 have hlz:(ij X Y).length=X.length:=by unfold ij;rw[List.length_zipWith];omega
 have ho:=H5 hp2 0 true (ij X Y) b4
 rw[hlz] at ho
 exact⟨_,_,_,_,[eu true (ij X Y)],[0],aX NA rfl hx c3,by rw[c2];exact ho,Wk.refl rfl,trivial⟩
theorem He (x y:Bool)(X Y:List Rat):aK [eu x X,eu y Y]=[vR X,vR Y]:=by simp only[aK,zj]
theorem UY {L:Lst}(hL:bw L 60=fun a=>yy (aK a))(run:ar)(x y:Bool)(X Y:List Rat){j k:Nat}(hX:RbL j X)(hY:RbL k Y)(hj:j≤100000)(hk:k≤100000)(hl:X.length=Y.length)(h9:X.length≤1000):aA L run 60 [eu x X,eu y Y] (eu true (ij X Y)):=fun dr hp =>
 jW VO hL run dr hp _ [vR X,vR Y] [eu true (ij X Y)] rfl (He x y X Y) (rN (x:=(X,Y)) (fun p q hp hq h=>by rw[ZE hp hq h]) ⟨fun x hx=>(hX x hx).mono hj,fun x hx=>(hY x hx).mono hk,hl,h9⟩)
theorem NC:base.F.get 61=some Tryz.f61:=by kernel_rfl
noncomputable def pdC:Code:=Tryz.f61.body.getD .skip
noncomputable def pdB:Code:=(az pdC).getD .skip
def Tv (X Y:List Rat):Nat→Rat
 | 0=>0
 | i+1=>Tv X Y i+X.getD i 0*Y.getD i 0
def dot (X Y:List Rat):Rat:=Tv X Y X.length
theorem Jg {k:Nat}{X Y:List Rat}(hX:RbL k X)(hY:RbL k Y)(hl:X.length=Y.length):∀ i,i≤X.length→Rb (i*(2*k+1)+1) (Tv X Y i)
 | 0,_=>Rb.zero _
 | i+1,h=>by
  have h1:=Jg hX hY hl i (by omega)
  have hx:Rb k (X.getD i 0):=by
   rw[List.getD_eq_getElem?_getD,List.getElem?_eq_getElem (by omega)];exact hX _ (List.getElem_mem _)
  have hy:Rb k (Y.getD i 0):=by
   rw[List.getD_eq_getElem?_getD,List.getElem?_eq_getElem (by omega)];exact hY _ (List.getElem_mem _)
  have e:(i+1)*(2*k+1)=i*(2*k+1)+(2*k+1):=Nat.succ_mul i _
  exact (h1.add (hx.mul hy)).mono (by rw[e];omega)
def HT (fr:List PV)(X Y:List Rat)(i:Nat):Prop:=fr.length=25∧nth fr 1=vR Y∧nth fr 4 = .ptr 0 0∧nth fr 5 = .ptr 1 0∧nth fr 8=vR X∧nth fr 9=iv X.length∧nth fr 10=iv i
theorem abE (L:Lst)(run:ar)(k:Nat)(fr:List PV)(hp:List Blk)(wr:List Nat)(X Y:List Rat)(h:HT fr X Y X.length) :
  ∃ fr',af (CC L) run k pdB ⟨fr,hp,wr⟩=some (.exit 0,⟨fr',hp,wr⟩)∧fr'.length=25∧nth fr' 4 = .ptr 0 0∧nth fr' 5 = .ptr 1 0:=by
 obtain⟨h0,h1,h4,h5,h8,h9,h10⟩:=h
 simp only[iv] at h9 h10
 simp[pdB,pdC,Tryz.f61,az,af,aJ,ao,aq,aH,ag,ai,aj,an,aF,aC,FP.none,bd,au,bj,aa,ae,ab,h0,h4,h5,h9,h10]
noncomputable def aeJ:Code:=cA (blk (seq1 (cA (cA pdB))))
theorem afK:((Region.before (gJ aeJ))[8]?.getD 0).testBit 0=true:=by kernel_rfl
set_option maxHeartbeats 1000000 in
theorem W8 (L:Lst)(run:ar)(k:Nat)(fr:List PV)(hp:List Blk)(wr:List Nat)(X Y:List Rat)(i:Nat)(sc p1 p2:List PV)(z:Blk)(hi:i<X.length)(hy:i<Y.length)(h9':X.length≤1000)(hsl:sc.length=4)(hpl:p2.length=4)(hpo:bg p2=true)(g1:aA L run 56 [.agg (rcs X[i]),.agg (rcs Y[i])] (.agg p1))(g2:aA L run 87 [.agg sc,.agg p1] (.agg p2))(h:HT fr X Y i)(hz:aV hp 0=some z)(hb:aV hp 1=some ⟨.live,sc⟩)(hn:1<hp.length) :
  ∃ fr' hp' wr',af (CC L) run k pdB ⟨fr,hp,wr⟩=some (.normal,⟨fr',hp',wr'⟩)∧HT fr' X Y (i+1)∧aV hp' 0=some z∧aV hp' 1=some ⟨.live,p2⟩∧1<hp'.length:=by
 obtain⟨h0,h1,h4,h5,h8,h9,h10⟩:=h
 obtain⟨r,x1,x2⟩:=m9 false X i hi
 obtain⟨r',y1,y2⟩:=m9 false Y i hy
 have hw:=bE i (by omega)
 have hx:=al1 hp rz
 have hx1:=ee rz (rcs X[i]) (by rw[cG.len];rfl)
 have hx2:=al2 hp rz ⟨.live,rcs X[i]⟩
 have hx3:=(al3 hp rz ⟨.live,rcs X[i]⟩ 1 hn).trans hb
 have hx3':=(al3 hp rz ⟨.live,rcs X[i]⟩ 0 (by omega)).trans hz
 have hx4:=ed (rcs X[i]) (cG.len _)
 have hx4':=ed sc hsl
 have ho:=ee sc p2 (by rw[hsl,hpl])
 have hx5:aV (bO (bO (aO hp rz) hp.length ⟨.live,rcs X[i]⟩) 1 ⟨.live,p2⟩) 1=some ⟨.live,p2⟩:=by rw[cQ hx3,if_pos rfl]
 have hx5':aV (bO (bO (aO hp rz) hp.length ⟨.live,rcs X[i]⟩) 1 ⟨.live,p2⟩) 0=some z:=by rw[cQ hx3,if_neg (by omega),hx3']
 have hx6:1<(bO (bO (aO hp rz) hp.length ⟨.live,rcs X[i]⟩) 1 ⟨.live,p2⟩).length:=by rw[bF,al4];omega
 have hokx:=cG.okc X[i]
 have hlx:=cG.len X[i]
 have hn0:hp.length≠1:=by omega
 have hn1:(1=hp.length)=False:=by simp;omega
 unfold aA at g1 g2
 generalize rcs X[i]=cx at *
 generalize rcs Y[i]=cy at *
 simp only[iv] at h9 h10
 have hv1:eu false X=vR X:=rfl
 have hv2:eu false Y=vR Y:=rfl
 rw[hv1] at x1
 rw[hv2] at y1
 have zR':=zRz
 have hbit:=afK
 simp[-Nat.testBit_zero,aeJ,pdB,pdC,Tryz.f61,az,cA,seq1,blk,gJ] at hbit
 simp[-Nat.testBit_zero,hbit,HT,iv,pdB,pdC,Tryz.f61,az,af,aJ,ao,aq,aH,ag,ai,aQ,aj,an,aF,aC,FP.none,bd,au,bj,aw,partOf,aa,ae,ab,bh,and_assoc,bn,h0,h1,h4,h5,h8,h9,h10,hi,x1,x2,y1,y2,g1,g2,ho,hx,hx1,hx2,hx3,hx4,hx4',hx5,hx5',hx6,hokx,hlx,hpo,hpl,hn1,hw,aU,aR,sR,zR',br,number,FP.free,cF,FP.apart]
theorem Iz (L:Lst)(run:ar)(k:Nat)(X Y:List Rat)(z:Blk)(h9:X.length≤10)(hXY:X.length=Y.length){k0:Nat}(hk0:k0≤10000)(hX:RbL k0 X)(hY:RbL k0 Y)(gm:bw L 56=fun a=>j8 (aK a))(ga:bw L 87=fun a=>iG (aK a)):∀ (n i:Nat) (fr:List PV) (hp:List Blk) (wr:List Nat) (sc:List PV) (u:Option Rat),i+n=X.length→HT fr X Y i→aV hp 0=some z→aV hp 1=some ⟨.live,sc⟩→1<hp.length→Rc sc u→vv u=Tv X Y i→(i≠0→u≠none) →
  ∃ fr' hp' wr' sc' u',cl (af (CC L) run k pdB) (n+1) ⟨fr,hp,wr⟩=some (.exit 0,⟨fr',hp',wr'⟩)∧fr'.length=25∧nth fr' 4 = .ptr 0 0∧nth fr' 5 = .ptr 1 0∧aV hp' 0=some z∧aV hp' 1=some ⟨.live,sc'⟩∧1<hp'.length∧Rc sc' u'∧vv u'=dot X Y∧(X.length≠0→u'≠none)
 | 0,i,fr,hp,wr,sc,u,hin,h,hz,hb,hn,hc,hu,hu2=>by
  have e:i=X.length:=by omega
  subst e
  obtain⟨fr',q1,q2,q3,q4⟩:=abE L run k fr hp wr X Y h
  exact⟨fr',hp,wr,sc,u,bD q1,q2,q3,q4,hz,hb,hn,hc,hu,hu2⟩
 | n+1,i,fr,hp,wr,sc,u,hin,h,hz,hb,hn,hc,hu,hu2=>by
  have hi:i<X.length:=by omega
  have hy:i<Y.length:=by omega
  have hbx:=hX _ (List.getElem_mem hi)
  have hby:=hY _ (List.getElem_mem hy)
  have hbs:=Jg hX hY hXY i (by omega)
  have hi9:i*(2*k0+1)≤10*20001:=Nat.mul_le_mul (by omega) (by omega)
  have g1:=Hz gm run (p:=.agg (rcs X[i])) (q:=.agg (rcs Y[i])) (u:=some X[i]) (v:=some Y[i]) (.inl rfl) (.inl rfl) hbx hby (by omega)
  have g2:=UR ga run (p:=.agg sc) (q:=rv (some (X[i]*Y[i]))) (u:=u) (v:=some (X[i]*Y[i])) hc.p (.inl rfl) (by rw[hu];exact hbs) (hbx.mul hby) (by omega)
  obtain⟨fr1,hp1,wr1,q1,q2,q3,q4,q5⟩:=W8 L run k fr hp wr X Y i sc _ (rcs (vv u+X[i]*Y[i])) z hi hy (by omega) hc.len (cG.len _) (cG.okc _) g1 g2 h hz hb hn
  obtain⟨fr',hp',wr',sc',u',s1,s2⟩:=Iz L run k X Y z h9 hXY hk0 hX hY gm ga n (i+1) fr1 hp1 wr1 (rcs (vv u+X[i]*Y[i])) (some (vv u+X[i]*Y[i])) (by omega) q2 q3 q4 q5 (.inl rfl) (by
   show vv u+X[i]*Y[i]=Tv X Y i+X.getD i 0*Y.getD i 0
   rw[hu,List.getD_eq_getElem?_getD,List.getD_eq_getElem?_getD,List.getElem?_eq_getElem hi,List.getElem?_eq_getElem hy]
   rfl) (fun _=>nofun)
  exact⟨fr',hp',wr',sc',u',by rw[ch q1];exact s1,s2⟩
noncomputable def W9:Code:=seq1 (seq1 (ah 2 pdC))
theorem abC:ah 2 pdC = .seq (.seq W9 (.block 0 (.loop pdB))) (ah 3 pdC):=rfl
theorem abD (L:Lst)(run:ar)(k:Nat)(X Y:List Rat) :
  ∃ fr fr' wr,aY (CC L) run k 2 pdC ⟨entry 25 [vR X,vR Y],[],[]⟩=some ⟨fr,[⟨.live,rz⟩,⟨.live,rz⟩],wr⟩∧af (CC L) run k W9 ⟨fr,[⟨.live,rz⟩,⟨.live,rz⟩],wr⟩=some (.normal,⟨fr',[⟨.live,rz⟩,⟨.live,rz⟩],wr⟩)∧HT fr' X Y 0:=by
 obtain⟨e1,e2,e3⟩:=cC 23 (vR X) (vR Y)
 generalize entry 25 [vR X,vR Y]=fr0 at *
 have hl:ef (vR X)=some X.length:=rfl
 obtain⟨fr,wr,a1,a2,a3,a4,a5,a6⟩:∃ fr wr,aY (CC L) run k 2 pdC ⟨fr0,[],[]⟩=some ⟨fr,[⟨.live,rz⟩,⟨.live,rz⟩],wr⟩∧fr.length=25∧nth fr 0=vR X∧nth fr 1=vR Y∧nth fr 4 = .ptr 0 0∧nth fr 5 = .ptr 1 0:=by
  simp[pdC,Tryz.f61,aY,e1,e2,e3,af,aJ,ao,aq,aH,ag,ai,aj,aF,aC,aa,ae,ab,bh,and_assoc,zRz,aO]
 refine⟨fr,?_⟩
 simp only[a1]
 simp[HT,iv,W9,seq1,ah,pdC,Tryz.f61,a2,a3,a4,a5,a6,af,aJ,ao,aq,aH,ag,ai,aj,an,aF,aC,FP.none,aw,bM,aa,ae,ab,bh,Bd,hl]
theorem W7 (L:Lst)(run:ar)(k:Nat)(fr:List PV)(hp:List Blk)(wr:List Nat)(z sc:List PV)(hsl:sc.length=4)(hso:bg sc=true)(hzl:z.length=4)(h0:fr.length=25)(h4:nth fr 4 = .ptr 0 0)(h5:nth fr 5 = .ptr 1 0)(hz:aV hp 0=some ⟨.live,z⟩)(hb:aV hp 1=some ⟨.live,sc⟩)(hn:1<hp.length) :
  ∃ st,af (CC L) run k (ah 3 pdC) ⟨fr,hp,wr⟩=some (.ret,st)∧aZ TT st.fr st.hp Tryz.f61.results.toList=some [.agg sc]:=by
 have ho:=ee z sc (by omega)
 have ht:=ed sc hsl
 have h6:aV (bO hp 0 ⟨.live,sc⟩) 0=some ⟨.live,sc⟩:=by rw[cQ hz,if_pos rfl]
 simp[pdC,ah,Tryz.f61,h0,h4,h5,af,aJ,ao,aq,aH,ag,ai,aj,an,aF,aC,partOf,aa,ae,bh,bn,hz,hb,ho,ht,hso,hsl,h6,aR,sR,aU,br,aZ]
noncomputable def aav:List PV→Option (List PV):=ctr (fun p:VV=>[vR p.1,vR p.2]) (fun p=>RbL 10000 p.1∧RbL 10000 p.2∧p.1.length=p.2.length∧p.1.length≤10∧p.1.length≠0) fun p=>[rv (some (dot p.1 p.2))]
theorem Rc.okc {cs:List PV}{u:Option Rat}(h:Rc cs u):bg cs=true:=by
 rcases h with rfl | ⟨rfl,rfl⟩
 ·exact qc.okc u
 ·rfl
theorem LP:Ab.Spec base.P 61 aav:=Ab.Spec.bQ (C:=CC LR1) (cV wZ) fun args rs h=>by
 obtain⟨⟨X,Y⟩,⟨hX,hY,hl,h9,hne⟩,rfl,rfl⟩:=dz h
 dsimp only at hX hY hl h9 hne
 obtain⟨fr,fr1,wr,a1,a2,a3⟩:=abD LR1 (runK (CC LR1) (X.length+1)) (X.length+1) X Y
 obtain⟨fr2,hp2,wr2,sc,u,b1,b2,b3,b4,b5,b6,b7,b8,b9,b10⟩:=Iz LR1 (runK (CC LR1) (X.length+1)) (X.length+1) X Y ⟨.live,rz⟩ h9 hl (Nat.le_refl 10000) hX hY rfl rfl X.length 0 fr1 [⟨.live,rz⟩,⟨.live,rz⟩] wr rz none (by omega) a3 (by simp[aV]) (by simp[aV]) (by simp) (.inr ⟨rfl,rfl⟩) rfl (fun h=>absurd rfl h)
 have hL:af (CC LR1) (runK (CC LR1) (X.length+1)) (X.length+1) (.seq W9 (.block 0 (.loop pdB))) ⟨fr,[⟨.live,rz⟩,⟨.live,rz⟩],wr⟩=some (.normal,⟨fr2,hp2,wr2⟩):=by
  rw[av a2];exact bH b1
 obtain⟨st,c1,c3⟩:=W7 LR1 (runK (CC LR1) (X.length+1)) (X.length+1) fr2 hp2 wr2 rz sc b8.len b8.okc rfl b2 b3 b4 b5 b6 b7
 have hx:af (CC LR1) (runK (CC LR1) (X.length+1)) (X.length+1) pdC ⟨entry 25 [vR X,vR Y],[],[]⟩=some (.ret,st):=by
  rw[aP 2 a1,abC,av hL,c1]
 have hu:u=some (dot X Y):=by
  cases u with
  | none=>exact absurd rfl (b10 hne)
  | some y=>exact congrArg some b9
 subst hu
 exact⟨_,_,_,_,[.agg sc],[],aX NC rfl hx c3,b8.p.Ig _,b8.p.wk,trivial⟩
def ei (z:Int):List PV:=[.sc (.int .i64 z)]
theorem adt:Ec 1 ei where
 len:=fun _=>rfl
 okc:=fun _=>rfl
 can:=fun _=>rfl
 idf:=fun _=>rfl
 sn:=fun _ _ _=>rfl
def aE (at':List Int):PV:=gU ei at'
theorem ox:und TT 24=some (.slice 3):=by kernel_rfl
theorem GK (l:List Int):ef (aE l)=some l.length:=rfl
theorem wQ (l:List Int):canon (aE l)=aE l:=adt.Hf l
theorem IY (l:List Int)(i:Nat)(hi:i<l.length):∃ r,bc TT 24 (aE l) (.sc (.int .i64 (i:Int)))=some (.iptr r)∧r.head?=some (.sc (.int .i64 l[i])):=by
 have h:=oc adt.toEl l i hi
 refine⟨br (l.flatMap ei) (i*1),?_,by rw[h];rfl⟩
 unfold aE gU
 simp only[bc,ox,bm,sI,hi,if_true]
theorem Hu:∀ {p q:List Int},aE p=aE q→p=q:=by
 intro p q h
 unfold aE gU at h
 simp only[PV.imm.injEq,true_and] at h
 have:∀ (p q:List Int),p.flatMap ei=q.flatMap ei→p=q:=by
  intro p
  induction p with
  | nil=>intro q h;cases q with
   | nil=>rfl
   | cons a q=>simp[ei] at h
  | cons a p ih=>intro q h;cases q with
   | nil=>simp[ei] at h
   | cons b q =>
    simp only[List.flatMap_cons,ei,List.cons_append,List.nil_append,List.cons.injEq,PV.sc.injEq,Value.int.injEq,true_and] at h
    rw[h.1,ih q h.2]
 exact this p q h.2
theorem xO:∀ hp:List Blk,sb hp.length hp=hp
 | []=>rfl
 | a::l=>by rw[List.length_cons,sb,xO l]
theorem lH {L:Lst}{run:ar}{g:Nat}{args:List PV}{r:PV}{hp:List Blk}(hs:base.shared g=true)(hr:run g args hp=some ([r],hp,[]))(hi:r.cO=true)(dr:Bool):cg (CC L) run dr hp g args=some (r,hp,⟨[],[],true,true⟩):=by
 have hs':(CC L).shared g=true:=hs
 unfold cg
 rw[if_pos hs',hr]
 simp only[cq,hi,kZ,ig,Bool.and_self,cond_true,iO,xO]
theorem HM:base.F.get 103=some Tryz.f103:=by kernel_rfl
theorem OA:base.shared 103=true:=by kernel_rfl
theorem xh:base.F.get 148=some Tryz.f148:=by kernel_rfl
theorem OJ:base.shared 148=true:=by kernel_rfl
theorem HQ:base.F.get 102=some Tryz.f102:=by kernel_rfl
theorem OM:base.shared 102=true:=by kernel_rfl
theorem rV:base.F.get 50=some Tryz.f50:=by kernel_rfl
theorem VR:base.shared 50=false:=by kernel_rfl
theorem aez (L:Lst)(g:Nat):(CC L).sorc g=none:=rfl
theorem jb {L:Lst}{k:Nat}{g:FuncId}{args:List PV}{hp:List Blk}{fn:Func}{c:Code}{st:St}{rs:List PV}(hF:base.F.get g=some fn)(hb:fn.body=some c)(hx:af (CC L) (runK (CC L) k) k c ⟨entry fn.ntmps args,hp,[]⟩=some (.ret,st))(hr:aZ TT st.fr st.hp fn.results.toList=some rs):runK (CC L) (k+1) g args hp=some (rs,st.hp,st.wr):=by
 have h1:(CC L).F g=some fn:=hF
 simp only[runK,aez,th,h1,hb,hx]
 rw[bh,hr]
def rS (m:Nat)(z:Int):Bool:=decide (z<0) || decide ((m:Int)≤z)
theorem M6 (L:Lst)(run:ar)(k:Nat)(c:List (List ByteArray))(hp:List Blk)(z:Int)(hb:aV hp 0=some ⟨.live,[cE c]⟩) :
  ∃ st,af (CC L) run k (Tryz.f103.body.getD .skip) ⟨entry 12 [.sc (.int .i64 z),.ptr 0 0],hp,[]⟩=some (.ret,st)∧st.hp=hp∧st.wr=[]∧aZ TT st.fr st.hp Tryz.f103.results.toList=some [.sc (.bool (rS c.length z))]:=by
 obtain⟨e1,e2,e3⟩:=cC 10 (.sc (.int .i64 z)) (.ptr 0 0)
 generalize entry 12 [.sc (.int .i64 z),.ptr 0 0]=fr0 at *
 have hl:=iz c
 unfold rS
 by_cases h:z<0
 ·simp[Tryz.f103,e1,e2,af,aJ,ao,aq,aH,ag,ai,aj,an,aF,aC,FP.none,bd,au,bj,aw,aa,ae,ab,h,aZ,undef]
 ·by_cases h2:(c.length:Int)≤z
  ·simp[Tryz.f103,e1,e2,e3,af,aJ,ao,aq,aH,ag,ai,aj,an,aF,aC,FP.none,bd,au,bj,aw,bM,partOf,aa,ae,ab,bh,h,h2,hb,hl,uCl,aCl,sCl,aU,br,aZ]
  ·simp[Tryz.f103,e1,e2,e3,af,aJ,ao,aq,aH,ag,ai,aj,an,aF,aC,FP.none,bd,au,bj,aw,bM,partOf,aa,ae,ab,bh,h,h2,hb,hl,uCl,aCl,sCl,aU,br,aZ]
theorem Uj (L:Lst)(k:Nat)(c:List (List ByteArray))(hp:List Blk)(z:Int)(hb:aV hp 0=some ⟨.live,[cE c]⟩):runK (CC L) (k+1) 103 [.sc (.int .i64 z),.ptr 0 0] hp=some ([.sc (.bool (rS c.length z))],hp,[]):=by
 obtain⟨st,x1,x2,x3,x4⟩:=M6 L (runK (CC L) k) k c hp z hb
 have:=jb HM rfl x1 x4
 rw[x2,x3] at this
 exact this
noncomputable def ifC:Code:=Tryz.f148.body.getD .skip
noncomputable def ifB:Code:=(az ifC).getD .skip
def IfF (fr:List PV)(l:List Int)(f:PV)(i:Nat):Prop:=fr.length=19∧nth fr 0=aE l∧nth fr 1=f∧nth fr 7=iv l.length∧nth fr 8=iv i
theorem ac5 (L:Lst)(run:ar)(k:Nat)(fr:List PV)(hp:List Blk)(l:List Int)(f:PV)(h:IfF fr l f l.length) :
  ∃ fr',af (CC L) run k ifB ⟨fr,hp,[]⟩=some (.exit 0,⟨fr',hp,[]⟩)∧fr'.length=19:=by
 obtain⟨h0,h1,h2,h7,h8⟩:=h
 simp only[iv] at h7 h8
 simp[ifB,ifC,Tryz.f148,az,af,aJ,ao,aq,aH,ag,ai,aj,an,aF,aC,FP.none,bd,au,bj,aa,ab,h0,h7,h8]
theorem SO (L:Lst)(run:ar)(k:Nat)(fr:List PV)(hp:List Blk)(l:List Int)(g:Nat)(caps:List PV)(i:Nat)(v:Bool)(hi:i<l.length)(h9:l.length<1000000)(hc:∀ dr,cg (CC L) run dr hp g ([.sc (.int .i64 l[i])]++caps)=some (.sc (.bool v),hp,⟨[],[],true,true⟩))(h:IfF fr l (.clos g caps) i) :
  ∃ fr',af (CC L) run k ifB ⟨fr,hp,[]⟩=some (bif v then .ret else .normal,⟨fr',hp,[]⟩)∧(v=true→nth fr' 4=iv i)∧(v=false→IfF fr' l (.clos g caps) (i+1)):=by
 obtain⟨h0,h1,h2,h7,h8⟩:=h
 obtain⟨r,x1,x2⟩:=IY l i hi
 have hw:=bE i (by omega)
 generalize l[i]=z at *
 simp only[iv] at h7 h8
 simp only[List.cons_append,List.nil_append] at hc
 cases v <;> simp[IfF,iv,ifB,ifC,Tryz.f148,az,af,aJ,ao,aq,aH,ag,ai,aQ,aj,an,aF,aC,FP.none,bd,au,bj,aw,partOf,aa,ae,ab,bh,h0,h1,h2,h7,h8,hi,x1,x2,hc,hw,aI,sI,aU]
theorem I0 (L:Lst)(run:ar)(k:Nat)(hp:List Blk)(l:List Int)(g:Nat)(caps:List PV)(b:Int→Bool)(h9:l.length<1000000)(hc:∀ z ∈ l,∀ dr,cg (CC L) run dr hp g ([.sc (.int .i64 z)]++caps)=some (.sc (.bool (b z)),hp,⟨[],[],true,true⟩)):∀ (n i:Nat) (fr:List PV),i+n=l.length→IfF fr l (.clos g caps) i →
  (∃ fr',(l.drop i).any b=false∧cl (af (CC L) run k ifB) (n+1) ⟨fr,hp,[]⟩=some (.exit 0,⟨fr',hp,[]⟩)∧fr'.length=19)∨∃ fr' j,(l.drop i).any b=true∧cl (af (CC L) run k ifB) (n+1) ⟨fr,hp,[]⟩=some (.ret,⟨fr',hp,[]⟩)∧nth fr' 4=iv j
 | 0,i,fr,hin,h=>by
  have e:i=l.length:=by omega
  subst e
  obtain⟨fr',q1,q2⟩:=ac5 L run k fr hp l _ h
  rw[List.drop_length]
  exact .inl ⟨fr',rfl,bD q1,q2⟩
 | n+1,i,fr,hin,h=>by
  have hi:i<l.length:=by omega
  obtain⟨fr1,q1,q2,q3⟩:=SO L run k fr hp l g caps i _ hi h9 (hc _ (List.getElem_mem hi)) h
  rw[List.drop_eq_getElem_cons hi,List.any_cons]
  cases hv:b l[i] with
  | true =>
   rw[hv] at q1 q2
   exact .inr ⟨fr1,i,rfl,eF q1,q2 rfl⟩
  | false =>
   rw[hv] at q1 q3
   rw[Bool.false_or,ch q1]
   exact I0 L run k hp l g caps b h9 hc n (i+1) fr1 (by omega) (q3 rfl)
noncomputable def SP:Code:=seq1 (seq1 (ah 1 ifC))
theorem SN:ah 1 ifC = .seq (.seq SP (.block 0 (.loop ifB))) (ah 2 ifC):=rfl
theorem ac4 (L:Lst)(run:ar)(k:Nat)(l:List Int)(f:PV)(hp:List Blk):∃ fr fr',aY (CC L) run k 1 ifC ⟨entry 19 [aE l,f],hp,[]⟩=some ⟨fr,hp,[]⟩∧af (CC L) run k SP ⟨fr,hp,[]⟩=some (.normal,⟨fr',hp,[]⟩)∧IfF fr' l f 0:=by
 obtain⟨e1,e2,e3⟩:=cC 17 (aE l) f
 generalize entry 19 [aE l,f]=fr0 at *
 have hl:=GK l
 obtain⟨fr,a1,a2,a3,a4⟩:∃ fr,aY (CC L) run k 1 ifC ⟨fr0,hp,[]⟩=some ⟨fr,hp,[]⟩∧fr.length=19∧nth fr 0=aE l∧nth fr 1=f:=by
  simp[ifC,Tryz.f148,aY,e1,e2,e3,af,aJ,ao,aq,aH,ag,ai,aj,an,aF,aC,FP.none,aw,ae,ab]
 refine⟨fr,?_⟩
 rw[a1]
 simp[IfF,iv,SP,seq1,ah,ifC,Tryz.f148,a2,a3,a4,af,aJ,ao,aq,aH,ag,ai,aj,an,aF,aC,FP.none,aw,bM,aa,ae,ab,bh,hl,ox]
theorem Y6 (L:Lst)(run:ar)(k:Nat)(fr:List PV)(hp:List Blk)(h0:fr.length=19):∃ st,af (CC L) run k (ah 2 ifC) ⟨fr,hp,[]⟩=some (.ret,st)∧st.hp=hp∧st.wr=[]∧aZ TT st.fr st.hp Tryz.f148.results.toList=some [.sc (.int .i64 (-1))]:=by
 simp[ifC,ah,Tryz.f148,h0,af,aJ,ao,aq,aH,ag,ai,aj,an,aF,aC,FP.none,aw,aa,aZ]
theorem ac3 (fr:List PV)(hp:List Blk)(n:Nat)(h:nth fr 4=iv n):aZ TT fr hp Tryz.f148.results.toList=some [iv n]:=by
 simp[Tryz.f148,aZ,h]
theorem ac2 (L:Lst)(k:Nat)(hp:List Blk)(l:List Int)(g:Nat)(caps:List PV)(b:Int→Bool)(hk:l.length<k)(h9:l.length<1000000)(hc:∀ z ∈ l,∀ dr,cg (CC L) (runK (CC L) k) dr hp g ([.sc (.int .i64 z)]++caps)=some (.sc (.bool (b z)),hp,⟨[],[],true,true⟩)) :
  ∃ r:Int,runK (CC L) (k+1) 148 [aE l,.clos g caps] hp=some ([.sc (.int .i64 r)],hp,[])∧decide (0≤r)=l.any b:=by
 obtain⟨fr,fr1,a1,a2,a3⟩:=ac4 L (runK (CC L) k) k l (.clos g caps) hp
 have hl:=I0 L (runK (CC L) k) k hp l g caps b h9 hc l.length 0 fr1 (by omega) a3
 rw[List.drop_zero] at hl
 rcases hl with ⟨fr2,h0,b1,b2⟩| ⟨fr2,j,h0,b1,b2⟩
 ·have:af (CC L) (runK (CC L) k) k (.seq SP (.block 0 (.loop ifB))) ⟨fr,hp,[]⟩=some (.normal,⟨fr2,hp,[]⟩):=by
   rw[av a2];exact bH (ca b1 (by omega))
  obtain⟨st,c1,c2,c3,c4⟩:=Y6 L (runK (CC L) k) k fr2 hp b2
  have hx:af (CC L) (runK (CC L) k) k ifC ⟨entry 19 [aE l,.clos g caps],hp,[]⟩=some (.ret,st):=by
   rw[aP 1 a1,SN,av this,c1]
  have:=jb xh rfl hx c4
  rw[c2,c3] at this
  exact⟨-1,this,by rw[h0];rfl⟩
 ·have:af (CC L) (runK (CC L) k) k (.seq SP (.block 0 (.loop ifB))) ⟨fr,hp,[]⟩=some (.ret,⟨fr2,hp,[]⟩):=by
   rw[av a2];exact da (ca b1 (by omega))
  have hx:af (CC L) (runK (CC L) k) k ifC ⟨entry 19 [aE l,.clos g caps],hp,[]⟩=some (.ret,⟨fr2,hp,[]⟩):=by
   rw[aP 1 a1,SN,cB this]
  have:=jb xh rfl hx (ac3 fr2 hp j b2)
  exact⟨j,this,by rw[h0];simp⟩
theorem adK (L:Lst)(k:Nat)(hp:List Blk)(l:List Int)(g:Nat)(caps:List PV)(b:Int→Bool)(hk:l.length<k)(h9:l.length<1000000)(hc:∀ z ∈ l,∀ dr,cg (CC L) (runK (CC L) k) dr hp g ([.sc (.int .i64 z)]++caps)=some (.sc (.bool (b z)),hp,⟨[],[],true,true⟩)) :
  runK (CC L) (k+2) 102 [aE l,.clos g caps] hp=some ([.sc (.bool (l.any b))],hp,[]):=by
 obtain⟨r,h1,h2⟩:=ac2 L k hp l g caps b hk h9 hc
 have hcall:=lH (L:=L) OJ h1 rfl
 obtain⟨e1,e2,e3⟩:=cC 7 (aE l) (.clos g caps)
 rw[← h2]
 have hx:∃ st,af (CC L) (runK (CC L) (k+1)) (k+1) (Tryz.f102.body.getD .skip) ⟨entry 9 [aE l,.clos g caps],hp,[]⟩=some (.ret,st)∧st.hp=hp∧st.wr=[]∧aZ TT st.fr st.hp Tryz.f102.results.toList=some [.sc (.bool (decide (0≤r)))]:=by
  generalize entry 9 [aE l,.clos g caps]=fr0 at *
  simp[Tryz.f102,e1,e2,e3,af,aJ,ao,aq,aH,ag,ai,aQ,aj,an,aF,aC,FP.none,bd,au,bj,aw,aa,ae,ab,hcall,aZ]
 obtain⟨st,x1,x2,x3,x4⟩:=hx
 have:=jb HQ rfl x1 x4
 rw[x2,x3] at this
 exact this
noncomputable def kH (c:List (List ByteArray))(l:List Int)(n:Int):Nat:=if chk c≠0 then chk c else if 0≤n∧(l.length:Int)≠n then 10 else bif l.any (rS c.length) then 4 else 0
noncomputable def LR2:Lst:=(80,Hc)::LR1
theorem UP:dL base.P LR2:=⟨Uh,wZ⟩
theorem GY (n:Nat)(p q r:PV):(entry (n+3) [p,q,r]).length=n+3∧nth (entry (n+3) [p,q,r]) 0=p∧nth (entry (n+3) [p,q,r]) 1=q∧nth (entry (n+3) [p,q,r]) 2=r:=⟨gx _ _ (by simp),rfl,rfl,rfl⟩
theorem afN (L:Lst)(run:ar)(k:Nat)(c:List (List ByteArray))(l:List Int)(n:Int)(e:Nat)(he:e≠0)(g:aA L run 80 [cE c] (iv e)) :
  ∃ st,af (CC L) run k (Tryz.f50.body.getD .skip) ⟨entry 24 [cE c,aE l,.sc (.int .i64 n)],[],[]⟩=some (.ret,st)∧aZ TT st.fr st.hp Tryz.f50.results.toList=some [iv e]:=by
 obtain⟨e1,e2,e3,e4⟩:=GY 21 (cE c) (aE l) (.sc (.int .i64 n))
 generalize entry 24 [cE c,aE l,.sc (.int .i64 n)]=fr0 at *
 unfold aA at g
 have hb:((e:Int) != 0)=true:=by simp;omega
 simp only[iv] at g ⊢
 simp[Tryz.f50,e1,e2,af,aJ,ao,aq,aH,ag,ai,aQ,aj,an,aF,aC,FP.none,bd,au,bj,aw,partOf,aa,ae,ab,bh,qw,g,hb,aCl,sCl,aO,aV,aU,br,aZ]
theorem afM (L:Lst)(run:ar)(k:Nat)(c:List (List ByteArray))(l:List Int)(n:Int)(hn:0≤n)(hl:(l.length:Int)≠n)(g:aA L run 80 [cE c] (iv 0)) :
  ∃ st,af (CC L) run k (Tryz.f50.body.getD .skip) ⟨entry 24 [cE c,aE l,.sc (.int .i64 n)],[],[]⟩=some (.ret,st)∧aZ TT st.fr st.hp Tryz.f50.results.toList=some [iv 10]:=by
 obtain⟨e1,e2,e3,e4⟩:=GY 21 (cE c) (aE l) (.sc (.int .i64 n))
 generalize entry 24 [cE c,aE l,.sc (.int .i64 n)]=fr0 at *
 unfold aA at g
 have hl1:=GK l
 have hb:((l.length:Int) != n)=true:=by simp[hl]
 have hb2:((0:Int) != 0)=false:=rfl
 simp only[iv,Int.cast_ofNat_Int] at g ⊢
 simp[Tryz.f50,e1,e2,e3,e4,af,aJ,ao,aq,aH,ag,ai,aQ,aj,an,aF,aC,FP.none,bd,au,bj,aw,bM,partOf,aa,ae,ab,bh,qw,g,hb,hl1,hn,aCl,sCl,ox,aO,aV,aU,br,aZ]
theorem afL (L:Lst)(run:ar)(k:Nat)(c:List (List ByteArray))(l:List Int)(n:Int)(hn : ¬ (0≤n∧(l.length:Int)≠n))(v:Bool)(g:aA L run 80 [cE c] (iv 0))(hc:cg (CC L) run false [⟨.live,[cE c]⟩] 102 [aE l,.clos 103 [.ptr 0 0]]=some (.sc (.bool v),[⟨.live,[cE c]⟩],⟨[],[],true,true⟩)) :
  ∃ st,af (CC L) run k (Tryz.f50.body.getD .skip) ⟨entry 24 [cE c,aE l,.sc (.int .i64 n)],[],[]⟩=some (.ret,st)∧aZ TT st.fr st.hp Tryz.f50.results.toList=some [iv (bif v then 4 else 0)]:=by
 obtain⟨e1,e2,e3,e4⟩:=GY 21 (cE c) (aE l) (.sc (.int .i64 n))
 generalize entry 24 [cE c,aE l,.sc (.int .i64 n)]=fr0 at *
 unfold aA at g
 have hl1:=GK l
 simp only[iv,Int.cast_ofNat_Int] at g ⊢
 by_cases h0:0≤n
 ·have hl:(l.length:Int)=n:=Classical.byContradiction fun e=>hn ⟨h0,e⟩
  have hb:((l.length:Int) != n)=false:=by simp[hl]
  cases v <;> simp[Tryz.f50,e1,e2,e3,e4,af,aJ,ao,aq,aH,ag,ai,aQ,aj,an,aF,aC,FP.none,bd,au,bj,aw,bM,partOf,aa,ae,ab,bh,qw,g,hl,hl1,h0,hc,aCl,sCl,ox,aO,aV,aU,br,aZ]
 ·cases v <;> simp[Tryz.f50,e1,e2,e3,e4,af,aJ,ao,aq,aH,ag,ai,aQ,aj,an,aF,aC,FP.none,bd,au,bj,aw,partOf,aa,ae,ab,bh,qw,g,h0,hc,aCl,sCl,aO,aV,aU,br,aZ,undef]
abbrev CL:=List (List ByteArray) × List Int × Int
def eCL (p:CL):List PV:=[cE p.1,aE p.2.1,.sc (.int .i64 p.2.2)]
theorem ZC {p q:CL}(h:eCL p=eCL q):p=q:=by
 simp only[eCL,List.cons.injEq,and_true,PV.sc.injEq,Value.int.injEq,true_and] at h
 exact Prod.ext (AM h.1) (Prod.ext (Hu h.2.1) h.2.2)
noncomputable def IA:List PV→Option (List PV):=ctr eCL (fun p=>Fit p.1∧p.2.1.length≤1000) fun p=>[iv (kH p.1 p.2.1 p.2.2)]
theorem yA:Ab.Spec base.P 50 IA:=Ab.Spec.bQ (C:=CC LR2) (cV UP) fun args rs h=>by
 obtain⟨⟨c,l,n⟩,⟨hF,h9⟩,rfl,rfl⟩:=dz h
 dsimp only at hF h9
 have g:=aaI (L:=LR2) rfl (runK (CC LR2) (l.length+4)) c hF
 show ∃ k rs1 hp1 wr rs2 ids,runK (CC LR2) k 50 [cE c,aE l,.sc (.int .i64 n)] []=_∧_∧WkL rs2 [iv (kH c l n)]
 unfold kH
 by_cases h1:chk c≠0
 ·rw[if_pos h1]
  obtain⟨st,x1,x2⟩:=afN LR2 (runK (CC LR2) (l.length+4)) (l.length+4) c l n (chk c) h1 g
  exact⟨_,_,_,_,_,_,aX rV rfl x1 x2,rfl,Wk.refl rfl,trivial⟩
 ·rw[if_neg h1]
  have h2:chk c=0:=Classical.byContradiction h1
  rw[h2] at g
  by_cases h3:0≤n∧(l.length:Int)≠n
  ·rw[if_pos h3]
   obtain⟨st,x1,x2⟩:=afM LR2 (runK (CC LR2) (l.length+4)) (l.length+4) c l n h3.1 h3.2 g
   exact⟨_,_,_,_,_,_,aX rV rfl x1 x2,rfl,Wk.refl rfl,trivial⟩
  ·rw[if_neg h3]
   have hr:=adK LR2 (l.length+2) [⟨.live,[cE c]⟩] l 103 [.ptr 0 0] (rS c.length) (by omega) (by omega) (fun z _ dr=>lH OA (Uj LR2 (l.length+1) c _ z rfl) rfl dr)
   have hc:=lH (L:=LR2) OM hr rfl false
   obtain⟨st,x1,x2⟩:=afL LR2 (runK (CC LR2) (l.length+4)) (l.length+4) c l n h3 _ g hc
   exact⟨_,_,_,_,_,_,aX rV rfl x1 x2,rfl,Wk.refl rfl,trivial⟩
theorem HA {L:Lst}(hL:bw L 50=fun a=>IA (aK a))(run:ar)(c:List (List ByteArray))(l:List Int)(n:Int)(hF:Fit c)(h9:l.length≤1000):aA L run 50 [cE c,aE l,.sc (.int .i64 n)] (iv (kH c l n)) :=
 jZ VR (e:=eCL) (f:=fun p=>[iv (kH p.1 p.2.1 p.2.2)]) hL (fun x y _ _ h=>by rw[ZC h]) run (c,l,n) ⟨hF,h9⟩ (fun _=>rfl) (by simp only[eCL,aK,nC,wQ];rfl)
end Go.Proofs.YtjdmodeenbdfpaaGreat
