/- Contracts of fractions, clouds and predicates, part 41 of the proof; each lemma states its own conditions. -/
import Derived.Test.YtjdmodeenbdfpaaGreatQ40
set_option linter.unusedSimpArgs false
set_option linter.unusedVariables false
namespace Go.Proofs.YtjdmodeenbdfpaaGreat
open Go Go.Ab
theorem Oc:base.F.get 61=some Tryz.f61:=by kernel_rfl
theorem Wq:base.shared 61=false:=by kernel_rfl
noncomputable def pdC:Code:=Tryz.f61.body.getD .skip
noncomputable def pdB:Code:=(aF pdC).getD .skip
def HA (X Y:List Rat):Nat→Rat
 | 0=>0
 | i+1=>HA X Y i+X.getD i 0*Y.getD i 0
def dot (X Y:List Rat):Rat:=HA X Y X.length
theorem Bf {k:Nat}{X Y:List Rat}(hX:RbL k X)(hY:RbL k Y)(hl:X.length=Y.length):∀ i,i≤X.length→Rb (i*(2*k+1)+1) (HA X Y i)
 | 0,_=>Rb.zero _
 | i+1,h=>by
  have h1:=Bf hX hY hl i (by omega)
  have hx:Rb k (X.getD i 0):=by
   rw[List.getD_eq_getElem?_getD,List.getElem?_eq_getElem (by omega)];exact hX _ (List.getElem_mem _)
  have hy:Rb k (Y.getD i 0):=by
   rw[List.getD_eq_getElem?_getD,List.getElem?_eq_getElem (by omega)];exact hY _ (List.getElem_mem _)
  have e:(i+1)*(2*k+1)=i*(2*k+1)+(2*k+1):=Nat.succ_mul i _
  exact (h1.add (hx.mul hy)).mono (by rw[e];omega)
def Iy (fr:List PV)(X Y:List Rat)(i:Nat):Prop:=fr.length=25∧nth fr 1=vR Y∧nth fr 4 = .ptr 0 0∧nth fr 5 = .ptr 1 0∧nth fr 8=vR X∧nth fr 9=iv X.length∧nth fr 10=iv i
theorem ab8 (L:Lst)(run:aq)(k:Nat)(fr:List PV)(hp:List Blk)(wr:List Nat)(X Y:List Rat)(h:Iy fr X Y X.length) :
  ∃ fr',af (CC L) run k pdB ⟨fr,hp,wr⟩=some (.exit 0,⟨fr',hp,wr⟩)∧fr'.length=25∧nth fr' 4 = .ptr 0 0∧nth fr' 5 = .ptr 1 0:=by
 obtain⟨h0,h1,h4,h5,h8,h9,h10⟩:=h
 simp only[iv] at h9 h10
 simp[pdB,pdC,Tryz.f61,aF,af,aH,an,ao,aG,ag,ai,aj,ak,aC,az,FP.none,aY,au,bf,aa,ae,ab,h0,h4,h5,h9,h10]
noncomputable def aeO:Code:=cB (blk (seq1 (cB (cB pdB))))
theorem af7:((Region.before (jV aeO))[8]?.getD 0).testBit 0=true:=by kernel_rfl
set_option maxHeartbeats 1000000 in
theorem XB (L:Lst)(run:aq)(k:Nat)(fr:List PV)(hp:List Blk)(wr:List Nat)(X Y:List Rat)(i:Nat)(sc p1 p2:List PV)(z:Blk)(hi:i<X.length)(hy:i<Y.length)(h9':X.length≤1000)(hsl:sc.length=4)(hpl:p2.length=4)(hpo:bc p2=true)(g1:ar L run 56 [.agg (rcs X[i]),.agg (rcs Y[i])] (.agg p1))(g2:ar L run 87 [.agg sc,.agg p1] (.agg p2))(h:Iy fr X Y i)(hz:aZ hp 0=some z)(hb:aZ hp 1=some ⟨.live,sc⟩)(hn:1<hp.length) :
  ∃ fr' hp' wr',af (CC L) run k pdB ⟨fr,hp,wr⟩=some (.normal,⟨fr',hp',wr'⟩)∧Iy fr' X Y (i+1)∧aZ hp' 0=some z∧aZ hp' 1=some ⟨.live,p2⟩∧1<hp'.length:=by
 obtain⟨h0,h1,h4,h5,h8,h9,h10⟩:=h
 obtain⟨r,x1,x2⟩:=wy false X i hi
 obtain⟨r',y1,y2⟩:=wy false Y i hy
 have hw:=bJ i (by omega)
 have hx:=al1 hp rz
 have hx1:=eE rz (rcs X[i]) (by rw[cO.len];rfl)
 have hx2:=al2 hp rz ⟨.live,rcs X[i]⟩
 have hx3:=(al3 hp rz ⟨.live,rcs X[i]⟩ 1 hn).trans hb
 have hx3':=(al3 hp rz ⟨.live,rcs X[i]⟩ 0 (by omega)).trans hz
 have hx4:=eD (rcs X[i]) (cO.len _)
 have hx4':=eD sc hsl
 have ho:=eE sc p2 (by rw[hsl,hpl])
 have hx5:aZ (cf (cf (aP hp rz) hp.length ⟨.live,rcs X[i]⟩) 1 ⟨.live,p2⟩) 1=some ⟨.live,p2⟩:=by rw[cJ hx3,if_pos rfl]
 have hx5':aZ (cf (cf (aP hp rz) hp.length ⟨.live,rcs X[i]⟩) 1 ⟨.live,p2⟩) 0=some z:=by rw[cJ hx3,if_neg (by omega),hx3']
 have hx6:1<(cf (cf (aP hp rz) hp.length ⟨.live,rcs X[i]⟩) 1 ⟨.live,p2⟩).length:=by rw[bG,al4];omega
 have hokx:=cO.okc X[i]
 have hlx:=cO.len X[i]
 have hn0:hp.length≠1:=by omega
 have hn1:(1=hp.length)=False:=by simp;omega
 unfold ar at g1 g2
 generalize rcs X[i]=cx at *
 generalize rcs Y[i]=cy at *
 simp only[iv] at h9 h10
 have hv1:dh false X=vR X:=rfl
 have hv2:dh false Y=vR Y:=rfl
 rw[hv1] at x1
 rw[hv2] at y1
 have zR':=zRz
 have hbit:=af7
 simp[-Nat.testBit_zero,aeO,pdB,pdC,Tryz.f61,aF,cB,seq1,blk,jV] at hbit
 simp[-Nat.testBit_zero,hbit,Iy,iv,pdB,pdC,Tryz.f61,aF,af,aH,an,ao,aG,ag,ai,aO,aj,ak,aC,az,FP.none,aY,au,bf,av,partOf,aa,ae,ab,bh,and_assoc,bm,h0,h1,h4,h5,h8,h9,h10,hi,x1,x2,y1,y2,g1,g2,ho,hx,hx1,hx2,hx3,hx4,hx4',hx5,hx5',hx6,hokx,hlx,hpo,hpl,hn1,hw,aU,aR,sR,zR',br,number,FP.free,cH,FP.apart]
theorem Jl (L:Lst)(run:aq)(k:Nat)(X Y:List Rat)(z:Blk)(h9:X.length≤10)(hXY:X.length=Y.length){k0:Nat}(hk0:k0≤10000)(hX:RbL k0 X)(hY:RbL k0 Y)(gm:bu L 56=fun a=>mq (aJ a))(ga:bu L 87=fun a=>iT (aJ a)):∀ (n i:Nat) (fr:List PV) (hp:List Blk) (wr:List Nat) (sc:List PV) (u:Option Rat),i+n=X.length→Iy fr X Y i→aZ hp 0=some z→aZ hp 1=some ⟨.live,sc⟩→1<hp.length→Rc sc u→vv u=HA X Y i→(i≠0→u≠none) →
  ∃ fr' hp' wr' sc' u',ca (af (CC L) run k pdB) (n+1) ⟨fr,hp,wr⟩=some (.exit 0,⟨fr',hp',wr'⟩)∧fr'.length=25∧nth fr' 4 = .ptr 0 0∧nth fr' 5 = .ptr 1 0∧aZ hp' 0=some z∧aZ hp' 1=some ⟨.live,sc'⟩∧1<hp'.length∧Rc sc' u'∧vv u'=dot X Y∧(X.length≠0→u'≠none)
 | 0,i,fr,hp,wr,sc,u,hin,h,hz,hb,hn,hc,hu,hu2=>by
  have e:i=X.length:=by omega
  subst e
  obtain⟨fr',q1,q2,q3,q4⟩:=ab8 L run k fr hp wr X Y h
  exact⟨fr',hp,wr,sc,u,bz q1,q2,q3,q4,hz,hb,hn,hc,hu,hu2⟩
 | n+1,i,fr,hp,wr,sc,u,hin,h,hz,hb,hn,hc,hu,hu2=>by
  have hi:i<X.length:=by omega
  have hy:i<Y.length:=by omega
  have hbx:=hX _ (List.getElem_mem hi)
  have hby:=hY _ (List.getElem_mem hy)
  have hbs:=Bf hX hY hXY i (by omega)
  have hi9:i*(2*k0+1)≤10*20001:=Nat.mul_le_mul (by omega) (by omega)
  have g1:=Vr gm run (p:=.agg (rcs X[i])) (q:=.agg (rcs Y[i])) (u:=some X[i]) (v:=some Y[i]) (.inl rfl) (.inl rfl) hbx hby (by omega)
  have g2:=Vt ga run (p:=.agg sc) (q:=rv (some (X[i]*Y[i]))) (u:=u) (v:=some (X[i]*Y[i])) hc.p (.inl rfl) (by rw[hu];exact hbs) (hbx.mul hby) (by omega)
  obtain⟨fr1,hp1,wr1,q1,q2,q3,q4,q5⟩:=XB L run k fr hp wr X Y i sc _ (rcs (vv u+X[i]*Y[i])) z hi hy (by omega) hc.len (cO.len _) (cO.okc _) g1 g2 h hz hb hn
  obtain⟨fr',hp',wr',sc',u',s1,s2⟩:=Jl L run k X Y z h9 hXY hk0 hX hY gm ga n (i+1) fr1 hp1 wr1 (rcs (vv u+X[i]*Y[i])) (some (vv u+X[i]*Y[i])) (by omega) q2 q3 q4 q5 (.inl rfl) (by
   show vv u+X[i]*Y[i]=HA X Y i+X.getD i 0*Y.getD i 0
   rw[hu,List.getD_eq_getElem?_getD,List.getD_eq_getElem?_getD,List.getElem?_eq_getElem hi,List.getElem?_eq_getElem hy]
   rfl) (fun _=>nofun)
  exact⟨fr',hp',wr',sc',u',by rw[bU q1];exact s1,s2⟩
noncomputable def XC:Code:=seq1 (seq1 (ah 2 pdC))
theorem ab6:ah 2 pdC = .seq (.seq XC (.block 0 (.loop pdB))) (ah 3 pdC):=rfl
theorem ab7 (L:Lst)(run:aq)(k:Nat)(X Y:List Rat) :
  ∃ fr fr' wr,aX (CC L) run k 2 pdC ⟨entry 25 [vR X,vR Y],[],[]⟩=some ⟨fr,[⟨.live,rz⟩,⟨.live,rz⟩],wr⟩∧af (CC L) run k XC ⟨fr,[⟨.live,rz⟩,⟨.live,rz⟩],wr⟩=some (.normal,⟨fr',[⟨.live,rz⟩,⟨.live,rz⟩],wr⟩)∧Iy fr' X Y 0:=by
 obtain⟨e1,e2,e3⟩:=cn 23 (vR X) (vR Y)
 generalize entry 25 [vR X,vR Y]=fr0 at *
 have hl:dQ (vR X)=some X.length:=rfl
 obtain⟨fr,wr,a1,a2,a3,a4,a5,a6⟩:∃ fr wr,aX (CC L) run k 2 pdC ⟨fr0,[],[]⟩=some ⟨fr,[⟨.live,rz⟩,⟨.live,rz⟩],wr⟩∧fr.length=25∧nth fr 0=vR X∧nth fr 1=vR Y∧nth fr 4 = .ptr 0 0∧nth fr 5 = .ptr 1 0:=by
  simp[pdC,Tryz.f61,aX,e1,e2,e3,af,aH,an,ao,aG,ag,ai,aj,aC,az,aa,ae,ab,bh,and_assoc,zRz,aP]
 refine⟨fr,?_⟩
 simp only[a1]
 simp[Iy,iv,XC,seq1,ah,pdC,Tryz.f61,a2,a3,a4,a5,a6,af,aH,an,ao,aG,ag,ai,aj,ak,aC,az,FP.none,av,bK,aa,ae,ab,bh,xB,hl]
theorem XA (L:Lst)(run:aq)(k:Nat)(fr:List PV)(hp:List Blk)(wr:List Nat)(z sc:List PV)(hsl:sc.length=4)(hso:bc sc=true)(hzl:z.length=4)(h0:fr.length=25)(h4:nth fr 4 = .ptr 0 0)(h5:nth fr 5 = .ptr 1 0)(hz:aZ hp 0=some ⟨.live,z⟩)(hb:aZ hp 1=some ⟨.live,sc⟩)(hn:1<hp.length) :
  ∃ st,af (CC L) run k (ah 3 pdC) ⟨fr,hp,wr⟩=some (.ret,st)∧aV TT st.fr st.hp Tryz.f61.results.toList=some [.agg sc]:=by
 have ho:=eE z sc (by omega)
 have ht:=eD sc hsl
 have h6:aZ (cf hp 0 ⟨.live,sc⟩) 0=some ⟨.live,sc⟩:=by rw[cJ hz,if_pos rfl]
 simp[pdC,ah,Tryz.f61,h0,h4,h5,af,aH,an,ao,aG,ag,ai,aj,ak,aC,az,partOf,aa,ae,bh,bm,hz,hb,ho,ht,hso,hsl,h6,aR,sR,aU,br,aV]
noncomputable def Jk:List PV→Option (List PV):=ctr (fun p:VV=>[vR p.1,vR p.2]) (fun p=>RbL 10000 p.1∧RbL 10000 p.2∧p.1.length=p.2.length∧p.1.length≤10∧p.1.length≠0) fun p=>[rv (some (dot p.1 p.2))]
theorem Rc.okc {cs:List PV}{u:Option Rat}(h:Rc cs u):bc cs=true:=by
 rcases h with rfl | ⟨rfl,rfl⟩
 ·exact pW.okc u
 ·rfl
theorem y6:Ab.Spec base.P 61 Jk:=Ab.Spec.bN (C:=CC LR1) (cU xu) fun args rs h=>by
 obtain⟨⟨X,Y⟩,⟨hX,hY,hl,h9,hne⟩,rfl,rfl⟩:=db h
 dsimp only at hX hY hl h9 hne
 obtain⟨fr,fr1,wr,a1,a2,a3⟩:=ab7 LR1 (runK (CC LR1) (X.length+1)) (X.length+1) X Y
 obtain⟨fr2,hp2,wr2,sc,u,b1,b2,b3,b4,b5,b6,b7,b8,b9,b10⟩:=Jl LR1 (runK (CC LR1) (X.length+1)) (X.length+1) X Y ⟨.live,rz⟩ h9 hl (Nat.le_refl 10000) hX hY rfl rfl X.length 0 fr1 [⟨.live,rz⟩,⟨.live,rz⟩] wr rz none (by omega) a3 (by simp[aZ]) (by simp[aZ]) (by simp) (.inr ⟨rfl,rfl⟩) rfl (fun h=>absurd rfl h)
 have hL:af (CC LR1) (runK (CC LR1) (X.length+1)) (X.length+1) (.seq XC (.block 0 (.loop pdB))) ⟨fr,[⟨.live,rz⟩,⟨.live,rz⟩],wr⟩=some (.normal,⟨fr2,hp2,wr2⟩):=by
  rw[aw a2];exact bF b1
 obtain⟨st,c1,c3⟩:=XA LR1 (runK (CC LR1) (X.length+1)) (X.length+1) fr2 hp2 wr2 rz sc b8.len b8.okc rfl b2 b3 b4 b5 b6 b7
 have hx:af (CC LR1) (runK (CC LR1) (X.length+1)) (X.length+1) pdC ⟨entry 25 [vR X,vR Y],[],[]⟩=some (.ret,st):=by
  rw[aM 2 a1,ab6,aw hL,c1]
 have hu:u=some (dot X Y):=by
  cases u with
  | none=>exact absurd rfl (b10 hne)
  | some y=>exact congrArg some b9
 subst hu
 exact⟨_,_,_,_,[.agg sc],[],aQ Oc rfl hx c3,b8.p.IZ _,b8.p.wk,trivial⟩
theorem aef {L:Lst}(hL:bu L 61=fun a=>Jk (aJ a))(run:aq)(x y:Bool)(X Y:List Rat){j k:Nat}(hX:RbL j X)(hY:RbL k Y)(hj:j≤10000)(hk:k≤10000)(hl:X.length=Y.length)(h9:X.length≤10)(hne:X.length≠0):ar L run 61 [dh x X,dh y Y] (rv (some (dot X Y))):=fun dr hp =>
 jf Wq hL run dr hp _ [vR X,vR Y] [rv (some (dot X Y))] rfl (xg x y X Y) (mZ (x:=(X,Y)) (fun p q hp hq h=>by
  simp only[List.cons.injEq,and_true] at h
  rw[uo hp.1 hq.1 (by omega) h.1,uo hp.2.1 hq.2.1 (by omega) h.2]) ⟨fun x hx=>(hX x hx).mono hj,fun x hx=>(hY x hx).mono hk,hl,h9,hne⟩)
def ei (z:Int):List PV:=[.sc (.int .i64 z)]
theorem adn:Ec 1 ei where
 len:=fun _=>rfl
 okc:=fun _=>rfl
 can:=fun _=>rfl
 idf:=fun _=>rfl
 sn:=fun _ _ _=>rfl
def aE (at':List Int):PV:=fJ ei at'
theorem n8:und TT 24=some (.slice 3):=by kernel_rfl
theorem Hn (l:List Int):dQ (aE l)=some l.length:=rfl
theorem xi (l:List Int):canon (aE l)=aE l:=adn.HL l
theorem JB (l:List Int)(i:Nat)(hi:i<l.length):∃ r,bg TT 24 (aE l) (.sc (.int .i64 (i:Int)))=some (.iptr r)∧r.head?=some (.sc (.int .i64 l[i])):=by
 have h:=pY adn.toEl l i hi
 refine⟨br (l.flatMap ei) (i*1),?_,by rw[h];rfl⟩
 unfold aE fJ
 simp only[bg,n8,bk,sI,hi,if_true]
theorem H5:∀ {p q:List Int},aE p=aE q→p=q:=by
 intro p q h
 unfold aE fJ at h
 simp only[PV.imm.injEq,true_and] at h
 have:∀ (p q:List Int),p.flatMap ei=q.flatMap ei→p=q:=by
  intro p
  induction p with
  | nil=>intro q h;cases q with
   | nil=>rfl
   | cons a q=>simp[ei] at h
  | cons a p ih=>intro q h;cases q with
   | nil=>simp[ei] at h
   | cons b q =>
    simp only[List.flatMap_cons,ei,List.cons_append,List.nil_append,List.cons.injEq,PV.sc.injEq,Value.int.injEq,true_and] at h
    rw[h.1,ih q h.2]
 exact this p q h.2
theorem yj:∀ hp:List Blk,pf hp.length hp=hp
 | []=>rfl
 | a::l=>by rw[List.length_cons,pf,yj l]
theorem Av {L:Lst}{run:aq}{g:Nat}{args:List PV}{r:PV}{hp:List Blk}(hs:base.shared g=true)(hr:run g args hp=some ([r],hp,[]))(hi:r.cC=true)(dr:Bool):cb (CC L) run dr hp g args=some (r,hp,⟨[],[],true,true⟩):=by
 have hs':(CC L).shared g=true:=hs
 unfold cb
 rw[if_pos hs',hr]
 simp only[bM,hi,ju,fO,Bool.and_self,cond_true,gN,yj]
theorem Ir:base.F.get 103=some Tryz.f103:=by kernel_rfl
theorem Pa:base.shared 103=true:=by kernel_rfl
theorem xA:base.F.get 148=some Tryz.f148:=by kernel_rfl
theorem Pg:base.shared 148=true:=by kernel_rfl
theorem Iw:base.F.get 102=some Tryz.f102:=by kernel_rfl
theorem Pl:base.shared 102=true:=by kernel_rfl
theorem rR:base.F.get 50=some Tryz.f50:=by kernel_rfl
theorem Ws:base.shared 50=false:=by kernel_rfl
theorem aeA (L:Lst)(g:Nat):(CC L).sorc g=none:=rfl
theorem nX {L:Lst}{k:Nat}{g:FuncId}{args:List PV}{hp:List Blk}{fn:Func}{c:Code}{st:St}{rs:List PV}(hF:base.F.get g=some fn)(hb:fn.body=some c)(hx:af (CC L) (runK (CC L) k) k c ⟨entry fn.ntmps args,hp,[]⟩=some (.ret,st))(hr:aV TT st.fr st.hp fn.results.toList=some rs):runK (CC L) (k+1) g args hp=some (rs,st.hp,st.wr):=by
 have h1:(CC L).F g=some fn:=hF
 simp only[runK,aeA,m7,h1,hb,hx]
 rw[bh,hr]
def Bp (m:Nat)(z:Int):Bool:=decide (z<0) || decide ((m:Int)≤z)
theorem NH (L:Lst)(run:aq)(k:Nat)(c:List (List ByteArray))(hp:List Blk)(z:Int)(hb:aZ hp 0=some ⟨.live,[cE c]⟩) :
  ∃ st,af (CC L) run k (Tryz.f103.body.getD .skip) ⟨entry 12 [.sc (.int .i64 z),.ptr 0 0],hp,[]⟩=some (.ret,st)∧st.hp=hp∧st.wr=[]∧aV TT st.fr st.hp Tryz.f103.results.toList=some [.sc (.bool (Bp c.length z))]:=by
 obtain⟨e1,e2,e3⟩:=cn 10 (.sc (.int .i64 z)) (.ptr 0 0)
 generalize entry 12 [.sc (.int .i64 z),.ptr 0 0]=fr0 at *
 have hl:=fV c
 unfold Bp
 by_cases h:z<0
 ·simp[Tryz.f103,e1,e2,af,aH,an,ao,aG,ag,ai,aj,ak,aC,az,FP.none,aY,au,bf,av,aa,ae,ab,h,aV,undef]
 ·by_cases h2:(c.length:Int)≤z
  ·simp[Tryz.f103,e1,e2,e3,af,aH,an,ao,aG,ag,ai,aj,ak,aC,az,FP.none,aY,au,bf,av,bK,partOf,aa,ae,ab,bh,h,h2,hb,hl,uCl,aCl,sCl,aU,br,aV]
  ·simp[Tryz.f103,e1,e2,e3,af,aH,an,ao,aG,ag,ai,aj,ak,aC,az,FP.none,aY,au,bf,av,bK,partOf,aa,ae,ab,bh,h,h2,hb,hl,uCl,aCl,sCl,aU,br,aV]
theorem UG (L:Lst)(k:Nat)(c:List (List ByteArray))(hp:List Blk)(z:Int)(hb:aZ hp 0=some ⟨.live,[cE c]⟩):runK (CC L) (k+1) 103 [.sc (.int .i64 z),.ptr 0 0] hp=some ([.sc (.bool (Bp c.length z))],hp,[]):=by
 obtain⟨st,x1,x2,x3,x4⟩:=NH L (runK (CC L) k) k c hp z hb
 have:=nX Ir rfl x1 x4
 rw[x2,x3] at this
 exact this
noncomputable def ifC:Code:=Tryz.f148.body.getD .skip
noncomputable def ifB:Code:=(aF ifC).getD .skip
def IfF (fr:List PV)(l:List Int)(f:PV)(i:Nat):Prop:=fr.length=19∧nth fr 0=aE l∧nth fr 1=f∧nth fr 7=iv l.length∧nth fr 8=iv i
theorem acS (L:Lst)(run:aq)(k:Nat)(fr:List PV)(hp:List Blk)(l:List Int)(f:PV)(h:IfF fr l f l.length) :
  ∃ fr',af (CC L) run k ifB ⟨fr,hp,[]⟩=some (.exit 0,⟨fr',hp,[]⟩)∧fr'.length=19:=by
 obtain⟨h0,h1,h2,h7,h8⟩:=h
 simp only[iv] at h7 h8
 simp[ifB,ifC,Tryz.f148,aF,af,aH,an,ao,aG,ag,ai,aj,ak,aC,az,FP.none,aY,au,bf,aa,ab,h0,h7,h8]
theorem Tp (L:Lst)(run:aq)(k:Nat)(fr:List PV)(hp:List Blk)(l:List Int)(g:Nat)(caps:List PV)(i:Nat)(v:Bool)(hi:i<l.length)(h9:l.length<1000000)(hc:∀ dr,cb (CC L) run dr hp g ([.sc (.int .i64 l[i])]++caps)=some (.sc (.bool v),hp,⟨[],[],true,true⟩))(h:IfF fr l (.clos g caps) i) :
  ∃ fr',af (CC L) run k ifB ⟨fr,hp,[]⟩=some (bif v then .ret else .normal,⟨fr',hp,[]⟩)∧(v=true→nth fr' 4=iv i)∧(v=false→IfF fr' l (.clos g caps) (i+1)):=by
 obtain⟨h0,h1,h2,h7,h8⟩:=h
 obtain⟨r,x1,x2⟩:=JB l i hi
 have hw:=bJ i (by omega)
 generalize l[i]=z at *
 simp only[iv] at h7 h8
 simp only[List.cons_append,List.nil_append] at hc
 cases v <;> simp[IfF,iv,ifB,ifC,Tryz.f148,aF,af,aH,an,ao,aG,ag,ai,aO,aj,ak,aC,az,FP.none,aY,au,bf,av,partOf,aa,ae,ab,bh,h0,h1,h2,h7,h8,hi,x1,x2,hc,hw,aI,sI,aU]
theorem JD (L:Lst)(run:aq)(k:Nat)(hp:List Blk)(l:List Int)(g:Nat)(caps:List PV)(b:Int→Bool)(h9:l.length<1000000)(hc:∀ z ∈ l,∀ dr,cb (CC L) run dr hp g ([.sc (.int .i64 z)]++caps)=some (.sc (.bool (b z)),hp,⟨[],[],true,true⟩)):∀ (n i:Nat) (fr:List PV),i+n=l.length→IfF fr l (.clos g caps) i →
  (∃ fr',(l.drop i).any b=false∧ca (af (CC L) run k ifB) (n+1) ⟨fr,hp,[]⟩=some (.exit 0,⟨fr',hp,[]⟩)∧fr'.length=19)∨∃ fr' j,(l.drop i).any b=true∧ca (af (CC L) run k ifB) (n+1) ⟨fr,hp,[]⟩=some (.ret,⟨fr',hp,[]⟩)∧nth fr' 4=iv j
 | 0,i,fr,hin,h=>by
  have e:i=l.length:=by omega
  subst e
  obtain⟨fr',q1,q2⟩:=acS L run k fr hp l _ h
  rw[List.drop_length]
  exact .inl ⟨fr',rfl,bz q1,q2⟩
 | n+1,i,fr,hin,h=>by
  have hi:i<l.length:=by omega
  obtain⟨fr1,q1,q2,q3⟩:=Tp L run k fr hp l g caps i _ hi h9 (hc _ (List.getElem_mem hi)) h
  rw[List.drop_eq_getElem_cons hi,List.any_cons]
  cases hv:b l[i] with
  | true =>
   rw[hv] at q1 q2
   exact .inr ⟨fr1,i,rfl,eH q1,q2 rfl⟩
  | false =>
   rw[hv] at q1 q3
   rw[Bool.false_or,bU q1]
   exact JD L run k hp l g caps b h9 hc n (i+1) fr1 (by omega) (q3 rfl)
noncomputable def Tq:Code:=seq1 (seq1 (ah 1 ifC))
theorem Tn:ah 1 ifC = .seq (.seq Tq (.block 0 (.loop ifB))) (ah 2 ifC):=rfl
theorem acR (L:Lst)(run:aq)(k:Nat)(l:List Int)(f:PV)(hp:List Blk):∃ fr fr',aX (CC L) run k 1 ifC ⟨entry 19 [aE l,f],hp,[]⟩=some ⟨fr,hp,[]⟩∧af (CC L) run k Tq ⟨fr,hp,[]⟩=some (.normal,⟨fr',hp,[]⟩)∧IfF fr' l f 0:=by
 obtain⟨e1,e2,e3⟩:=cn 17 (aE l) f
 generalize entry 19 [aE l,f]=fr0 at *
 have hl:=Hn l
 obtain⟨fr,a1,a2,a3,a4⟩:∃ fr,aX (CC L) run k 1 ifC ⟨fr0,hp,[]⟩=some ⟨fr,hp,[]⟩∧fr.length=19∧nth fr 0=aE l∧nth fr 1=f:=by
  simp[ifC,Tryz.f148,aX,e1,e2,e3,af,aH,an,ao,aG,ag,ai,aj,ak,aC,az,FP.none,av,ae,ab]
 refine⟨fr,?_⟩
 rw[a1]
 simp[IfF,iv,Tq,seq1,ah,ifC,Tryz.f148,a2,a3,a4,af,aH,an,ao,aG,ag,ai,aj,ak,aC,az,FP.none,av,bK,aa,ae,ab,bh,hl,n8]
theorem Y1 (L:Lst)(run:aq)(k:Nat)(fr:List PV)(hp:List Blk)(h0:fr.length=19):∃ st,af (CC L) run k (ah 2 ifC) ⟨fr,hp,[]⟩=some (.ret,st)∧st.hp=hp∧st.wr=[]∧aV TT st.fr st.hp Tryz.f148.results.toList=some [.sc (.int .i64 (-1))]:=by
 simp[ifC,ah,Tryz.f148,h0,af,aH,an,ao,aG,ag,ai,aj,ak,aC,az,FP.none,av,aa,aV]
theorem acQ (fr:List PV)(hp:List Blk)(n:Nat)(h:nth fr 4=iv n):aV TT fr hp Tryz.f148.results.toList=some [iv n]:=by
 simp[Tryz.f148,aV,h]
theorem acP (L:Lst)(k:Nat)(hp:List Blk)(l:List Int)(g:Nat)(caps:List PV)(b:Int→Bool)(hk:l.length<k)(h9:l.length<1000000)(hc:∀ z ∈ l,∀ dr,cb (CC L) (runK (CC L) k) dr hp g ([.sc (.int .i64 z)]++caps)=some (.sc (.bool (b z)),hp,⟨[],[],true,true⟩)) :
  ∃ r:Int,runK (CC L) (k+1) 148 [aE l,.clos g caps] hp=some ([.sc (.int .i64 r)],hp,[])∧decide (0≤r)=l.any b:=by
 obtain⟨fr,fr1,a1,a2,a3⟩:=acR L (runK (CC L) k) k l (.clos g caps) hp
 have hl:=JD L (runK (CC L) k) k hp l g caps b h9 hc l.length 0 fr1 (by omega) a3
 rw[List.drop_zero] at hl
 rcases hl with ⟨fr2,h0,b1,b2⟩| ⟨fr2,j,h0,b1,b2⟩
 ·have:af (CC L) (runK (CC L) k) k (.seq Tq (.block 0 (.loop ifB))) ⟨fr,hp,[]⟩=some (.normal,⟨fr2,hp,[]⟩):=by
   rw[aw a2];exact bF (bT b1 (by omega))
  obtain⟨st,c1,c2,c3,c4⟩:=Y1 L (runK (CC L) k) k fr2 hp b2
  have hx:af (CC L) (runK (CC L) k) k ifC ⟨entry 19 [aE l,.clos g caps],hp,[]⟩=some (.ret,st):=by
   rw[aM 1 a1,Tn,aw this,c1]
  have:=nX xA rfl hx c4
  rw[c2,c3] at this
  exact⟨-1,this,by rw[h0];rfl⟩
 ·have:af (CC L) (runK (CC L) k) k (.seq Tq (.block 0 (.loop ifB))) ⟨fr,hp,[]⟩=some (.ret,⟨fr2,hp,[]⟩):=by
   rw[aw a2];exact cW (bT b1 (by omega))
  have hx:af (CC L) (runK (CC L) k) k ifC ⟨entry 19 [aE l,.clos g caps],hp,[]⟩=some (.ret,⟨fr2,hp,[]⟩):=by
   rw[aM 1 a1,Tn,cm this]
  have:=nX xA rfl hx (acQ fr2 hp j b2)
  exact⟨j,this,by rw[h0];simp⟩
theorem adG (L:Lst)(k:Nat)(hp:List Blk)(l:List Int)(g:Nat)(caps:List PV)(b:Int→Bool)(hk:l.length<k)(h9:l.length<1000000)(hc:∀ z ∈ l,∀ dr,cb (CC L) (runK (CC L) k) dr hp g ([.sc (.int .i64 z)]++caps)=some (.sc (.bool (b z)),hp,⟨[],[],true,true⟩)) :
  runK (CC L) (k+2) 102 [aE l,.clos g caps] hp=some ([.sc (.bool (l.any b))],hp,[]):=by
 obtain⟨r,h1,h2⟩:=acP L k hp l g caps b hk h9 hc
 have hcall:=Av (L:=L) Pg h1 rfl
 obtain⟨e1,e2,e3⟩:=cn 7 (aE l) (.clos g caps)
 rw[← h2]
 have hx:∃ st,af (CC L) (runK (CC L) (k+1)) (k+1) (Tryz.f102.body.getD .skip) ⟨entry 9 [aE l,.clos g caps],hp,[]⟩=some (.ret,st)∧st.hp=hp∧st.wr=[]∧aV TT st.fr st.hp Tryz.f102.results.toList=some [.sc (.bool (decide (0≤r)))]:=by
  generalize entry 9 [aE l,.clos g caps]=fr0 at *
  simp[Tryz.f102,e1,e2,e3,af,aH,an,ao,aG,ag,ai,aO,aj,ak,aC,az,FP.none,aY,au,bf,av,aa,ae,ab,hcall,aV]
 obtain⟨st,x1,x2,x3,x4⟩:=hx
 have:=nX Iw rfl x1 x4
 rw[x2,x3] at this
 exact this
noncomputable def oQ (c:List (List ByteArray))(l:List Int)(n:Int):Nat:=if chk c≠0 then chk c else if 0≤n∧(l.length:Int)≠n then 10 else bif l.any (Bp c.length) then 4 else 0
noncomputable def LR2:Lst:=(80,HJ)::LR1
theorem Vp:dM base.P LR2:=⟨UE,xu⟩
theorem wQ (n:Nat)(p q r:PV):(entry (n+3) [p,q,r]).length=n+3∧nth (entry (n+3) [p,q,r]) 0=p∧nth (entry (n+3) [p,q,r]) 1=q∧nth (entry (n+3) [p,q,r]) 2=r:=⟨gw _ _ (by simp),rfl,rfl,rfl⟩
theorem aga (L:Lst)(run:aq)(k:Nat)(c:List (List ByteArray))(l:List Int)(n:Int)(e:Nat)(he:e≠0)(g:ar L run 80 [cE c] (iv e)) :
  ∃ st,af (CC L) run k (Tryz.f50.body.getD .skip) ⟨entry 24 [cE c,aE l,.sc (.int .i64 n)],[],[]⟩=some (.ret,st)∧aV TT st.fr st.hp Tryz.f50.results.toList=some [iv e]:=by
 obtain⟨e1,e2,e3,e4⟩:=wQ 21 (cE c) (aE l) (.sc (.int .i64 n))
 generalize entry 24 [cE c,aE l,.sc (.int .i64 n)]=fr0 at *
 unfold ar at g
 have hb:((e:Int) != 0)=true:=by simp;omega
 simp only[iv] at g ⊢
 simp[Tryz.f50,e1,e2,af,aH,an,ao,aG,ag,ai,aO,aj,ak,aC,az,FP.none,aY,au,bf,av,partOf,aa,ae,ab,bh,qh,g,hb,aCl,sCl,aP,aZ,aU,br,aV]
theorem af9 (L:Lst)(run:aq)(k:Nat)(c:List (List ByteArray))(l:List Int)(n:Int)(hn:0≤n)(hl:(l.length:Int)≠n)(g:ar L run 80 [cE c] (iv 0)) :
  ∃ st,af (CC L) run k (Tryz.f50.body.getD .skip) ⟨entry 24 [cE c,aE l,.sc (.int .i64 n)],[],[]⟩=some (.ret,st)∧aV TT st.fr st.hp Tryz.f50.results.toList=some [iv 10]:=by
 obtain⟨e1,e2,e3,e4⟩:=wQ 21 (cE c) (aE l) (.sc (.int .i64 n))
 generalize entry 24 [cE c,aE l,.sc (.int .i64 n)]=fr0 at *
 unfold ar at g
 have hl1:=Hn l
 have hb:((l.length:Int) != n)=true:=by simp[hl]
 have hb2:((0:Int) != 0)=false:=rfl
 simp only[iv,Int.cast_ofNat_Int] at g ⊢
 simp[Tryz.f50,e1,e2,e3,e4,af,aH,an,ao,aG,ag,ai,aO,aj,ak,aC,az,FP.none,aY,au,bf,av,bK,partOf,aa,ae,ab,bh,qh,g,hb,hl1,hn,aCl,sCl,n8,aP,aZ,aU,br,aV]
theorem af8 (L:Lst)(run:aq)(k:Nat)(c:List (List ByteArray))(l:List Int)(n:Int)(hn : ¬ (0≤n∧(l.length:Int)≠n))(v:Bool)(g:ar L run 80 [cE c] (iv 0))(hc:cb (CC L) run false [⟨.live,[cE c]⟩] 102 [aE l,.clos 103 [.ptr 0 0]]=some (.sc (.bool v),[⟨.live,[cE c]⟩],⟨[],[],true,true⟩)) :
  ∃ st,af (CC L) run k (Tryz.f50.body.getD .skip) ⟨entry 24 [cE c,aE l,.sc (.int .i64 n)],[],[]⟩=some (.ret,st)∧aV TT st.fr st.hp Tryz.f50.results.toList=some [iv (bif v then 4 else 0)]:=by
 obtain⟨e1,e2,e3,e4⟩:=wQ 21 (cE c) (aE l) (.sc (.int .i64 n))
 generalize entry 24 [cE c,aE l,.sc (.int .i64 n)]=fr0 at *
 unfold ar at g
 have hl1:=Hn l
 simp only[iv,Int.cast_ofNat_Int] at g ⊢
 by_cases h0:0≤n
 ·have hl:(l.length:Int)=n:=Classical.byContradiction fun e=>hn ⟨h0,e⟩
  have hb:((l.length:Int) != n)=false:=by simp[hl]
  cases v <;> simp[Tryz.f50,e1,e2,e3,e4,af,aH,an,ao,aG,ag,ai,aO,aj,ak,aC,az,FP.none,aY,au,bf,av,bK,partOf,aa,ae,ab,bh,qh,g,hl,hl1,h0,hc,aCl,sCl,n8,aP,aZ,aU,br,aV]
 ·cases v <;> simp[Tryz.f50,e1,e2,e3,e4,af,aH,an,ao,aG,ag,ai,aO,aj,ak,aC,az,FP.none,aY,au,bf,av,partOf,aa,ae,ab,bh,qh,g,h0,hc,aCl,sCl,aP,aZ,aU,br,aV,undef]
abbrev CL:=List (List ByteArray) × List Int × Int
def eCL (p:CL):List PV:=[cE p.1,aE p.2.1,.sc (.int .i64 p.2.2)]
theorem JW {p q:CL}(h:eCL p=eCL q):p=q:=by
 simp only[eCL,List.cons.injEq,and_true,PV.sc.injEq,Value.int.injEq,true_and] at h
 exact Prod.ext (xn h.1) (Prod.ext (H5 h.2.1) h.2.2)
noncomputable def RN:List PV→Option (List PV):=ctr eCL (fun p=>Fit p.1∧p.2.1.length≤1000) fun p=>[iv (oQ p.1 p.2.1 p.2.2)]
theorem ME:Ab.Spec base.P 50 RN:=Ab.Spec.bN (C:=CC LR2) (cU Vp) fun args rs h=>by
 obtain⟨⟨c,l,n⟩,⟨hF,h9⟩,rfl,rfl⟩:=db h
 dsimp only at hF h9
 have g:=aaR (L:=LR2) rfl (runK (CC LR2) (l.length+4)) c hF
 show ∃ k rs1 hp1 wr rs2 ids,runK (CC LR2) k 50 [cE c,aE l,.sc (.int .i64 n)] []=_∧_∧WkL rs2 [iv (oQ c l n)]
 unfold oQ
 by_cases h1:chk c≠0
 ·rw[if_pos h1]
  obtain⟨st,x1,x2⟩:=aga LR2 (runK (CC LR2) (l.length+4)) (l.length+4) c l n (chk c) h1 g
  exact⟨_,_,_,_,_,_,aQ rR rfl x1 x2,rfl,Wk.refl rfl,trivial⟩
 ·rw[if_neg h1]
  have h2:chk c=0:=Classical.byContradiction h1
  rw[h2] at g
  by_cases h3:0≤n∧(l.length:Int)≠n
  ·rw[if_pos h3]
   obtain⟨st,x1,x2⟩:=af9 LR2 (runK (CC LR2) (l.length+4)) (l.length+4) c l n h3.1 h3.2 g
   exact⟨_,_,_,_,_,_,aQ rR rfl x1 x2,rfl,Wk.refl rfl,trivial⟩
  ·rw[if_neg h3]
   have hr:=adG LR2 (l.length+2) [⟨.live,[cE c]⟩] l 103 [.ptr 0 0] (Bp c.length) (by omega) (by omega) (fun z _ dr=>Av Pa (UG LR2 (l.length+1) c _ z rfl) rfl dr)
   have hc:=Av (L:=LR2) Pl hr rfl false
   obtain⟨st,x1,x2⟩:=af8 LR2 (runK (CC LR2) (l.length+4)) (l.length+4) c l n h3 _ g hc
   exact⟨_,_,_,_,_,_,aQ rR rfl x1 x2,rfl,Wk.refl rfl,trivial⟩
theorem aeh {L:Lst}(hL:bu L 50=fun a=>RN (aJ a))(run:aq)(c:List (List ByteArray))(l:List Int)(n:Int)(hF:Fit c)(h9:l.length≤1000):ar L run 50 [cE c,aE l,.sc (.int .i64 n)] (iv (oQ c l n)) :=
 iw Ws (e:=eCL) (f:=fun p=>[iv (oQ p.1 p.2.1 p.2.2)]) hL (fun x y _ _ h=>by rw[JW h]) run (c,l,n) ⟨hF,h9⟩ (fun _=>rfl) (by simp only[eCL,aJ,qk,xi];rfl)
theorem Ix:base.F.get 81=some Tryz.f81:=by kernel_rfl
theorem Pm:base.shared 81=false:=by kernel_rfl
noncomputable def kD (c:List (List ByteArray)):Nat:=if chk c=0 then hdL c else 0
noncomputable def U3:List PV→Option (List PV):=ctr (fun c=>[cE c]) Fit fun c=>[iv (kD c)]
theorem neI (e:Nat):((e:Int) != 0) = !decide (e=0):=by
 by_cases h:e=0
 ·subst h;rfl
 ·have:((e:Int) != 0)=true:=by simp;omega
  rw[this,decide_eq_false h];rfl
theorem Z7 (L:Lst)(run:aq)(k:Nat)(c:List (List ByteArray))(g:ar L run 80 [cE c] (iv (chk c))) :
  ∃ st,af (CC L) run k (Tryz.f81.body.getD .skip) ⟨entry 15 [cE c],[],[]⟩=some (.ret,st)∧aV TT st.fr st.hp Tryz.f81.results.toList=some [iv (kD c)]:=by
 obtain⟨e1,e2⟩:=cQ 14 (cE c)
 generalize entry 15 [cE c]=fr0 at *
 unfold ar at g
 unfold kD
 have hne:=neI (chk c)
 cases hc:c with
 | nil =>
  have hl:dQ (cE [])=some 0:=rfl
  rw[hc] at e2
  have h0:(if chk []=0 then hdL [] else 0)=0:=by split <;> rfl
  rw[h0]
  simp[Tryz.f81,iv,e1,e2,af,aH,an,ao,aG,ag,ai,aj,ak,aC,az,FP.none,aY,au,bf,av,bK,aa,ae,ab,bh,hl,uCl,undef,aV]
 | cons p r =>
  rw[← hc]
  obtain⟨q,x1,x2⟩:=iu uCl c 0 (by rw[hc];simp)
  have hp:c[0]'(by rw[hc];simp)=p:=by subst hc;rfl
  rw[hp] at x2
  rw[show (((0:Nat):Int))=(0:Int) from rfl] at x1
  have hh:hdL c=p.length:=by rw[hc];rfl
  have hl:=fV c
  have hl0:((c.length:Int) == 0)=false:=by rw[beq_eq_false_iff_ne,hc];simp;omega
  have hlp:=fM p
  rw[hh]
  generalize chk c=e at *
  simp only[iv] at g ⊢
  have hcl : ¬ c.length=0:=by rw[hc];simp
  have hcn : ¬ c=[]:=by rw[hc];simp
  by_cases h:e=0
  ·subst h
   simp[Tryz.f81,e1,e2,af,aH,an,ao,aG,ag,ai,aO,aj,ak,aC,az,FP.none,aY,au,bf,av,bK,partOf,aa,ae,ab,bh,hl,hl0,hlp,uCl,uPt,g,x1,x2,aU,aPt,sPt,aV]
  ·have hne2:((e:Int) != 0)=true:=by rw[hne,decide_eq_false h];rfl
   simp[Tryz.f81,e1,e2,af,aH,an,ao,aG,ag,ai,aO,aj,ak,aC,az,FP.none,aY,au,bf,av,bK,aa,ae,ab,bh,hl,hl0,uCl,g,hne2,h,aV]
noncomputable def LR3:Lst:=(22,HJ)::LR2
theorem ad3:dM base.P LR3:=⟨yC,Vp⟩
theorem N0:Ab.Spec base.P 81 U3:=Ab.Spec.bN (C:=CC LR3) (cU ad3) fun args rs h=>by
 obtain⟨c,hF,rfl,rfl⟩:=db h
 obtain⟨st,x1,x2⟩:=Z7 LR3 (runK (CC LR3) 1) 1 c (aaR rfl _ c hF)
 exact⟨2,_,_,_,_,_,aQ Ix rfl x1 x2,rfl,Wk.refl rfl,trivial⟩
theorem aem {L:Lst}(hL:bu L 81=fun a=>U3 (aJ a))(run:aq)(c:List (List ByteArray))(hF:Fit c):ar L run 81 [cE c] (iv (kD c)) :=
 iw Pm (e:=fun c=>[cE c]) (f:=fun c=>[iv (kD c)]) hL (fun x y _ _ h=>by rw[tY h]) run c hF (pj · c) (nS c)
def eT (V:List Rat):List PV:=[dh true V]
theorem afu:El 1 eT where
 len:=fun _=>rfl
 okc:=fun _=>rfl
 idf:=fun _=>rfl
 sn:=fun _ _ _=>rfl
def mT (M:List (List Rat)):PV:=.imm M.length false (M.flatMap eT)
def qC (X:List (List Rat)):PV:=cE (X.map fun P=>P.map qb)
def aN (l:List Nat):PV:=aE (l.map Int.ofNat)
def fq (X:List (List Rat))(l:List Nat):List (List Rat):=l.tail.map fun i=>eu (X.getD i []) (X.getD (l.headD 0) [])
theorem Ip:base.F.get 51=some Tryz.f51:=by kernel_rfl
theorem O9:base.shared 51=false:=by kernel_rfl
theorem ur:und TT 80=some (.slice 84):=by kernel_rfl
theorem afF:gh TT 84=some 24:=by kernel_rfl
theorem aaT:dV TT 84=some [.sc (.slice none 0 0)]:=by kernel_rfl
noncomputable def dfC:Code:=Tryz.f51.body.getD .skip
noncomputable def dfB:Code:=(aF dfC).getD .skip
def DfF (fr:List PV)(X:List (List Rat))(l:List Nat)(V:List Rat)(i:Nat):Prop:=fr.length=35∧nth fr 0=qC X∧nth fr 5=dh true V∧nth fr 17=aN l∧nth fr 18=iv l.length∧nth fr 19=iv i
theorem adx (L:Lst)(run:aq)(k:Nat)(fr:List PV)(hp:List Blk)(wr:List Nat)(X:List (List Rat))(l:List Nat)(V:List Rat)(h:DfF fr X l V l.length) :
  ∃ fr',af (CC L) run k dfB ⟨fr,hp,wr⟩=some (.exit 0,⟨fr',hp,wr⟩)∧fr'.length=35∧nth fr' 6=nth fr 6:=by
 obtain⟨h0,h1,h5,h17,h18,h19⟩:=h
 simp only[iv] at h18 h19
 simp[dfB,dfC,Tryz.f51,aF,af,aH,an,ao,aG,ag,ai,aj,ak,aC,az,FP.none,aY,au,bf,aa,ae,ab,h0,h18,h19]
theorem aaG (v:PV)(hv:v.cells?=some [v]):eY TT 80 1 [(0,v)]=some (1,[v]):=by
 simp[eY,ur,PA,aaT,rep,dn,hv,bX]
theorem af4 (hp:List Blk)(v:PV):fi hp 1 (.imm 1 true [v])=some (1,[v],[]):=by simp[fi]
theorem Uf (L:Lst)(run:aq)(k:Nat)(fr:List PV)(hp:List Blk)(wr:List Nat)(X:List (List Rat))(l:List Nat)(V:List Rat)(i:Nat)(out:List (List Rat))(hi:i<l.length)(h9:l.length≤1000)(ho9:out.length≤1000)(hX:l[i]<X.length)(g1:ar L run 59 [qL X[l[i]]] (dh true X[l[i]]))(g2:ar L run 60 [dh true X[l[i]],dh true V] (dh true (eu X[l[i]] V)))(hO:hZ 1 eT 0 hp out (nth fr 6))(h:DfF fr X l V i) :
  ∃ fr' hp' wr',af (CC L) run k dfB ⟨fr,hp,wr⟩=some (.normal,⟨fr',hp',wr'⟩)∧DfF fr' X l V (i+1)∧hZ 1 eT 0 hp' (out++[eu X[l[i]] V]) (nth fr' 6):=by
 obtain⟨h0,h1,h5,h17,h18,h19⟩:=h
 have hi':i<(l.map Int.ofNat).length:=by simpa using hi
 obtain⟨r,x1,x2⟩:=JB (l.map Int.ofNat) i hi'
 have hX':l[i]<(X.map fun P=>P.map qb).length:=by simpa using hX
 obtain⟨r',y1,y2⟩:=iu uCl (X.map fun P=>P.map qb) l[i] hX'
 have e1:pE (X.map fun P=>P.map qb)[l[i]]=qL X[l[i]]:=by rw[List.getElem_map];rfl
 rw[e1] at y2
 rw[List.getElem_map] at x2
 rw[show aE (l.map Int.ofNat)=aN l from rfl] at x1
 rw[show cE (X.map fun P=>P.map qb)=qC X from rfl] at y1
 obtain⟨p',hp',fp,a1,a2,-⟩:=hO.app afu [eu X[l[i]] V] (by simp) (by simp;omega)
 have hw:=bJ i (by omega)
 have hlv:=aaG (dh true (eu X[l[i]] V)) rfl
 have hrd:=fun hp=>af4 hp (dh true (eu X[l[i]] V))
 have e2:[eu X[l[i]] V].flatMap eT=[dh true (eu X[l[i]] V)]:=rfl
 rw[e2] at a1
 unfold ar at g1 g2
 have hid:(dh true (eu X[l[i]] V)).cC=true:=rfl
 have hok:=G4 true (eu X[l[i]] V)
 generalize dh true (eu X[l[i]] V)=v at *
 generalize eu X[l[i]] V=W at *
 generalize dh true X[l[i]]=u at *
 generalize qL X[l[i]]=q at *
 generalize l[i]=j at *
 rw[show Int.ofNat j=(j:Int) from rfl] at x2
 rw[show [W].length=1 from rfl] at a1
 simp only[iv] at h18 h19
 simp[DfF,iv,dfB,dfC,Tryz.f51,aF,af,aH,an,ao,aG,ag,ai,aO,aj,ak,aC,az,FP.none,aY,au,bf,av,partOf,aa,ae,ab,bh,and_assoc,bc,h0,h1,h5,h17,h18,h19,hi,x1,x2,y1,y2,g1,g2,hlv,hrd,hid,hok,hw,aI,sI,aPt,sPt,aU,bM,ur,PA,afF,aaT,bZ,a1,a2]
end Go.Proofs.YtjdmodeenbdfpaaGreat
