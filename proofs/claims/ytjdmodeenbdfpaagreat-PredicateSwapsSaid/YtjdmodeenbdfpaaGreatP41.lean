/- Contracts of fractions, clouds and predicates, part 41 of the proof; each lemma states its own conditions. -/
import Derived.Test.YtjdmodeenbdfpaaGreatP40
set_option linter.unusedSimpArgs false
set_option linter.unusedVariables false
namespace Go.Proofs.YtjdmodeenbdfpaaGreat
open Go Go.Ab
theorem NL:base.F.get 61=some Tryz.f61:=by kernel_rfl
theorem VK:base.shared 61=false:=by kernel_rfl
noncomputable def pdC:Code:=Tryz.f61.body.getD .skip
noncomputable def pdB:Code:=(aF pdC).getD .skip
def Tk (X Y:List Rat):Nat→Rat
 | 0=>0
 | i+1=>Tk X Y i+X.getD i 0*Y.getD i 0
def dot (X Y:List Rat):Rat:=Tk X Y X.length
theorem AW {k:Nat}{X Y:List Rat}(hX:RbL k X)(hY:RbL k Y)(hl:X.length=Y.length):∀ i,i≤X.length→Rb (i*(2*k+1)+1) (Tk X Y i)
 | 0,_=>Rb.zero _
 | i+1,h=>by
  have h1:=AW hX hY hl i (by omega)
  have hx:Rb k (X.getD i 0):=by
   rw[List.getD_eq_getElem?_getD,List.getElem?_eq_getElem (by omega)];exact hX _ (List.getElem_mem _)
  have hy:Rb k (Y.getD i 0):=by
   rw[List.getD_eq_getElem?_getD,List.getElem?_eq_getElem (by omega)];exact hY _ (List.getElem_mem _)
  have e:(i+1)*(2*k+1)=i*(2*k+1)+(2*k+1):=Nat.succ_mul i _
  exact (h1.add (hx.mul hy)).mono (by rw[e];omega)
def H4 (fr:List PV)(X Y:List Rat)(i:Nat):Prop:=fr.length=25∧nth fr 1=vR Y∧nth fr 4 = .ptr 0 0∧nth fr 5 = .ptr 1 0∧nth fr 8=vR X∧nth fr 9=iv X.length∧nth fr 10=iv i
theorem abf (L:Lst)(run:aq)(k:Nat)(fr:List PV)(hp:List Blk)(wr:List Nat)(X Y:List Rat)(h:H4 fr X Y X.length) :
  ∃ fr',af (CC L) run k pdB ⟨fr,hp,wr⟩=some (.exit 0,⟨fr',hp,wr⟩)∧fr'.length=25∧nth fr' 4 = .ptr 0 0∧nth fr' 5 = .ptr 1 0:=by
 obtain⟨h0,h1,h4,h5,h8,h9,h10⟩:=h
 simp only[iv] at h9 h10
 simp[pdB,pdC,Tryz.f61,aF,af,aH,an,ao,aG,ag,ai,aj,ak,aC,az,FP.none,bc,ar,bd,aa,ae,ab,h0,h4,h5,h9,h10]
noncomputable def adR:Code:=cu (blk (seq1 (cu (cu pdB))))
theorem ae2:((Region.before (ie adR))[8]?.getD 0).testBit 0=true:=by kernel_rfl
set_option maxHeartbeats 1000000 in
theorem WU (L:Lst)(run:aq)(k:Nat)(fr:List PV)(hp:List Blk)(wr:List Nat)(X Y:List Rat)(i:Nat)(sc p1 p2:List PV)(z:Blk)(hi:i<X.length)(hy:i<Y.length)(h9':X.length≤1000)(hsl:sc.length=4)(hpl:p2.length=4)(hpo:aX p2=true)(g1:av L run 56 [.agg (rcs X[i]),.agg (rcs Y[i])] (.agg p1))(g2:av L run 87 [.agg sc,.agg p1] (.agg p2))(h:H4 fr X Y i)(hz:aV hp 0=some z)(hb:aV hp 1=some ⟨.live,sc⟩)(hn:1<hp.length) :
  ∃ fr' hp' wr',af (CC L) run k pdB ⟨fr,hp,wr⟩=some (.normal,⟨fr',hp',wr'⟩)∧H4 fr' X Y (i+1)∧aV hp' 0=some z∧aV hp' 1=some ⟨.live,p2⟩∧1<hp'.length:=by
 obtain⟨h0,h1,h4,h5,h8,h9,h10⟩:=h
 obtain⟨r,x1,x2⟩:=vY false X i hi
 obtain⟨r',y1,y2⟩:=vY false Y i hy
 have hw:=bF i (by omega)
 have hx:=al1 hp rz
 have hx1:=dZ rz (rcs X[i]) (by rw[cM.len];rfl)
 have hx2:=al2 hp rz ⟨.live,rcs X[i]⟩
 have hx3:=(al3 hp rz ⟨.live,rcs X[i]⟩ 1 hn).trans hb
 have hx3':=(al3 hp rz ⟨.live,rcs X[i]⟩ 0 (by omega)).trans hz
 have hx4:=dY (rcs X[i]) (cM.len _)
 have hx4':=dY sc hsl
 have ho:=dZ sc p2 (by rw[hsl,hpl])
 have hx5:aV (bP (bP (aM hp rz) hp.length ⟨.live,rcs X[i]⟩) 1 ⟨.live,p2⟩) 1=some ⟨.live,p2⟩:=by rw[cD hx3,if_pos rfl]
 have hx5':aV (bP (bP (aM hp rz) hp.length ⟨.live,rcs X[i]⟩) 1 ⟨.live,p2⟩) 0=some z:=by rw[cD hx3,if_neg (by omega),hx3']
 have hx6:1<(bP (bP (aM hp rz) hp.length ⟨.live,rcs X[i]⟩) 1 ⟨.live,p2⟩).length:=by rw[bz,al4];omega
 have hokx:=cM.okc X[i]
 have hlx:=cM.len X[i]
 have hn0:hp.length≠1:=by omega
 have hn1:(1=hp.length)=False:=by simp;omega
 unfold av at g1 g2
 generalize rcs X[i]=cx at *
 generalize rcs Y[i]=cy at *
 simp only[iv] at h9 h10
 have hv1:dc false X=vR X:=rfl
 have hv2:dc false Y=vR Y:=rfl
 rw[hv1] at x1
 rw[hv2] at y1
 have zR':=zRz
 have hbit:=ae2
 simp[-Nat.testBit_zero,adR,pdB,pdC,Tryz.f61,aF,cu,seq1,blk,ie] at hbit
 simp[-Nat.testBit_zero,hbit,H4,iv,pdB,pdC,Tryz.f61,aF,af,aH,an,ao,aG,ag,ai,aP,aj,ak,aC,az,FP.none,bc,ar,bd,au,partOf,aa,ae,ab,bf,and_assoc,bg,h0,h1,h4,h5,h8,h9,h10,hi,x1,x2,y1,y2,g1,g2,ho,hx,hx1,hx2,hx3,hx4,hx4',hx5,hx5',hx6,hokx,hlx,hpo,hpl,hn1,hw,aU,aR,sR,zR',bn,number,FP.free,cB,FP.apart]
theorem IU (L:Lst)(run:aq)(k:Nat)(X Y:List Rat)(z:Blk)(h9:X.length≤10)(hXY:X.length=Y.length){k0:Nat}(hk0:k0≤10000)(hX:RbL k0 X)(hY:RbL k0 Y)(gm:bt L 56=fun a=>me (aJ a))(ga:bt L 87=fun a=>iH (aJ a)):∀ (n i:Nat) (fr:List PV) (hp:List Blk) (wr:List Nat) (sc:List PV) (u:Option Rat),i+n=X.length→H4 fr X Y i→aV hp 0=some z→aV hp 1=some ⟨.live,sc⟩→1<hp.length→Rc sc u→vv u=Tk X Y i→(i≠0→u≠none) →
  ∃ fr' hp' wr' sc' u',bX (af (CC L) run k pdB) (n+1) ⟨fr,hp,wr⟩=some (.exit 0,⟨fr',hp',wr'⟩)∧fr'.length=25∧nth fr' 4 = .ptr 0 0∧nth fr' 5 = .ptr 1 0∧aV hp' 0=some z∧aV hp' 1=some ⟨.live,sc'⟩∧1<hp'.length∧Rc sc' u'∧vv u'=dot X Y∧(X.length≠0→u'≠none)
 | 0,i,fr,hp,wr,sc,u,hin,h,hz,hb,hn,hc,hu,hu2=>by
  have e:i=X.length:=by omega
  subst e
  obtain⟨fr',q1,q2,q3,q4⟩:=abf L run k fr hp wr X Y h
  exact⟨fr',hp,wr,sc,u,bw q1,q2,q3,q4,hz,hb,hn,hc,hu,hu2⟩
 | n+1,i,fr,hp,wr,sc,u,hin,h,hz,hb,hn,hc,hu,hu2=>by
  have hi:i<X.length:=by omega
  have hy:i<Y.length:=by omega
  have hbx:=hX _ (List.getElem_mem hi)
  have hby:=hY _ (List.getElem_mem hy)
  have hbs:=AW hX hY hXY i (by omega)
  have hi9:i*(2*k0+1)≤10*20001:=Nat.mul_le_mul (by omega) (by omega)
  have g1:=UF gm run (p:=.agg (rcs X[i])) (q:=.agg (rcs Y[i])) (u:=some X[i]) (v:=some Y[i]) (.inl rfl) (.inl rfl) hbx hby (by omega)
  have g2:=UG ga run (p:=.agg sc) (q:=rv (some (X[i]*Y[i]))) (u:=u) (v:=some (X[i]*Y[i])) hc.p (.inl rfl) (by rw[hu];exact hbs) (hbx.mul hby) (by omega)
  obtain⟨fr1,hp1,wr1,q1,q2,q3,q4,q5⟩:=WU L run k fr hp wr X Y i sc _ (rcs (vv u+X[i]*Y[i])) z hi hy (by omega) hc.len (cM.len _) (cM.okc _) g1 g2 h hz hb hn
  obtain⟨fr',hp',wr',sc',u',s1,s2⟩:=IU L run k X Y z h9 hXY hk0 hX hY gm ga n (i+1) fr1 hp1 wr1 (rcs (vv u+X[i]*Y[i])) (some (vv u+X[i]*Y[i])) (by omega) q2 q3 q4 q5 (.inl rfl) (by
   show vv u+X[i]*Y[i]=Tk X Y i+X.getD i 0*Y.getD i 0
   rw[hu,List.getD_eq_getElem?_getD,List.getD_eq_getElem?_getD,List.getElem?_eq_getElem hi,List.getElem?_eq_getElem hy]
   rfl) (fun _=>nofun)
  exact⟨fr',hp',wr',sc',u',by rw[bV q1];exact s1,s2⟩
noncomputable def WV:Code:=seq1 (seq1 (ah 2 pdC))
theorem abd:ah 2 pdC = .seq (.seq WV (.block 0 (.loop pdB))) (ah 3 pdC):=rfl
theorem abe (L:Lst)(run:aq)(k:Nat)(X Y:List Rat) :
  ∃ fr fr' wr,aY (CC L) run k 2 pdC ⟨entry 25 [vR X,vR Y],[],[]⟩=some ⟨fr,[⟨.live,rz⟩,⟨.live,rz⟩],wr⟩∧af (CC L) run k WV ⟨fr,[⟨.live,rz⟩,⟨.live,rz⟩],wr⟩=some (.normal,⟨fr',[⟨.live,rz⟩,⟨.live,rz⟩],wr⟩)∧H4 fr' X Y 0:=by
 obtain⟨e1,e2,e3⟩:=cA 23 (vR X) (vR Y)
 generalize entry 25 [vR X,vR Y]=fr0 at *
 have hl:eM (vR X)=some X.length:=rfl
 obtain⟨fr,wr,a1,a2,a3,a4,a5,a6⟩:∃ fr wr,aY (CC L) run k 2 pdC ⟨fr0,[],[]⟩=some ⟨fr,[⟨.live,rz⟩,⟨.live,rz⟩],wr⟩∧fr.length=25∧nth fr 0=vR X∧nth fr 1=vR Y∧nth fr 4 = .ptr 0 0∧nth fr 5 = .ptr 1 0:=by
  simp[pdC,Tryz.f61,aY,e1,e2,e3,af,aH,an,ao,aG,ag,ai,aj,aC,az,aa,ae,ab,bf,and_assoc,zRz,aM]
 refine⟨fr,?_⟩
 simp only[a1]
 simp[H4,iv,WV,seq1,ah,pdC,Tryz.f61,a2,a3,a4,a5,a6,af,aH,an,ao,aG,ag,ai,aj,ak,aC,az,FP.none,au,bH,aa,ae,ab,bf,xi,hl]
theorem WT (L:Lst)(run:aq)(k:Nat)(fr:List PV)(hp:List Blk)(wr:List Nat)(z sc:List PV)(hsl:sc.length=4)(hso:aX sc=true)(hzl:z.length=4)(h0:fr.length=25)(h4:nth fr 4 = .ptr 0 0)(h5:nth fr 5 = .ptr 1 0)(hz:aV hp 0=some ⟨.live,z⟩)(hb:aV hp 1=some ⟨.live,sc⟩)(hn:1<hp.length) :
  ∃ st,af (CC L) run k (ah 3 pdC) ⟨fr,hp,wr⟩=some (.ret,st)∧aZ TT st.fr st.hp Tryz.f61.results.toList=some [.agg sc]:=by
 have ho:=dZ z sc (by omega)
 have ht:=dY sc hsl
 have h6:aV (bP hp 0 ⟨.live,sc⟩) 0=some ⟨.live,sc⟩:=by rw[cD hz,if_pos rfl]
 simp[pdC,ah,Tryz.f61,h0,h4,h5,af,aH,an,ao,aG,ag,ai,aj,ak,aC,az,partOf,aa,ae,bf,bg,hz,hb,ho,ht,hso,hsl,h6,aR,sR,aU,bn,aZ]
noncomputable def IT:List PV→Option (List PV):=ctr (fun p:VV=>[vR p.1,vR p.2]) (fun p=>RbL 10000 p.1∧RbL 10000 p.2∧p.1.length=p.2.length∧p.1.length≤10∧p.1.length≠0) fun p=>[rv (some (dot p.1 p.2))]
theorem Rc.okc {cs:List PV}{u:Option Rat}(h:Rc cs u):aX cs=true:=by
 rcases h with rfl | ⟨rfl,rfl⟩
 ·exact nW.okc u
 ·rfl
theorem yJ:Ab.Spec base.P 61 IT:=Ab.Spec.bL (C:=CC LR1) (cU xc) fun args rs h=>by
 obtain⟨⟨X,Y⟩,⟨hX,hY,hl,h9,hne⟩,rfl,rfl⟩:=dj h
 dsimp only at hX hY hl h9 hne
 obtain⟨fr,fr1,wr,a1,a2,a3⟩:=abe LR1 (runK (CC LR1) (X.length+1)) (X.length+1) X Y
 obtain⟨fr2,hp2,wr2,sc,u,b1,b2,b3,b4,b5,b6,b7,b8,b9,b10⟩:=IU LR1 (runK (CC LR1) (X.length+1)) (X.length+1) X Y ⟨.live,rz⟩ h9 hl (Nat.le_refl 10000) hX hY rfl rfl X.length 0 fr1 [⟨.live,rz⟩,⟨.live,rz⟩] wr rz none (by omega) a3 (by simp[aV]) (by simp[aV]) (by simp) (.inr ⟨rfl,rfl⟩) rfl (fun h=>absurd rfl h)
 have hL:af (CC LR1) (runK (CC LR1) (X.length+1)) (X.length+1) (.seq WV (.block 0 (.loop pdB))) ⟨fr,[⟨.live,rz⟩,⟨.live,rz⟩],wr⟩=some (.normal,⟨fr2,hp2,wr2⟩):=by
  rw[aw a2];exact bE b1
 obtain⟨st,c1,c3⟩:=WT LR1 (runK (CC LR1) (X.length+1)) (X.length+1) fr2 hp2 wr2 rz sc b8.len b8.okc rfl b2 b3 b4 b5 b6 b7
 have hx:af (CC LR1) (runK (CC LR1) (X.length+1)) (X.length+1) pdC ⟨entry 25 [vR X,vR Y],[],[]⟩=some (.ret,st):=by
  rw[aO 2 a1,abd,aw hL,c1]
 have hu:u=some (dot X Y):=by
  cases u with
  | none=>exact absurd rfl (b10 hne)
  | some y=>exact congrArg some b9
 subst hu
 exact⟨_,_,_,_,[.agg sc],[],aQ NL rfl hx c3,b8.p.Ir _,b8.p.wk,trivial⟩
theorem adg {L:Lst}(hL:bt L 61=fun a=>IT (aJ a))(run:aq)(x y:Bool)(X Y:List Rat){j k:Nat}(hX:RbL j X)(hY:RbL k Y)(hj:j≤10000)(hk:k≤10000)(hl:X.length=Y.length)(h9:X.length≤10)(hne:X.length≠0):av L run 61 [dc x X,dc y Y] (rv (some (dot X Y))):=fun dr hp =>
 jI VK hL run dr hp _ [vR X,vR Y] [rv (some (dot X Y))] rfl (wQ x y X Y) (mK (x:=(X,Y)) (fun p q hp hq h=>by
  simp only[List.cons.injEq,and_true] at h
  rw[tW hp.1 hq.1 (by omega) h.1,tW hp.2.1 hq.2.1 (by omega) h.2]) ⟨fun x hx=>(hX x hx).mono hj,fun x hx=>(hY x hx).mono hk,hl,h9,hne⟩)
def ei (z:Int):List PV:=[.sc (.int .i64 z)]
theorem aco:Ec 1 ei where
 len:=fun _=>rfl
 okc:=fun _=>rfl
 can:=fun _=>rfl
 idf:=fun _=>rfl
 sn:=fun _ _ _=>rfl
def aE (at':List Int):PV:=gB ei at'
theorem nP:und TT 24=some (.slice 3):=by kernel_rfl
theorem GZ (l:List Int):eM (aE l)=some l.length:=rfl
theorem wS (l:List Int):canon (aE l)=aE l:=aco.Ho l
theorem Ja (l:List Int)(i:Nat)(hi:i<l.length):∃ r,ba TT 24 (aE l) (.sc (.int .i64 (i:Int)))=some (.iptr r)∧r.head?=some (.sc (.int .i64 l[i])):=by
 have h:=pK aco.toEl l i hi
 refine⟨bn (l.flatMap ei) (i*1),?_,by rw[h];rfl⟩
 unfold aE gB
 simp only[ba,nP,bj,sI,hi,if_true]
theorem HE:∀ {p q:List Int},aE p=aE q→p=q:=by
 intro p q h
 unfold aE gB at h
 simp only[PV.imm.injEq,true_and] at h
 have:∀ (p q:List Int),p.flatMap ei=q.flatMap ei→p=q:=by
  intro p
  induction p with
  | nil=>intro q h;cases q with
   | nil=>rfl
   | cons a q=>simp[ei] at h
  | cons a p ih=>intro q h;cases q with
   | nil=>simp[ei] at h
   | cons b q =>
    simp only[List.flatMap_cons,ei,List.cons_append,List.nil_append,List.cons.injEq,PV.sc.injEq,Value.int.injEq,true_and] at h
    rw[h.1,ih q h.2]
 exact this p q h.2
theorem xS:∀ hp:List Blk,oV hp.length hp=hp
 | []=>rfl
 | a::l=>by rw[List.length_cons,oV,xS l]
theorem z7 {L:Lst}{run:aq}{g:Nat}{args:List PV}{r:PV}{hp:List Blk}(hs:base.shared g=true)(hr:run g args hp=some ([r],hp,[]))(hi:r.ct=true)(dr:Bool):bU (CC L) run dr hp g args=some (r,hp,⟨[],[],true,true⟩):=by
 have hs':(CC L).shared g=true:=hs
 unfold bU
 rw[if_pos hs',hr]
 simp only[bK,hi,jk,fG,Bool.and_self,cond_true,gr,xS]
theorem HW:base.F.get 103=some Tryz.f103:=by kernel_rfl
theorem OI:base.shared 103=true:=by kernel_rfl
theorem xh:base.F.get 148=some Tryz.f148:=by kernel_rfl
theorem OP:base.shared 148=true:=by kernel_rfl
theorem H2:base.F.get 102=some Tryz.f102:=by kernel_rfl
theorem OU:base.shared 102=true:=by kernel_rfl
theorem rE:base.F.get 50=some Tryz.f50:=by kernel_rfl
theorem VM:base.shared 50=false:=by kernel_rfl
theorem adG (L:Lst)(g:Nat):(CC L).sorc g=none:=rfl
theorem nL {L:Lst}{k:Nat}{g:FuncId}{args:List PV}{hp:List Blk}{fn:Func}{c:Code}{st:St}{rs:List PV}(hF:base.F.get g=some fn)(hb:fn.body=some c)(hx:af (CC L) (runK (CC L) k) k c ⟨entry fn.ntmps args,hp,[]⟩=some (.ret,st))(hr:aZ TT st.fr st.hp fn.results.toList=some rs):runK (CC L) (k+1) g args hp=some (rs,st.hp,st.wr):=by
 have h1:(CC L).F g=some fn:=hF
 simp only[runK,adG,mP,h1,hb,hx]
 rw[bf,hr]
def A6 (m:Nat)(z:Int):Bool:=decide (z<0) || decide ((m:Int)≤z)
theorem Nf (L:Lst)(run:aq)(k:Nat)(c:List (List ByteArray))(hp:List Blk)(z:Int)(hb:aV hp 0=some ⟨.live,[cE c]⟩) :
  ∃ st,af (CC L) run k (Tryz.f103.body.getD .skip) ⟨entry 12 [.sc (.int .i64 z),.ptr 0 0],hp,[]⟩=some (.ret,st)∧st.hp=hp∧st.wr=[]∧aZ TT st.fr st.hp Tryz.f103.results.toList=some [.sc (.bool (A6 c.length z))]:=by
 obtain⟨e1,e2,e3⟩:=cA 10 (.sc (.int .i64 z)) (.ptr 0 0)
 generalize entry 12 [.sc (.int .i64 z),.ptr 0 0]=fr0 at *
 have hl:=gx c
 unfold A6
 by_cases h:z<0
 ·simp[Tryz.f103,e1,e2,af,aH,an,ao,aG,ag,ai,aj,ak,aC,az,FP.none,bc,ar,bd,au,aa,ae,ab,h,aZ,undef]
 ·by_cases h2:(c.length:Int)≤z
  ·simp[Tryz.f103,e1,e2,e3,af,aH,an,ao,aG,ag,ai,aj,ak,aC,az,FP.none,bc,ar,bd,au,bH,partOf,aa,ae,ab,bf,h,h2,hb,hl,uCl,aCl,sCl,aU,bn,aZ]
  ·simp[Tryz.f103,e1,e2,e3,af,aH,an,ao,aG,ag,ai,aj,ak,aC,az,FP.none,bc,ar,bd,au,bH,partOf,aa,ae,ab,bf,h,h2,hb,hl,uCl,aCl,sCl,aU,bn,aZ]
theorem TY (L:Lst)(k:Nat)(c:List (List ByteArray))(hp:List Blk)(z:Int)(hb:aV hp 0=some ⟨.live,[cE c]⟩):runK (CC L) (k+1) 103 [.sc (.int .i64 z),.ptr 0 0] hp=some ([.sc (.bool (A6 c.length z))],hp,[]):=by
 obtain⟨st,x1,x2,x3,x4⟩:=Nf L (runK (CC L) k) k c hp z hb
 have:=nL HW rfl x1 x4
 rw[x2,x3] at this
 exact this
noncomputable def ifC:Code:=Tryz.f148.body.getD .skip
noncomputable def ifB:Code:=(aF ifC).getD .skip
def IfF (fr:List PV)(l:List Int)(f:PV)(i:Nat):Prop:=fr.length=19∧nth fr 0=aE l∧nth fr 1=f∧nth fr 7=iv l.length∧nth fr 8=iv i
theorem abU (L:Lst)(run:aq)(k:Nat)(fr:List PV)(hp:List Blk)(l:List Int)(f:PV)(h:IfF fr l f l.length) :
  ∃ fr',af (CC L) run k ifB ⟨fr,hp,[]⟩=some (.exit 0,⟨fr',hp,[]⟩)∧fr'.length=19:=by
 obtain⟨h0,h1,h2,h7,h8⟩:=h
 simp only[iv] at h7 h8
 simp[ifB,ifC,Tryz.f148,aF,af,aH,an,ao,aG,ag,ai,aj,ak,aC,az,FP.none,bc,ar,bd,aa,ab,h0,h7,h8]
theorem SH (L:Lst)(run:aq)(k:Nat)(fr:List PV)(hp:List Blk)(l:List Int)(g:Nat)(caps:List PV)(i:Nat)(v:Bool)(hi:i<l.length)(h9:l.length<1000000)(hc:∀ dr,bU (CC L) run dr hp g ([.sc (.int .i64 l[i])]++caps)=some (.sc (.bool v),hp,⟨[],[],true,true⟩))(h:IfF fr l (.clos g caps) i) :
  ∃ fr',af (CC L) run k ifB ⟨fr,hp,[]⟩=some (bif v then .ret else .normal,⟨fr',hp,[]⟩)∧(v=true→nth fr' 4=iv i)∧(v=false→IfF fr' l (.clos g caps) (i+1)):=by
 obtain⟨h0,h1,h2,h7,h8⟩:=h
 obtain⟨r,x1,x2⟩:=Ja l i hi
 have hw:=bF i (by omega)
 generalize l[i]=z at *
 simp only[iv] at h7 h8
 simp only[List.cons_append,List.nil_append] at hc
 cases v <;> simp[IfF,iv,ifB,ifC,Tryz.f148,aF,af,aH,an,ao,aG,ag,ai,aP,aj,ak,aC,az,FP.none,bc,ar,bd,au,partOf,aa,ae,ab,bf,h0,h1,h2,h7,h8,hi,x1,x2,hc,hw,aI,sI,aU]
theorem Jc (L:Lst)(run:aq)(k:Nat)(hp:List Blk)(l:List Int)(g:Nat)(caps:List PV)(b:Int→Bool)(h9:l.length<1000000)(hc:∀ z ∈ l,∀ dr,bU (CC L) run dr hp g ([.sc (.int .i64 z)]++caps)=some (.sc (.bool (b z)),hp,⟨[],[],true,true⟩)):∀ (n i:Nat) (fr:List PV),i+n=l.length→IfF fr l (.clos g caps) i →
  (∃ fr',(l.drop i).any b=false∧bX (af (CC L) run k ifB) (n+1) ⟨fr,hp,[]⟩=some (.exit 0,⟨fr',hp,[]⟩)∧fr'.length=19)∨∃ fr' j,(l.drop i).any b=true∧bX (af (CC L) run k ifB) (n+1) ⟨fr,hp,[]⟩=some (.ret,⟨fr',hp,[]⟩)∧nth fr' 4=iv j
 | 0,i,fr,hin,h=>by
  have e:i=l.length:=by omega
  subst e
  obtain⟨fr',q1,q2⟩:=abU L run k fr hp l _ h
  rw[List.drop_length]
  exact .inl ⟨fr',rfl,bw q1,q2⟩
 | n+1,i,fr,hin,h=>by
  have hi:i<l.length:=by omega
  obtain⟨fr1,q1,q2,q3⟩:=SH L run k fr hp l g caps i _ hi h9 (hc _ (List.getElem_mem hi)) h
  rw[List.drop_eq_getElem_cons hi,List.any_cons]
  cases hv:b l[i] with
  | true =>
   rw[hv] at q1 q2
   exact .inr ⟨fr1,i,rfl,eN q1,q2 rfl⟩
  | false =>
   rw[hv] at q1 q3
   rw[Bool.false_or,bV q1]
   exact Jc L run k hp l g caps b h9 hc n (i+1) fr1 (by omega) (q3 rfl)
noncomputable def SI:Code:=seq1 (seq1 (ah 1 ifC))
theorem SG:ah 1 ifC = .seq (.seq SI (.block 0 (.loop ifB))) (ah 2 ifC):=rfl
theorem abT (L:Lst)(run:aq)(k:Nat)(l:List Int)(f:PV)(hp:List Blk):∃ fr fr',aY (CC L) run k 1 ifC ⟨entry 19 [aE l,f],hp,[]⟩=some ⟨fr,hp,[]⟩∧af (CC L) run k SI ⟨fr,hp,[]⟩=some (.normal,⟨fr',hp,[]⟩)∧IfF fr' l f 0:=by
 obtain⟨e1,e2,e3⟩:=cA 17 (aE l) f
 generalize entry 19 [aE l,f]=fr0 at *
 have hl:=GZ l
 obtain⟨fr,a1,a2,a3,a4⟩:∃ fr,aY (CC L) run k 1 ifC ⟨fr0,hp,[]⟩=some ⟨fr,hp,[]⟩∧fr.length=19∧nth fr 0=aE l∧nth fr 1=f:=by
  simp[ifC,Tryz.f148,aY,e1,e2,e3,af,aH,an,ao,aG,ag,ai,aj,ak,aC,az,FP.none,au,ae,ab]
 refine⟨fr,?_⟩
 rw[a1]
 simp[IfF,iv,SI,seq1,ah,ifC,Tryz.f148,a2,a3,a4,af,aH,an,ao,aG,ag,ai,aj,ak,aC,az,FP.none,au,bH,aa,ae,ab,bf,hl,nP]
theorem Ye (L:Lst)(run:aq)(k:Nat)(fr:List PV)(hp:List Blk)(h0:fr.length=19):∃ st,af (CC L) run k (ah 2 ifC) ⟨fr,hp,[]⟩=some (.ret,st)∧st.hp=hp∧st.wr=[]∧aZ TT st.fr st.hp Tryz.f148.results.toList=some [.sc (.int .i64 (-1))]:=by
 simp[ifC,ah,Tryz.f148,h0,af,aH,an,ao,aG,ag,ai,aj,ak,aC,az,FP.none,au,aa,aZ]
theorem abS (fr:List PV)(hp:List Blk)(n:Nat)(h:nth fr 4=iv n):aZ TT fr hp Tryz.f148.results.toList=some [iv n]:=by
 simp[Tryz.f148,aZ,h]
theorem abR (L:Lst)(k:Nat)(hp:List Blk)(l:List Int)(g:Nat)(caps:List PV)(b:Int→Bool)(hk:l.length<k)(h9:l.length<1000000)(hc:∀ z ∈ l,∀ dr,bU (CC L) (runK (CC L) k) dr hp g ([.sc (.int .i64 z)]++caps)=some (.sc (.bool (b z)),hp,⟨[],[],true,true⟩)) :
  ∃ r:Int,runK (CC L) (k+1) 148 [aE l,.clos g caps] hp=some ([.sc (.int .i64 r)],hp,[])∧decide (0≤r)=l.any b:=by
 obtain⟨fr,fr1,a1,a2,a3⟩:=abT L (runK (CC L) k) k l (.clos g caps) hp
 have hl:=Jc L (runK (CC L) k) k hp l g caps b h9 hc l.length 0 fr1 (by omega) a3
 rw[List.drop_zero] at hl
 rcases hl with ⟨fr2,h0,b1,b2⟩| ⟨fr2,j,h0,b1,b2⟩
 ·have:af (CC L) (runK (CC L) k) k (.seq SI (.block 0 (.loop ifB))) ⟨fr,hp,[]⟩=some (.normal,⟨fr2,hp,[]⟩):=by
   rw[aw a2];exact bE (bQ b1 (by omega))
  obtain⟨st,c1,c2,c3,c4⟩:=Ye L (runK (CC L) k) k fr2 hp b2
  have hx:af (CC L) (runK (CC L) k) k ifC ⟨entry 19 [aE l,.clos g caps],hp,[]⟩=some (.ret,st):=by
   rw[aO 1 a1,SG,aw this,c1]
  have:=nL xh rfl hx c4
  rw[c2,c3] at this
  exact⟨-1,this,by rw[h0];rfl⟩
 ·have:af (CC L) (runK (CC L) k) k (.seq SI (.block 0 (.loop ifB))) ⟨fr,hp,[]⟩=some (.ret,⟨fr2,hp,[]⟩):=by
   rw[aw a2];exact cW (bQ b1 (by omega))
  have hx:af (CC L) (runK (CC L) k) k ifC ⟨entry 19 [aE l,.clos g caps],hp,[]⟩=some (.ret,⟨fr2,hp,[]⟩):=by
   rw[aO 1 a1,SG,cg this]
  have:=nL xh rfl hx (abS fr2 hp j b2)
  exact⟨j,this,by rw[h0];simp⟩
theorem acJ (L:Lst)(k:Nat)(hp:List Blk)(l:List Int)(g:Nat)(caps:List PV)(b:Int→Bool)(hk:l.length<k)(h9:l.length<1000000)(hc:∀ z ∈ l,∀ dr,bU (CC L) (runK (CC L) k) dr hp g ([.sc (.int .i64 z)]++caps)=some (.sc (.bool (b z)),hp,⟨[],[],true,true⟩)) :
  runK (CC L) (k+2) 102 [aE l,.clos g caps] hp=some ([.sc (.bool (l.any b))],hp,[]):=by
 obtain⟨r,h1,h2⟩:=abR L k hp l g caps b hk h9 hc
 have hcall:=z7 (L:=L) OP h1 rfl
 obtain⟨e1,e2,e3⟩:=cA 7 (aE l) (.clos g caps)
 rw[← h2]
 have hx:∃ st,af (CC L) (runK (CC L) (k+1)) (k+1) (Tryz.f102.body.getD .skip) ⟨entry 9 [aE l,.clos g caps],hp,[]⟩=some (.ret,st)∧st.hp=hp∧st.wr=[]∧aZ TT st.fr st.hp Tryz.f102.results.toList=some [.sc (.bool (decide (0≤r)))]:=by
  generalize entry 9 [aE l,.clos g caps]=fr0 at *
  simp[Tryz.f102,e1,e2,e3,af,aH,an,ao,aG,ag,ai,aP,aj,ak,aC,az,FP.none,bc,ar,bd,au,aa,ae,ab,hcall,aZ]
 obtain⟨st,x1,x2,x3,x4⟩:=hx
 have:=nL H2 rfl x1 x4
 rw[x2,x3] at this
 exact this
noncomputable def oB (c:List (List ByteArray))(l:List Int)(n:Int):Nat:=if chk c≠0 then chk c else if 0≤n∧(l.length:Int)≠n then 10 else bif l.any (A6 c.length) then 4 else 0
noncomputable def LR2:Lst:=(80,Hm)::LR1
theorem UD:dK base.P LR2:=⟨TX,xc⟩
theorem wA (n:Nat)(p q r:PV):(entry (n+3) [p,q,r]).length=n+3∧nth (entry (n+3) [p,q,r]) 0=p∧nth (entry (n+3) [p,q,r]) 1=q∧nth (entry (n+3) [p,q,r]) 2=r:=⟨gh _ _ (by simp),rfl,rfl,rfl⟩
theorem ae5 (L:Lst)(run:aq)(k:Nat)(c:List (List ByteArray))(l:List Int)(n:Int)(e:Nat)(he:e≠0)(g:av L run 80 [cE c] (iv e)) :
  ∃ st,af (CC L) run k (Tryz.f50.body.getD .skip) ⟨entry 24 [cE c,aE l,.sc (.int .i64 n)],[],[]⟩=some (.ret,st)∧aZ TT st.fr st.hp Tryz.f50.results.toList=some [iv e]:=by
 obtain⟨e1,e2,e3,e4⟩:=wA 21 (cE c) (aE l) (.sc (.int .i64 n))
 generalize entry 24 [cE c,aE l,.sc (.int .i64 n)]=fr0 at *
 unfold av at g
 have hb:((e:Int) != 0)=true:=by simp;omega
 simp only[iv] at g ⊢
 simp[Tryz.f50,e1,e2,af,aH,an,ao,aG,ag,ai,aP,aj,ak,aC,az,FP.none,bc,ar,bd,au,partOf,aa,ae,ab,bf,pS,g,hb,aCl,sCl,aM,aV,aU,bn,aZ]
theorem ae4 (L:Lst)(run:aq)(k:Nat)(c:List (List ByteArray))(l:List Int)(n:Int)(hn:0≤n)(hl:(l.length:Int)≠n)(g:av L run 80 [cE c] (iv 0)) :
  ∃ st,af (CC L) run k (Tryz.f50.body.getD .skip) ⟨entry 24 [cE c,aE l,.sc (.int .i64 n)],[],[]⟩=some (.ret,st)∧aZ TT st.fr st.hp Tryz.f50.results.toList=some [iv 10]:=by
 obtain⟨e1,e2,e3,e4⟩:=wA 21 (cE c) (aE l) (.sc (.int .i64 n))
 generalize entry 24 [cE c,aE l,.sc (.int .i64 n)]=fr0 at *
 unfold av at g
 have hl1:=GZ l
 have hb:((l.length:Int) != n)=true:=by simp[hl]
 have hb2:((0:Int) != 0)=false:=rfl
 simp only[iv,Int.cast_ofNat_Int] at g ⊢
 simp[Tryz.f50,e1,e2,e3,e4,af,aH,an,ao,aG,ag,ai,aP,aj,ak,aC,az,FP.none,bc,ar,bd,au,bH,partOf,aa,ae,ab,bf,pS,g,hb,hl1,hn,aCl,sCl,nP,aM,aV,aU,bn,aZ]
theorem ae3 (L:Lst)(run:aq)(k:Nat)(c:List (List ByteArray))(l:List Int)(n:Int)(hn : ¬ (0≤n∧(l.length:Int)≠n))(v:Bool)(g:av L run 80 [cE c] (iv 0))(hc:bU (CC L) run false [⟨.live,[cE c]⟩] 102 [aE l,.clos 103 [.ptr 0 0]]=some (.sc (.bool v),[⟨.live,[cE c]⟩],⟨[],[],true,true⟩)) :
  ∃ st,af (CC L) run k (Tryz.f50.body.getD .skip) ⟨entry 24 [cE c,aE l,.sc (.int .i64 n)],[],[]⟩=some (.ret,st)∧aZ TT st.fr st.hp Tryz.f50.results.toList=some [iv (bif v then 4 else 0)]:=by
 obtain⟨e1,e2,e3,e4⟩:=wA 21 (cE c) (aE l) (.sc (.int .i64 n))
 generalize entry 24 [cE c,aE l,.sc (.int .i64 n)]=fr0 at *
 unfold av at g
 have hl1:=GZ l
 simp only[iv,Int.cast_ofNat_Int] at g ⊢
 by_cases h0:0≤n
 ·have hl:(l.length:Int)=n:=Classical.byContradiction fun e=>hn ⟨h0,e⟩
  have hb:((l.length:Int) != n)=false:=by simp[hl]
  cases v <;> simp[Tryz.f50,e1,e2,e3,e4,af,aH,an,ao,aG,ag,ai,aP,aj,ak,aC,az,FP.none,bc,ar,bd,au,bH,partOf,aa,ae,ab,bf,pS,g,hl,hl1,h0,hc,aCl,sCl,nP,aM,aV,aU,bn,aZ]
 ·cases v <;> simp[Tryz.f50,e1,e2,e3,e4,af,aH,an,ao,aG,ag,ai,aP,aj,ak,aC,az,FP.none,bc,ar,bd,au,partOf,aa,ae,ab,bf,pS,g,h0,hc,aCl,sCl,aM,aV,aU,bn,aZ,undef]
abbrev CL:=List (List ByteArray) × List Int × Int
def eCL (p:CL):List PV:=[cE p.1,aE p.2.1,.sc (.int .i64 p.2.2)]
theorem Jx {p q:CL}(h:eCL p=eCL q):p=q:=by
 simp only[eCL,List.cons.injEq,and_true,PV.sc.injEq,Value.int.injEq,true_and] at h
 exact Prod.ext (A5 h.1) (Prod.ext (HE h.2.1) h.2.2)
noncomputable def Q0:List PV→Option (List PV):=ctr eCL (fun p=>Fit p.1∧p.2.1.length≤1000) fun p=>[iv (oB p.1 p.2.1 p.2.2)]
theorem L0:Ab.Spec base.P 50 Q0:=Ab.Spec.bL (C:=CC LR2) (cU UD) fun args rs h=>by
 obtain⟨⟨c,l,n⟩,⟨hF,h9⟩,rfl,rfl⟩:=dj h
 dsimp only at hF h9
 have g:=Z8 (L:=LR2) rfl (runK (CC LR2) (l.length+4)) c hF
 show ∃ k rs1 hp1 wr rs2 ids,runK (CC LR2) k 50 [cE c,aE l,.sc (.int .i64 n)] []=_∧_∧WkL rs2 [iv (oB c l n)]
 unfold oB
 by_cases h1:chk c≠0
 ·rw[if_pos h1]
  obtain⟨st,x1,x2⟩:=ae5 LR2 (runK (CC LR2) (l.length+4)) (l.length+4) c l n (chk c) h1 g
  exact⟨_,_,_,_,_,_,aQ rE rfl x1 x2,rfl,Wk.refl rfl,trivial⟩
 ·rw[if_neg h1]
  have h2:chk c=0:=Classical.byContradiction h1
  rw[h2] at g
  by_cases h3:0≤n∧(l.length:Int)≠n
  ·rw[if_pos h3]
   obtain⟨st,x1,x2⟩:=ae4 LR2 (runK (CC LR2) (l.length+4)) (l.length+4) c l n h3.1 h3.2 g
   exact⟨_,_,_,_,_,_,aQ rE rfl x1 x2,rfl,Wk.refl rfl,trivial⟩
  ·rw[if_neg h3]
   have hr:=acJ LR2 (l.length+2) [⟨.live,[cE c]⟩] l 103 [.ptr 0 0] (A6 c.length) (by omega) (by omega) (fun z _ dr=>z7 OI (TY LR2 (l.length+1) c _ z rfl) rfl dr)
   have hc:=z7 (L:=LR2) OU hr rfl false
   obtain⟨st,x1,x2⟩:=ae3 LR2 (runK (CC LR2) (l.length+4)) (l.length+4) c l n h3 _ g hc
   exact⟨_,_,_,_,_,_,aQ rE rfl x1 x2,rfl,Wk.refl rfl,trivial⟩
theorem adh {L:Lst}(hL:bt L 50=fun a=>Q0 (aJ a))(run:aq)(c:List (List ByteArray))(l:List Int)(n:Int)(hF:Fit c)(h9:l.length≤1000):av L run 50 [cE c,aE l,.sc (.int .i64 n)] (iv (oB c l n)) :=
 jf VM (e:=eCL) (f:=fun p=>[iv (oB p.1 p.2.1 p.2.2)]) hL (fun x y _ _ h=>by rw[Jx h]) run (c,l,n) ⟨hF,h9⟩ (fun _=>rfl) (by simp only[eCL,aJ,mM,wS];rfl)
theorem H3:base.F.get 81=some Tryz.f81:=by kernel_rfl
theorem OW:base.shared 81=false:=by kernel_rfl
noncomputable def kj (c:List (List ByteArray)):Nat:=if chk c=0 then hdL c else 0
noncomputable def Ur:List PV→Option (List PV):=ctr (fun c=>[cE c]) Fit fun c=>[iv (kj c)]
theorem neI (e:Nat):((e:Int) != 0) = !decide (e=0):=by
 by_cases h:e=0
 ·subst h;rfl
 ·have:((e:Int) != 0)=true:=by simp;omega
  rw[this,decide_eq_false h];rfl
theorem Zk (L:Lst)(run:aq)(k:Nat)(c:List (List ByteArray))(g:av L run 80 [cE c] (iv (chk c))) :
  ∃ st,af (CC L) run k (Tryz.f81.body.getD .skip) ⟨entry 15 [cE c],[],[]⟩=some (.ret,st)∧aZ TT st.fr st.hp Tryz.f81.results.toList=some [iv (kj c)]:=by
 obtain⟨e1,e2⟩:=cP 14 (cE c)
 generalize entry 15 [cE c]=fr0 at *
 unfold av at g
 unfold kj
 have hne:=neI (chk c)
 cases hc:c with
 | nil =>
  have hl:eM (cE [])=some 0:=rfl
  rw[hc] at e2
  have h0:(if chk []=0 then hdL [] else 0)=0:=by split <;> rfl
  rw[h0]
  simp[Tryz.f81,iv,e1,e2,af,aH,an,ao,aG,ag,ai,aj,ak,aC,az,FP.none,bc,ar,bd,au,bH,aa,ae,ab,bf,hl,uCl,undef,aZ]
 | cons p r =>
  rw[← hc]
  obtain⟨q,x1,x2⟩:=je uCl c 0 (by rw[hc];simp)
  have hp:c[0]'(by rw[hc];simp)=p:=by subst hc;rfl
  rw[hp] at x2
  rw[show (((0:Nat):Int))=(0:Int) from rfl] at x1
  have hh:hdL c=p.length:=by rw[hc];rfl
  have hl:=gx c
  have hl0:((c.length:Int) == 0)=false:=by rw[beq_eq_false_iff_ne,hc];simp;omega
  have hlp:=gw p
  rw[hh]
  generalize chk c=e at *
  simp only[iv] at g ⊢
  have hcl : ¬ c.length=0:=by rw[hc];simp
  have hcn : ¬ c=[]:=by rw[hc];simp
  by_cases h:e=0
  ·subst h
   simp[Tryz.f81,e1,e2,af,aH,an,ao,aG,ag,ai,aP,aj,ak,aC,az,FP.none,bc,ar,bd,au,bH,partOf,aa,ae,ab,bf,hl,hl0,hlp,uCl,uPt,g,x1,x2,aU,aPt,sPt,aZ]
  ·have hne2:((e:Int) != 0)=true:=by rw[hne,decide_eq_false h];rfl
   simp[Tryz.f81,e1,e2,af,aH,an,ao,aG,ag,ai,aP,aj,ak,aC,az,FP.none,bc,ar,bd,au,bH,aa,ae,ab,bf,hl,hl0,uCl,g,hne2,h,aZ]
noncomputable def LR3:Lst:=(22,Hm)::LR2
theorem ac3:dK base.P LR3:=⟨yh,UD⟩
theorem Ny:Ab.Spec base.P 81 Ur:=Ab.Spec.bL (C:=CC LR3) (cU ac3) fun args rs h=>by
 obtain⟨c,hF,rfl,rfl⟩:=dj h
 obtain⟨st,x1,x2⟩:=Zk LR3 (runK (CC LR3) 1) 1 c (Z8 rfl _ c hF)
 exact⟨2,_,_,_,_,_,aQ H3 rfl x1 x2,rfl,Wk.refl rfl,trivial⟩
theorem adm {L:Lst}(hL:bt L 81=fun a=>Ur (aJ a))(run:aq)(c:List (List ByteArray))(hF:Fit c):av L run 81 [cE c] (iv (kj c)) :=
 jf OW (e:=fun c=>[cE c]) (f:=fun c=>[iv (kj c)]) hL (fun x y _ _ h=>by rw[tI h]) run c hF (o0 · c) (nG c)
def eT (V:List Rat):List PV:=[dc true V]
theorem aev:El 1 eT where
 len:=fun _=>rfl
 okc:=fun _=>rfl
 idf:=fun _=>rfl
 sn:=fun _ _ _=>rfl
def mT (M:List (List Rat)):PV:=.imm M.length false (M.flatMap eT)
def qC (X:List (List Rat)):PV:=cE (X.map fun P=>P.map qb)
def aN (l:List Nat):PV:=aE (l.map Int.ofNat)
def eh (X:List (List Rat))(l:List Nat):List (List Rat):=l.tail.map fun i=>eo (X.getD i []) (X.getD (l.headD 0) [])
theorem HU:base.F.get 51=some Tryz.f51:=by kernel_rfl
theorem OH:base.shared 51=false:=by kernel_rfl
theorem tY:und TT 80=some (.slice 84):=by kernel_rfl
theorem aeG:gD TT 84=some 24:=by kernel_rfl
theorem aaa:dR TT 84=some [.sc (.slice none 0 0)]:=by kernel_rfl
noncomputable def dfC:Code:=Tryz.f51.body.getD .skip
noncomputable def dfB:Code:=(aF dfC).getD .skip
def DfF (fr:List PV)(X:List (List Rat))(l:List Nat)(V:List Rat)(i:Nat):Prop:=fr.length=35∧nth fr 0=qC X∧nth fr 5=dc true V∧nth fr 17=aN l∧nth fr 18=iv l.length∧nth fr 19=iv i
theorem acz (L:Lst)(run:aq)(k:Nat)(fr:List PV)(hp:List Blk)(wr:List Nat)(X:List (List Rat))(l:List Nat)(V:List Rat)(h:DfF fr X l V l.length) :
  ∃ fr',af (CC L) run k dfB ⟨fr,hp,wr⟩=some (.exit 0,⟨fr',hp,wr⟩)∧fr'.length=35∧nth fr' 6=nth fr 6:=by
 obtain⟨h0,h1,h5,h17,h18,h19⟩:=h
 simp only[iv] at h18 h19
 simp[dfB,dfC,Tryz.f51,aF,af,aH,an,ao,aG,ag,ai,aj,ak,aC,az,FP.none,bc,ar,bd,aa,ae,ab,h0,h18,h19]
theorem ZX (v:PV)(hv:v.cells?=some [v]):fZ TT 80 1 [(0,v)]=some (1,[v]):=by
 simp[fZ,tY,O9,aaa,rep,dF,hv,bZ]
theorem ae1 (hp:List Blk)(v:PV):fe hp 1 (.imm 1 true [v])=some (1,[v],[]):=by simp[fe]
theorem Tw (L:Lst)(run:aq)(k:Nat)(fr:List PV)(hp:List Blk)(wr:List Nat)(X:List (List Rat))(l:List Nat)(V:List Rat)(i:Nat)(out:List (List Rat))(hi:i<l.length)(h9:l.length≤1000)(ho9:out.length≤1000)(hX:l[i]<X.length)(g1:av L run 59 [qL X[l[i]]] (dc true X[l[i]]))(g2:av L run 60 [dc true X[l[i]],dc true V] (dc true (eo X[l[i]] V)))(hO:gE 1 eT 0 hp out (nth fr 6))(h:DfF fr X l V i) :
  ∃ fr' hp' wr',af (CC L) run k dfB ⟨fr,hp,wr⟩=some (.normal,⟨fr',hp',wr'⟩)∧DfF fr' X l V (i+1)∧gE 1 eT 0 hp' (out++[eo X[l[i]] V]) (nth fr' 6):=by
 obtain⟨h0,h1,h5,h17,h18,h19⟩:=h
 have hi':i<(l.map Int.ofNat).length:=by simpa using hi
 obtain⟨r,x1,x2⟩:=Ja (l.map Int.ofNat) i hi'
 have hX':l[i]<(X.map fun P=>P.map qb).length:=by simpa using hX
 obtain⟨r',y1,y2⟩:=je uCl (X.map fun P=>P.map qb) l[i] hX'
 have e1:pE (X.map fun P=>P.map qb)[l[i]]=qL X[l[i]]:=by rw[List.getElem_map];rfl
 rw[e1] at y2
 rw[List.getElem_map] at x2
 rw[show aE (l.map Int.ofNat)=aN l from rfl] at x1
 rw[show cE (X.map fun P=>P.map qb)=qC X from rfl] at y1
 obtain⟨p',hp',fp,a1,a2,-⟩:=hO.app aev [eo X[l[i]] V] (by simp) (by simp;omega)
 have hw:=bF i (by omega)
 have hlv:=ZX (dc true (eo X[l[i]] V)) rfl
 have hrd:=fun hp=>ae1 hp (dc true (eo X[l[i]] V))
 have e2:[eo X[l[i]] V].flatMap eT=[dc true (eo X[l[i]] V)]:=rfl
 rw[e2] at a1
 unfold av at g1 g2
 have hid:(dc true (eo X[l[i]] V)).ct=true:=rfl
 have hok:=GB true (eo X[l[i]] V)
 generalize dc true (eo X[l[i]] V)=v at *
 generalize eo X[l[i]] V=W at *
 generalize dc true X[l[i]]=u at *
 generalize qL X[l[i]]=q at *
 generalize l[i]=j at *
 rw[show Int.ofNat j=(j:Int) from rfl] at x2
 rw[show [W].length=1 from rfl] at a1
 simp only[iv] at h18 h19
 simp[DfF,iv,dfB,dfC,Tryz.f51,aF,af,aH,an,ao,aG,ag,ai,aP,aj,ak,aC,az,FP.none,bc,ar,bd,au,partOf,aa,ae,ab,bf,and_assoc,aX,h0,h1,h5,h17,h18,h19,hi,x1,x2,y1,y2,g1,g2,hlv,hrd,hid,hok,hw,aI,sI,aPt,sPt,aU,bK,tY,O9,aeG,aaa,bS,a1,a2]
end Go.Proofs.YtjdmodeenbdfpaaGreat
