/- Contracts of fractions, clouds and predicates, part 27; each lemma states its conditions. -/
import Derived.Test.YtjdmodeenbdfpaaGreatW26
set_option linter.unusedSimpArgs false
set_option linter.unusedVariables false
noncomputable section
namespace Go.Proofs.YtjdmodeenbdfpaaGreat
open Go Go.Ab List Tryz
attribute [local simp] FzZ aC aF aG aH aM aX aZ aa ab ae af ag ah ai aj an ao aq au av bc bf bg bq partOf sR
variable(L:Lst)(run:aw)(k:Nat)(fr:Ψ)(hp:Ω)(wr:Θ)
theorem IG (n:Nat)(p q r s:PV):(entry (n+4) [p,q,r,s]).length=n+4∧nth (entry (n+4) [p,q,r,s]) 0=p∧nth (entry (n+4) [p,q,r,s]) 1=q∧nth (entry (n+4) [p,q,r,s]) 2=r∧nth (entry (n+4) [p,q,r,s]) 3=s:=⟨gF _ _ (by simp),rfl,rfl,rfl,rfl⟩
def abM:Code:=seq1 (seq1 (ag 4 exC))
theorem afO:ag 4 exC = .seq (.seq abM (.block 0 (.loop exL))) (ag 5 exC):=rfl
theorem abL(hp0:Θ)(n:Nat)(M:List (List Rat))(hM:M.length=n)(S:List Bool)(h5:5≤hp0.length)(hH:H0 hp0 M n S)(g:az L run 110 [.sc (.int .i64 1),.sc (.int .i64 1)] (.agg (rcs 1))) :
  ∃ st,af (CC L) run k exC ⟨entry 56 [iv n,.ptr 0 0,.ptr 3 0,.ptr 4 0],hp0,[]⟩=some (.ret,st)∧st.hp=bZ (aL hp0 rz) hp0.length ⟨.live,rcs 1⟩∧st.wr=aC [hp0.length] (aC [hp0.length] [])∧bc TT st.fr st.hp f109.results.toList=some [.agg (rcs 1)]:=by
 obtain⟨e0,e1,e2,e3,e4⟩:=IG 52 (iv n) (.ptr 0 0) (.ptr 3 0) (.ptr 4 0)
 generalize entry 56 [iv n,.ptr 0 0,.ptr 3 0,.ptr 4 0]=fr0 at *
 obtain⟨p0,p2,p3,p4⟩:=hH
 have hl:=Ip M
 have hx:=al1 hp0 rz
 have hx1:=dH rz (rcs 1) (by rw[cl.len];rfl)
 have hx2:=al2 hp0 rz ⟨.live,rcs 1⟩
 have hx4:=dM (rcs 1) (cl.len _)
 have hok:=cl.okc 1
 have hlx:=cl.len 1
 have hp0':aP (aL hp0 rz) 0=some ⟨.live,[mC M]⟩:=by rw[bz,if_neg (by omega),p0]
 unfold az at g
 generalize rcs 1=c1 at *
 have zR':=zRz
 rw[hM] at hl
 simp only[iv] at e1
 simp[exC,f109,bL,bm,eE,e0,e1,e2,hx,hx1,hx2,hx4,hok,hlx,hp0',hl,g,zR',LL,J7,vN,aR]
theorem afP (L:Lst)(run:aw)(k:Nat)(hp0:Θ)(row n:Nat)(M:List (List Rat))(hM:M.length=n)(hr:row<n)(S:List Bool)(h5:5≤hp0.length)(hH:H0 hp0 M n S) :
  ∃ fr fr',ba (CC L) run k 4 exC ⟨entry 56 [iv row,.ptr 0 0,.ptr 3 0,.ptr 4 0],hp0,[]⟩=some ⟨fr,aL (aL hp0 rz) rz,aC [hp0.length+1] (aC [hp0.length] [])⟩∧af (CC L) run k abM ⟨fr,aL (aL hp0 rz) rz,aC [hp0.length+1] (aC [hp0.length] [])⟩=some (.normal,⟨fr',aL (aL hp0 rz) rz,aC [hp0.length+1] (aC [hp0.length] [])⟩)∧XF fr' hp0.length row n 0 false:=by
 obtain⟨e0,e1,e2,e3,e4⟩:=IG 52 (iv row) (.ptr 0 0) (.ptr 3 0) (.ptr 4 0)
 generalize entry 56 [iv row,.ptr 0 0,.ptr 3 0,.ptr 4 0]=fr0 at *
 obtain⟨p0,p2,p3,p4⟩:=hH
 have hl:=Ip M
 have hp0':aP (aL hp0 rz) 0=some ⟨.live,[mC M]⟩:=by rw[bz,if_neg (by omega),p0]
 have hp3':aP (aL (aL hp0 rz) rz) 3=some ⟨.live,[.own 2 1 0 n true]⟩:=by
  rw[bz,if_neg (by simp[aL];omega),bz,if_neg (by omega),p3]
 have hl1:(aL hp0 rz).length=hp0.length+1:=by simp[aL]
 have zR':=zRz
 rw[hM] at hl
 have hne:((row:Int) == (n:Int))=false:=by rw[beq_eq_false_iff_ne];omega
 have hne2 : ¬ row=n:=by omega
 simp only[iv] at e1
 obtain⟨fr,a1,a0,a2,a3,a4,a5,a6,a7,a8⟩:∃ fr,ba (CC L) run k 4 exC ⟨fr0,hp0,[]⟩=some ⟨fr,aL (aL hp0 rz) rz,aC [hp0.length+1] (aC [hp0.length] [])⟩∧fr.length=56∧nth fr 0 = .sc (.int .i64 (row:Int))∧nth fr 1 = .ptr 0 0∧nth fr 2 = .ptr 3 0∧nth fr 3 = .ptr 4 0∧nth fr 5 = .ptr hp0.length 0∧nth fr 6 = .ptr (hp0.length+1) 0∧nth fr 7 = .sc (.bool false):=by
  simp[exC,f109,ba,bL,eE,e0,e1,e2,e3,e4,hp0',hl,hl1,hne,zR',LL,J7,vN]
 refine⟨fr,?_⟩
 rw[a1]
 simp[XF,iv,abM,exC,f109,seq1,bL,iq,eE,a0,a2,a3,a4,a5,a6,a7,a8,hp3',CD,wm,Gt]
theorem abK (L:Lst)(run:aw)(k:Nat)(fr:Ψ)(hp0 hp:Θ)(wr:Ω)(row n i:Nat)(neg:Bool)(sc:Ψ)(u:Option Rat)(hc:Rc sc u)(h:XF fr hp0.length row n i neg)(hX:XH hp0 hp sc) :
  ∃ st,af (CC L) run k (ag 5 exC) ⟨fr,hp,wr⟩=some (.ret,st)∧st.hp=bZ hp hp0.length ⟨.live,sc⟩∧st.wr=aC [hp0.length] wr∧bc TT st.fr st.hp f109.results.toList=some [.agg sc]:=by
 obtain⟨h0,h1,h2,h3,h4,h5,h6,h7,h8,h9⟩:=h
 obtain⟨q1,q2,q3,q4⟩:=hX
 have ht:=dM sc hc.len
 have ho:=dH rz sc (by rw[hc.len];rfl)
 have hs:=nf (b:=⟨.live,sc⟩) q3
 have hok:=hc.okc
 have hlx:=hc.len
 simp[exC,f109,bm,eE,h0,h5,h6,q3,q4,ht,ho,hs,hok,hlx,aR]
theorem xI (n:Nat):∀ S:List Bool,eF n (S.map bl)=true
 | []=>rfl
 | a::l=>by simp only[map_cons,eF,xI n l];rfl
theorem VM (L:Lst)(gm:bt L 56=fun a=>jy (aJ a))(ga:bt L 87=fun a=>fW (aJ a))(gn:bt L 106=fun a=>ki (aJ a))(gs:bt L 49=fun a=>iZ (aJ a))(gf:bt L 110=fun a=>Fq (aJ a))(n:Nat)(M:List (List Rat)){k1:Nat}(hk:0<k1)(hM:M.length=n)(hn9:n<1000)(hR:∀ R ∈ M,R.length=n∧RbL k1 R)(h6:n*(k1+exB n k1 (n - 1)+1)+1+k1+exB n k1 (n - 1)≤1000000) :
  ∀ (rows:List (List Rat)) (row:Nat) (S:List Bool) (hp0:Θ),M.drop row=rows→row+rows.length=n→S.length=n→5≤hp0.length→H0 hp0 M n S →
  ∃ hp' w,runK (CC L) (rows.length+n+3) 109 [iv row,.ptr 0 0,.ptr 3 0,.ptr 4 0] hp0=some ([.agg (cz (exU n rows S))],hp',w)∧hp0.length≤hp'.length∧(∀ i,i<hp0.length→aP hp' i=aP hp0 i)∧WB hp0.length w
 | [],row,S,hp0,hd,hl,hS,h5,hH=>by
  have e:row=n:=by simpa using hl
  subst e
  obtain⟨st,x1,x2,x3,x4⟩:=abL L (runK (CC L) (row+2)) (row+2) hp0 row M hM S h5 hH (ahc gf _)
  have hb:=kW A5 rfl x1 x4
  rw[x2,x3] at hb
  have w0:WB hp0.length ([]:Ω):=fun i hi=>by cases hi
  have e9:([]:List (List Rat)).length+row+3=row+2+1:=by rw[length_nil];omega
  rw[e9]
  exact⟨_,_,hb,by rw[al4];omega,fun i hi=>al3 hp0 rz _ i hi,(w0.add (WB.one (x:=hp0.length) (.inr (Nat.le_refl _)))).add (WB.one (x:=hp0.length) (.inr (Nat.le_refl _)))⟩
 | r::rs,row,S,hp0,hd,hl,hS,h5,hH=>by
  have hrow:row<M.length:=by rw[hM];simp at hl;omega
  have hdr:=drop_eq_getElem_cons hrow
  rw[hd] at hdr
  simp only[List.cons.injEq] at hdr
  obtain⟨er,ers⟩:=hdr
  have hRr:=hR _ (getElem_mem hrow)
  have hmono:exB n k1 rs.length≤exB n k1 (n - 1):=by
   have hle:rs.length≤n - 1:=by simp at hl;omega
   have step:∀ d,exB n k1 d≤exB n k1 (d+1):=by
    intro d
    show exB n k1 d≤n*(k1+exB n k1 d+1)+1
    have:1*(k1+exB n k1 d+1)≤n*(k1+exB n k1 d+1):=Nat.mul_le_mul_right _ (by omega)
    omega
   have:∀ a b,a≤b→exB n k1 a≤exB n k1 b:=by
    intro a b hab
    induction hab with
    | refl=>exact Nat.le_refl _
    | step _ ih=>exact Nat.le_trans ih (step _)
   exact this _ _ hle
  have hnm:n*(k1+exB n k1 rs.length+1)≤n*(k1+exB n k1 (n - 1)+1):=Nat.mul_le_mul_left _ (by omega)
  have hcall:X1 L (runK (CC L) (rs.length+n+3)) hp0 S row n (fun i=>exU n rs (S.set i true)):=by
   intro i hi hSi hp1 hl1 ho1 h12
   obtain⟨p0,p2,p3,p4⟩:=hH
   have H1:H0 hp1 M n (S.set i true):=⟨by rw[ho1 0 (by omega) (by omega),p0],h12,by rw[ho1 3 (by omega) (by omega),p3],by rw[ho1 4 (by omega) (by omega),p4]⟩
   obtain⟨hp',w,c1,c2,c3,c4⟩:=VM L gm ga gn gs gf n M hk hM hn9 hR h6 rs (row+1) (S.set i true) hp1 ers.symm (by simp at hl;omega) (by rw[length_set];exact hS) (by omega) H1
   have hold:∀ j ∈ lP hp1.length w,j=2:=fun j hj=>by
    obtain⟨m1,m2⟩:=lS hj
    rcases c4 j m1 with h | h
    ·exact h
    ·omega
   refine⟨(lP hp1.length w).length,?_⟩
   have hcc:=DF (L:=L) J3 c1 (by cases exU n rs (S.set i true) <;> rfl) c2 c3 (fun j hj b hb=>by
    rw[hold j hj,c3 2 (by omega),h12] at hb
    simp only[OiE] at hb
    rw[← hb];exact xI _ _) true
   rw[LJ hold] at hcc
   simpa [iv] using hcc
  obtain⟨fr,fr1,a1,a2,a3⟩:=afP L (runK (CC L) (rs.length+n+3)) (rs.length+n+3) hp0 row n M hM (by omega) S h5 hH
  have l1:(aL (aL hp0 rz) rz).length=hp0.length+2:=by simp[aL]
  have X0:XH hp0 (aL (aL hp0 rz) rz) (cz none):=by
   refine⟨by omega,fun i hi => ?_,?_,?_⟩
   ·rw[bz,if_neg (by simp[aL];omega),bz,if_neg (by omega)]
   ·rw[bz,if_neg (by simp[aL]),al1]
   ·have:hp0.length+1=(aL hp0 rz).length:=by simp[aL]
    rw[this,al1];rfl
  have w0:WB hp0.length ([]:Ω):=fun i hi=>by cases hi
  have w1:=(w0.add (WB.one (x:=hp0.length) (.inr (Nat.le_refl _)))).add (WB.one (x:=hp0.length+1) (.inr (Nat.le_succ _)))
  obtain⟨fr2,hp2,wr2,b1,b2,b3,b4⟩:=Lk L (runK (CC L) (rs.length+n+3)) (rs.length+n+3) gm ga gn gs hp0 row n M S (fun i=>exU n rs (S.set i true)) (k1:=k1) (k2:=exB n k1 rs.length) hS (by omega) hn9 h5 hH hrow hRr.1 hk hRr.2 (fun i=>Ck hk rs _ fun R hRm=>(hR R (by
   have:R ∈ M.drop (row+1):=by rw[← ers];exact hRm
   exact mem_of_mem_drop this)).2) (by omega) hcall n 0 fr1 _ _ (by omega) a3 X0 w1
  have eU:exU n (r::rs) S=(exS (fun i=>vv (exU n rs (S.set i true))) M[row] S n).1:=by rw[← er];rfl
  obtain⟨st,c1,c2,c3,c4⟩:=abK L (runK (CC L) (rs.length+n+3)) (rs.length+n+3) fr2 hp0 hp2 wr2 row n n _ _ _ (AV _) b2 b3
  have hloop:af (CC L) (runK (CC L) (rs.length+n+3)) (rs.length+n+3) (.seq abM (.block 0 (.loop exL))) ⟨fr,aL (aL hp0 rz) rz,aC [hp0.length+1] (aC [hp0.length] [])⟩=some (.normal,⟨fr2,hp2,wr2⟩):=by
   rw[ar a2];exact bK (bT b1 (by omega))
  have hx:af (CC L) (runK (CC L) (rs.length+n+3)) (rs.length+n+3) exC ⟨entry 56 [iv row,.ptr 0 0,.ptr 3 0,.ptr 4 0],hp0,[]⟩=some (.ret,st):=by
   rw[aQ 4 a1,afO,ar hloop,c1]
  have hb:=kW A5 rfl hx c4
  rw[c2,c3,← eU] at hb
  obtain⟨q1,q2,q3,q4⟩:=b3
  have e9:(r::rs).length+n+3=(rs.length+n+3)+1:=by simp;omega
  rw[e9]
  exact⟨_,_,hb,by rw[bC];omega,fun i hi=>by rw[iX (j:=i) q3 (by omega),q2 i hi],b4.add (WB.one (x:=hp0.length) (.inr (Nat.le_refl _)))⟩
theorem Js:base.F.get 62=some f62:=by kernel_rfl
theorem wg:base.shared 62=false:=by kernel_rfl
theorem bB:fQ TT 4=some 1:=by kernel_rfl
theorem zB:eB TT 4=some [bl false]:=by kernel_rfl
theorem adn:eB TT 140=some [.sc (.slice none 0 0)]:=by kernel_rfl
theorem zFn:eB TT 141=some [.sc .nilFunc]:=by kernel_rfl
theorem IW (f:FuncId)(cs:Ψ):(PV.clos f cs).cells?=some [.clos f cs]:=(rfl)
theorem EH (f:FuncId)(cs:Ψ):dK (PV.clos f cs)=true:=(rfl)
theorem WS (M:List (List Rat)):(mC M).cells?=some [mC M]:=(rfl)
theorem Sg:∀ n,rep n [bl false]=(List.replicate n false).map bl
 | 0=>rfl
 | n+1=>by rw[rep,Sg n,replicate_succ];rfl
def dtC:Code:=f62.body.getD .skip
def dtH (M:List (List Rat))(n:Nat)(sc:Ψ):Θ:=[⟨.live,[mC M]⟩,⟨.live,sc⟩,⟨.live,(List.replicate n false).map bl⟩,⟨.live,[.own 2 1 0 n true]⟩,⟨.live,[fnP]⟩]
theorem af2 (L:Lst)(run:aw)(k:Nat)(M:List (List Rat))(n:Nat)(hM:M.length=n)(hn:n≤1000) :
  ∃ fr wr,ba (CC L) run k 4 dtC ⟨entry 11 [mC M],[],[]⟩=some ⟨fr,dtH M n rz,wr⟩∧fr.length=11∧nth fr 2 = .ptr 1 0∧nth fr 4 = .ptr 4 0:=by
 obtain⟨e1,e2⟩:=cL 10 (mC M)
 generalize entry 11 [mC M]=fr0 at *
 have hl:=Ip M
 rw[hM] at hl
 have hm:n≤cN:=Nat.le_trans hn (by decide)
 have hrp:=Sg n
 have hb:[bl false].length=1:=rfl
 have hblf:(bl false) = .sc (.bool false):=rfl
 simp[dtC,f62,ba,bL,bh,and_assoc,Pf,pL,bd,e1,e2,hl,WS,zRz,zFn,adn,zB,bB,sB,hm,hrp,hb,vN,LL,J7,Gt,wm,sFn,dtH,fnP,aL,aP,bZ,cm,bQ,IW,EH]
theorem abZ (L:Lst)(run:aw)(k:Nat)(fr:Ψ)(wr:Ω)(M:List (List Rat))(n m:Nat)(sc:Ψ)(u:Option Rat)(hc:Rc sc u)(h0:fr.length=11)(h2:nth fr 2 = .ptr 1 0)(h4:nth fr 4 = .ptr 4 0)(hcall:∀ dr,bU (CC L) run dr (dtH M n rz) 109 [.sc (.int .i64 0),.ptr 0 0,.ptr 3 0,.ptr 4 0]=some (.agg sc,dtH M n rz,⟨[],List.replicate m 2,true,true⟩)) :
  ∃ st,af (CC L) run k (ag 4 dtC) ⟨fr,dtH M n rz,wr⟩=some (.ret,st)∧bc TT st.fr st.hp f62.results.toList=some [.agg sc]:=by
 have ht:=dM sc hc.len
 have ho:=dH rz sc (by rw[hc.len];rfl)
 have hok:=hc.okc
 have hlx:=hc.len
 have k4:aP (dtH M n rz) 4=some ⟨.live,[fnP]⟩:=rfl
 have k1:aP (dtH M n rz) 1=some ⟨.live,rz⟩:=rfl
 have k1':aP (bZ (dtH M n rz) 1 ⟨.live,sc⟩) 1=some ⟨.live,sc⟩:=rfl
 unfold fnP at k4
 simp[dtC,f62,bm,h0,h2,h4,k4,k1,k1',hcall,ht,ho,hok,hlx,aR,aFn,sFn]
def Sq (n:Nat)(M:List (List Rat)):Prop:=M.length=n∧∀ R ∈ M,R.length=n∧RbL 1000 R
def oe (M:List (List Rat)):Option Rat:=exU M.length M (List.replicate M.length false)
theorem US {k:Nat}{M N:List (List Rat)}(hM:∀ R ∈ M,RbL k R)(hN:∀ R ∈ N,RbL k R)(h9:k≤2000000)(h:mC M=mC N):M=N:=by
 unfold mC dj at h
 simp only[PV.imm.injEq,true_and] at h
 obtain⟨-,h2⟩:=h
 induction M generalizing N with
 | nil=>cases N with
  | nil=>rfl
  | cons b N=>simp[eV] at h2
 | cons a M ih=>cases N with
  | nil=>simp[eV] at h2
  | cons b N =>
   simp only[flatMap_cons,eV,cons_append,nil_append,List.cons.injEq] at h2
   rw[vM (hM a mem_cons_self) (hN b mem_cons_self) h9 h2.1,ih (fun x hx=>hM x (mem_cons_of_mem _ hx)) (fun x hx=>hN x (mem_cons_of_mem _ hx)) h2.2]
def sO:Ψ→Option Ψ:=ctr (fun M:List (List Rat)=>[mC M]) (fun M=>∃ n,n≤4∧Sq n M) fun M=>[rv (oe M)]
theorem afX (n:Nat)(hn:n≤4):n*(1000+exB n 1000 (n - 1)+1)+1+1000+exB n 1000 (n - 1)≤1000000:=by
 have:n=0∨n=1∨n=2∨n=3∨n=4:=by omega
 rcases this with rfl | rfl | rfl | rfl | rfl <;> decide
theorem xf:Ab.Spec base.P 62 sO:=Ab.Spec.bN (C:=CC LR1) (cP yu) fun args rs h=>by
 obtain⟨M,⟨n,hn,hM,hR⟩,rfl,rfl⟩:=cV h
 obtain⟨fr,wr,a1,a2,a3,a4⟩:=af2 LR1 (runK (CC LR1) (n+n+3)) (n+n+3) M n hM (by omega)
 have hH:H0 (dtH M n rz) M n (List.replicate n false):=⟨rfl,rfl,rfl,rfl⟩
 obtain⟨hp',w,c1,c2,c3,c4⟩:=VM LR1 rfl rfl rfl rfl rfl n M (k1:=1000) (by omega) hM (by omega) hR (afX n hn) M 0 (List.replicate n false) (dtH M n rz) rfl (by omega) (by simp) (Nat.le_refl 5) hH
 rw[hM] at c1
 have hold:∀ j ∈ lP (dtH M n rz).length w,j=2:=fun j hj=>by
  obtain⟨m1,m2⟩:=lS hj
  rcases c4 j m1 with h | h
  ·exact h
  ·omega
 have hcc:=fun dr=>DF (L:=LR1) J3 c1 (by cases exU n M (List.replicate n false) <;> rfl) c2 c3 (fun j hj b hb=>by
  rw[hold j hj,c3 2 (show 2<5 by omega)] at hb
  have hb2:some (⟨.live,(List.replicate n false).map bl⟩:Blk)=some b:=hb
  simp only[OiE] at hb2
  rw[← hb2];exact xI _ _) dr
 rw[LJ hold] at hcc
 obtain⟨st,x1,x2⟩:=abZ LR1 (runK (CC LR1) (n+n+3)) (n+n+3) fr wr M n _ _ _ (AV _) a2 a3 a4 hcc
 have hx:af (CC LR1) (runK (CC LR1) (n+n+3)) (n+n+3) dtC ⟨entry 11 [mC M],[],[]⟩=some (.ret,st):=by
  rw[aQ 4 a1,x1]
 have hd:oe M=exU n M (List.replicate n false):=by unfold oe;rw[hM]
 refine⟨_,_,_,_,_,_,aV Js rfl hx x2,(AV _).p.Dl _,?_,trivial⟩
 rw[hd]
 exact (AV _).p.wk
theorem acH {L:Lst}(hL:bt L 62=fun a=>sO (aJ a))(run:aw)(p:PV)(M:List (List Rat))(hp:∀ hp,bj (snap hp bp) [p]=some ([p],[]))(hc:canon p=mC M){n k:Nat}(hn:n≤4)(hk:k≤1000)(hM:M.length=n)(hR:∀ R ∈ M,R.length=n∧RbL k R):az L run 62 [p] (rv (oe M)):=fun dr hh =>
 kD wg hL run dr hh _ [mC M] [rv (oe M)] (hp hh) (by simp only[aJ,hc]) (jf (e:=fun M:List (List Rat)=>[mC M]) (x:=M) (fun x y hx hy h=>by
  obtain⟨_,_,_,h1⟩:=hx
  obtain⟨_,_,_,h2⟩:=hy
  rw[US (fun R hR=>(h1 R hR).2) (fun R hR=>(h2 R hR).2) (by omega) (by simpa using h)]) ⟨n,hn,hM,fun R hRm=>⟨(hR R hRm).1,fun x hx=>((hR R hRm).2 x hx).mono hk⟩⟩)
theorem WV (M:List (List Rat)):canon (mT M)=mC M:=by
 unfold mT mC dj
 rw[canon]
 congr 1
 induction M with
 | nil=>rfl
 | cons a M ih =>
  rw[flatMap_cons,flatMap_cons,jq,ih]
  simp only[eT,eV,aJ,AX]
def rq (s:ByteArray):Rat:=@Classical.epsilon Rat ⟨0⟩ fun x=>s=qb x
theorem acR (x:Rat):rq (qb x)=x:=by
 have h:qb x=qb (rq (qb x)):=Classical.epsilon_spec (p:=fun y=>qb x=qb y) ⟨x,rfl⟩
 exact (pI h).symm
def toX (c:List (List ByteArray)):List (List Rat):=c.map fun p=>p.map rq
def uV (c:List (List ByteArray)):Prop:=c.length≤100∧∀ p ∈ c,p.length≤100∧∀ s ∈ p,(bys s).length≤60
def F6 (c:List (List ByteArray)):Prop:=c.length≤100∧∀ p ∈ c,p.length≤100∧∀ s ∈ p,(bys s).length≤200
theorem uV.f3 {c:List (List ByteArray)}(h:uV c):F6 c:=⟨h.1,fun p hp=>⟨(h.2 p hp).1,fun s hs=>Nat.le_trans ((h.2 p hp).2 s hs) (by omega)⟩⟩
theorem F6.fit {c:List (List ByteArray)}(h:F6 c):Fit c:=⟨h.1,fun p hp=>⟨(h.2 p hp).1,fun s hs=>Nat.le_trans ((h.2 p hp).2 s hs) (by omega)⟩⟩
theorem uV.fit {c:List (List ByteArray)}(h:uV c):Fit c:=⟨h.1,fun p hp=>⟨(h.2 p hp).1,fun s hs=>Nat.le_trans ((h.2 p hp).2 s hs) (by omega)⟩⟩
theorem Lx {m n:Nat}{p:List ByteArray}(h:pe m p=0)(hs:∀ s ∈ p,(bys s).length≤n):p.length=m∧1≤m∧m≤3∧p=(p.map rq).map qb∧RbL (n+1) (p.map rq):=by
 unfold pe at h
 by_cases hb:p.length=0∨3<p.length∨p.length≠m
 ·rw[if_pos hb] at h;omega
 ·rw[if_neg hb] at h
  have hall:p.all (fun s=>pB (IsV s))=true:=by
   cases e:p.all (fun s=>pB (IsV s)) with
   | true=>rfl
   | false=>rw[e] at h;cases h
  rw[all_eq_true] at hall
  have hv:∀ s ∈ p,∃ x,s=qb x∧rq s=x∧Rb (n+1) x:=fun s hsp=>by
   obtain⟨x,hx,-⟩:=aer.1 (hall s hsp)
   refine⟨x,hx,by rw[hx,acR],?_⟩
   exact acT (by rw[← hx];exact hs s hsp)
  refine⟨by omega,by omega,by omega,?_,?_⟩
  ·rw[map_map]
   conv=>lhs;rw[← map_id p]
   refine map_congr_left fun s hsp => ?_
   obtain⟨x,hx,e,-⟩:=hv s hsp
   show s=qb (rq s)
   rw[e];exact hx
  ·intro y hy
   obtain⟨s,hsp,rfl⟩:=mem_map.1 hy
   obtain⟨x,hx,e,hb⟩:=hv s hsp
   rw[e];exact hb
theorem Cu {m:Nat} : ∀ {c:List (List ByteArray)},jH m c=0→∀ p ∈ c,pe m p=0
 | p::r,h,q,hq=>by
  unfold jH at h
  by_cases h0:pe m p=0
  ·rw[if_pos h0] at h
   rcases mem_cons.1 hq with e | e
   ·rw[e];exact h0
   ·exact Cu h q e
  ·rw[if_neg h0] at h;exact absurd h h0
theorem vx {c:List (List ByteArray)}(h:chk c=0)(n:Nat)(hF:∀ p ∈ c,∀ s ∈ p,(bys s).length≤n):cE c=qC (toX c)∧jj (hdL c) (n+1) (toX c)∧(c≠[]→1≤hdL c∧hdL c≤3)∧c.length≤64∧(toX c).length=c.length:=by
 unfold chk at h
 by_cases h64:64<c.length
 ·rw[if_pos h64] at h;omega
 ·rw[if_neg h64] at h
  have hp:=fun p hp=>Lx (Cu h p hp) (hF p hp)
  refine⟨?_,?_,?_,by omega,by simp[toX]⟩
  ·unfold qC toX
   congr 1
   rw[map_map]
   conv=>lhs;rw[← map_id c]
   exact map_congr_left fun p hpc=>(hp p hpc).2.2.2.1
  ·intro P hP
   unfold toX at hP
   obtain⟨p,hpc,rfl⟩:=mem_map.1 hP
   have:=hp p hpc
   exact⟨by rw[length_map];exact this.1,this.2.2.2.2⟩
  ·intro hne
   cases c with
   | nil=>exact absurd rfl hne
   | cons p r =>
    have:=hp p mem_cons_self
    exact⟨this.2.1,this.2.2.1⟩
theorem agl {c:List (List ByteArray)}(h:chk c=0)(hF:uV c):cE c=qC (toX c)∧jj (hdL c) 61 (toX c)∧(c≠[]→1≤hdL c∧hdL c≤3)∧c.length≤64∧(toX c).length=c.length:=vx h 60 fun p hp=>(hF.2 p hp).2
theorem Lw {c:List (List ByteArray)}(h:chk c=0)(hF:F6 c):cE c=qC (toX c)∧jj (hdL c) 201 (toX c)∧(c≠[]→1≤hdL c∧hdL c≤3)∧c.length≤64∧(toX c).length=c.length:=vx h 200 fun p hp=>(hF.2 p hp).2
theorem rY {c:List (List ByteArray)}(h:chk c=0):lu c=hdL c:=by unfold lu;rw[if_pos h]
theorem Cv {c:List (List ByteArray)}{l:List Int}{n:Nat}(h:pW c l (n:Int)=0):chk c=0∧l.length=n∧∀ z ∈ l,0≤z∧z<c.length:=by
 unfold pW at h
 by_cases h1:chk c=0
 ·rw[if_neg (fun e=>e h1)] at h
  by_cases h2:(0:Int)≤(n:Int)∧(l.length:Int)≠n
  ·rw[if_pos h2] at h;omega
  ·rw[if_neg h2] at h
   refine⟨h1,by omega,fun z hz => ?_⟩
   cases hb:l.any (Cy c.length) with
   | true=>rw[hb] at h;cases h
   | false =>
    rw[any_eq_false] at hb
    have:=hb z hz
    unfold Cy at this
    simp only[Bool.or_eq_true,decide_eq_true_eq] at this
    omega
 ·rw[if_pos h1] at h;exact absurd h h1
theorem adf {l:List Int}(h:∀ z ∈ l,0≤z):aE l=aN (l.map Int.toNat):=by
 unfold aN
 rw[map_map]
 congr 1
 conv=>lhs;rw[← map_id l]
 exact map_congr_left fun z hz=>(Int.toNat_of_nonneg (h z hz)).symm
def gH (c:List (List ByteArray))(l:List Int):Option Rat × Nat :=
 if pW c l ((lu c+1:Nat):Int)=0 then (oe (dQ (toX c) (l.map Int.toNat)),0) else (none,pW c l ((lu c+1:Nat):Int))
theorem JN {j k:Nat}{X Y:List Rat}(hX:RbL j X)(hY:RbL k Y):RbL (j+k+1) (dS X Y):=by
 intro z hz
 unfold dS at hz
 rw[mem_iff_getElem] at hz
 obtain⟨i,hi,rfl⟩:=hz
 rw[getElem_zipWith]
 exact (hX _ (getElem_mem _)).sub (hY _ (getElem_mem _))
theorem qk {X Y:List Rat}(h:X.length=Y.length):(dS X Y).length=X.length:=by unfold dS;rw[length_zipWith];omega
theorem FA {m k:Nat}{X:List (List Rat)}{l:Ω}(hE:jj m k X)(hin:∀ i ∈ l,i<X.length):∀ R ∈ dQ X l,R.length=m∧RbL (2*k+1) R:=by
 intro R hR
 unfold dQ at hR
 obtain⟨i,hi,rfl⟩:=mem_map.1 hR
 cases l with
 | nil=>simp at hi
 | cons j l =>
  have h1:=hin i (mem_cons_of_mem _ hi)
  have h2:=hin j mem_cons_self
  simp only[headD_cons,getD_eq_getElem?_getD,List.getElem?_eq_getElem h1,List.getElem?_eq_getElem h2,Option.getD_some]
  have e1:=hE _ (getElem_mem h1)
  have e2:=hE _ (getElem_mem h2)
  refine⟨by rw[qk (by omega)];exact e1.1,fun z hz=>(JN e1.2 e2.2 z hz).mono (by omega)⟩
theorem AQ (X:List (List Rat))(l:Ω):(dQ X l).length=l.length - 1:=by unfold dQ;simp
theorem A6:base.F.get 42=some f42:=by kernel_rfl
theorem YM:base.shared 42=false:=by kernel_rfl
theorem tv:base.F.get 13=some f13:=by kernel_rfl
theorem YO:base.shared 13=false:=by kernel_rfl
theorem CN:base.F.get 15=some f15:=by kernel_rfl
theorem GX:base.shared 15=false:=by kernel_rfl
theorem ab6(c:List (List ByteArray))(l:List Int)(m e:Nat)(hm:m<1000)(he:e≠0)(g1:az L run 81 [cE c] (iv m))(g2:az L run 50 [cE c,aE l,.sc (.int .i64 ((m:Int)+1))] (iv e)) :
  ∃ st,af (CC L) run k (f42.body.getD .skip) ⟨entry 21 [cE c,aE l],[],[]⟩=some (.ret,st)∧bc TT st.fr st.hp f42.results.toList=some [.agg rz,iv e]:=by
 obtain⟨e1,e2,e3⟩:=cC 19 (cE c) (aE l)
 generalize entry 21 [cE c,aE l]=fr0 at *
 have hw:=bA m (by omega)
 have hb:((e:Int) != 0)=true:=by simp;omega
 have hok:bd rz=true:=rfl
 have hrl:rz.length=4:=rfl
 have ho:=dH rz rz rfl
 have ht:=dM rz rfl
 have hbd:fb TT 72 []=some (.agg rz):=by simp[fb,zRz,uR,sW,rf0,rf1,dq]
 unfold az at g1 g2
 simp only[iv] at g1 g2 ⊢
 simp[f42,bm,e1,e2,e3,g1,g2,hw,hb,zRz,hok,hrl,ho,ht,hbd,aR,aL,aP,bZ]
theorem Ws(c:List (List ByteArray))(l:List Int)(m:Nat)(d:PV)(cs:Ψ)(hcs:cs.length=4)(hok:bd cs=true)(hm:m<1000)(g1:az L run 81 [cE c] (iv m))(g2:az L run 50 [cE c,aE l,.sc (.int .i64 ((m:Int)+1))] (iv 0))(g3:az L run 51 [cE c,aE l] d)(g4:az L run 62 [d] (.agg cs)) :
  ∃ st,af (CC L) run k (f42.body.getD .skip) ⟨entry 21 [cE c,aE l],[],[]⟩=some (.ret,st)∧bc TT st.fr st.hp f42.results.toList=some [.agg cs,iv 0]:=by
 obtain⟨e1,e2,e3⟩:=cC 19 (cE c) (aE l)
 generalize entry 21 [cE c,aE l]=fr0 at *
 have hw:=bA m (by omega)
 have ho:=dH rz cs (by rw[hcs];rfl)
 have ht:=dM cs hcs
 unfold az at g1 g2 g3 g4
 simp only[iv,Int.cast_ofNat_Int] at g1 g2 ⊢
 simp[f42,bm,e1,e2,e3,g1,g2,g3,g4,hw,zRz,hok,hcs,ho,ht,aR,aL,aP,bZ]
def LV1:Lst:=[(81,LB),(50,TH),(51,HU),(62,sO),(49,iZ),(43,jM),(44,rtF)]
theorem Xz:dt base.P LV1:=⟨A2,NZ,HT,xf,kh,kj,J9,trivial⟩
abbrev CA:=List (List ByteArray) × List Int
def eCA (p:CA):Ψ:=[cE p.1,aE p.2]
theorem Cm {p q:CA}(h:eCA p=eCA q):p=q:=by
 simp only[eCA,List.cons.injEq,and_true] at h
 exact Prod.ext (yk h.1) (Jb h.2)
def ajz (p:CA):Prop:=uV p.1∧p.2.length≤1000
def TW (p:CA):Prop:=F6 p.1∧p.2.length≤1000
def TG:Ψ→Option Ψ:=ctr eCA TW fun p=>[rv (gH p.1 p.2).1,iv (gH p.1 p.2).2]
theorem afG {c:List (List ByteArray)}(h:Fit c):hdL c≤100:=by
 cases c with
 | nil=>exact Nat.zero_le _
 | cons p r=>exact (h.2 p mem_cons_self).1
theorem LA {c:List (List ByteArray)}(h:Fit c):lu c<1000:=by
 have:=afG h
 unfold lu
 split <;> omega
theorem NY:Ab.Spec base.P 42 TG:=Ab.Spec.bN (C:=CC LV1) (cP Xz) fun args rs h=>by
 obtain⟨⟨c,l⟩,⟨hF,h9⟩,rfl,rfl⟩:=cV h
 dsimp only at hF h9
 have g1:=XP (L:=LV1) rfl (runK (CC LV1) 1) c hF.fit
 have g2:=ag5 (L:=LV1) rfl (runK (CC LV1) 1) c l ((lu c+1:Nat):Int) hF.fit h9
 show ∃ k rs1 hp1 wr rs2 ids,runK (CC LV1) k 42 [cE c,aE l] []=_∧_∧WkL rs2 [rv (gH c l).1,iv (gH c l).2]
 unfold gH
 by_cases h0:pW c l ((lu c+1:Nat):Int)=0
 ·rw[if_pos h0]
  rw[h0] at g2
  obtain⟨h1,h2,h3⟩:=Cv h0
  obtain⟨q1,q2,q3,q4,q5⟩:=Lw h1 hF
  have hax:=rY h1
  have hlne:l≠[]:=by intro e;rw[e] at h2;simp at h2
  have hcne:c≠[]:=by
   intro e
   cases l with
   | nil=>exact hlne rfl
   | cons z l =>
    have:=h3 z mem_cons_self
    rw[e] at this
    simp at this
    omega
  have q3':=q3 hcne
  have hin:∀ i ∈ l.map Int.toNat,i<(toX c).length:=fun i hi=>by
   obtain⟨z,hz,rfl⟩:=mem_map.1 hi
   have:=h3 z hz
   rw[q5];omega
  have g3:=acG (L:=LV1) rfl (runK (CC LV1) 1) (toX c) (l.map Int.toNat) (by simpa using hlne) (by simpa using h9) hin (show hdL c≤1000 by omega) (show 201≤1000 by omega) q2
  rw[← q1,← adf (fun z hz=>(h3 z hz).1)] at g3
  have hdo:=FA q2 hin
  have hdl:(dQ (toX c) (l.map Int.toNat)).length=hdL c:=by rw[AQ,length_map,h2,hax];omega
  have g4:=acH (L:=LV1) rfl (runK (CC LV1) 1) (mT (dQ (toX c) (l.map Int.toNat))) _ (fun _=>rfl) (WV _) (n:=hdL c) (by omega) (show 2*201+1≤1000 by omega) hdl hdo
  rw[wo] at g4
  obtain⟨st,x1,x2⟩:=Ws LV1 (runK (CC LV1) 1) 1 c l (lu c) _ _ (wE _) (pr.okc _) (LA hF.fit) g1 g2 g3 g4
  rw[← wo] at x2
  exact⟨2,_,_,_,[rv (oe (dQ (toX c) (l.map Int.toNat)))]++[iv 0],[],aV A6 rfl x1 x2,gY (qB _ _) rfl,Wk.refl (by rw[wo];exact pr.idf _),Wk.refl rfl,trivial⟩
 ·rw[if_neg h0]
  obtain⟨st,x1,x2⟩:=ab6 LV1 (runK (CC LV1) 1) 1 c l (lu c) _ (LA hF.fit) h0 g1 g2
  refine⟨2,_,_,_,[.agg rz,iv _],[],aV A6 rfl x1 x2,rfl,?_,Wk.refl rfl,trivial⟩
  exact (show Rp (.agg rz) none from .inr ⟨rfl,rfl⟩).wk
theorem Dk (hp:Θ)(p:CA):bj (snap hp bp) (eCA p)=some (eCA p,[]):=rfl
theorem AY (p:CA):aJ (eCA p)=eCA p:=by simp only[eCA,aJ,gj,yg]
theorem XM {L:Lst}(hL:bt L 42=fun a=>TG (aJ a))(run:aw)(c:List (List ByteArray))(l:List Int)(hF:F6 c)(h9:l.length≤1000):az L run 42 [cE c,aE l] (.tup [rv (gH c l).1,iv (gH c l).2]) :=
 fT YM (e:=eCA) (f:=fun p=>[rv (gH p.1 p.2).1,iv (gH p.1 p.2).2]) hL (fun x y _ _ h=>by rw[Cm h]) run (c,l) ⟨hF,h9⟩ (Dk · _) (AY _)
theorem Lu {c:List (List ByteArray)}{l:List Int}(hF:F6 c):Rb 100000 (vv (gH c l).1):=by
 unfold gH
 by_cases h0:pW c l ((lu c+1:Nat):Int)=0
 ·rw[if_pos h0]
  obtain⟨h1,h2,h3⟩:=Cv h0
  obtain⟨q1,q2,q3,q4,q5⟩:=Lw h1 hF
  have hax:=rY h1
  have hin:∀ i ∈ l.map Int.toNat,i<(toX c).length:=fun i hi=>by
   obtain⟨z,hz,rfl⟩:=mem_map.1 hi
   have:=h3 z hz
   rw[q5];omega
  have hdo:=FA q2 hin
  have hdl:(dQ (toX c) (l.map Int.toNat)).length=hdL c:=by rw[AQ,length_map,h2,hax];omega
  have hm:hdL c≤3:=by
   cases hc:c with
   | nil=>exact Nat.zero_le _
   | cons p r=>rw[← hc];exact (q3 (by rw[hc];simp)).2
  show Rb 100000 (vv (oe _))
  unfold oe
  refine (Ck (k:=403) (by omega) _ _ fun R hR => ?_).mono ?_
  ·exact (hdo R hR).2
  ·rw[hdl]
   have:hdL c=0∨hdL c=1∨hdL c=2∨hdL c=3:=by omega
   rcases this with h | h | h | h <;> rw[h] <;> decide
 ·rw[if_neg h0]
  exact (Rb.zero 0).mono (by omega)
theorem XY(c:List (List ByteArray))(l:List Int)(cs:Ψ)(e:Nat)(lg:Bool)(t:ByteArray)(hcs:cs.length=4)(hok:bd cs=true)(g1:az L run 42 [cE c,aE l] (.tup [.agg cs,iv e]))(g2:az L run 43 [.agg cs] (.sc (.bool lg)))(g3:az L run 44 [.agg cs] (.sc (.string t))) :
  ∃ st,af (CC L) run k (f13.body.getD .skip) ⟨entry 21 [cE c,aE l],[],[]⟩=some (.ret,st)∧bc TT st.fr st.hp f13.results.toList=some (if e=0 then (bif lg then [.sc (.string { data:=#[] }),iv 3] else [.sc (.string t),iv 0]) else [.sc (.string { data:=#[] }),iv e]):=by
 obtain⟨e1,e2,e3⟩:=cC 19 (cE c) (aE l)
 generalize entry 21 [cE c,aE l]=fr0 at *
 have ho:=dH rz cs (by rw[hcs];rfl)
 have ht:=dM cs hcs
 unfold az at g1 g2 g3
 by_cases h:e=0
 ·subst h
  simp only[iv,Int.cast_ofNat_Int] at g1 ⊢
  cases lg <;> simp[f13,bm,e1,e2,e3,g1,g2,g3,zRz,hok,hcs,ho,ht,aR,aL,aP,bZ]
 ·have hb:((e:Int) != 0)=true:=by simp;omega
  rw[if_neg h]
  simp only[iv] at g1 ⊢
  simp[f13,bm,e1,e2,e3,g1,hb,zRz,hok,hcs,ho,aL,aP,bZ]
theorem F4(c:List (List ByteArray))(l:List Int)(cs:Ψ)(e:Nat)(s:Int)(hcs:cs.length=4)(hok:bd cs=true)(g1:az L run 42 [cE c,aE l] (.tup [.agg cs,iv e]))(g2:az L run 49 [.agg cs] (Ab.bJ s)) :
  ∃ st,af (CC L) run k (f15.body.getD .skip) ⟨entry 17 [cE c,aE l],[],[]⟩=some (.ret,st)∧bc TT st.fr st.hp f15.results.toList=some [Ab.bJ s,iv e]:=by
 obtain⟨e1,e2,e3⟩:=cC 15 (cE c) (aE l)
 generalize entry 17 [cE c,aE l]=fr0 at *
 have ho:=dH rz cs (by rw[hcs];rfl)
 have ht:=dM cs hcs
 unfold az at g1 g2
 simp only[iv,Ab.bJ] at g1 g2 ⊢
 simp[f15,bm,e1,e2,e3,g1,g2,zRz,hok,hcs,ho,ht,aR,aL,aP,bZ]
def LV2:Lst:=(42,TG)::LV1
theorem Xy:dt base.P LV2:=⟨NY,Xz⟩
def VY:PV:=.sc (.string { data:=#[] })
def ti (x:Rat)(e:Nat):Ψ:=if e=0 then (bif pB (Rb 1000 x) then [qt x,iv 0] else [VY,iv 3]) else [VY,iv e]
def B8:Ψ→Option Ψ:=ctr eCA TW fun p=>ti (vv (gH p.1 p.2).1) (gH p.1 p.2).2
theorem HW:Ab.Spec base.P 13 B8:=Ab.Spec.bN (C:=CC LV2) (cP Xy) fun args rs h=>by
 obtain⟨⟨c,l⟩,⟨hF,h9⟩,rfl,rfl⟩:=cV h
 dsimp only at hF h9
 have g1:=XM (L:=LV2) rfl (runK (CC LV2) 1) c l hF h9
 have hb:=Lu (l:=l) hF
 have g2:=CH (L:=LV2) rfl (runK (CC LV2) 1) hb (by omega)
 have g3:=LQ (L:=LV2) rfl (runK (CC LV2) 1) hb (by omega)
 show ∃ k rs1 hp1 wr rs2 ids,runK (CC LV2) k 13 [cE c,aE l] []=_∧_∧WkL rs2 (ti (vv (gH c l).1) (gH c l).2)
 rw[wo] at g1 g2 g3
 obtain⟨st,x1,x2⟩:=XY LV2 (runK (CC LV2) 1) 1 c l _ (gH c l).2 _ _ (wE _) (pr.okc _) g1 g2 g3
 unfold ti
 by_cases h0:(gH c l).2=0
 ·rw[if_pos h0] at x2 ⊢
  cases hp:pB (Rb 1000 (vv (gH c l).1)) with
  | true =>
   rw[hp] at x2
   exact⟨2,_,_,_,_,_,aV tv rfl x1 x2,rfl,Wk.refl rfl,Wk.refl rfl,trivial⟩
  | false =>
   rw[hp] at x2
   exact⟨2,_,_,_,_,_,aV tv rfl x1 x2,rfl,Wk.refl rfl,Wk.refl rfl,trivial⟩
 ·rw[if_neg h0] at x2 ⊢
  exact⟨2,_,_,_,_,_,aV tv rfl x1 x2,rfl,Wk.refl rfl,Wk.refl rfl,trivial⟩
def xq (c:List (List ByteArray))(l:List Int):Int:=nk (vv (gH c l).1)
def xl:Ψ→Option Ψ:=ctr eCA ajz fun p=>[Ab.bJ (xq p.1 p.2),iv (gH p.1 p.2).2]
theorem B7:Ab.Spec base.P 15 xl:=Ab.Spec.bN (C:=CC LV2) (cP Xy) fun args rs h=>by
 obtain⟨⟨c,l⟩,⟨hF,h9⟩,rfl,rfl⟩:=cV h
 dsimp only at hF h9
 have g1:=XM (L:=LV2) rfl (runK (CC LV2) 1) c l hF.f3 h9
 have g2:=LR (L:=LV2) rfl (runK (CC LV2) 1) (Lu (l:=l) hF.f3) (by omega)
 rw[wo] at g1 g2
 obtain⟨st,x1,x2⟩:=F4 LV2 (runK (CC LV2) 1) 1 c l _ (gH c l).2 _ (wE _) (pr.okc _) g1 g2
 exact⟨2,_,_,_,_,_,aV CN rfl x1 x2,rfl,Wk.refl rfl,Wk.refl rfl,trivial⟩
theorem PG {L:Lst}(hL:bt L 15=fun a=>xl (aJ a))(run:aw)(c:List (List ByteArray))(l:List Int)(hF:uV c)(h9:l.length≤1000):az L run 15 [cE c,aE l] (.tup [Ab.bJ (xq c l),iv (gH c l).2]) :=
 fT GX (e:=eCA) (f:=fun p=>[Ab.bJ (xq p.1 p.2),iv (gH p.1 p.2).2]) hL (fun x y _ _ h=>by rw[Cm h]) run (c,l) ⟨hF,h9⟩ (Dk · _) (AY _)
def RowsIn (hp:Θ)(id:Nat):Ψ→List (List Rat)→Prop
 | [],[]=>True
 | v::vs,R::Rs=>(∃ j,v = .own j 4 0 R.length false∧j≠id∧aP hp j=some ⟨.live,R.flatMap rcs⟩)∧RowsIn hp id vs Rs
 | _,_=>False
theorem RowsIn.len {hp:Θ}{id:Nat} : ∀ {vs:Ψ} {Rs:List (List Rat)},RowsIn hp id vs Rs→vs.length=Rs.length
 | [],[],_=>rfl
 | v::vs,R::Rs,h=>by rw[length_cons,length_cons,RowsIn.len h.2]
 | [],_::_,h=>h.elim
 | _::_,[],h=>h.elim
theorem RowsIn.mono {hp hp':Θ}{id id':Nat}(h1:∀ j,j≠id→j<hp.length→aP hp' j=aP hp j∧j≠id'):∀ {vs:Ψ} {Rs:List (List Rat)},RowsIn hp id vs Rs→RowsIn hp' id' vs Rs
 | [],[],_=>trivial
 | v::vs,R::Rs,⟨⟨j,e1,e2,e3⟩,h⟩=>by
  have hj:j<hp.length:=by
   rw[cW] at e3
   exact (List.getElem?_eq_some_iff.1 e3).1
  obtain⟨m1,m2⟩:=h1 j e2 hj
  exact⟨⟨j,e1,m2,by rw[m1,e3]⟩,RowsIn.mono h1 h⟩
 | [],_::_,h=>h.elim
 | _::_,[],h=>h.elim
theorem RowsIn.snoc {hp:Θ}{id j:Nat}{R:List Rat}(hj:j≠id)(hb:aP hp j=some ⟨.live,R.flatMap rcs⟩):∀ {vs:Ψ} {Rs:List (List Rat)},RowsIn hp id vs Rs→RowsIn hp id (vs++[.own j 4 0 R.length false]) (Rs++[R])
 | [],[],_=>⟨⟨j,rfl,hj,hb⟩,trivial⟩
 | v::vs,S::Rs,h=>⟨h.1,RowsIn.snoc hj hb h.2⟩
 | [],_::_,h=>h.elim
 | _::_,[],h=>h.elim
theorem RowsIn.snap {hp:Θ}{id:Nat} : ∀ {vs:Ψ} {Rs:List (List Rat)},RowsIn hp id vs Rs→∃ ids,bj (Ab.snap hp 11) vs=some (Rs.flatMap eV,ids)
 | [],[],_=>⟨[],rfl⟩
 | v::vs,R::Rs,⟨⟨j,e1,_,e3⟩,h⟩=>by
  obtain⟨ids,hi⟩:=RowsIn.snap h
  have ht:bD (bq (R.flatMap rcs) 0) (R.length*4)=some (R.flatMap rcs):=by
   have:=m7 cl.toEl R []
   rw[append_nil] at this
   rw[cA,drop_zero,this]
  have h1:Ab.snap hp (10+1) v=some (vR R,[j]):=by
   rw[e1,Ab.snap]
   simp only[e3]
   rw[if_neg (by simp),ht]
   simp only[cl.sns hp 9 R]
   rfl
  refine⟨[j]++ids,?_⟩
  simp only[bj,h1,hi]
  rfl
 | [],_::_,h=>h.elim
 | _::_,[],h=>h.elim
theorem RowsIn.okc {hp:Θ}{id:Nat} : ∀ {vs:Ψ} {Rs:List (List Rat)},RowsIn hp id vs Rs→bd vs=true
 | [],[],_=>rfl
 | v::vs,R::Rs,⟨⟨j,e1,_,_⟩,h⟩=>by rw[bd,RowsIn.okc h,e1];rfl
 | [],_::_,h=>h.elim
 | _::_,[],h=>h.elim
def yS (hp:Θ)(Rs:List (List Rat))(p:PV):Prop:=(Rs=[]∧p = .sc (.slice none 0 0))∨∃ id vs,p = .own id 1 0 Rs.length false∧aP hp id=some ⟨.live,vs⟩∧RowsIn hp id vs Rs
theorem yS.app {hp:Θ}{Rs:List (List Rat)}{p:PV}(h:yS hp Rs p)(R:List Rat)(h9:Rs.length≤1000) :
  ∃ p' hp' fp,cw (aL (aL hp (R.flatMap rcs)) [.own hp.length 4 0 R.length false]) 1 p 1 [.own hp.length 4 0 R.length false]=some (p',hp',fp)∧yS hp' (Rs++[R]) p':=by
 have n1:∀ cs:Ψ,(aL hp cs).length=hp.length+1:=fun cs=>by simp[aL]
 have n2:(aL (aL hp (R.flatMap rcs)) [.own hp.length 4 0 R.length false]).length=hp.length+2:=by simp[aL]
 have hl:∀ j,j<hp.length→aP (aL (aL hp (R.flatMap rcs)) [.own hp.length 4 0 R.length false]) j=aP hp j:=fun j hj=>by
  rw[bz,if_neg (by rw[n1];omega),bz,if_neg (by omega)]
 have hr:aP (aL (aL hp (R.flatMap rcs)) [.own hp.length 4 0 R.length false]) hp.length=some ⟨.live,R.flatMap rcs⟩:=by
  rw[bz,if_neg (by rw[n1];omega),al1]
 rcases h with ⟨rfl,rfl⟩| ⟨id,vs,rfl,hb,hR⟩
 ·refine⟨_,_,_,rfl,.inr ⟨_,[.own hp.length 4 0 R.length false],rfl,al1 _ _,⟨⟨hp.length,rfl,by rw[n2];omega,?_⟩,trivial⟩⟩⟩
  rw[bz,if_neg (by rw[n2];omega),hr]
 ·have hid:id<hp.length:=by
   rw[cW] at hb
   exact (List.getElem?_eq_some_iff.1 hb).1
  have hb':=(hl id hid).trans hb
  have ht:bD (bq vs 0) (Rs.length*1)=some vs:=by
   rw[cA,drop_zero,Nat.mul_one,dc (by rw[hR.len];exact Nat.le_refl _),← hR.len,take_length]
  have hm:Rs.length+1≤cN:=Nat.le_trans (show Rs.length+1≤1001 by omega) (by decide)
  have ha:cw (aL (aL hp (R.flatMap rcs)) [.own hp.length 4 0 R.length false]) 1 (.own id 1 0 Rs.length false) 1 [.own hp.length 4 0 R.length false]=some (.own (hp.length+2) 1 0 (Rs.length+1) false,aL (bZ (aL (aL hp (R.flatMap rcs)) [.own hp.length 4 0 R.length false]) id ⟨.dead,[]⟩) (vs++[.own hp.length 4 0 R.length false]),⟨[],[id,hp.length+2],true,false⟩):=by
   simp only[cw,hb',ht,n2]
   rw[if_neg (by simp),if_pos hm]
  refine⟨_,_,_,ha,.inr ⟨hp.length+2,vs++[.own hp.length 4 0 R.length false],by simp,?_,?_⟩⟩
  ·rw[bz,bC,n2,if_pos rfl]
  ·refine RowsIn.snoc (by omega) ?_ (RowsIn.mono (fun j hj hj2=>⟨?_,by omega⟩) hR)
   ·rw[bz,bC,n2,if_neg (by omega),cI hb',if_neg (by omega),hr]
   ·rw[bz,bC,n2,if_neg (by omega),cI hb',if_neg (by omega),hl j hj2]
theorem yS.snap {hp:Θ}{Rs:List (List Rat)}{p:PV}(h:yS hp Rs p):∃ q ids,bj (Ab.snap hp bp) [p]=some ([q],ids)∧canon q=mC Rs:=by
 rcases h with ⟨rfl,rfl⟩| ⟨id,vs,rfl,hb,hR⟩
 ·exact⟨.sc (.slice none 0 0),[],rfl,rfl⟩
 ·obtain⟨ids,hi⟩:=hR.snap
  have ht:bD (bq vs 0) (Rs.length*1)=some vs:=by
   rw[cA,drop_zero,Nat.mul_one,dc (by rw[hR.len];exact Nat.le_refl _),← hR.len,take_length]
  have h1:Ab.snap hp (11+1) (.own id 1 0 Rs.length false)=some (mC Rs,id::ids):=by
   rw[Ab.snap]
   simp only[hb]
   rw[if_neg (by simp),ht]
   simp only[hi]
   rfl
  refine⟨mC Rs,(id::ids)++[],?_,aiF.IX Rs⟩
  show bj (Ab.snap hp 12) _=_
  simp only[bj,h1]
theorem ahd {L:Lst}(hL:bt L 62=fun a=>sO (aJ a))(run:aw)(dr:Bool){hp:Θ}{M:List (List Rat)}{p:PV}(h:yS hp M p){n k:Nat}(hn:n≤4)(hk:k≤1000)(hM:M.length=n)(hR:∀ R ∈ M,R.length=n∧RbL k R):∃ hp' fp,bU (CC L) run dr hp 62 [p]=some (rv (oe M),hp',fp):=by
 obtain⟨q,ids,h1,h2⟩:=h.snap
 have h3:(CC L).orc 62 [q]=some [rv (oe M)]:=by
  show bt L 62 [q]=_
  rw[hL]
  show sO (aJ [q])=_
  rw[show aJ [q]=[mC M] by simp only[aJ,h2]]
  exact jf (e:=fun M:List (List Rat)=>[mC M]) (x:=M) (fun x y hx hy h=>by
   obtain⟨_,_,_,h1⟩:=hx
   obtain⟨_,_,_,h2⟩:=hy
   rw[US (fun R hR=>(h1 R hR).2) (fun R hR=>(h2 R hR).2) (by omega) (by simpa using h)]) ⟨n,hn,hM,fun R hRm=>⟨(hR R hRm).1,fun x hx=>((hR R hRm).2 x hx).mono hk⟩⟩
 by_cases hs:[rv (oe M)].all ed=true
 ·exact⟨_,_,ke wg h1 h3 hs⟩
 ·exact⟨_,_,et wg h1 h3 (by simpa using hs)⟩
def lift (X:List (List Rat))(q i:Nat):List Rat:=dS (X.getD i []) (X.getD q [])++[dot (dS (X.getD i []) (X.getD q [])) (dS (X.getD i []) (X.getD q []))]
theorem kb:base.F.get 19=some f19:=by kernel_rfl
theorem GW:base.shared 19=false:=by kernel_rfl
def spC:Code:=f19.body.getD .skip
def spB:Code:=(aA spC).getD .skip
def SpF (fr:Ψ)(X:List (List Rat))(l:Ω)(V:List Rat)(s:Int)(i:Nat):Prop:=fr.length=73∧nth fr 0=qC X∧nth fr 8 = .sc (.int .i64 s)∧nth fr 10=dm true V∧nth fr 39=aN l∧nth fr 40=iv l.length∧nth fr 41=iv i
theorem adK (L:Lst)(run:aw)(k:Nat)(fr:Ψ)(hp:Θ)(wr:Ω)(X:List (List Rat))(l:Ω)(V:List Rat)(s:Int)(h:SpF fr X l V s l.length) :
  ∃ fr',af (CC L) run k spB ⟨fr,hp,wr⟩=some (.exit 0,⟨fr',hp,wr⟩)∧SpF fr' X l V s l.length∧nth fr' 11=nth fr 11:=by
 obtain⟨h0,h1,h8,h10,h39,h40,h41⟩:=h
 simp only[iv] at h40 h41
 simp[SpF,iv,spB,spC,f19,aA,and_assoc,h0,h1,h8,h10,h39,h40,h41]
set_option maxHeartbeats 1000000 in
theorem Q0 (L:Lst)(run:aw)(k:Nat)(fr:Ψ)(hp:Θ)(wr:Ω)(X:List (List Rat))(l:Ω)(V W:List Rat)(d:Rat)(s:Int)(i:Nat)(Rs:List (List Rat))(hi:i<l.length)(h9:l.length≤1000)(ho9:Rs.length≤1000)(hW9:W.length≤1000)(hX:l[i]<X.length)(g1:az L run 59 [qL X[l[i]]] (dm true X[l[i]]))(g2:az L run 60 [dm true X[l[i]],dm true V] (dm true W))(g3:az L run 61 [dm true W,dm true W] (rv (some d)))(hO:yS hp Rs (nth fr 11))(h:SpF fr X l V s i) :
  ∃ fr' hp' wr',af (CC L) run k spB ⟨fr,hp,wr⟩=some (.normal,⟨fr',hp',wr'⟩)∧SpF fr' X l V s (i+1)∧yS hp' (Rs++[W++[d]]) (nth fr' 11):=by
 obtain⟨h0,h1,h8,h10,h39,h40,h41⟩:=h
 have hi':i<(l.map Int.ofNat).length:=by simpa using hi
 obtain⟨r,x1,x2⟩:=KX (l.map Int.ofNat) i hi'
 have hX':l[i]<(X.map fun P=>P.map qb).length:=by simpa using hX
 obtain⟨r',y1,y2⟩:=iJ uCl (X.map fun P=>P.map qb) l[i] hX'
 have e1:pE (X.map fun P=>P.map qb)[l[i]]=qL X[l[i]]:=by rw[getElem_map];rfl
 rw[e1] at y2
 rw[getElem_map] at x2
 rw[show aE (l.map Int.ofNat)=aN l from rfl] at x1
 rw[show cE (X.map fun P=>P.map qb)=qC X from rfl] at y1
 obtain⟨p',hp',fp,a1,a2⟩:=hO.app (W++[d]) ho9
 have hw:=bA i (by omega)
 have hlv:=ac1 (.own hp.length 4 0 (W.length+1) false) rfl
 have hid:(PV.own hp.length 4 0 (W.length+1) false).cF=false:=rfl
 have e2:(W++[d]).length=W.length+1:=by simp
 have e3:(W++[d]).flatMap rcs=W.flatMap rcs++rcs d:=by simp
 rw[e2,e3] at a1
 have hlr:eM TT 84 1 [(0,rv (some d))]=some (4,rcs d):=by
  have h1:=dH rz (rcs d) (by rw[cl.len];rfl)
  have h2:(rep 1 rz)=rz:=by simp[rep]
  have h3:=cl.len d
  have h4:rz.length=4:=rfl
  simp[eM,vO,zRz,h2,dq,mg,bm,h3,h4,h1]
 have hidr:=cl.idf d
 have hrr:∀ hp,fk hp 4 (.imm 1 true (rcs d))=some (1,rcs d,[]):=fun hp=>by simp[fk,cl.len]
 have hokr:=cl.okc d
 have hm9:W.length+1≤cN:=Nat.le_trans (show W.length+1≤1001 by omega) (by decide)
 have har:cw hp 4 (dm true W) 1 (rcs d)=some (.own hp.length 4 0 (W.length+1) false,aL hp (W.flatMap rcs++rcs d),⟨[],[hp.length],true,false⟩):=by
  unfold dm
  simp only[cw]
  rw[if_neg (by omega),if_pos ⟨hm9,jb W⟩]
 have hzl:rz.length=4:=rfl
 have hrd:fk (aL (aL hp (W.flatMap rcs++rcs d)) [.own hp.length 4 0 (W.length+1) false]) 1 (.own (aL hp (W.flatMap rcs++rcs d)).length 1 0 1 true)=some (1,[.own hp.length 4 0 (W.length+1) false],[(aL hp (W.flatMap rcs++rcs d)).length]):=by
  have:=al1 (aL hp (W.flatMap rcs++rcs d)) [.own hp.length 4 0 (W.length+1) false]
  simp[fk,this,bD]
 unfold az at g1 g2 g3
 generalize rcs d=cd at *
 generalize dm true W=w at *
 generalize dm true X[l[i]]=u at *
 generalize qL X[l[i]]=q at *
 generalize l[i]=j at *
 generalize W.flatMap rcs++cd=rw' at *
 rw[show Int.ofNat j=(j:Int) from rfl] at x2
 simp only[iv] at h40 h41
 simp[SpF,iv,spB,spC,f19,aA,soft,eu,and_assoc,pL,bd,h0,h1,h8,h10,h39,h40,h41,hi,x1,x2,y1,y2,g1,g2,g3,hlv,hlr,hid,hidr,hrr,hrd,hokr,har,hw,aI,sI,aPt,sPt,bM,vN,vO,R3,aiM,adl,bR,zRz,hzl,bQ,a1,a2]
theorem JW (L:Lst)(run:aw)(k:Nat)(X:List (List Rat))(l:Ω)(q:Nat)(V:List Rat)(hV:X.getD q []=V)(s:Int)(h9:l.length≤1000)(hl:∀ i ∈ l,∃ h:i<X.length,(dS X[i] V).length≤1000∧az L run 59 [qL X[i]] (dm true X[i])∧az L run 60 [dm true X[i],dm true V] (dm true (dS X[i] V))∧az L run 61 [dm true (dS X[i] V),dm true (dS X[i] V)] (rv (some (dot (dS X[i] V) (dS X[i] V))))):∀ (n i:Nat) (fr:Ψ) (hp:Θ) (wr:Ω) (out:List (List Rat)),i+n=l.length→out=(l.take i).map (lift X q)→yS hp out (nth fr 11)→SpF fr X l V s i →
  ∃ fr' hp' wr',ch (af (CC L) run k spB) (n+1) ⟨fr,hp,wr⟩=some (.exit 0,⟨fr',hp',wr'⟩)∧SpF fr' X l V s l.length∧yS hp' (l.map (lift X q)) (nth fr' 11)
 | 0,i,fr,hp,wr,out,hin,ho,hO,h=>by
  have e:i=l.length:=by omega
  subst e
  obtain⟨fr',q1,q2,q3⟩:=adK L run k fr hp wr X l V s h
  refine⟨fr',hp,wr,bE q1,q2,?_⟩
  rw[take_length] at ho
  rw[q3,← ho]
  exact hO
 | n+1,i,fr,hp,wr,out,hin,ho,hO,h=>by
  have hi:i<l.length:=by omega
  obtain⟨hX,hw9,g1,g2,g3⟩:=hl l[i] (getElem_mem hi)
  obtain⟨fr1,hp1,wr1,q1,q2,q3⟩:=Q0 L run k fr hp wr X l V _ _ s i out hi h9 (by rw[ho];simp;omega) hw9 hX g1 g2 g3 hO h
  obtain⟨fr',hp',wr',s1,s2⟩:=JW L run k X l q V hV s h9 hl n (i+1) fr1 hp1 wr1 _ (by omega) (by
   rw[ho,take_succ_eq_append_getElem hi,map_append,map_cons,map_nil]
   congr 1
   unfold lift
   rw[hV,getD_eq_getElem?_getD,List.getElem?_eq_getElem hX];rfl) q3 q2
  exact⟨fr',hp',wr',by rw[ca q1];exact s1,s2⟩
def JX:Code:=seq1 (seq1 (ag 7 spC))
theorem adJ:ag 7 spC = .seq (.seq JX (.block 0 (.loop spB))) (ag 8 spC):=rfl
theorem ahv(c:List (List ByteArray))(l:List Int)(z:Int)(s:Int)(e:Nat)(he:e≠0)(g:az L run 15 [cE c,aE l] (.tup [Ab.bJ s,iv e])) :
  ∃ st,af (CC L) run k spC ⟨entry 73 [cE c,aE l,.sc (.int .i64 z)],[],[]⟩=some (.ret,st)∧bc TT st.fr st.hp f19.results.toList=some [Ab.bJ 0,iv e]:=by
 obtain⟨e0,e1,e2,e3⟩:=td 70 (cE c) (aE l) (.sc (.int .i64 z))
 generalize entry 73 [cE c,aE l,.sc (.int .i64 z)]=fr0 at *
 have hb:((e:Int) != 0)=true:=by simp;omega
 unfold az at g
 simp only[iv,Ab.bJ] at g ⊢
 simp[spC,f19,e0,e1,e2,g,hb]
theorem ajo (L:Lst)(run:aw)(k:Nat)(c:List (List ByteArray))(l:List Int)(z:Int)(s:Int)(g:az L run 15 [cE c,aE l] (.tup [Ab.bJ s,iv 0])) :
  ∃ fr,ba (CC L) run k 3 spC ⟨entry 73 [cE c,aE l,.sc (.int .i64 z)],[],[]⟩=some ⟨fr,[],[]⟩∧fr.length=73∧nth fr 0=cE c∧nth fr 1=aE l∧nth fr 2 = .sc (.int .i64 z)∧nth fr 8 = .sc (.int .i64 s):=by
 obtain⟨e0,e1,e2,e3⟩:=td 70 (cE c) (aE l) (.sc (.int .i64 z))
 generalize entry 73 [cE c,aE l,.sc (.int .i64 z)]=fr0 at *
 unfold az at g
 simp only[iv,Ab.bJ,Int.cast_ofNat_Int] at g
 simp[spC,f19,ba,e0,e1,e2,e3,g]
theorem ahu(c:List (List ByteArray))(z:Int)(hz:z<0∨(c.length:Int)≤z)(h0:fr.length=73)(h1:nth fr 0=cE c)(h2:nth fr 2 = .sc (.int .i64 z)) :
  ∃ st,af (CC L) run k (ag 3 spC) ⟨fr,[],[]⟩=some (.ret,st)∧bc TT st.fr st.hp f19.results.toList=some [Ab.bJ 0,iv 4]:=by
 have hl:=gP c
 by_cases hn:z<0
 ·simp[Ab.bJ,iv,spC,f19,h0,h2,hn,undef]
 ·have hc:(c.length:Int)≤z:=by omega
  simp[Ab.bJ,iv,spC,f19,bL,h0,h1,h2,hn,hc,hl,uCl]
theorem ajn(c:List (List ByteArray))(l:List Int)(z s:Int)(hz : ¬ (z<0∨(c.length:Int)≤z))(h0:fr.length=73)(h1:nth fr 0=cE c)(h1':nth fr 1=aE l)(h2:nth fr 2 = .sc (.int .i64 z))(h8:nth fr 8 = .sc (.int .i64 s)) :
  ∃ fr',ba (CC L) run k 1 (ag 3 spC) ⟨fr,[],[]⟩=some ⟨fr',[],[]⟩∧fr'.length=73∧nth fr' 0=cE c∧nth fr' 1=aE l∧nth fr' 2 = .sc (.int .i64 z)∧nth fr' 8 = .sc (.int .i64 s):=by
 have hl:=gP c
 have hn : ¬ z<0:=fun e=>hz (.inl e)
 have hc : ¬ (c.length:Int)≤z:=fun e=>hz (.inr e)
 simp[spC,ba,f19,bL,h0,h1,h1',h2,h8,hn,hc,hl,uCl]
theorem aht(h0:fr.length=73)(h8:nth fr 8 = .sc (.int .i64 0)) :
  ∃ st,af (CC L) run k (ag 4 spC) ⟨fr,[],[]⟩=some (.ret,st)∧bc TT st.fr st.hp f19.results.toList=some [Ab.bJ 0,iv 12]:=by
 simp[Ab.bJ,iv,spC,f19,h0,h8]
theorem ajm(X:List (List Rat))(l:Ω)(q:Nat)(s:Int)(hs:s≠0)(hq:q<X.length)(g:az L run 59 [qL X[q]] (dm true X[q]))(h0:fr.length=73)(h1:nth fr 0=qC X)(h1':nth fr 1=aN l)(h2:nth fr 2 = .sc (.int .i64 (q:Int)))(h8:nth fr 8 = .sc (.int .i64 s)) :
  ∃ fr1 fr',ba (CC L) run k 3 (ag 4 spC) ⟨fr,[],[]⟩=some ⟨fr1,[],[]⟩∧af (CC L) run k JX ⟨fr1,[],[]⟩=some (.normal,⟨fr',[],[]⟩)∧SpF fr' X l X[q] s 0∧nth fr' 11 = .sc (.slice none 0 0):=by
 have hX':q<(X.map fun P=>P.map qb).length:=by simpa using hq
 obtain⟨r',y1,y2⟩:=iJ uCl (X.map fun P=>P.map qb) q hX'
 have e4:pE (X.map fun P=>P.map qb)[q]=qL X[q]:=by rw[getElem_map];rfl
 rw[e4] at y2
 rw[show cE (X.map fun P=>P.map qb)=qC X from rfl] at y1
 have hsb:(s == 0)=false:=by rw[beq_eq_false_iff_ne];exact hs
 have hl:dy (aN l)=some l.length:=by simp[aN,aE,dj,dy]
 unfold az at g
 obtain⟨fr1,a1,a2,a3,a4,a5,a6,a7⟩:∃ fr1,ba (CC L) run k 3 (ag 4 spC) ⟨fr,[],[]⟩=some ⟨fr1,[],[]⟩∧fr1.length=73∧nth fr1 0=qC X∧nth fr1 1=aN l∧nth fr1 8 = .sc (.int .i64 s)∧nth fr1 10=dm true X[q]∧nth fr1 11 = .sc (.slice none 0 0):=by
  simp[spC,ba,f19,h0,h1,h1',h2,h8,hsb,y1,y2,g,aPt,sPt]
 refine⟨fr1,?_⟩
 rw[a1]
 simp[SpF,iv,JX,seq1,spC,f19,a2,a3,a4,a5,a6,a7,bL,and_assoc,hl,vP]
def aey (m:Nat)(s:Int):Int:=if m % 2=1 then -s else s
theorem YA (L:Lst)(run:aw)(k:Nat)(fr:Ψ)(hp hp':Θ)(wr:Ω)(fp:FP)(X:List (List Rat))(l:Ω)(V:List Rat)(s t:Int)(u:Option Rat)(hV:V.length<1000)(hs:s = -1∨s=0∨s=1)(ht:t = -1∨t=0∨t=1)(g1:bU (CC L) run false hp 62 [nth fr 11]=some (rv u,hp',fp))(g2:az L run 49 [rv u] (Ab.bJ t))(h:SpF fr X l V s l.length) :
  ∃ st,af (CC L) run k (ag 8 spC) ⟨fr,hp,wr⟩=some (.ret,st)∧bc TT st.fr st.hp f19.results.toList=some [Ab.bJ (aey V.length s*t),iv 0]:=by
 obtain⟨h0,h1,h8,h10,h39,h40,h41⟩:=h
 have hl:dy (dm true V)=some V.length:=rfl
 have hm:(V.length:Int).tmod 2=((V.length % 2:Nat):Int):=rfl
 have hm2:V.length % 2<2:=Nat.mod_lt _ (by decide)
 unfold aey
 unfold az at g2
 generalize rv u=ru at *
 obtain⟨p11,h11⟩:∃ p,nth fr 11=p:=⟨_,rfl⟩
 rw[h11] at g1
 generalize hmm:V.length % 2=mm at *
 have hss:(-s) = -1∨(-s)=0∨(-s)=1:=by omega
 have hw:∀ a b:Int,(a = -1∨a=0∨a=1)→(b = -1∨b=0∨b=1)→bF .i64 (a*b)=a*b:=by
  intro a b ha hb
  rcases ha with rfl | rfl | rfl <;> rcases hb with rfl | rfl | rfl <;> decide
 have hwn:bF .i64 (-s) = -s:=by rcases hs with rfl | rfl | rfl <;> decide
 simp only[Ab.bJ,iv] at g2 ⊢
 by_cases ho:mm=1
 ·subst ho
  have h2:=hw (-s) t hss ht
  simp[spC,f19,bL,unP,h0,h8,h10,h11,hl,hm,vO,g1,g2,hwn,h2]
 ·have hme:mm=0:=by omega
  subst hme
  have h2:=hw s t hs ht
  simp[spC,f19,bL,h0,h8,h10,h11,hl,hm,vO,g1,g2,h2]
def qA (c:List (List ByteArray))(l:List Int)(z:Int):Int × Nat :=
 if (gH c l).2≠0 then (0,(gH c l).2) else if z<0∨(c.length:Int)≤z then (0,4) else if xq c l=0 then (0,12) else
  (aey (hdL c) (xq c l)*nk (vv (oe ((l.map Int.toNat).map (lift (toX c) z.toNat)))),0)
def LV3:Lst:=[(15,xl),(59,B4),(60,KB),(61,KE),(62,sO),(49,iZ)]
theorem agz:dt base.P LV3:=⟨B7,xc,Af,Ai,xf,kh,trivial⟩
def qW:Ψ→Option Ψ:=ctr eCL (fun p=>uV p.1∧p.2.1.length≤1000) fun p=>[Ab.bJ (qA p.1 p.2.1 p.2.2).1,iv (qA p.1 p.2.1 p.2.2).2]
theorem R7 (x:Rat):nk x = -1∨nk x=0∨nk x=1:=by
 unfold nk
 rcases Int.lt_trichotomy x.num 0 with h | h | h
 ·exact .inl (Int.sign_eq_neg_one_of_neg h)
 ·exact .inr (.inl (by rw[h];rfl))
 ·exact .inr (.inr (Int.sign_eq_one_of_pos h))
theorem af4 {k:Nat}{X Y:List Rat}(hX:RbL k X)(hY:RbL k Y)(hl:X.length=Y.length):Rb (X.length*(2*k+1)+1) (dot X Y):=Cn hX hY hl X.length (Nat.le_refl _)
theorem ab1 {m k:Nat}{X Y:List Rat}(hX:RbL k X)(hY:RbL k Y)(hl:X.length=Y.length)(hm:X.length=m)(h3:m≤3):Rb (6*k+4) (dot X Y):=by
 refine (af4 hX hY hl).mono ?_
 rw[hm]
 have:m*(2*k+1)≤3*(2*k+1):=Nat.mul_le_mul_right _ h3
 omega
theorem KV {m:Nat}{X:List (List Rat)}{q i:Nat}(hE:jj m 61 X)(hm:m≤3)(hq:q<X.length)(hi:i<X.length):(lift X q i).length=m+1∧RbL 742 (lift X q i)∧(dS X[i] X[q]).length=m∧RbL 123 (dS X[i] X[q]):=by
 have e1:=hE _ (getElem_mem hi)
 have e2:=hE _ (getElem_mem hq)
 have hl:=qk (show X[i].length=X[q].length by omega)
 have hb:RbL 123 (dS X[i] X[q]):=fun z hz=>(JN e1.2 e2.2 z hz).mono (by omega)
 unfold lift
 simp only[getD_eq_getElem?_getD,List.getElem?_eq_getElem hi,List.getElem?_eq_getElem hq,Option.getD_some]
 refine⟨by rw[length_append,hl,e1.1];rfl,?_,by rw[hl,e1.1],hb⟩
 intro z hz
 rcases mem_append.1 hz with hz | hz
 ·exact (hb z hz).mono (by omega)
 ·rw[mem_singleton] at hz
  subst hz
  exact (ab1 (k:=123) hb hb rfl (hl.trans e1.1) hm).mono (by omega)
theorem B6:Ab.Spec base.P 19 qW:=Ab.Spec.bN (C:=CC LV3) (cP agz) fun args rs h=>by
 obtain⟨⟨c,l,z⟩,⟨hF,h9⟩,rfl,rfl⟩:=cV h
 dsimp only at hF h9
 have g:=PG (L:=LV3) rfl (runK (CC LV3) (l.length+2)) c l hF h9
 show ∃ k rs1 hp1 wr rs2 ids,runK (CC LV3) k 19 [cE c,aE l,.sc (.int .i64 z)] []=_∧_∧WkL rs2 [Ab.bJ (qA c l z).1,iv (qA c l z).2]
 unfold qA
 by_cases h1:(gH c l).2≠0
 ·rw[if_pos h1]
  obtain⟨st,x1,x2⟩:=ahv LV3 (runK (CC LV3) (l.length+2)) (l.length+2) c l z _ _ h1 g
  exact⟨_,_,_,_,_,_,aV kb rfl x1 x2,rfl,Wk.refl rfl,Wk.refl rfl,trivial⟩
 ·rw[if_neg h1]
  have h1':(gH c l).2=0:=Classical.byContradiction h1
  rw[h1'] at g
  obtain⟨fr,a1,a2,a3,a4,a5,a6⟩:=ajo LV3 (runK (CC LV3) (l.length+2)) (l.length+2) c l z _ g
  by_cases h2:z<0∨(c.length:Int)≤z
  ·rw[if_pos h2]
   obtain⟨st,x1,x2⟩:=ahu LV3 (runK (CC LV3) (l.length+2)) (l.length+2) fr c z h2 a2 a3 a5
   rw[← aQ 3 a1] at x1
   exact⟨_,_,_,_,_,_,aV kb rfl x1 x2,rfl,Wk.refl rfl,Wk.refl rfl,trivial⟩
  ·rw[if_neg h2]
   obtain⟨fr1,b1,b2,b3,b4,b5,b6⟩:=ajn LV3 (runK (CC LV3) (l.length+2)) (l.length+2) fr c l z _ h2 a2 a3 a4 a5 a6
   have hsp:ag 1 (ag 3 spC)=ag 4 spC:=rfl
   by_cases h3:xq c l=0
   ·rw[if_pos h3]
    rw[h3] at b6
    obtain⟨st,x1,x2⟩:=aht LV3 (runK (CC LV3) (l.length+2)) (l.length+2) fr1 b2 b6
    rw[← hsp,← aQ 1 b1,← aQ 3 a1] at x1
    exact⟨_,_,_,_,_,_,aV kb rfl x1 x2,rfl,Wk.refl rfl,Wk.refl rfl,trivial⟩
   ·rw[if_neg h3]
    have h0:pW c l ((lu c+1:Nat):Int)=0:=by
     unfold gH at h1'
     by_cases h0:pW c l ((lu c+1:Nat):Int)=0
     ·exact h0
     ·rw[if_neg h0] at h1';exact absurd h1' h0
    obtain⟨c1,c2,c3⟩:=Cv h0
    obtain⟨q1,q2,q3,q4,q5⟩:=agl c1 hF
    have hax:=rY c1
    obtain⟨q,rfl⟩:=Int.eq_ofNat_of_zero_le (show 0≤z by omega)
    have hq:q<(toX c).length:=by rw[q5];omega
    have hcne:c≠[]:=by
     intro e
     rw[e] at h2
     simp at h2
    have q3':=q3 hcne
    have hal:=adf fun z hz=>(c3 z hz).1
    rw[q1] at b3
    rw[hal] at b4
    have hin:∀ i ∈ l.map Int.toNat,i<(toX c).length:=fun i hi=>by
     obtain⟨z,hz,rfl⟩:=mem_map.1 hi
     have:=c3 z hz
     rw[q5];omega
    have hEq:=q2 _ (getElem_mem hq)
    obtain⟨fr2,fr3,d1,d2,d3,d4⟩:=ajm LV3 (runK (CC LV3) (l.length+2)) (l.length+2) fr1 (toX c) (l.map Int.toNat) q _ h3 hq (vz rfl _ _ (fun x hx=>(hEq.2 x hx).mono (by omega)) (by omega)) b2 b3 b4 b5 b6
    have hgets:∀ i ∈ l.map Int.toNat,∃ h:i<(toX c).length,(dS (toX c)[i] (toX c)[q]).length≤1000∧az LV3 (runK (CC LV3) (l.length+2)) 59 [qL (toX c)[i]] (dm true (toX c)[i])∧az LV3 (runK (CC LV3) (l.length+2)) 60 [dm true (toX c)[i],dm true (toX c)[q]] (dm true (dS (toX c)[i] (toX c)[q]))∧az LV3 (runK (CC LV3) (l.length+2)) 61 [dm true (dS (toX c)[i] (toX c)[q]),dm true (dS (toX c)[i] (toX c)[q])] (rv (some (dot (dS (toX c)[i] (toX c)[q]) (dS (toX c)[i] (toX c)[q])))):=by
     intro i hi
     have h1:=hin i hi
     have hEi:=q2 _ (getElem_mem h1)
     obtain⟨-,-,v1,v2⟩:=KV q2 q3'.2 hq h1
     exact⟨h1,by omega,vz rfl _ _ (fun x hx=>(hEi.2 x hx).mono (by omega)) (by omega),XL rfl _ true true _ _ hEi.2 hEq.2 (by omega) (by omega) (by omega) (by omega),ag4 rfl _ true true _ _ v2 v2 (by omega) (by omega) rfl (by omega) (by omega)⟩
    have hVq:(toX c).getD q []=(toX c)[q]:=by rw[getD_eq_getElem?_getD,List.getElem?_eq_getElem hq];rfl
    obtain⟨fr4,hp4,wr4,e1,e2,e3⟩:=JW LV3 (runK (CC LV3) (l.length+2)) (l.length+2) (toX c) (l.map Int.toNat) q (toX c)[q] hVq (xq c l) (by simpa using h9) hgets (l.map Int.toNat).length 0 fr3 [] [] [] (by omega) rfl (.inl ⟨rfl,d4⟩) d3
    have hlen:((l.map Int.toNat).map (lift (toX c) q)).length=hdL c+1:=by rw[length_map,length_map,c2,hax]
    have hrows:∀ R ∈ (l.map Int.toNat).map (lift (toX c) q),R.length=hdL c+1∧RbL 742 R:=by
     intro R hR
     obtain⟨i,hi,rfl⟩:=mem_map.1 hR
     obtain⟨v1,v2,-⟩:=KV q2 q3'.2 hq (hin i hi)
     exact⟨v1,v2⟩
    obtain⟨hp5,fp5,f1⟩:=ahd (L:=LV3) rfl (runK (CC LV3) (l.length+2)) false e3 (n:=hdL c+1) (k:=742) (by omega) (by omega) hlen hrows
    have hb:Rb 1000000 (vv (oe ((l.map Int.toNat).map (lift (toX c) q)))):=by
     unfold oe
     refine (Ck (k:=742) (by omega) _ _ fun R hR=>(hrows R hR).2).mono ?_
     rw[hlen]
     have:hdL c=1∨hdL c=2∨hdL c=3:=by omega
     rcases this with h | h | h <;> rw[h] <;> decide
    obtain⟨st,x1,x2⟩:=YA LV3 (runK (CC LV3) (l.length+2)) (l.length+2) fr4 hp4 hp5 wr4 fp5 (toX c) (l.map Int.toNat) (toX c)[q] (xq c l) _ _ (by omega) (R7 _) (R7 _) f1 (LR rfl _ hb (by omega)) e2
    have hloop:af (CC LV3) (runK (CC LV3) (l.length+2)) (l.length+2) (.seq JX (.block 0 (.loop spB))) ⟨fr2,[],[]⟩=some (.normal,⟨fr4,hp4,wr4⟩):=by
     rw[ar d2];exact bK (bT e1 (by rw[length_map];omega))
    have hsp2:ag 3 (ag 4 spC)=ag 7 spC:=rfl
    rw[← ar hloop,← adJ,← hsp2,← aQ 3 d1,← hsp,← aQ 1 b1,← aQ 3 a1] at x1
    rw[hEq.1] at x2
    exact⟨_,_,_,_,_,_,aV kb rfl x1 x2,rfl,Wk.refl rfl,Wk.refl rfl,trivial⟩
end Go.Proofs.YtjdmodeenbdfpaaGreat
end
