/- Contracts of fractions, clouds and predicates, part 23; each lemma states its conditions. -/
import Derived.Test.YtjdmodeenbdfpaaGreatV22
set_option linter.unusedSimpArgs false
set_option linter.unusedVariables false
noncomputable section
namespace Go.Proofs.YtjdmodeenbdfpaaGreat
open Go Go.Ab List Tryz
attribute [local simp] FzZ aC aF aG aH aU aX aZ aa ab ae af ag ah aj an ao aq au av bL bc bf partOf
variable(L:Lst)(run:aw)(k:Nat)(fr:Ψ)(hp:Θ)(wr:Ω)
def cz:Option Rat→Ψ
 | none=>rz
 | some x=>rcs x
theorem Bf (u:Option Rat):Rc (cz u) u:=by
 cases u
 ·exact .inr ⟨rfl,rfl⟩
 ·exact .inl rfl
theorem aky {cs:Ψ}{x:Rat}(h:Rc cs (some x)):cs=cz (some x):=by
 rcases h with h | ⟨h,-⟩
 ·exact h
 ·cases h
theorem zh {C:Cfg}{run:aw}{k i:Nat}{a b:Code}{st st':St}(h:ae C run k a st=some (.exit i,st')):ae C run k (.seq a b) st=some (.exit i,st'):=by
 simp only[ae,h]
theorem vf {C:Cfg}{run:aw}{k i:Nat}{b:Code}{st st':St}(h:ae C run k b st=some (.exit i,st')):ae C run k (.block i b) st=some (.normal,st'):=by
 simp only[ae,h,if_true]
theorem A6 {C:Cfg}{run:aw}{k:Nat}{c:Operand}{a b:Code}{st:St}{v:Bool}(h:aj st.fr c = .sc (.bool v)):ae C run k (.cond c a b) st=bif v then ae C run k a st else ae C run k b st:=by
 cases v <;> simp only[ae,h,cond_true,cond_false]
theorem aaH (x:Rat):(ko x != 0) = !decide (x=0):=by
 unfold ko
 by_cases h:x=0
 ·subst h;rfl
 ·rw[decide_eq_false h,Bool.not_false,bne_iff_ne]
  intro e
  exact h (Rat.num_eq_zero.1 (Int.sign_eq_zero_iff_zero.1 e))
def ZH (L:Lst)(run:aw)(hp0:Θ)(S:List Bool)(row n:Nat)(U:Nat→Option Rat):Prop :=
 ∀ i,i<n→S.getD i false=false→∀ hp1:Θ,hp0.length≤hp1.length→(∀ t,t<hp0.length→t≠2→aL hp1 t=aL hp0 t)→aL hp1 2=some ⟨.live,(S.set i true).map bl⟩ →
  ∃ m,bP (CC L) run true hp1 109 [.sc (.int .i64 ((row:Int)+1)),.ptr 0 0,.ptr 3 0,.ptr 4 0]=some (.agg (cz (U i)),hp1,⟨[],List.replicate m 2,true,true⟩)
theorem Mr (L:Lst)(run:aw)(k:Nat)(gm:bx L 56=fun a=>kR (aK a))(ga:bx L 87=fun a=>je (aK a))(gn:bx L 106=fun a=>kp (aK a))(gs:bx L 49=fun a=>jS (aK a))(hp0:Θ)(row n:Nat)(M:List (List Rat))(S:List Bool)(U:Nat→Option Rat){k1 k2:Nat}
  (hS:S.length=n) (h9':row<1000) (hn9:n<1000) (h5:5≤hp0.length) (hH:H0 hp0 M n S) (hr:row<M.length) (hR:M[row].length=n) (hk:0<k1) (hb2:RbL k1 M[row]) (hb3:∀ i,Rb k2 (vv (U i))) (h6:n*(k1+k2+1)+1+k1+k2≤1000000) (hcall:ZH L run hp0 S row n U) :
  ∀ (d i:Nat) (fr:Ψ) (hp:Θ) (wr:Ω),i+d=n→XF fr hp0.length row n i (exS (fun i=>vv (U i)) M[row] S i).2→XH hp0 hp (cz (exS (fun i=>vv (U i)) M[row] S i).1)→WB hp0.length wr →
  ∃ fr' hp' wr',cb (ae (CC L) run k exL) (d+1) ⟨fr,hp,wr⟩=some (.exit 0,⟨fr',hp',wr'⟩)∧XF fr' hp0.length row n n (exS (fun i=>vv (U i)) M[row] S n).2∧XH hp0 hp' (cz (exS (fun i=>vv (U i)) M[row] S n).1)∧WB hp0.length wr'
 | 0,i,fr,hp,wr,hin,h,hX,hw=>by
  have e:i=n:=by omega
  subst e
  obtain⟨fr',q1,q2⟩:=ahh L run k fr hp wr hp0.length row i _ h
  exact⟨fr',hp,wr,bu q1,q2,hX,hw⟩
 | d+1,i,fr,hp,wr,hin,h,hX,hw=>by
  have hi:i<n:=by omega
  have hiR:i<M[row].length:=by omega
  obtain⟨fr1,fr2,a1,a2,a3,a4,a5⟩:=alm L run k fr hp wr hp0.length row n i _ hi h
  have hHh:H0 hp M n S:=by
   obtain⟨p0,p2,p3,p4⟩:=hH
   obtain⟨-,q2,-⟩:=hX
   exact⟨by rw[q2 0 (by omega),p0],by rw[q2 2 (by omega),p2],by rw[q2 3 (by omega),p3],by rw[q2 4 (by omega),p4]⟩
  have go:∀ (fr3:Ψ) (hp3:Θ) (wr3:Ω),ae (CC L) run k (.block 1 (.seq adG (.seq adF (.seq ox Mv)))) ⟨fr1,hp,wr⟩=some (.normal,⟨fr3,hp3,wr3⟩)→XF fr3 hp0.length row n i (exS (fun i=>vv (U i)) M[row] S (i+1)).2→XH hp0 hp3 (cz (exS (fun i=>vv (U i)) M[row] S (i+1)).1)→WB hp0.length wr3 →
    ∃ fr' hp' wr',cb (ae (CC L) run k exL) (d+1+1) ⟨fr,hp,wr⟩=some (.exit 0,⟨fr',hp',wr'⟩)∧XF fr' hp0.length row n n (exS (fun i=>vv (U i)) M[row] S n).2∧XH hp0 hp' (cz (exS (fun i=>vv (U i)) M[row] S n).1)∧WB hp0.length wr':=by
   intro fr3 hp3 wr3 b1 b2 b3 b4
   obtain⟨fr4,c1,c2⟩:=aj9 L run k fr3 hp3 wr3 hp0.length row n i _ (by omega) b2
   obtain⟨fr',hp',wr',s1,s2⟩:=Mr L run k gm ga gn gs hp0 row n M S U hS h9' hn9 h5 hH hr hR hk hb2 hb3 h6 hcall d (i+1) fr4 hp3 wr3 (by omega) c2 b3 b4
   refine⟨fr',hp',wr',?_,s2⟩
   rw[bT (st':=⟨fr4,hp3,wr3⟩) (by rw[ahl,ar a1,ar a2,ar b1];exact c1)]
   exact s1
  have eS:exS (fun i=>vv (U i)) M[row] S (i+1)=if S.getD i false=true then exS (fun i=>vv (U i)) M[row] S i else if M[row].getD i 0=0 then ((exS (fun i=>vv (U i)) M[row] S i).1, !(exS (fun i=>vv (U i)) M[row] S i).2) else
   (some (vv (exS (fun i=>vv (U i)) M[row] S i).1+(bif (exS (fun i=>vv (U i)) M[row] S i).2 then -(M[row].getD i 0*vv (U i)) else M[row].getD i 0*vv (U i))), !(exS (fun i=>vv (U i)) M[row] S i).2):=rfl
  have eR:M[row].getD i 0=M[row][i]:=by rw[getD_eq_getElem?_getD,List.getElem?_eq_getElem hiR];rfl
  cases hv:S.getD i false with
  | true =>
   obtain⟨fr3,b1,b2,-⟩:=Mq L run k fr2 hp wr hp0.length row n i _ M S hi hS true hv a4 a5 hHh
   rw[if_pos hv] at eS
   refine go fr3 hp wr ?_ (by rw[eS];exact b2) (by rw[eS];exact hX) hw
   exact vf (by rw[ar a3];exact zh b1)
  | false =>
   obtain⟨fr3,b1,b2,b2'⟩:=Mq L run k fr2 hp wr hp0.length row n i _ M S hi hS false hv a4 a5 hHh
   rw[if_neg (by rw[hv];simp),eR] at eS
   have hbe:Rb k1 M[row][i]:=hb2 _ (getElem_mem hiR)
   obtain⟨fr4,fr5,c1,c2,c3,c4,c5,c6⟩:=aln L run k fr3 hp wr hp0.length row n i _ M S hr hiR _ (aeq gs run (p:=.agg (rcs M[row][i])) (u:=some M[row][i]) (.inl rfl) hbe (by omega)) rfl b2 b2' hHh
   obtain⟨q1,q2,q3,q4⟩:=hX
   have nh:∀ t,t<hp.length→aL (cg (aO hp rz) hp.length ⟨.live,rcs M[row][i]⟩) t=aL hp t:=fun t ht=>al3 hp rz _ t ht
   have X5:XH hp0 (cg (aO hp rz) hp.length ⟨.live,rcs M[row][i]⟩) (cz (exS (fun i=>vv (U i)) M[row] S i).1) :=
    ⟨by rw[al4];omega,fun t ht=>by rw[nh t (by omega),q2 t ht],by rw[nh _ (by omega),q3],by rw[nh _ (by omega),q4]⟩
   have w5:WB hp0.length (aC [hp.length] (aC [hp.length] wr)):=(hw.add (WB.one (x:=hp.length) (.inr (by omega)))).add (WB.one (x:=hp.length) (.inr (by omega)))
   rw[aaH] at c6
   have ec:aj fr5 (.tmp 33) = .sc (.bool (!decide (M[row][i]=0))):=c6
   by_cases h0:M[row][i]=0
   ·rw[decide_eq_true h0,Bool.not_true] at ec
    have hN:ae (CC L) run k ox ⟨fr3,hp,wr⟩=some (.normal,⟨fr5,cg (aO hp rz) hp.length ⟨.live,rcs M[row][i]⟩,aC [hp.length] (aC [hp.length] wr)⟩):=by
     rw[Mu,ar c1,ar c2,A6 ec];rfl
    obtain⟨fr6,d1,d2⟩:=aeV L run k fr5 (cg (aO hp rz) hp.length ⟨.live,rcs M[row][i]⟩) (aC [hp.length] (aC [hp.length] wr)) hp0.length row n i _ c3
    rw[if_pos h0] at eS
    refine go fr6 _ _ ?_ (by rw[eS];exact d2) (by rw[eS];exact X5) w5
    exact fF (by rw[ar a3,ar b1,ar hN];exact d1)
   ·rw[decide_eq_false h0,Bool.not_false] at ec
    have hbS:Rb (i*(k1+k2+1)+1) (vv (exS (fun i=>vv (U i)) M[row] S i).1):=Jp (fun i=>hb3 i) hb2 hk i
    have hin2:i*(k1+k2+1)≤n*(k1+k2+1):=Nat.mul_le_mul_right _ (by omega)
    obtain⟨fr6,hp6,wr6,sc6,d1,d2,d3,d4,d5⟩:=adA L run k gm ga gn hp0 _ fr5 _ row n i hp.length _ M S _ _ M[row][i] (vv (U i)) (cz (U i)) (U i) hi hS h9' hv h5 hH X5 q1 (by rw[al4];omega) (al2 hp rz _) ⟨c3,c4,c5⟩ (Bf _) (Bf _) rfl hbS hbe (hb3 i) (by omega) w5 (hcall i hi hv)
    have d6:=aky d5
    rw[if_neg h0] at eS
    obtain⟨fr7,e1,e2⟩:=aeV L run k fr6 hp6 wr6 hp0.length row n i _ d2
    have hN:ae (CC L) run k ox ⟨fr3,hp,wr⟩=some (.normal,⟨fr6,hp6,wr6⟩):=by
     rw[Mu,ar c1,ar c2,A6 ec];exact d1
    refine go fr7 hp6 wr6 ?_ (by rw[eS];exact e2) (by rw[eS,← d6];exact d3) d4
    exact fF (by rw[ar a3,ar b1,ar hN];exact e1)
theorem Js (n:Nat)(p q r s:PV):(entry (n+4) [p,q,r,s]).length=n+4∧nth (entry (n+4) [p,q,r,s]) 0=p∧nth (entry (n+4) [p,q,r,s]) 1=q∧nth (entry (n+4) [p,q,r,s]) 2=r∧nth (entry (n+4) [p,q,r,s]) 3=s:=⟨fG _ _ (by simp),rfl,rfl,rfl,rfl⟩
def adD:Code:=seq1 (seq1 (ai 4 exC))
theorem ahf:ai 4 exC = .seq (.seq adD (.block 0 (.loop exL))) (ai 5 exC):=rfl
theorem adC(hp0:Θ)(n:Nat)(M:List (List Rat))(hM:M.length=n)(S:List Bool)(h5:5≤hp0.length)(hH:H0 hp0 M n S)(g:az L run 110 [.sc (.int .i64 1),.sc (.int .i64 1)] (.agg (rcs 1))) :
  ∃ st,ae (CC L) run k exC ⟨entry 56 [iv n,.ptr 0 0,.ptr 3 0,.ptr 4 0],hp0,[]⟩=some (.ret,st)∧st.hp=cg (aO hp0 rz) hp0.length ⟨.live,rcs 1⟩∧st.wr=aC [hp0.length] (aC [hp0.length] [])∧aX TT st.fr st.hp f109.results.toList=some [.agg (rcs 1)]:=by
 obtain⟨e0,e1,e2,e3,e4⟩:=Js 52 (iv n) (.ptr 0 0) (.ptr 3 0) (.ptr 4 0)
 generalize entry 56 [iv n,.ptr 0 0,.ptr 3 0,.ptr 4 0]=fr0 at *
 obtain⟨p0,p2,p3,p4⟩:=hH
 have hl:=I8 M
 have hx:=al1 hp0 rz
 have hx1:=ee rz (rcs 1) (by rw[cB.len];rfl)
 have hx2:=al2 hp0 rz ⟨.live,rcs 1⟩
 have hx4:=dG (rcs 1) (cB.len _)
 have hok:=cB.okc 1
 have hlx:=cB.len 1
 have hp0':aL (aO hp0 rz) 0=some ⟨.live,[mC M]⟩:=by rw[bH,if_neg (by omega),p0]
 unfold az at g
 generalize rcs 1=c1 at *
 have zR':=zRz
 rw[hM] at hl
 simp only[iv] at e1
 simp[exC,f109,aM,bm,dJ,e0,e1,e2,hx,hx1,hx2,hx4,hok,hlx,hp0',hl,g,zR',MP,Lj,zE,aR,sR,bp]
theorem ahg (L:Lst)(run:aw)(k:Nat)(hp0:Θ)(row n:Nat)(M:List (List Rat))(hM:M.length=n)(hr:row<n)(S:List Bool)(h5:5≤hp0.length)(hH:H0 hp0 M n S) :
  ∃ fr fr',bh (CC L) run k 4 exC ⟨entry 56 [iv row,.ptr 0 0,.ptr 3 0,.ptr 4 0],hp0,[]⟩=some ⟨fr,aO (aO hp0 rz) rz,aC [hp0.length+1] (aC [hp0.length] [])⟩∧ae (CC L) run k adD ⟨fr,aO (aO hp0 rz) rz,aC [hp0.length+1] (aC [hp0.length] [])⟩=some (.normal,⟨fr',aO (aO hp0 rz) rz,aC [hp0.length+1] (aC [hp0.length] [])⟩)∧XF fr' hp0.length row n 0 false:=by
 obtain⟨e0,e1,e2,e3,e4⟩:=Js 52 (iv row) (.ptr 0 0) (.ptr 3 0) (.ptr 4 0)
 generalize entry 56 [iv row,.ptr 0 0,.ptr 3 0,.ptr 4 0]=fr0 at *
 obtain⟨p0,p2,p3,p4⟩:=hH
 have hl:=I8 M
 have hp0':aL (aO hp0 rz) 0=some ⟨.live,[mC M]⟩:=by rw[bH,if_neg (by omega),p0]
 have hp3':aL (aO (aO hp0 rz) rz) 3=some ⟨.live,[.own 2 1 0 n true]⟩:=by
  rw[bH,if_neg (by simp[aO];omega),bH,if_neg (by omega),p3]
 have hl1:(aO hp0 rz).length=hp0.length+1:=by simp[aO]
 have zR':=zRz
 rw[hM] at hl
 have hne:((row:Int) == (n:Int))=false:=by rw[beq_eq_false_iff_ne];omega
 have hne2 : ¬ row=n:=by omega
 simp only[iv] at e1
 obtain⟨fr,a1,a0,a2,a3,a4,a5,a6,a7,a8⟩:∃ fr,bh (CC L) run k 4 exC ⟨fr0,hp0,[]⟩=some ⟨fr,aO (aO hp0 rz) rz,aC [hp0.length+1] (aC [hp0.length] [])⟩∧fr.length=56∧nth fr 0 = .sc (.int .i64 (row:Int))∧nth fr 1 = .ptr 0 0∧nth fr 2 = .ptr 3 0∧nth fr 3 = .ptr 4 0∧nth fr 5 = .ptr hp0.length 0∧nth fr 6 = .ptr (hp0.length+1) 0∧nth fr 7 = .sc (.bool false):=by
  simp[exC,f109,bh,dJ,e0,e1,e2,e3,e4,hp0',hl,hl1,hne,zR',MP,Lj,zE,bp]
 refine⟨fr,?_⟩
 rw[a1]
 simp[XF,iv,adD,exC,f109,ai,seq1,iw,dJ,a0,a2,a3,a4,a5,a6,a7,a8,hp3',CI,wJ,GR,bp]
theorem adB (L:Lst)(run:aw)(k:Nat)(fr:Ψ)(hp0 hp:Θ)(wr:Ω)(row n i:Nat)(neg:Bool)(sc:Ψ)(u:Option Rat)(hc:Rc sc u)(h:XF fr hp0.length row n i neg)(hX:XH hp0 hp sc) :
  ∃ st,ae (CC L) run k (ai 5 exC) ⟨fr,hp,wr⟩=some (.ret,st)∧st.hp=cg hp hp0.length ⟨.live,sc⟩∧st.wr=aC [hp0.length] wr∧aX TT st.fr st.hp f109.results.toList=some [.agg sc]:=by
 obtain⟨h0,h1,h2,h3,h4,h5,h6,h7,h8,h9⟩:=h
 obtain⟨q1,q2,q3,q4⟩:=hX
 have ht:=dG sc hc.len
 have ho:=ee rz sc (by rw[hc.len];rfl)
 have hs:=pV (b:=⟨.live,sc⟩) q3
 have hok:=hc.okc
 have hlx:=hc.len
 simp[exC,f109,ai,bm,dJ,h0,h5,h6,q3,q4,ht,ho,hs,hok,hlx,aR,sR,bp]
theorem xZ (n:Nat):∀ S:List Bool,ew n (S.map bl)=true
 | []=>rfl
 | a::l=>by simp only[map_cons,ew,xZ n l];rfl
theorem WY (L:Lst)(gm:bx L 56=fun a=>kR (aK a))(ga:bx L 87=fun a=>je (aK a))(gn:bx L 106=fun a=>kp (aK a))(gs:bx L 49=fun a=>jS (aK a))(gf:bx L 110=fun a=>FB (aK a))(n:Nat)(M:List (List Rat)){k1:Nat}(hk:0<k1)(hM:M.length=n)(hn9:n<1000)(hR:∀ R ∈ M,R.length=n∧RbL k1 R)(h6:n*(k1+exB n k1 (n - 1)+1)+1+k1+exB n k1 (n - 1)≤1000000) :
  ∀ (rows:List (List Rat)) (row:Nat) (S:List Bool) (hp0:Θ),M.drop row=rows→row+rows.length=n→S.length=n→5≤hp0.length→H0 hp0 M n S →
  ∃ hp' w,runK (CC L) (rows.length+n+3) 109 [iv row,.ptr 0 0,.ptr 3 0,.ptr 4 0] hp0=some ([.agg (cz (exU n rows S))],hp',w)∧hp0.length≤hp'.length∧(∀ i,i<hp0.length→aL hp' i=aL hp0 i)∧WB hp0.length w
 | [],row,S,hp0,hd,hl,hS,h5,hH=>by
  have e:row=n:=by simpa using hl
  subst e
  obtain⟨st,x1,x2,x3,x4⟩:=adC L (runK (CC L) (row+2)) (row+2) hp0 row M hM S h5 hH (aiA gf _)
  have hb:=ez Bq rfl x1 x4
  rw[x2,x3] at hb
  have w0:WB hp0.length ([]:Ω):=fun i hi=>by cases hi
  have e9:([]:List (List Rat)).length+row+3=row+2+1:=by rw[length_nil];omega
  rw[e9]
  exact⟨_,_,hb,by rw[al4];omega,fun i hi=>al3 hp0 rz _ i hi,(w0.add (WB.one (x:=hp0.length) (.inr (Nat.le_refl _)))).add (WB.one (x:=hp0.length) (.inr (Nat.le_refl _)))⟩
 | r::rs,row,S,hp0,hd,hl,hS,h5,hH=>by
  have hrow:row<M.length:=by rw[hM];simp at hl;omega
  have hdr:=drop_eq_getElem_cons hrow
  rw[hd] at hdr
  simp only[List.cons.injEq] at hdr
  obtain⟨er,ers⟩:=hdr
  have hRr:=hR _ (getElem_mem hrow)
  have hmono:exB n k1 rs.length≤exB n k1 (n - 1):=by
   have hle:rs.length≤n - 1:=by simp at hl;omega
   have step:∀ d,exB n k1 d≤exB n k1 (d+1):=by
    intro d
    show exB n k1 d≤n*(k1+exB n k1 d+1)+1
    have:1*(k1+exB n k1 d+1)≤n*(k1+exB n k1 d+1):=Nat.mul_le_mul_right _ (by omega)
    omega
   have:∀ a b,a≤b→exB n k1 a≤exB n k1 b:=by
    intro a b hab
    induction hab with
    | refl=>exact Nat.le_refl _
    | step _ ih=>exact Nat.le_trans ih (step _)
   exact this _ _ hle
  have hnm:n*(k1+exB n k1 rs.length+1)≤n*(k1+exB n k1 (n - 1)+1):=Nat.mul_le_mul_left _ (by omega)
  have hcall:ZH L (runK (CC L) (rs.length+n+3)) hp0 S row n (fun i=>exU n rs (S.set i true)):=by
   intro i hi hSi hp1 hl1 ho1 h12
   obtain⟨p0,p2,p3,p4⟩:=hH
   have H1:H0 hp1 M n (S.set i true):=⟨by rw[ho1 0 (by omega) (by omega),p0],h12,by rw[ho1 3 (by omega) (by omega),p3],by rw[ho1 4 (by omega) (by omega),p4]⟩
   obtain⟨hp',w,c1,c2,c3,c4⟩:=WY L gm ga gn gs gf n M hk hM hn9 hR h6 rs (row+1) (S.set i true) hp1 ers.symm (by simp at hl;omega) (by rw[length_set];exact hS) (by omega) H1
   have hold:∀ j ∈ ky hp1.length w,j=2:=fun j hj=>by
    obtain⟨m1,m2⟩:=kA hj
    rcases c4 j m1 with h | h
    ·exact h
    ·omega
   refine⟨(ky hp1.length w).length,?_⟩
   have hcc:=wG (L:=L) Le c1 (by cases exU n rs (S.set i true) <;> rfl) c2 c3 (fun j hj b hb=>by
    rw[hold j hj,c3 2 (by omega),h12] at hb
    simp only[OiE] at hb
    rw[← hb];exact xZ _ _) true
   rw[MO hold] at hcc
   simpa [iv] using hcc
  obtain⟨fr,fr1,a1,a2,a3⟩:=ahg L (runK (CC L) (rs.length+n+3)) (rs.length+n+3) hp0 row n M hM (by omega) S h5 hH
  have l1:(aO (aO hp0 rz) rz).length=hp0.length+2:=by simp[aO]
  have X0:XH hp0 (aO (aO hp0 rz) rz) (cz none):=by
   refine⟨by omega,fun i hi => ?_,?_,?_⟩
   ·rw[bH,if_neg (by simp[aO];omega),bH,if_neg (by omega)]
   ·rw[bH,if_neg (by simp[aO]),al1]
   ·have:hp0.length+1=(aO hp0 rz).length:=by simp[aO]
    rw[this,al1];rfl
  have w0:WB hp0.length ([]:Ω):=fun i hi=>by cases hi
  have w1:=(w0.add (WB.one (x:=hp0.length) (.inr (Nat.le_refl _)))).add (WB.one (x:=hp0.length+1) (.inr (Nat.le_succ _)))
  obtain⟨fr2,hp2,wr2,b1,b2,b3,b4⟩:=Mr L (runK (CC L) (rs.length+n+3)) (rs.length+n+3) gm ga gn gs hp0 row n M S (fun i=>exU n rs (S.set i true)) (k1:=k1) (k2:=exB n k1 rs.length) hS (by omega) hn9 h5 hH hrow hRr.1 hk hRr.2 (fun i=>Jo hk rs _ fun R hRm=>(hR R (by
   have:R ∈ M.drop (row+1):=by rw[← ers];exact hRm
   exact mem_of_mem_drop this)).2) (by omega) hcall n 0 fr1 _ _ (by omega) a3 X0 w1
  have eU:exU n (r::rs) S=(exS (fun i=>vv (exU n rs (S.set i true))) M[row] S n).1:=by rw[← er];rfl
  obtain⟨st,c1,c2,c3,c4⟩:=adB L (runK (CC L) (rs.length+n+3)) (rs.length+n+3) fr2 hp0 hp2 wr2 row n n _ _ _ (Bf _) b2 b3
  have hloop:ae (CC L) (runK (CC L) (rs.length+n+3)) (rs.length+n+3) (.seq adD (.block 0 (.loop exL))) ⟨fr,aO (aO hp0 rz) rz,aC [hp0.length+1] (aC [hp0.length] [])⟩=some (.normal,⟨fr2,hp2,wr2⟩):=by
   rw[ar a2];exact bE (bK b1 (by omega))
  have hx:ae (CC L) (runK (CC L) (rs.length+n+3)) (rs.length+n+3) exC ⟨entry 56 [iv row,.ptr 0 0,.ptr 3 0,.ptr 4 0],hp0,[]⟩=some (.ret,st):=by
   rw[aY 4 a1,ahf,ar hloop,c1]
  have hb:=ez Bq rfl hx c4
  rw[c2,c3,← eU] at hb
  obtain⟨q1,q2,q3,q4⟩:=b3
  have e9:(r::rs).length+n+3=(rs.length+n+3)+1:=by simp;omega
  rw[e9]
  exact⟨_,_,hb,by rw[bJ];omega,fun i hi=>by rw[jQ (j:=i) q3 (by omega),q2 i hi],b4.add (WB.one (x:=hp0.length) (.inr (Nat.le_refl _)))⟩
theorem KB:base.F.get 62=some f62:=by kernel_rfl
theorem Sr:base.shared 62=false:=by kernel_rfl
theorem bB:ja TT 4=some 1:=by kernel_rfl
theorem zB:dU TT 4=some [bl false]:=by kernel_rfl
theorem ae3:dU TT 140=some [.sc (.slice none 0 0)]:=by kernel_rfl
theorem zFn:dU TT 141=some [.sc .nilFunc]:=by kernel_rfl
theorem JF (f:FuncId)(cs:Ψ):(PV.clos f cs).cells?=some [.clos f cs]:=(rfl)
theorem EM (f:FuncId)(cs:Ψ):eo (PV.clos f cs)=true:=(rfl)
theorem Yt (M:List (List Rat)):(mC M).cells?=some [mC M]:=(rfl)
theorem Tj:∀ n,rep n [bl false]=(List.replicate n false).map bl
 | 0=>rfl
 | n+1=>by rw[rep,Tj n,replicate_succ];rfl
def dtC:Code:=f62.body.getD .skip
def dtH (M:List (List Rat))(n:Nat)(sc:Ψ):Θ:=[⟨.live,[mC M]⟩,⟨.live,sc⟩,⟨.live,(List.replicate n false).map bl⟩,⟨.live,[.own 2 1 0 n true]⟩,⟨.live,[fnP]⟩]
theorem aht (L:Lst)(run:aw)(k:Nat)(M:List (List Rat))(n:Nat)(hM:M.length=n)(hn:n≤1000) :
  ∃ fr wr,bh (CC L) run k 4 dtC ⟨entry 11 [mC M],[],[]⟩=some ⟨fr,dtH M n rz,wr⟩∧fr.length=11∧nth fr 2 = .ptr 1 0∧nth fr 4 = .ptr 4 0:=by
 obtain⟨e1,e2⟩:=cO 10 (mC M)
 generalize entry 11 [mC M]=fr0 at *
 have hl:=I8 M
 rw[hM] at hl
 have hm:n≤cS:=Nat.le_trans hn (by decide)
 have hrp:=Tj n
 have hb:[bl false].length=1:=rfl
 have hblf:(bl false) = .sc (.bool false):=rfl
 simp[dtC,f62,bh,bn,and_assoc,P6,IJ,bg,e1,e2,hl,Yt,zRz,zFn,ae3,zB,bB,sB,hm,hrp,hb,zE,MP,Lj,GR,wJ,sFn,dtH,fnP,aO,aL,cg,ca,bp,ch,JF,EM]
theorem adQ(M:List (List Rat))(n m:Nat)(sc:Ψ)(u:Option Rat)(hc:Rc sc u)(h0:fr.length=11)(h2:nth fr 2 = .ptr 1 0)(h4:nth fr 4 = .ptr 4 0)(hcall:∀ dr,bP (CC L) run dr (dtH M n rz) 109 [.sc (.int .i64 0),.ptr 0 0,.ptr 3 0,.ptr 4 0]=some (.agg sc,dtH M n rz,⟨[],List.replicate m 2,true,true⟩)) :
  ∃ st,ae (CC L) run k (ai 4 dtC) ⟨fr,dtH M n rz,wr⟩=some (.ret,st)∧aX TT st.fr st.hp f62.results.toList=some [.agg sc]:=by
 have ht:=dG sc hc.len
 have ho:=ee rz sc (by rw[hc.len];rfl)
 have hok:=hc.okc
 have hlx:=hc.len
 have k4:aL (dtH M n rz) 4=some ⟨.live,[fnP]⟩:=rfl
 have k1:aL (dtH M n rz) 1=some ⟨.live,rz⟩:=rfl
 have k1':aL (cg (dtH M n rz) 1 ⟨.live,sc⟩) 1=some ⟨.live,sc⟩:=rfl
 unfold fnP at k4
 simp[dtC,f62,ai,aM,bm,h0,h2,h4,k4,k1,k1',hcall,ht,ho,hok,hlx,aR,sR,aFn,sFn,bp]
def Sq (n:Nat)(M:List (List Rat)):Prop:=M.length=n∧∀ R ∈ M,R.length=n∧RbL 1000 R
def yt (M:List (List Rat)):Option Rat:=exU M.length M (List.replicate M.length false)
theorem agF {k:Nat}{M N:List (List Rat)}(hM:∀ R ∈ M,RbL k R)(hN:∀ R ∈ N,RbL k R)(h9:k≤2000000)(h:mC M=mC N):M=N:=by
 unfold mC iz at h
 simp only[PV.imm.injEq,true_and] at h
 obtain⟨-,h2⟩:=h
 induction M generalizing N with
 | nil=>cases N with
  | nil=>rfl
  | cons b N=>simp[eV] at h2
 | cons a M ih=>cases N with
  | nil=>simp[eV] at h2
  | cons b N =>
   simp only[flatMap_cons,eV,cons_append,nil_append,List.cons.injEq] at h2
   rw[Bx (hM a mem_cons_self) (hN b mem_cons_self) h9 h2.1,ih (fun x hx=>hM x (mem_cons_of_mem _ hx)) (fun x hx=>hN x (mem_cons_of_mem _ hx)) h2.2]
def IA:Ψ→Option Ψ:=ctr (fun M:List (List Rat)=>[mC M]) (fun M=>∃ n,n≤4∧Sq n M) fun M=>[rv (yt M)]
theorem aho (n:Nat)(hn:n≤4):n*(1000+exB n 1000 (n - 1)+1)+1+1000+exB n 1000 (n - 1)≤1000000:=by
 have:n=0∨n=1∨n=2∨n=3∨n=4:=by omega
 rcases this with rfl | rfl | rfl | rfl | rfl <;> decide
theorem Iz:Ab.Spec base.P 62 IA:=Ab.Spec.bS (C:=CC LR1) (cR yL) fun args rs h=>by
 obtain⟨M,⟨n,hn,hM,hR⟩,rfl,rfl⟩:=db h
 obtain⟨fr,wr,a1,a2,a3,a4⟩:=aht LR1 (runK (CC LR1) (n+n+3)) (n+n+3) M n hM (by omega)
 have hH:H0 (dtH M n rz) M n (List.replicate n false):=⟨rfl,rfl,rfl,rfl⟩
 obtain⟨hp',w,c1,c2,c3,c4⟩:=WY LR1 rfl rfl rfl rfl rfl n M (k1:=1000) (by omega) hM (by omega) hR (aho n hn) M 0 (List.replicate n false) (dtH M n rz) rfl (by omega) (by simp) (Nat.le_refl 5) hH
 rw[hM] at c1
 have hold:∀ j ∈ ky (dtH M n rz).length w,j=2:=fun j hj=>by
  obtain⟨m1,m2⟩:=kA hj
  rcases c4 j m1 with h | h
  ·exact h
  ·omega
 have hcc:=fun dr=>wG (L:=LR1) Le c1 (by cases exU n M (List.replicate n false) <;> rfl) c2 c3 (fun j hj b hb=>by
  rw[hold j hj,c3 2 (show 2<5 by omega)] at hb
  have hb2:some (⟨.live,(List.replicate n false).map bl⟩:Blk)=some b:=hb
  simp only[OiE] at hb2
  rw[← hb2];exact xZ _ _) dr
 rw[MO hold] at hcc
 obtain⟨st,x1,x2⟩:=adQ LR1 (runK (CC LR1) (n+n+3)) (n+n+3) fr wr M n _ _ _ (Bf _) a2 a3 a4 hcc
 have hx:ae (CC LR1) (runK (CC LR1) (n+n+3)) (n+n+3) dtC ⟨entry 11 [mC M],[],[]⟩=some (.ret,st):=by
  rw[aY 4 a1,x1]
 have hd:yt M=exU n M (List.replicate n false):=by unfold yt;rw[hM]
 refine⟨_,_,_,_,_,_,ba KB rfl hx x2,(Bf _).p.KZ _,?_,trivial⟩
 rw[hd]
 exact (Bf _).p.wk
theorem aev {L:Lst}(hL:bx L 62=fun a=>IA (aK a))(run:aw)(p:PV)(M:List (List Rat))(hp:∀ hp,bw (snap hp bq) [p]=some ([p],[]))(hc:canon p=mC M){n k:Nat}(hn:n≤4)(hk:k≤1000)(hM:M.length=n)(hR:∀ R ∈ M,R.length=n∧RbL k R):az L run 62 [p] (rv (yt M)):=fun dr hh =>
 ic Sr hL run dr hh _ [mC M] [rv (yt M)] (hp hh) (by simp only[aK,hc]) (oB (e:=fun M:List (List Rat)=>[mC M]) (x:=M) (fun x y hx hy h=>by
  obtain⟨_,_,_,h1⟩:=hx
  obtain⟨_,_,_,h2⟩:=hy
  rw[agF (fun R hR=>(h1 R hR).2) (fun R hR=>(h2 R hR).2) (by omega) (by simpa using h)]) ⟨n,hn,hM,fun R hRm=>⟨(hR R hRm).1,fun x hx=>((hR R hRm).2 x hx).mono hk⟩⟩)
theorem Yw (M:List (List Rat)):canon (mT M)=mC M:=by
 unfold mT mC iz
 rw[canon]
 congr 1
 induction M with
 | nil=>rfl
 | cons a M ih =>
  rw[flatMap_cons,flatMap_cons,lI,ih]
  simp only[eT,eV,aK,pw]
def rq (s:ByteArray):Rat:=@Classical.epsilon Rat ⟨0⟩ fun x=>s=qb x
theorem Ll (x:Rat):rq (qb x)=x:=by
 have h:qb x=qb (rq (qb x)):=Classical.epsilon_spec (p:=fun y=>qb x=qb y) ⟨x,rfl⟩
 exact (tf h).symm
def toX (c:List (List ByteArray)):List (List Rat):=c.map fun p=>p.map rq
def qz (c:List (List ByteArray)):Prop:=c.length≤100∧∀ p ∈ c,p.length≤100∧∀ s ∈ p,(bys s).length≤60
theorem qz.fit {c:List (List ByteArray)}(h:qz c):Fit c:=⟨h.1,fun p hp=>⟨(h.2 p hp).1,fun s hs=>Nat.le_trans ((h.2 p hp).2 s hs) (by omega)⟩⟩
theorem MG {m:Nat}{p:List ByteArray}(h:sb m p=0)(hs:∀ s ∈ p,(bys s).length≤60):p.length=m∧1≤m∧m≤3∧p=(p.map rq).map qb∧RbL 61 (p.map rq):=by
 unfold sb at h
 by_cases hb:p.length=0∨3<p.length∨p.length≠m
 ·rw[if_pos hb] at h;omega
 ·rw[if_neg hb] at h
  have hall:p.all (fun s=>pB (IsV s))=true:=by
   cases e:p.all (fun s=>pB (IsV s)) with
   | true=>rfl
   | false=>rw[e] at h;cases h
  rw[all_eq_true] at hall
  have hv:∀ s ∈ p,∃ x,s=qb x∧rq s=x∧Rb 61 x:=fun s hsp=>by
   obtain⟨x,hx,-⟩:=UF.1 (hall s hsp)
   refine⟨x,hx,by rw[hx,Ll],?_⟩
   exact aeI (by rw[← hx];exact hs s hsp)
  refine⟨by omega,by omega,by omega,?_,?_⟩
  ·rw[map_map]
   conv=>lhs;rw[← map_id p]
   refine map_congr_left fun s hsp => ?_
   obtain⟨x,hx,e,-⟩:=hv s hsp
   show s=qb (rq s)
   rw[e];exact hx
  ·intro y hy
   obtain⟨s,hsp,rfl⟩:=mem_map.1 hy
   obtain⟨x,hx,e,hb⟩:=hv s hsp
   rw[e];exact hb
theorem Cx {m:Nat} : ∀ {c:List (List ByteArray)},jV m c=0→∀ p ∈ c,sb m p=0
 | p::r,h,q,hq=>by
  unfold jV at h
  by_cases h0:sb m p=0
  ·rw[if_pos h0] at h
   rcases mem_cons.1 hq with e | e
   ·rw[e];exact h0
   ·exact Cx h q e
  ·rw[if_neg h0] at h;exact absurd h h0
theorem JE {c:List (List ByteArray)}(h:chk c=0)(hF:qz c):cE c=qC (toX c)∧aez (hdL c) 61 (toX c)∧(c≠[]→1≤hdL c∧hdL c≤3)∧c.length≤64∧(toX c).length=c.length:=by
 unfold chk at h
 by_cases h64:64<c.length
 ·rw[if_pos h64] at h;omega
 ·rw[if_neg h64] at h
  have hp:=fun p hp=>MG (Cx h p hp) (hF.2 p hp).2
  refine⟨?_,?_,?_,by omega,by simp[toX]⟩
  ·unfold qC toX
   congr 1
   rw[map_map]
   conv=>lhs;rw[← map_id c]
   exact map_congr_left fun p hpc=>(hp p hpc).2.2.2.1
  ·intro P hP
   unfold toX at hP
   obtain⟨p,hpc,rfl⟩:=mem_map.1 hP
   have:=hp p hpc
   exact⟨by rw[length_map];exact this.1,this.2.2.2.2⟩
  ·intro hne
   cases c with
   | nil=>exact absurd rfl hne
   | cons p r =>
    have:=hp p mem_cons_self
    exact⟨this.2.1,this.2.2.1⟩
theorem MJ {c:List (List ByteArray)}(h:chk c=0):lJ c=hdL c:=by unfold lJ;rw[if_pos h]
theorem MH {c:List (List ByteArray)}{l:List Int}{n:Nat}(h:tz c l (n:Int)=0):chk c=0∧l.length=n∧∀ z ∈ l,0≤z∧z<c.length:=by
 unfold tz at h
 by_cases h1:chk c=0
 ·rw[if_neg (fun e=>e h1)] at h
  by_cases h2:(0:Int)≤(n:Int)∧(l.length:Int)≠n
  ·rw[if_pos h2] at h;omega
  ·rw[if_neg h2] at h
   refine⟨h1,by omega,fun z hz => ?_⟩
   cases hb:l.any (CE c.length) with
   | true=>rw[hb] at h;cases h
   | false =>
    rw[any_eq_false] at hb
    have:=hb z hz
    unfold CE at this
    simp only[Bool.or_eq_true,decide_eq_true_eq] at this
    omega
 ·rw[if_pos h1] at h;exact absurd h h1
theorem akx {l:List Int}(h:∀ z ∈ l,0≤z):aE l=aN (l.map Int.toNat):=by
 unfold aN
 rw[map_map]
 congr 1
 conv=>lhs;rw[← map_id l]
 exact map_congr_left fun z hz=>(Int.toNat_of_nonneg (h z hz)).symm
def ma (c:List (List ByteArray))(l:List Int):Option Rat × Nat :=
 if tz c l ((lJ c+1:Nat):Int)=0 then (yt (jK (toX c) (l.map Int.toNat)),0) else (none,tz c l ((lJ c+1:Nat):Int))
theorem ZZ {j k:Nat}{X Y:List Rat}(hX:RbL j X)(hY:RbL k Y):RbL (j+k+1) (jc X Y):=by
 intro z hz
 unfold jc at hz
 rw[mem_iff_getElem] at hz
 obtain⟨i,hi,rfl⟩:=hz
 rw[getElem_zipWith]
 exact (hX _ (getElem_mem _)).sub (hY _ (getElem_mem _))
theorem RJ {X Y:List Rat}(h:X.length=Y.length):(jc X Y).length=X.length:=by unfold jc;rw[length_zipWith];omega
theorem FO {m k:Nat}{X:List (List Rat)}{l:Ω}(hE:aez m k X)(hin:∀ i ∈ l,i<X.length):∀ R ∈ jK X l,R.length=m∧RbL (2*k+1) R:=by
 intro R hR
 unfold jK at hR
 obtain⟨i,hi,rfl⟩:=mem_map.1 hR
 cases l with
 | nil=>simp at hi
 | cons j l =>
  have h1:=hin i (mem_cons_of_mem _ hi)
  have h2:=hin j mem_cons_self
  simp only[headD_cons,getD_eq_getElem?_getD,List.getElem?_eq_getElem h1,List.getElem?_eq_getElem h2,Option.getD_some]
  have e1:=hE _ (getElem_mem h1)
  have e2:=hE _ (getElem_mem h2)
  refine⟨by rw[RJ (by omega)];exact e1.1,fun z hz=>(ZZ e1.2 e2.2 z hz).mono (by omega)⟩
theorem Bc (X:List (List Rat))(l:Ω):(jK X l).length=l.length - 1:=by unfold jK;simp
theorem Br:base.F.get 42=some f42:=by kernel_rfl
theorem aai:base.shared 42=false:=by kernel_rfl
theorem CR:base.F.get 15=some f15:=by kernel_rfl
theorem Hj:base.shared 15=false:=by kernel_rfl
theorem adV(c:List (List ByteArray))(l:List Int)(m e:Nat)(hm:m<1000)(he:e≠0)(g1:az L run 81 [cE c] (iv m))(g2:az L run 50 [cE c,aE l,.sc (.int .i64 ((m:Int)+1))] (iv e)) :
  ∃ st,ae (CC L) run k (f42.body.getD .skip) ⟨entry 21 [cE c,aE l],[],[]⟩=some (.ret,st)∧aX TT st.fr st.hp f42.results.toList=some [.agg rz,iv e]:=by
 obtain⟨e1,e2,e3⟩:=cl 19 (cE c) (aE l)
 generalize entry 21 [cE c,aE l]=fr0 at *
 have hw:=bD m (by omega)
 have hb:((e:Int) != 0)=true:=by simp;omega
 have hok:bg rz=true:=rfl
 have hrl:rz.length=4:=rfl
 have ho:=ee rz rz rfl
 have ht:=dG rz rfl
 have hbd:eK TT 72 []=some (.agg rz):=by simp[eK,zRz,uR,sW,rf0,rf1,dH]
 unfold az at g1 g2
 simp only[iv] at g1 g2 ⊢
 simp[f42,aM,bm,e1,e2,e3,g1,g2,hw,hb,zRz,hok,hrl,ho,ht,hbd,aR,sR,aO,aL,cg,bp]
theorem XO(c:List (List ByteArray))(l:List Int)(m:Nat)(d:PV)(cs:Ψ)(hcs:cs.length=4)(hok:bg cs=true)(hm:m<1000)(g1:az L run 81 [cE c] (iv m))(g2:az L run 50 [cE c,aE l,.sc (.int .i64 ((m:Int)+1))] (iv 0))(g3:az L run 51 [cE c,aE l] d)(g4:az L run 62 [d] (.agg cs)) :
  ∃ st,ae (CC L) run k (f42.body.getD .skip) ⟨entry 21 [cE c,aE l],[],[]⟩=some (.ret,st)∧aX TT st.fr st.hp f42.results.toList=some [.agg cs,iv 0]:=by
 obtain⟨e1,e2,e3⟩:=cl 19 (cE c) (aE l)
 generalize entry 21 [cE c,aE l]=fr0 at *
 have hw:=bD m (by omega)
 have ho:=ee rz cs (by rw[hcs];rfl)
 have ht:=dG cs hcs
 unfold az at g1 g2 g3 g4
 simp only[iv,Int.cast_ofNat_Int] at g1 g2 ⊢
 simp[f42,aM,bm,e1,e2,e3,g1,g2,g3,g4,hw,zRz,hok,hcs,ho,ht,aR,sR,aO,aL,cg,bp]
def LV1:Lst:=[(81,YQ),(50,UE),(51,Iy),(62,IA),(49,jS),(43,mz),(44,rtF)]
theorem YX:dE base.P LV1:=⟨QO,ON,Ix,Iz,mv,mw,aaG,trivial⟩
abbrev CA:=List (List ByteArray) × List Int
def eCA (p:CA):Ψ:=[cE p.1,aE p.2]
theorem Mx {p q:CA}(h:eCA p=eCA q):p=q:=by
 simp only[eCA,List.cons.injEq,and_true] at h
 exact Prod.ext (CD h.1) (JV h.2)
def agd (p:CA):Prop:=qz p.1∧p.2.length≤1000
def UD:Ψ→Option Ψ:=ctr eCA agd fun p=>[rv (ma p.1 p.2).1,iv (ma p.1 p.2).2]
theorem ag9 {c:List (List ByteArray)}(h:Fit c):hdL c≤100:=by
 cases c with
 | nil=>exact Nat.zero_le _
 | cons p r=>exact (h.2 p mem_cons_self).1
theorem MK {c:List (List ByteArray)}(h:Fit c):lJ c<1000:=by
 have:=ag9 h
 unfold lJ
 split <;> omega
theorem OM:Ab.Spec base.P 42 UD:=Ab.Spec.bS (C:=CC LV1) (cR YX) fun args rs h=>by
 obtain⟨⟨c,l⟩,⟨hF,h9⟩,rfl,rfl⟩:=db h
 dsimp only at hF h9
 have g1:=aiC (L:=LV1) rfl (runK (CC LV1) 1) c hF.fit
 have g2:=aix (L:=LV1) rfl (runK (CC LV1) 1) c l ((lJ c+1:Nat):Int) hF.fit h9
 show ∃ k rs1 hp1 wr rs2 ids,runK (CC LV1) k 42 [cE c,aE l] []=_∧_∧WkL rs2 [rv (ma c l).1,iv (ma c l).2]
 unfold ma
 by_cases h0:tz c l ((lJ c+1:Nat):Int)=0
 ·rw[if_pos h0]
  rw[h0] at g2
  obtain⟨h1,h2,h3⟩:=MH h0
  obtain⟨q1,q2,q3,q4,q5⟩:=JE h1 hF
  have hax:=MJ h1
  have hlne:l≠[]:=by intro e;rw[e] at h2;simp at h2
  have hcne:c≠[]:=by
   intro e
   cases l with
   | nil=>exact hlne rfl
   | cons z l =>
    have:=h3 z mem_cons_self
    rw[e] at this
    simp at this
    omega
  have q3':=q3 hcne
  have hin:∀ i ∈ l.map Int.toNat,i<(toX c).length:=fun i hi=>by
   obtain⟨z,hz,rfl⟩:=mem_map.1 hi
   have:=h3 z hz
   rw[q5];omega
  have g3:=aeu (L:=LV1) rfl (runK (CC LV1) 1) (toX c) (l.map Int.toNat) (by simpa using hlne) (by simpa using h9) hin (show hdL c≤1000 by omega) (show 61≤1000 by omega) q2
  rw[← q1,← akx (fun z hz=>(h3 z hz).1)] at g3
  have hdo:=FO q2 hin
  have hdl:(jK (toX c) (l.map Int.toNat)).length=hdL c:=by rw[Bc,length_map,h2,hax];omega
  have g4:=aev (L:=LV1) rfl (runK (CC LV1) 1) (mT (jK (toX c) (l.map Int.toNat))) _ (fun _=>rfl) (Yw _) (n:=hdL c) (by omega) (show 2*61+1≤1000 by omega) hdl hdo
  rw[zX] at g4
  obtain⟨st,x1,x2⟩:=XO LV1 (runK (CC LV1) 1) 1 c l (lJ c) _ _ (BU _) (rP.okc _) (MK hF.fit) g1 g2 g3 g4
  rw[← zX] at x2
  exact⟨2,_,_,_,[rv (yt (jK (toX c) (l.map Int.toNat)))]++[iv 0],[],ba Br rfl x1 x2,lC (wq _ _) rfl,Wk.refl (by rw[zX];exact rP.idf _),Wk.refl rfl,trivial⟩
 ·rw[if_neg h0]
  obtain⟨st,x1,x2⟩:=adV LV1 (runK (CC LV1) 1) 1 c l (lJ c) _ (MK hF.fit) h0 g1 g2
  refine⟨2,_,_,_,[.agg rz,iv _],[],ba Br rfl x1 x2,rfl,?_,Wk.refl rfl,trivial⟩
  exact (show Rp (.agg rz) none from .inr ⟨rfl,rfl⟩).wk
theorem R7(p:CA):bw (snap hp bq) (eCA p)=some (eCA p,[]):=rfl
theorem P8 (p:CA):aK (eCA p)=eCA p:=by simp only[eCA,aK,iY,yA]
theorem aiw {L:Lst}(hL:bx L 42=fun a=>UD (aK a))(run:aw)(c:List (List ByteArray))(l:List Int)(hF:qz c)(h9:l.length≤1000):az L run 42 [cE c,aE l] (.tup [rv (ma c l).1,iv (ma c l).2]) :=
 ji aai (e:=eCA) (f:=fun p=>[rv (ma p.1 p.2).1,iv (ma p.1 p.2).2]) hL (fun x y _ _ h=>by rw[Mx h]) run (c,l) ⟨hF,h9⟩ (R7 · _) (P8 _)
theorem adW {c:List (List ByteArray)}{l:List Int}(hF:qz c):Rb 100000 (vv (ma c l).1):=by
 unfold ma
 by_cases h0:tz c l ((lJ c+1:Nat):Int)=0
 ·rw[if_pos h0]
  obtain⟨h1,h2,h3⟩:=MH h0
  obtain⟨q1,q2,q3,q4,q5⟩:=JE h1 hF
  have hax:=MJ h1
  have hin:∀ i ∈ l.map Int.toNat,i<(toX c).length:=fun i hi=>by
   obtain⟨z,hz,rfl⟩:=mem_map.1 hi
   have:=h3 z hz
   rw[q5];omega
  have hdo:=FO q2 hin
  have hdl:(jK (toX c) (l.map Int.toNat)).length=hdL c:=by rw[Bc,length_map,h2,hax];omega
  have hm:hdL c≤3:=by
   cases hc:c with
   | nil=>exact Nat.zero_le _
   | cons p r=>rw[← hc];exact (q3 (by rw[hc];simp)).2
  show Rb 100000 (vv (yt _))
  unfold yt
  refine (Jo (k:=123) (by omega) _ _ fun R hR => ?_).mono ?_
  ·exact (hdo R hR).2
  ·rw[hdl]
   have:hdL c=0∨hdL c=1∨hdL c=2∨hdL c=3:=by omega
   rcases this with h | h | h | h <;> rw[h] <;> decide
 ·rw[if_neg h0]
  exact (Rb.zero 0).mono (by omega)
theorem Gq(c:List (List ByteArray))(l:List Int)(cs:Ψ)(e:Nat)(s:Int)(hcs:cs.length=4)(hok:bg cs=true)(g1:az L run 42 [cE c,aE l] (.tup [.agg cs,iv e]))(g2:az L run 49 [.agg cs] (Ab.bN s)) :
  ∃ st,ae (CC L) run k (f15.body.getD .skip) ⟨entry 17 [cE c,aE l],[],[]⟩=some (.ret,st)∧aX TT st.fr st.hp f15.results.toList=some [Ab.bN s,iv e]:=by
 obtain⟨e1,e2,e3⟩:=cl 15 (cE c) (aE l)
 generalize entry 17 [cE c,aE l]=fr0 at *
 have ho:=ee rz cs (by rw[hcs];rfl)
 have ht:=dG cs hcs
 unfold az at g1 g2
 simp only[iv,Ab.bN] at g1 g2 ⊢
 simp[f15,aM,bm,e1,e2,e3,g1,g2,zRz,hok,hcs,ho,ht,aR,sR,aO,aL,cg,bp]
def LV2:Lst:=(42,UD)::LV1
theorem ah9:dE base.P LV2:=⟨OM,YX⟩
def OS (c:List (List ByteArray))(l:List Int):Int:=ko (vv (ma c l).1)
def xC:Ψ→Option Ψ:=ctr eCA agd fun p=>[Ab.bN (OS p.1 p.2),iv (ma p.1 p.2).2]
theorem B9:Ab.Spec base.P 15 xC:=Ab.Spec.bS (C:=CC LV2) (cR ah9) fun args rs h=>by
 obtain⟨⟨c,l⟩,⟨hF,h9⟩,rfl,rfl⟩:=db h
 dsimp only at hF h9
 have g1:=aiw (L:=LV2) rfl (runK (CC LV2) 1) c l hF h9
 have g2:=aer (L:=LV2) rfl (runK (CC LV2) 1) (adW (l:=l) hF) (by omega)
 rw[zX] at g1 g2
 obtain⟨st,x1,x2⟩:=Gq LV2 (runK (CC LV2) 1) 1 c l _ (ma c l).2 _ (BU _) (rP.okc _) g1 g2
 exact⟨2,_,_,_,_,_,ba CR rfl x1 x2,rfl,Wk.refl rfl,Wk.refl rfl,trivial⟩
def RowsIn (hp:Θ)(id:Nat):Ψ→List (List Rat)→Prop
 | [],[]=>True
 | v::vs,R::Rs=>(∃ j,v = .own j 4 0 R.length false∧j≠id∧aL hp j=some ⟨.live,R.flatMap rcs⟩)∧RowsIn hp id vs Rs
 | _,_=>False
theorem RowsIn.len {hp:Θ}{id:Nat} : ∀ {vs:Ψ} {Rs:List (List Rat)},RowsIn hp id vs Rs→vs.length=Rs.length
 | [],[],_=>rfl
 | v::vs,R::Rs,h=>by rw[length_cons,length_cons,RowsIn.len h.2]
 | [],_::_,h=>h.elim
 | _::_,[],h=>h.elim
theorem RowsIn.mono {hp hp':Θ}{id id':Nat}(h1:∀ j,j≠id→j<hp.length→aL hp' j=aL hp j∧j≠id'):∀ {vs:Ψ} {Rs:List (List Rat)},RowsIn hp id vs Rs→RowsIn hp' id' vs Rs
 | [],[],_=>trivial
 | v::vs,R::Rs,⟨⟨j,e1,e2,e3⟩,h⟩=>by
  have hj:j<hp.length:=by
   rw[cV] at e3
   exact (List.getElem?_eq_some_iff.1 e3).1
  obtain⟨m1,m2⟩:=h1 j e2 hj
  exact⟨⟨j,e1,m2,by rw[m1,e3]⟩,RowsIn.mono h1 h⟩
 | [],_::_,h=>h.elim
 | _::_,[],h=>h.elim
theorem RowsIn.snoc {hp:Θ}{id j:Nat}{R:List Rat}(hj:j≠id)(hb:aL hp j=some ⟨.live,R.flatMap rcs⟩):∀ {vs:Ψ} {Rs:List (List Rat)},RowsIn hp id vs Rs→RowsIn hp id (vs++[.own j 4 0 R.length false]) (Rs++[R])
 | [],[],_=>⟨⟨j,rfl,hj,hb⟩,trivial⟩
 | v::vs,S::Rs,h=>⟨h.1,RowsIn.snoc hj hb h.2⟩
 | [],_::_,h=>h.elim
 | _::_,[],h=>h.elim
theorem RowsIn.snap {hp:Θ}{id:Nat} : ∀ {vs:Ψ} {Rs:List (List Rat)},RowsIn hp id vs Rs→∃ ids,bw (Ab.snap hp 11) vs=some (Rs.flatMap eV,ids)
 | [],[],_=>⟨[],rfl⟩
 | v::vs,R::Rs,⟨⟨j,e1,_,e3⟩,h⟩=>by
  obtain⟨ids,hi⟩:=RowsIn.snap h
  have ht:bF (bp (R.flatMap rcs) 0) (R.length*4)=some (R.flatMap rcs):=by
   have:=sE cB.toEl R []
   rw[append_nil] at this
   rw[cF,drop_zero,this]
  have h1:Ab.snap hp (10+1) v=some (vR R,[j]):=by
   rw[e1,Ab.snap]
   simp only[e3]
   rw[if_neg (by simp),ht]
   simp only[cB.sns hp 9 R]
   rfl
  refine⟨[j]++ids,?_⟩
  simp only[bw,h1,hi]
  rfl
 | [],_::_,h=>h.elim
 | _::_,[],h=>h.elim
theorem RowsIn.okc {hp:Θ}{id:Nat} : ∀ {vs:Ψ} {Rs:List (List Rat)},RowsIn hp id vs Rs→bg vs=true
 | [],[],_=>rfl
 | v::vs,R::Rs,⟨⟨j,e1,_,_⟩,h⟩=>by rw[bg,RowsIn.okc h,e1];rfl
 | [],_::_,h=>h.elim
 | _::_,[],h=>h.elim
def YV (hp:Θ)(Rs:List (List Rat))(p:PV):Prop:=(Rs=[]∧p = .sc (.slice none 0 0))∨∃ id vs,p = .own id 1 0 Rs.length false∧aL hp id=some ⟨.live,vs⟩∧RowsIn hp id vs Rs
theorem YV.app {hp:Θ}{Rs:List (List Rat)}{p:PV}(h:YV hp Rs p)(R:List Rat)(h9:Rs.length≤1000) :
  ∃ p' hp' fp,cU (aO (aO hp (R.flatMap rcs)) [.own hp.length 4 0 R.length false]) 1 p 1 [.own hp.length 4 0 R.length false]=some (p',hp',fp)∧YV hp' (Rs++[R]) p':=by
 have n1:∀ cs:Ψ,(aO hp cs).length=hp.length+1:=fun cs=>by simp[aO]
 have n2:(aO (aO hp (R.flatMap rcs)) [.own hp.length 4 0 R.length false]).length=hp.length+2:=by simp[aO]
 have hl:∀ j,j<hp.length→aL (aO (aO hp (R.flatMap rcs)) [.own hp.length 4 0 R.length false]) j=aL hp j:=fun j hj=>by
  rw[bH,if_neg (by rw[n1];omega),bH,if_neg (by omega)]
 have hr:aL (aO (aO hp (R.flatMap rcs)) [.own hp.length 4 0 R.length false]) hp.length=some ⟨.live,R.flatMap rcs⟩:=by
  rw[bH,if_neg (by rw[n1];omega),al1]
 rcases h with ⟨rfl,rfl⟩| ⟨id,vs,rfl,hb,hR⟩
 ·refine⟨_,_,_,rfl,.inr ⟨_,[.own hp.length 4 0 R.length false],rfl,al1 _ _,⟨⟨hp.length,rfl,by rw[n2];omega,?_⟩,trivial⟩⟩⟩
  rw[bH,if_neg (by rw[n2];omega),hr]
 ·have hid:id<hp.length:=by
   rw[cV] at hb
   exact (List.getElem?_eq_some_iff.1 hb).1
  have hb':=(hl id hid).trans hb
  have ht:bF (bp vs 0) (Rs.length*1)=some vs:=by
   rw[cF,drop_zero,Nat.mul_one,dh (by rw[hR.len];exact Nat.le_refl _),← hR.len,take_length]
  have hm:Rs.length+1≤cS:=Nat.le_trans (show Rs.length+1≤1001 by omega) (by decide)
  have ha:cU (aO (aO hp (R.flatMap rcs)) [.own hp.length 4 0 R.length false]) 1 (.own id 1 0 Rs.length false) 1 [.own hp.length 4 0 R.length false]=some (.own (hp.length+2) 1 0 (Rs.length+1) false,aO (cg (aO (aO hp (R.flatMap rcs)) [.own hp.length 4 0 R.length false]) id ⟨.dead,[]⟩) (vs++[.own hp.length 4 0 R.length false]),⟨[],[id,hp.length+2],true,false⟩):=by
   simp only[cU,hb',ht,n2]
   rw[if_neg (by simp),if_pos hm]
  refine⟨_,_,_,ha,.inr ⟨hp.length+2,vs++[.own hp.length 4 0 R.length false],by simp,?_,?_⟩⟩
  ·rw[bH,bJ,n2,if_pos rfl]
  ·refine RowsIn.snoc (by omega) ?_ (RowsIn.mono (fun j hj hj2=>⟨?_,by omega⟩) hR)
   ·rw[bH,bJ,n2,if_neg (by omega),cI hb',if_neg (by omega),hr]
   ·rw[bH,bJ,n2,if_neg (by omega),cI hb',if_neg (by omega),hl j hj2]
theorem YV.snap {hp:Θ}{Rs:List (List Rat)}{p:PV}(h:YV hp Rs p):∃ q ids,bw (Ab.snap hp bq) [p]=some ([q],ids)∧canon q=mC Rs:=by
 rcases h with ⟨rfl,rfl⟩| ⟨id,vs,rfl,hb,hR⟩
 ·exact⟨.sc (.slice none 0 0),[],rfl,rfl⟩
 ·obtain⟨ids,hi⟩:=hR.snap
  have ht:bF (bp vs 0) (Rs.length*1)=some vs:=by
   rw[cF,drop_zero,Nat.mul_one,dh (by rw[hR.len];exact Nat.le_refl _),← hR.len,take_length]
  have h1:Ab.snap hp (11+1) (.own id 1 0 Rs.length false)=some (mC Rs,id::ids):=by
   rw[Ab.snap]
   simp only[hb]
   rw[if_neg (by simp),ht]
   simp only[hi]
   rfl
  refine⟨mC Rs,(id::ids)++[],?_,akk.JH Rs⟩
  show bw (Ab.snap hp 12) _=_
  simp only[bw,h1]
theorem aeC:und TT 27=some .string:=by kernel_rfl
theorem qD:base.F.get 11=some f11:=by kernel_rfl
theorem SE:base.shared 11=false:=by kernel_rfl
theorem uZ:base.F.get 41=some f41:=by kernel_rfl
theorem NA:base.shared 41=false:=by kernel_rfl
def Bl (n:Nat):Prop:=n<4611686018427387904
theorem Bl.i {n m:Nat}(h:Bl n)(hm:m<n):m<9223372036854775807:=Nat.lt_trans hm (Nat.lt_trans h (by decide))
def pM (s:ByteArray):Bool:=decide (60<(bys s).length)
def nE (p:List ByteArray):Bool:=p.any pM || decide (8<p.length)
def rF (c:List (List ByteArray)):Bool:=(decide (8<c.length) && decide (c.length≤64)) || (decide (70<c.length) || c.any nE)
def lpC:Code:=f41.body.getD .skip
def lpB:Code:=(aA lpC).getD .skip
def LpF (fr:Ψ)(p:List ByteArray)(i:Nat):Prop:=fr.length=19∧nth fr 0=pE p∧nth fr 3=iv i
theorem aj6 (m:Nat):((m:Int) > 60)=(60<m):=by apply propext;omega
theorem gt8 (m:Nat):((m:Int) > 8)=(8<m):=by apply propext;omega
theorem lt8 (m:Nat):((8:Int)<(m:Int))=(8<m):=by apply propext;omega
theorem aj5 (m:Nat):((m:Int) > 70)=(70<m):=by apply propext;omega
theorem ajz (m:Nat):((70:Int)<(m:Int))=(70<m):=by apply propext;omega
theorem ajN (m:Nat):((m:Int)≤64)=(m≤64):=by apply propext;omega
theorem agJ(p:List ByteArray)(h:LpF fr p p.length) :
  ∃ fr',ae (CC L) run k lpB ⟨fr,[],[]⟩=some (.exit 0,⟨fr',[],[]⟩)∧LpF fr' p p.length:=by
 obtain⟨h0,h1,h3⟩:=h
 have hl:=eF p
 simp only[iv] at h3
 simp[LpF,iv,lpB,lpC,f41,aA,h0,h1,h3,hl,uRs]
theorem VT(p:List ByteArray)(i:Nat)(hi:i<p.length)(h9:Bl p.length)(h:LpF fr p i) :
  ∃ fr',ae (CC L) run k lpB ⟨fr,[],[]⟩=some (bif pM p[i] then .ret else .normal,⟨fr',[],[]⟩)∧(pM p[i]=true→nth fr' 2 = .sc (.bool true))∧(pM p[i]=false→LpF fr' p (i+1)):=by
 obtain⟨h0,h1,h3⟩:=h
 have hl:=eF p
 obtain⟨r,x1,x2⟩:=AQ uRs p i hi
 have hw:=bD i (h9.i hi)
 generalize p[i]=s at *
 have hb:pM s=decide (60<(bQ s).length):=by unfold pM;rw[j7]
 rw[hb]
 simp only[iv] at h3
 by_cases hs:60<(bQ s).length
 ·simp[LpF,iv,lpB,lpC,f41,aA,h0,h1,h3,hl,uRs,aeC,hi,x1,x2,hs,aj6,pP,nt]
 ·simp[LpF,iv,lpB,lpC,f41,aA,h0,h1,h3,hl,uRs,aeC,hi,x1,x2,hs,hw,aj6,pP,nt]
theorem LO (L:Lst)(run:aw)(k:Nat)(p:List ByteArray)(h9:Bl p.length):∀ (n i:Nat) (fr:Ψ),i+n=p.length→LpF fr p i →
  (∃ fr',(p.drop i).any pM=false∧cb (ae (CC L) run k lpB) (n+1) ⟨fr,[],[]⟩=some (.exit 0,⟨fr',[],[]⟩)∧LpF fr' p p.length)∨∃ fr',(p.drop i).any pM=true∧cb (ae (CC L) run k lpB) (n+1) ⟨fr,[],[]⟩=some (.ret,⟨fr',[],[]⟩)∧nth fr' 2 = .sc (.bool true)
 | 0,i,fr,hin,h=>by
  have e:i=p.length:=by omega
  subst e
  obtain⟨fr',q1,q2⟩:=agJ L run k fr p h
  rw[drop_length]
  exact .inl ⟨fr',rfl,bu q1,q2⟩
 | n+1,i,fr,hin,h=>by
  have hi:i<p.length:=by omega
  obtain⟨fr1,q1,q2,q3⟩:=VT L run k fr p i hi h9 h
  rw[drop_eq_getElem_cons hi,any_cons]
  cases hv:pM p[i] with
  | true =>
   rw[hv] at q1
   exact .inr ⟨fr1,rfl,du q1,q2 hv⟩
  | false =>
   rw[hv] at q1
   rw[Bool.false_or,bT q1]
   exact LO L run k p h9 n (i+1) fr1 (by omega) (q3 hv)
def acA:Code:=seq1 (seq1 (ai 1 lpC))
theorem VS:ai 1 lpC = .seq (.seq acA (.block 0 (.loop lpB))) (ai 2 lpC):=rfl
theorem agI (L:Lst)(run:aw)(k:Nat)(p:List ByteArray):∃ fr fr',bh (CC L) run k 1 lpC ⟨entry 19 [pE p],[],[]⟩=some ⟨fr,[],[]⟩∧ae (CC L) run k acA ⟨fr,[],[]⟩=some (.normal,⟨fr',[],[]⟩)∧LpF fr' p 0:=by
 obtain⟨e1,e2⟩:=cO 18 (pE p)
 generalize entry 19 [pE p]=fr0 at *
 obtain⟨fr,a1,a2,a3⟩:∃ fr,bh (CC L) run k 1 lpC ⟨fr0,[],[]⟩=some ⟨fr,[],[]⟩∧fr.length=19∧nth fr 0=pE p:=by
  simp[lpC,f41,bh,e1,e2]
 refine⟨fr,?_⟩
 rw[a1]
 simp[LpF,iv,acA,seq1,ai,lpC,f41,a2,a3]
theorem acz(p:List ByteArray)(h:LpF fr p p.length):∃ st,ae (CC L) run k (ai 2 lpC) ⟨fr,[],[]⟩=some (.ret,st)∧aX TT st.fr st.hp f41.results.toList=some [.sc (.bool (decide (8<p.length)))]:=by
 obtain⟨h0,h1,h3⟩:=h
 have hl:=eF p
 simp[lpC,ai,f41,h0,h1,hl,uRs,gt8]
theorem agH(b:PV)(h:nth fr 2=b):aX TT fr hp f41.results.toList=some [b]:=by
 simp[f41,h]
def I4:Ψ→Option Ψ:=ctr (fun p=>[pE p]) (fun p=>Bl p.length) fun p=>[.sc (.bool (nE p))]
theorem I3:Ab.Spec base.P 41 I4:=Ab.Spec.bS (C:=CC []) (cR trivial) fun args rs h=>by
 obtain⟨p,h9,rfl,rfl⟩:=db h
 obtain⟨fr,fr1,a1,a2,a3⟩:=agI [] (runK (CC []) (p.length+1)) (p.length+1) p
 have hl:=LO [] (runK (CC []) (p.length+1)) (p.length+1) p h9 p.length 0 fr1 (by omega) a3
 rw[drop_zero] at hl
 show ∃ k rs1 hp1 wr rs2 ids,_∧_∧WkL rs2 [.sc (.bool (nE p))]
 unfold nE
 rcases hl with ⟨fr2,h0,b1,b2⟩| ⟨fr2,h0,b1,b2⟩
 ·obtain⟨st,c1,c2⟩:=acz [] (runK (CC []) (p.length+1)) (p.length+1) fr2 p b2
  have hL:ae (CC []) (runK (CC []) (p.length+1)) (p.length+1) (.seq acA (.block 0 (.loop lpB))) ⟨fr,[],[]⟩=some (.normal,⟨fr2,[],[]⟩):=by
   rw[ar a2];exact bE b1
  rw[← ar hL,← VS,← aY 1 a1] at c1
  rw[h0,Bool.false_or]
  exact⟨_,_,_,_,_,_,ba uZ rfl c1 c2,rfl,Wk.refl rfl,trivial⟩
 ·have hL:ae (CC []) (runK (CC []) (p.length+1)) (p.length+1) lpC ⟨entry 19 [pE p],[],[]⟩=some (.ret,⟨fr2,[],[]⟩):=by
   rw[aY 1 a1,VS]
   refine bO ?_
   rw[ar a2];exact cJ b1
  rw[h0,Bool.true_or]
  exact⟨_,_,_,_,_,_,ba uZ rfl hL (agH _ _ _ b2),rfl,Wk.refl rfl,trivial⟩
theorem aew {L:Lst}(hL:bx L 41=fun a=>I4 (aK a))(run:aw)(p:List ByteArray)(h9:Bl p.length):az L run 41 [pE p] (.sc (.bool (nE p))) :=
 ji NA (e:=fun p=>[pE p]) (f:=fun p=>[.sc (.bool (nE p))]) hL (fun x y _ _ h=>by rw[IB (p:=x) (q:=y) (by simpa using h)]) run p h9 (fun _=>rfl) (by simp only[aK,F4])
def lgC:Code:=f11.body.getD .skip
def lgB:Code:=(aA lgC).getD .skip
def LgF (fr:Ψ)(c:List (List ByteArray))(i:Nat):Prop:=fr.length=28∧nth fr 0=cE c∧nth fr 3=iv i
theorem agU(c:List (List ByteArray))(h:LgF fr c c.length) :
  ∃ fr',ae (CC L) run k lgB ⟨fr,[],[]⟩=some (.exit 0,⟨fr',[],[]⟩)∧LgF fr' c c.length:=by
 obtain⟨h0,h1,h3⟩:=h
 have hl:=eG c
 simp only[iv] at h3
 simp[LgF,iv,lgB,lgC,f11,aA,h0,h1,h3,hl,uCl]
theorem Wo(c:List (List ByteArray))(i:Nat)(v:Bool)(hi:i<c.length)(h9:c.length<1000)(g:az L run 41 [pE c[i]] (.sc (.bool v)))(h:LgF fr c i) :
  ∃ fr',ae (CC L) run k lgB ⟨fr,[],[]⟩=some (bif v then .ret else .normal,⟨fr',[],[]⟩)∧(v=true→nth fr' 2 = .sc (.bool true))∧(v=false→LgF fr' c (i+1)):=by
 obtain⟨h0,h1,h3⟩:=h
 have hl:=eG c
 obtain⟨r,x1,x2⟩:=jH uCl c i hi
 have hw:=bD i (by omega)
 unfold az at g
 generalize c[i]=p at *
 simp only[iv] at h3
 cases v <;> simp[LgF,iv,lgB,lgC,f11,aA,aM,h0,h1,h3,hl,uCl,hi,x1,x2,g,hw,aPt,sPt]
theorem LR (L:Lst)(run:aw)(k:Nat)(c:List (List ByteArray))(h9:c.length<1000)(g:∀ p ∈ c,az L run 41 [pE p] (.sc (.bool (nE p)))):∀ (n i:Nat) (fr:Ψ),i+n=c.length→LgF fr c i →
  (∃ fr',(c.drop i).any nE=false∧cb (ae (CC L) run k lgB) (n+1) ⟨fr,[],[]⟩=some (.exit 0,⟨fr',[],[]⟩)∧LgF fr' c c.length)∨∃ fr',(c.drop i).any nE=true∧cb (ae (CC L) run k lgB) (n+1) ⟨fr,[],[]⟩=some (.ret,⟨fr',[],[]⟩)∧nth fr' 2 = .sc (.bool true)
 | 0,i,fr,hin,h=>by
  have e:i=c.length:=by omega
  subst e
  obtain⟨fr',q1,q2⟩:=agU L run k fr c h
  rw[drop_length]
  exact .inl ⟨fr',rfl,bu q1,q2⟩
 | n+1,i,fr,hin,h=>by
  have hi:i<c.length:=by omega
  obtain⟨fr1,q1,q2,q3⟩:=Wo L run k fr c i _ hi h9 (g _ (getElem_mem hi)) h
  rw[drop_eq_getElem_cons hi,any_cons]
  cases hv:nE c[i] with
  | true =>
   rw[hv] at q1 q2
   exact .inr ⟨fr1,rfl,du q1,q2 rfl⟩
  | false =>
   rw[hv] at q1 q3
   rw[Bool.false_or,bT q1]
   exact LR L run k c h9 g n (i+1) fr1 (by omega) (q3 rfl)
def acR:Code:=seq1 (seq1 (ai 2 lgC))
theorem Wn:ai 2 lgC = .seq (.seq acR (.block 0 (.loop lgB))) (ai 3 lgC):=rfl
theorem acQ(c:List (List ByteArray))(h:8<c.length∧c.length≤64∨70<c.length):∃ st,ae (CC L) run k lgC ⟨entry 28 [cE c],[],[]⟩=some (.ret,st)∧aX TT st.fr st.hp f11.results.toList=some [.sc (.bool true)]:=by
 obtain⟨e1,e2⟩:=cO 27 (cE c)
 generalize entry 28 [cE c]=fr0 at *
 have hl:=eG c
 generalize c.length=m at *
 have a1:=gt8 m
 have a2:=lt8 m
 have a3:=aj5 m
 have a4:=ajz m
 have a5:=ajN m
 by_cases b8:8<m
 ·by_cases b64:m≤64
  ·simp[lgC,f11,e1,e2,hl,uCl,a1,a5,b8,b64,undef]
  ·have b70:70<m:=by omega
   simp[lgC,f11,e1,e2,hl,uCl,a1,a3,a5,b8,b64,b70]
 ·omega
theorem agT (L:Lst)(run:aw)(k:Nat)(c:List (List ByteArray))(h : ¬ (8<c.length∧c.length≤64∨70<c.length)):∃ fr fr',bh (CC L) run k 2 lgC ⟨entry 28 [cE c],[],[]⟩=some ⟨fr,[],[]⟩∧ae (CC L) run k acR ⟨fr,[],[]⟩=some (.normal,⟨fr',[],[]⟩)∧LgF fr' c 0:=by
 obtain⟨e1,e2⟩:=cO 27 (cE c)
 generalize entry 28 [cE c]=fr0 at *
 have hl:=eG c
 have a1:=gt8 c.length
 have a2:=lt8 c.length
 have a3:=aj5 c.length
 have a4:=ajz c.length
 have a5:=ajN c.length
 have b70 : ¬ 70<c.length:=fun e=>h (.inr e)
 obtain⟨fr,z1,z2,z3⟩:∃ fr,bh (CC L) run k 2 lgC ⟨fr0,[],[]⟩=some ⟨fr,[],[]⟩∧fr.length=28∧nth fr 0=cE c:=by
  by_cases b8:8<c.length
  ·have b64 : ¬ c.length≤64:=fun e=>h (.inl ⟨b8,e⟩)
   simp[lgC,f11,bh,e1,e2,hl,uCl,a1,a3,a5,b8,b64,b70]
  ·simp[lgC,f11,bh,e1,e2,hl,uCl,a1,a3,b8,b70,undef]
 refine⟨fr,?_⟩
 rw[z1]
 simp[LgF,iv,acR,seq1,ai,lgC,f11,z2,z3]
theorem acP(c:List (List ByteArray))(h:LgF fr c c.length):∃ st,ae (CC L) run k (ai 3 lgC) ⟨fr,[],[]⟩=some (.ret,st)∧aX TT st.fr st.hp f11.results.toList=some [.sc (.bool false)]:=by
 obtain⟨h0,h1,h3⟩:=h
 simp[lgC,ai,f11,h0]
theorem agS(b:PV)(h:nth fr 2=b):aX TT fr hp f11.results.toList=some [b]:=by
 simp[f11,h]
def LV4:Lst:=[(41,I4)]
def I5:Ψ→Option Ψ:=ctr (fun c=>[cE c]) (fun c=>∀ p ∈ c,Bl p.length) fun c=>[.sc (.bool (rF c))]
theorem Pr:Ab.Spec base.P 11 I5:=Ab.Spec.bS (C:=CC LV4) (cR ⟨I3,trivial⟩) fun args rs h=>by
 obtain⟨c,h9,rfl,rfl⟩:=db h
 show ∃ k rs1 hp1 wr rs2 ids,_∧_∧WkL rs2 [.sc (.bool (rF c))]
 by_cases hm:8<c.length∧c.length≤64∨70<c.length
 ·have e:rF c=true:=by
   unfold rF
   rcases hm with ⟨h1,h2⟩| h1
   ·rw[decide_eq_true h1,decide_eq_true h2];rfl
   ·rw[decide_eq_true h1];simp
  rw[e]
  obtain⟨st,x1,x2⟩:=acQ LV4 (runK (CC LV4) 1) 1 c hm
  exact⟨_,_,_,_,_,_,ba qD rfl x1 x2,rfl,Wk.refl rfl,trivial⟩
 ·have e:rF c=c.any nE:=by
   unfold rF
   have h1:decide (70<c.length)=false:=decide_eq_false fun e=>hm (.inr e)
   have h2:(decide (8<c.length) && decide (c.length≤64))=false:=by
    by_cases h8:8<c.length
    ·rw[decide_eq_false fun e=>hm (.inl ⟨h8,e⟩),Bool.and_false]
    ·rw[decide_eq_false h8,Bool.false_and]
   rw[h1,h2,Bool.false_or,Bool.false_or]
  have hc9:c.length<1000:=by omega
  rw[e]
  obtain⟨fr,fr1,a1,a2,a3⟩:=agT LV4 (runK (CC LV4) (c.length+1)) (c.length+1) c hm
  have hl:=LR LV4 (runK (CC LV4) (c.length+1)) (c.length+1) c hc9 (fun p hp=>aew rfl _ p (h9 p hp)) c.length 0 fr1 (by omega) a3
  rw[drop_zero] at hl
  rcases hl with ⟨fr2,h0,b1,b2⟩| ⟨fr2,h0,b1,b2⟩
  ·obtain⟨st,c1,c2⟩:=acP LV4 (runK (CC LV4) (c.length+1)) (c.length+1) fr2 c b2
   have hL:ae (CC LV4) (runK (CC LV4) (c.length+1)) (c.length+1) (.seq acR (.block 0 (.loop lgB))) ⟨fr,[],[]⟩=some (.normal,⟨fr2,[],[]⟩):=by
    rw[ar a2];exact bE b1
   rw[← ar hL,← Wn,← aY 2 a1] at c1
   rw[h0]
   exact⟨_,_,_,_,_,_,ba qD rfl c1 c2,rfl,Wk.refl rfl,trivial⟩
  ·have hL:ae (CC LV4) (runK (CC LV4) (c.length+1)) (c.length+1) lgC ⟨entry 28 [cE c],[],[]⟩=some (.ret,⟨fr2,[],[]⟩):=by
    rw[aY 2 a1,Wn]
    refine bO ?_
    rw[ar a2];exact cJ b1
   rw[h0]
   exact⟨_,_,_,_,_,_,ba qD rfl hL (agS _ _ _ b2),rfl,Wk.refl rfl,trivial⟩
theorem aiz {L:Lst}(hL:bx L 11=fun a=>I5 (aK a))(run:aw)(c:List (List ByteArray))(h9:∀ p ∈ c,Bl p.length):az L run 11 [cE c] (.sc (.bool (rF c))) :=
 ji SE (e:=fun c=>[cE c]) (f:=fun c=>[.sc (.bool (rF c))]) hL (fun x y _ _ h=>by rw[ll h]) run c h9 (qR · c) (px c)
theorem Fb {c:List (List ByteArray)}(h:rF c=false):qz c:=by
 unfold rF at h
 simp only[Bool.or_eq_false_iff,decide_eq_false_iff_not] at h
 obtain⟨h1,h2,h3⟩:=h
 refine⟨by omega,fun p hp => ?_⟩
 rw[any_eq_false] at h3
 have h4:=h3 p hp
 unfold nE at h4
 simp only[Bool.or_eq_true,not_or,any_eq_true,decide_eq_true_eq,not_exists,not_and] at h4
 refine⟨by omega,fun s hs => ?_⟩
 have:=h4.1 s hs
 unfold pM at this
 simp only[decide_eq_true_eq] at this
 omega
theorem RbL.at {k:Nat}{X:List Rat}(h:RbL k X)(hk:0<k)(i:Nat):Rb k (X.getD i 0):=by
 rw[getD_eq_getElem?_getD]
 cases e:X[i]? with
 | none=>exact (Rb.zero 0).mono (by omega)
 | some x=>exact h x (mem_of_getElem? e)
def LE0:Lst:=[(167,jy),(152,fA),(97,ofF),(101,jC),(149,tj),(96,sa),(139,tE),(168,GW),(105,EY),(150,ya),(104,pK),(95,zi),(87,je),(55,tU),(56,kR),(106,kp),(129,lU),(49,jS),(108,rrF),(145,lf),(94,xR),(43,mz)]
theorem oK:dE base.P LE0:=⟨jj,jB,mM,kf,oe,oC,oI,wi,rD,rM,pe,rV,oZ,sQ,oY,oX,ki,mv,vC,oA,tm,mw,trivial⟩
def aiG (o:Option (Ψ × Θ × Ω)):Bool:=match o with
 | some ([.sc (.bool b)],_,_)=>b
 | _=>false
theorem rE {C:Cfg}(hC:vc C){k:Nat}{g:FuncId}{args:Ψ}(h:aiG (Ab.runK C k g args [])=true):Ab.Spec C.P g (ir args):=by
 unfold aiG at h
 split at h
 ·rename_i b hp w e
  subst h
  have h1:Ab.Spec C.P g fun a=>bif rO (eqP 8) a args then some [.sc (.bool true)] else .none :=
   Ab.Spec.agf hC (fun a ha=>rN (Jq 8) ha) ⟨k,_,_,_,[.sc (.bool true)],[],e,rfl,Wk.refl rfl,trivial⟩
  exact h1.canon
 ·cases h
def mcl (l:List (List (List UInt8))):PV:=.imm l.length false (l.map fun p=>.imm p.length false (p.map fun s=>.sc (.string (mkStr s))))
def mil (l:List Int):PV:=.imm l.length false (l.map fun i=>.sc (.int .i64 i))
def mhA:Ψ:=[mcl [[[48],[48]],[[50],[48]],[[49],[48]],[[50],[50]],[[48],[50]],[[48],[48]]],mil [0,1,3,4]]
def msS:List (List (List UInt8)):=[[[48],[48]],[[50],[48]],[[48],[50]],[[50],[50]],[[49],[49]],[[53],[53]]]
def msA (q w:Int):Ψ:=[mcl msS,.sc (.int .i64 q),.sc (.int .i64 w),.sc (.int .i64 0),mil [0,1,2]]
theorem ajx:Ab.Spec base.P 39 (ir mhA):=rE (C:=CC LE0) (k:=100) (cR oK) (by kernel_rfl)
theorem agw:Ab.Spec base.P 35 (ir (msA 3 0)):=rE (C:=CC LE0) (k:=100) (cR oK) (by kernel_rfl)
theorem agv:Ab.Spec base.P 35 (ir (msA 4 1)):=rE (C:=CC LE0) (k:=100) (cR oK) (by kernel_rfl)
theorem agu:Ab.Spec base.P 35 (ir (msA 5 (-1))):=rE (C:=CC LE0) (k:=100) (cR oK) (by kernel_rfl)
def msF:Ψ→Option Ψ:=orF (ir (msA 3 0)) (orF (ir (msA 4 1)) (ir (msA 5 (-1))))
theorem agx:Ab.Spec base.P 35 msF:=Ab.Spec.or agw (Ab.Spec.or agv agu)
def mdA (c:List (List (List UInt8)))(w:List UInt8)(s:Int)(l:List Int):Ψ:=[mcl c,.sc (.string (mkStr w)),.sc (.int .i64 s),mil l]
def mdT:List (List (List UInt8)):=[[[48],[48]],[[49],[48]],[[48],[49]]]
def mdD:List (List (List UInt8)):=[[[48],[48]],[[49],[49]],[[50],[50]]]
def mrA:Ψ:=[mcl mdD,.sc (.int .i64 1),mil [0,1,2]]
theorem agD:Ab.Spec base.P 36 (ir (mdA mdT [49] 1 [0,1,2])):=rE (C:=CC LE0) (k:=100) (cR oK) (by kernel_rfl)
theorem agC:Ab.Spec base.P 36 (ir (mdA mdT [45,49] (-1) [0,2,1])):=rE (C:=CC LE0) (k:=100) (cR oK) (by kernel_rfl)
theorem agB:Ab.Spec base.P 36 (ir (mdA mdD [48] 0 [0,1,2])):=rE (C:=CC LE0) (k:=100) (cR oK) (by kernel_rfl)
def mdF:Ψ→Option Ψ:=orF (ir (mdA mdT [49] 1 [0,1,2])) (orF (ir (mdA mdT [45,49] (-1) [0,2,1])) (ir (mdA mdD [48] 0 [0,1,2])))
theorem agE:Ab.Spec base.P 36 mdF:=Ab.Spec.or agD (Ab.Spec.or agC agB)
theorem ajw:Ab.Spec base.P 37 (ir mrA):=rE (C:=CC LE0) (k:=100) (cR oK) (by kernel_rfl)
def LE1:Lst:=[(39,ir mhA),(35,msF),(36,mdF),(37,ir mrA),(167,jy),(152,fA),(97,ofF),(101,jC),(149,tj),(96,sa),(139,tE),(168,GW),(105,EY),(150,ya),(104,pK),(95,zi),(87,je),(55,tU),(56,kR),(106,kp),(129,lU),(49,jS),(108,rrF),(145,lf),(94,xR),(43,mz)]
theorem ail:dE base.P LE1:=⟨ajx,agx,agE,ajw,jj,jB,mM,kf,oe,oC,oI,wi,rD,rM,pe,rV,oZ,sQ,oY,oX,ki,mv,vC,oA,tm,mw,trivial⟩
theorem aek:Ab.Spec base.P 12 (ir []):=rE (C:=CC LE1) (k:=100) (cR ail) (by kernel_rfl)
theorem Sz:base.shared 12=false:=by kernel_rfl
theorem aex {L:Lst}(hL:bx L 12=fun a=>ir [] (aK a))(run:aw):az L run 12 [] (.sc (.bool true)):=fun dr hp =>
 bt Sz hL run dr hp _ [.sc (.bool true)] rfl rfl rfl
theorem aiF:dU TT 27=some [.sc (.string ⟨#[]⟩)]:=by kernel_rfl
def lp (hp:Θ)(p:PV)(X:List Rat):Prop:=p=dz true X∨∃ id,p = .own id 4 0 X.length true∧aL hp id=some ⟨.live,X.flatMap rcs⟩
theorem UH (X:List Rat)(i:Nat)(hi:i<X.length):bF (bp (X.flatMap rcs) (i*4)) 4=some (rcs X[i]):=by
 have h:=mZ cB.toEl X i hi
 rw[h,dh (by rw[length_append,cB.len];omega)]
 have hl:=cB.len X[i]
 generalize rcs X[i]=c at *
 rw[← hl,take_left]
def Gn (hp:Θ)(mid:Nat)(p:PV)(X:List Rat):Prop:=p=dz true X∨∃ id,id≠mid∧p = .own id 4 0 X.length true∧aL hp id=some ⟨.live,X.flatMap rcs⟩
theorem Gn.at {hp:Θ}{mid:Nat}{p:PV}{X:List Rat}(h:Gn hp mid p X):lp hp p X:=by
 rcases h with h | ⟨id,-,h1,h2⟩
 ·exact .inl h
 ·exact .inr ⟨id,h1,h2⟩
theorem ig {hp:Θ}{i:Nat}{b:Blk}(h:aL hp i=some b):i<hp.length:=by
 rw[cV] at h
 exact (List.getElem?_eq_some_iff.1 h).1
theorem Gn.mono {hp hp':Θ}{mid:Nat}{p:PV}{X:List Rat}(h:Gn hp mid p X)(hh:∀ i,i<hp.length→i≠mid→aL hp' i=aL hp i):Gn hp' mid p X:=by
 rcases h with h | ⟨id,h0,h1,h2⟩
 ·exact .inl h
 ·exact .inr ⟨id,h0,h1,by rw[hh id (ig h2) h0,h2]⟩
theorem lp.len {hp:Θ}{p:PV}{X:List Rat}(h:lp hp p X):cX p=some X.length:=by
 rcases h with rfl | ⟨id,rfl,-⟩ <;> rfl
theorem lp.ok {hp:Θ}{p:PV}{X:List Rat}(h:lp hp p X):eo p=true:=by
 rcases h with rfl | ⟨id,rfl,-⟩ <;> rfl
theorem lp.cells {hp:Θ}{p:PV}{X:List Rat}(h:lp hp p X):p.cells?=some [p]:=by
 rcases h with rfl | ⟨id,rfl,-⟩ <;> rfl
theorem lp.ix {hp:Θ}{p:PV}{X:List Rat}(h:lp hp p X)(i:Nat)(hi:i<X.length):∃ a r ids,bd TT 84 p (.sc (.int .i64 (i:Int)))=some a∧aU hp a=some (r,ids)∧bF r 4=some (rcs X[i]):=by
 rcases h with rfl | ⟨id,rfl,hid⟩
 ·obtain⟨r,x1,x2⟩:=jT true X i hi
  exact⟨_,r,[],x1,rfl,x2⟩
 ·refine⟨_,_,[id],Jd id X.length i true hi,?_,UH X i hi⟩
  simp only[aU,hid]
  rw[if_neg (by simp)]
def C1 (f:Rat)(V P:List Rat):List Rat:=List.zipWith (fun x q=>x - f*q) V P
def Hex (hp hp':Θ)(w:Nat):Prop:=hp.length≤hp'.length∧∀ i,i<hp.length→i≠w→aL hp' i=aL hp i
theorem Hex.trans {a b c:Θ}{w:Nat}(h:Hex a b w)(h':Hex b c w):Hex a c w :=
 ⟨Nat.le_trans h.1 h'.1,fun i hi hn=>by rw[h'.2 i (Nat.lt_of_lt_of_le hi h.1) hn,h.2 i hi hn]⟩
theorem Hex.refl (a:Θ)(w:Nat):Hex a a w:=⟨Nat.le_refl _,fun _ _ _=>rfl⟩
theorem Hex.set {a:Θ}{w:Nat}{b b0:Blk}(h:aL a w=some b0):Hex a (cg a w b) w:=⟨by rw[bJ];exact Nat.le_refl _,fun i _ hn=>jQ h hn⟩
theorem Hex.alloc {a:Θ}(w:Nat)(z:Ψ)(b:Blk):Hex a (cg (aO a z) a.length b) w:=⟨by rw[al4];omega,fun i hi _=>al3 a z b i hi⟩
theorem lp.mono {hp hp':Θ}{w:Nat}{p:PV}{X:List Rat}(h:lp hp p X)(ho:Hex hp hp' w)(hw:p = .own w 4 0 X.length true→False):lp hp' p X:=by
 rcases h with h | ⟨id,h1,h2⟩
 ·exact .inl h
 ·exact .inr ⟨id,h1,by rw[ho.2 id (ig h2) (fun e=>hw (by rw[h1,e])),h2]⟩
theorem v8 {f:Rat}{V P:List Rat}(h:V.length=P.length):(C1 f V P).length=P.length:=by
 unfold C1;rw[length_zipWith];omega
theorem RL {f:Rat}{V P:List Rat}{j:Nat}(h1:j<V.length)(h2:j<P.length)(h3:j<(C1 f V P).length):(C1 f V P)[j]=V[j] - f*P[j]:=by
 exact getElem_zipWith (f:=fun x q=>x - f*q) (h:=h3)
def Hgr (hp hp':Θ):Prop:=hp.length≤hp'.length∧∀ i,i<hp.length→aL hp' i=aL hp i
theorem Hgr.trans {a b c:Θ}(h:Hgr a b)(h':Hgr b c):Hgr a c :=
 ⟨Nat.le_trans h.1 h'.1,fun i hi=>by rw[h'.2 i (Nat.lt_of_lt_of_le hi h.1),h.2 i hi]⟩
theorem Hgr.refl (a:Θ):Hgr a a:=⟨Nat.le_refl _,fun _ _=>rfl⟩
theorem Hgr.new (a:Θ)(z:Ψ):Hgr a (aO a z):=⟨by simp[aO],fun i hi=>by rw[bH,if_neg (by omega)]⟩
theorem Hgr.acp (a:Θ)(z:Ψ)(b:Blk):Hgr a (cg (aO a z) a.length b):=⟨by rw[al4];omega,fun i hi=>al3 a z b i hi⟩
theorem Hgr.hex {a b c:Θ}{w:Nat}(h:Hgr a b)(h':Hex b c w)(hw:a.length≤w):Hgr a c :=
 ⟨Nat.le_trans h.1 h'.1,fun i hi=>by rw[h'.2 i (Nat.lt_of_lt_of_le hi h.1) (by omega),h.2 i hi]⟩
theorem lp.old {hp:Θ}{p:PV}{X:List Rat}(h:lp hp p X){w n:Nat}(hw:hp.length≤w):p ≠ .own w 4 0 n true:=by
 rcases h with rfl | ⟨id,rfl,h2⟩
 ·intro e;cases e
 ·intro e
  have:=ig h2
  simp only[PV.own.injEq] at e
  omega
theorem qb2:qb 2=⟨#[50]⟩:=by decide +kernel
theorem agL (s t:ByteArray):fY TT 39 2 [(0,.sc (.string s)),(1,.sc (.string t))]=some (1,[.sc (.string s),.sc (.string t)]):=by
 simp[fY,uPt,nt,aiF,rep,dH,ca,PV.cells?]
def pT (s t:ByteArray):PV:=.imm 2 true [.sc (.string s),.sc (.string t)]
def d3 (A B P:List Rat):PV:=.imm 3 true [qL A,qL B,qL P]
def d4 (A B P:List Rat)(s t:ByteArray):PV:=.imm 4 true [qL A,qL B,qL P,pT s t]
def iP (l:Ω):PV:=.imm l.length true (l.map iv)
def sgS (S:List Bool):Nat→Bool
 | 0=>false
 | i+1=>if S.getD i false=true then sgS S i else !sgS S i
def exW (f:Nat→Rat)(r:List Rat)(S:List Bool):Nat→Rat
 | 0=>0
 | i+1=>exW f r S i+(if S.getD i false=true then 0 else bif sgS S i then -(r.getD i 0*f i) else r.getD i 0*f i)
def FG (n:Nat):List (List Rat)→List Bool→Rat
 | [],_=>1
 | r::rs,S=>exW (fun k=>FG n rs (S.set k true)) r S n
theorem Mt (f:Nat→Rat)(r:List Rat)(S:List Bool):∀ i,(exS f r S i).2=sgS S i∧vv (exS f r S i).1=exW f r S i
 | 0=>⟨rfl,rfl⟩
 | i+1=>by
  obtain⟨h1,h2⟩:=Mt f r S i
  unfold exS sgS exW
  by_cases hs:S.getD i false=true
  ·rw[if_pos hs,if_pos hs,if_pos hs]
   exact⟨h1,by rw[h2,Rat.add_zero]⟩
  ·rw[if_neg hs,if_neg hs,if_neg hs]
   by_cases h0:r.getD i 0=0
   ·rw[if_pos h0,h0,Rat.zero_mul]
    refine⟨by rw[h1],?_⟩
    show vv (exS f r S i).1=_
    rw[h2]
    cases sgS S i <;> simp[Rat.add_zero]
   ·rw[if_neg h0]
    refine⟨by rw[h1],?_⟩
    show vv (exS f r S i).1+_=_
    rw[h1,h2]
theorem Ms (n:Nat):∀ (rows:List (List Rat)) (S:List Bool),vv (exU n rows S)=FG n rows S
 | [],S=>rfl
 | r::rs,S=>by
  unfold exU FG
  rw[(Mt _ r S n).2]
  congr 1
  funext k
  exact Ms n rs _
def ahC (M:List (List Rat)):Rat:=FG M.length M (List.replicate M.length false)
theorem XP (M:List (List Rat)):vv (yt M)=ahC M:=Ms _ _ _
theorem akn (r s:List Rat):ahC [r,s]=r.getD 0 0*s.getD 1 0 - r.getD 1 0*s.getD 0 0:=by
 simp[ahC,FG,exW,sgS]
 try grind
theorem Nb.sub {k:Nat}{x y:Int}(h:Nb k x)(h':Nb k y):Nb (k+1) (x - y):=by rw[Int.sub_eq_add_neg];exact h.add h'.neg
theorem toNat_ofNat (l:Ω):(l.map Int.ofNat).map Int.toNat=l:=by
 rw[map_map]
 conv=>rhs;rw[← map_id l]
 exact map_congr_left fun x _=>rfl
theorem P4 {c:List (List ByteArray)}{l:Ω}(h:chk c=0)(hl:l.length=lJ c+1)(hin:∀ i ∈ l,i<c.length):tz c (l.map Int.ofNat) ((lJ c+1:Nat):Int)=0:=by
 unfold tz
 rw[if_neg (fun e=>e h),if_neg (by rw[length_map,hl];omega)]
 have:(l.map Int.ofNat).any (CE c.length)=false:=by
  rw[any_eq_false]
  intro z hz
  obtain⟨i,hi,rfl⟩:=mem_map.1 hz
  have:=hin i hi
  unfold CE
  simp only[Bool.or_eq_true,decide_eq_true_eq,not_or]
  constructor
  ·exact Int.not_lt.2 (Int.natCast_nonneg i)
  ·show ¬ ((c.length:Int)≤(i:Int))
   omega
 rw[this];rfl
theorem PS {c:List (List ByteArray)}{l:Ω}(h:chk c=0)(hl:l.length=lJ c+1)(hin:∀ i ∈ l,i<c.length):ma c (l.map Int.ofNat)=(yt (jK (toX c) l),0):=by
 unfold ma
 rw[if_pos (P4 h hl hin),toNat_ofNat]
theorem NN {x:Rat}(h:x<0):ko x = -1:=by
 have : ¬ 0≤x.num:=fun h'=>by
  have:=Rat.num_nonneg.1 h'
  grind
 exact Int.sign_eq_neg_one_of_neg (by omega)
theorem DK {x:Rat}(h:0<x):ko x=1:=by
 have h1:=Rat.num_nonneg.2 (show 0≤x by grind)
 have h2:x.num≠0:=fun e=>by
  have:=Rat.num_eq_zero.1 e
  grind
 exact Int.sign_eq_one_of_pos (by omega)
theorem wK (x:Rat):(x<0∧ko x = -1)∨(x=0∧ko x=0)∨(0<x∧ko x=1):=by
 by_cases h:x<0
 ·exact .inl ⟨h,NN h⟩
 ·by_cases h0:x=0
  ·exact .inr (.inl ⟨h0,by rw[h0];rfl⟩)
  ·have:0<x:=by grind
   exact .inr (.inr ⟨this,DK this⟩)
theorem Ty (x y:Rat):gP x y=ko (x - y):=by
 unfold gP
 rcases wK (x - y) with ⟨h1,h2⟩| ⟨h1,h2⟩| ⟨h1,h2⟩ <;> rw[h2]
 ·rw[if_pos (by grind)]
 ·rw[if_neg (by grind),if_pos (by grind)]
 ·rw[if_neg (by grind),if_neg (by grind)]
theorem Rb.inv {k:Nat}{y:Rat}(h:Rb k y)(h0:y≠0):Rb k y⁻¹:=by
 have hn:y.num≠0:=fun e=>h0 (Rat.num_eq_zero.1 e)
 have e:y⁻¹=Rat.inv y:=rfl
 rw[e]
 unfold Rat.inv
 split
 ·refine⟨?_,?_⟩
  ·show Nb k (-(y.den:Int))
   exact h.2.neg
  ·show Nb k ((y.num.natAbs:Nat):Int)
   have:=h.1
   unfold Nb at *
   simpa using this
 ·split
  ·refine⟨h.2,?_⟩
   show Nb k ((y.num.natAbs:Nat):Int)
   have:=h.1
   unfold Nb at *
   simpa using this
  ·exact h
theorem Rb.div {j k:Nat}{x y:Rat}(h:Rb j x)(h':Rb k y)(h0:y≠0):Rb (j+k) (x / y):=by
 rw[Rat.div_def];exact h.mul (h'.inv h0)
def Rws (hp:Θ)(mid N:Nat)(g:Nat→List Rat):Prop:=∃ ps,aL hp mid=some ⟨.live,ps⟩∧N≤ps.length∧∀ t,t<N→∃ v,ps[t]?=some v∧Gn hp mid v (g t)
theorem Rws.put {hp:Θ}{mid N t:Nat}{g:Nat→List Rat}{ps:Ψ}{w:PV}{W:List Rat}(h1:aL hp mid=some ⟨.live,ps⟩)(h2:N≤ps.length)(h3:∀ s,s<N→s≠t→∃ v,ps[s]?=some v∧Gn hp mid v (g s))(hw:Gn hp mid w W)(ht:t<N):Rws (cg hp mid ⟨.live,ps.set t w⟩) mid N (fun s=>if s=t then W else g s):=by
 have hk:∀ i,i<hp.length→i≠mid→aL (cg hp mid ⟨.live,ps.set t w⟩) i=aL hp i:=fun i _ hn=>jQ h1 hn
 refine⟨ps.set t w,pV h1,by rw[length_set];exact h2,fun s hs => ?_⟩
 by_cases e:s=t
 ·subst e
  refine⟨w,by rw[getElem?_set_self (by omega)],?_⟩
  dsimp only
  rw[if_pos rfl]
  exact hw.mono hk
 ·obtain⟨v,h4,h5⟩:=h3 s hs e
  refine⟨v,by rw[getElem?_set_ne (Ne.symm e),h4],?_⟩
  dsimp only
  rw[if_neg e]
  exact h5.mono hk
def DR (kk:Nat)(P V:List Rat):List Rat:=if V.getD kk 0=0 then V else C1 (V.getD kk 0 / P.getD kk 0) V P
def Tn (kk r i:Nat)(P:List Rat)(g:Nat→List Rat)(t:Nat):List Rat:=if r≤t∧t<r+i then DR kk P (g t) else g t
theorem rL {X:List Rat}{i:Nat}(h:i<X.length):X.getD i 0=X[i]:=by rw[getD_eq_getElem?_getD,List.getElem?_eq_getElem h];rfl
theorem Z0 {P V:List Rat}{b c:Nat}{f:Rat}(hf:Rb c f)(hP:RbL b P)(hV:RbL b V):RbL (c+2*b+1) (C1 f V P):=by
 intro x hx
 unfold C1 at hx
 rw[mem_iff_getElem] at hx
 obtain⟨i,hi,rfl⟩:=hx
 rw[length_zipWith] at hi
 rw[getElem_zipWith]
 exact ((hV _ (getElem_mem (by omega))).sub (hf.mul (hP _ (getElem_mem (by omega))))).mono (by omega)
theorem aaS {P V:List Rat}{kk b:Nat}(hk:kk<P.length)(hkV:kk<V.length)(h0:P.getD kk 0≠0)(hP:RbL b P)(hV:RbL b V):RbL (4*b+1) (DR kk P V):=by
 unfold DR
 split
 ·exact fun x hx=>(hV x hx).mono (by omega)
 ·have hf:Rb (b+b) (V.getD kk 0 / P.getD kk 0):=by
   refine Rb.div ?_ ?_ h0
   ·rw[rL hkV];exact hV _ (getElem_mem _)
   ·rw[rL hk];exact hP _ (getElem_mem _)
  exact fun x hx=>(Z0 hf hP hV x hx).mono (by omega)
theorem Tm {P V:List Rat}{kk n:Nat}(hP:P.length=n)(hV:V.length=n):(DR kk P V).length=n:=by
 unfold DR
 split
 ·exact hV
 ·rw[v8 (by omega),hP]
def cr1 (a b:List Rat):Rat:=a.getD 1 0*b.getD 2 0 - a.getD 2 0*b.getD 1 0
def cr2 (a b:List Rat):Rat:=a.getD 2 0*b.getD 0 0 - a.getD 0 0*b.getD 2 0
def cr3 (a b:List Rat):Rat:=a.getD 0 0*b.getD 1 0 - a.getD 1 0*b.getD 0 0
def tri (a b c:List Rat):Rat:=a.getD 0 0*cr1 b c+a.getD 1 0*cr2 b c+a.getD 2 0*cr3 b c
def nz (a:List Rat):Prop:=a.getD 0 0≠0∨a.getD 1 0≠0∨a.getD 2 0≠0
def PB (a b:List Rat):Prop:=cr1 a b≠0∨cr2 a b≠0∨cr3 a b≠0
def Q1 (M:List (List Rat)):Prop:=∃ a,a ∈ M∧nz a
def Q2 (M:List (List Rat)):Prop:=∃ a,a ∈ M∧∃ b,b ∈ M∧PB a b
def Q3 (M:List (List Rat)):Prop:=∃ a,a ∈ M∧∃ b,b ∈ M∧∃ c,c ∈ M∧tri a b c≠0
open Classical in
def rkM (M:List (List Rat)):Nat:=if Q3 M then 3 else if Q2 M then 2 else if Q1 M then 1 else 0
theorem Vx {a:List Rat}(h : ¬ nz a):a.getD 0 0=0∧a.getD 1 0=0∧a.getD 2 0=0:=by
 unfold nz at h
 exact⟨Classical.byContradiction fun e=>h (.inl e),Classical.byContradiction fun e=>h (.inr (.inl e)),Classical.byContradiction fun e=>h (.inr (.inr e))⟩
theorem xJ {a b:List Rat}(h : ¬ PB a b):cr1 a b=0∧cr2 a b=0∧cr3 a b=0:=by
 unfold PB at h
 exact⟨Classical.byContradiction fun e=>h (.inl e),Classical.byContradiction fun e=>h (.inr (.inl e)),Classical.byContradiction fun e=>h (.inr (.inr e))⟩
theorem Q3.q2 {M:List (List Rat)}(h:Q3 M):Q2 M:=by
 obtain⟨a,ha,b,hb,c,hc,h⟩:=h
 refine Classical.byContradiction fun hn=>h ?_
 have : ¬ PB b c:=fun e=>hn ⟨b,hb,c,hc,e⟩
 obtain⟨e1,e2,e3⟩:=xJ this
 unfold tri
 rw[e1,e2,e3]
 grind
theorem Q2.q1 {M:List (List Rat)}(h:Q2 M):Q1 M:=by
 obtain⟨a,ha,b,hb,h⟩:=h
 refine Classical.byContradiction fun hn => ?_
 obtain⟨e1,e2,e3⟩:=Vx (a:=a) fun e=>hn ⟨a,ha,e⟩
 unfold PB cr1 cr2 cr3 at h
 rw[e1,e2,e3] at h
 grind
theorem afI {M:List (List Rat)}(h:Q3 M):rkM M=3:=by unfold rkM;rw[if_pos h]
theorem Tc {M:List (List Rat)}(h : ¬ Q3 M)(h2:Q2 M):rkM M=2:=by unfold rkM;rw[if_neg h,if_pos h2]
theorem Td {M:List (List Rat)}(h : ¬ Q2 M)(h2:Q1 M):rkM M=1:=by unfold rkM;rw[if_neg (fun e=>h e.q2),if_neg h,if_pos h2]
theorem Te {M:List (List Rat)}(h : ¬ Q1 M):rkM M=0:=by unfold rkM;rw[if_neg (fun e=>h e.q2.q1),if_neg (fun e=>h e.q1),if_neg h]
def Red (k:Nat)(p s r:List Rat):Prop:=∀ i,r.getD i 0=s.getD i 0 - s.getD k 0 / p.getD k 0*p.getD i 0
theorem KV {p s u r t:List Rat}{k:Nat}(h:Red k p s r)(h':Red k p u t):tri p s u=tri p r t:=by
 have a0:=h 0;have a1:=h 1;have a2:=h 2
 have b0:=h' 0;have b1:=h' 1;have b2:=h' 2
 generalize s.getD k 0 / p.getD k 0=x at *
 generalize u.getD k 0 / p.getD k 0=y at *
 unfold tri cr1 cr2 cr3
 rw[a0,a1,a2,b0,b1,b2]
 grind
theorem Red.zero {p s r:List Rat}{k:Nat}(h:Red k p s r)(hp:p.getD k 0≠0):r.getD k 0=0:=by
 rw[h k,Rat.div_mul_cancel hp]
 grind
theorem RU {k:Nat}(hk:k<3){p r t:List Rat}(hr:r.getD k 0=0)(ht:t.getD k 0=0):tri p r t=p.getD k 0*(if k=0 then cr1 r t else if k=1 then cr2 r t else cr3 r t):=by
 have:k=0∨k=1∨k=2:=by omega
 rcases this with rfl | rfl | rfl <;> simp[tri,cr1,cr2,cr3] <;> grind
theorem GU (p a b c:List Rat)(i:Nat)(hi:i<3):p.getD i 0*tri a b c=a.getD i 0*tri p b c - b.getD i 0*tri p a c+c.getD i 0*tri p a b:=by
 have:i=0∨i=1∨i=2:=by omega
 rcases this with rfl | rfl | rfl <;> simp only[tri,cr1,cr2,cr3] <;> grind
end Go.Proofs.YtjdmodeenbdfpaaGreat
end
