/- Contracts of fractions, clouds and predicates, part 43 of the proof; each lemma states its own conditions. -/
import Derived.Test.YtjdmodeenbdfpaaGreatQ42
set_option linter.unusedSimpArgs false
set_option linter.unusedVariables false
namespace Go.Proofs.YtjdmodeenbdfpaaGreat
open Go Go.Ab
def cz:Option Rat→List PV
 | none=>rz
 | some x=>rcs x
theorem zT (u:Option Rat):Rc (cz u) u:=by
 cases u
 ·exact .inr ⟨rfl,rfl⟩
 ·exact .inl rfl
theorem afI {cs:List PV}{x:Rat}(h:Rc cs (some x)):cs=cz (some x):=by
 rcases h with h | ⟨h,-⟩
 ·exact h
 ·cases h
theorem xP {C:Cfg}{run:aq}{k i:Nat}{a b:Code}{st st':St}(h:af C run k a st=some (.exit i,st')):af C run k (.seq a b) st=some (.exit i,st'):=by
 simp only[af,h]
theorem tA {C:Cfg}{run:aq}{k i:Nat}{b:Code}{st st':St}(h:af C run k b st=some (.exit i,st')):af C run k (.block i b) st=some (.normal,st'):=by
 simp only[af,h,if_true]
theorem zH {C:Cfg}{run:aq}{k:Nat}{c:Operand}{a b:Code}{st:St}{v:Bool}(h:ak st.fr c = .sc (.bool v)):af C run k (.cond c a b) st=bif v then af C run k a st else af C run k b st:=by
 cases v <;> simp only[af,h,cond_true,cond_false]
theorem WL (x:Rat):(eN x != 0) = !decide (x=0):=by
 unfold eN
 by_cases h:x=0
 ·subst h;rfl
 ·rw[decide_eq_false h,Bool.not_false,bne_iff_ne]
  intro e
  exact h (Rat.num_eq_zero.1 (Int.sign_eq_zero_iff_zero.1 e))
def VI (L:Lst)(run:aq)(hp0:List Blk)(S:List Bool)(row n:Nat)(U:Nat→Option Rat):Prop :=
 ∀ i,i<n→S.getD i false=false→∀ hp1:List Blk,hp0.length≤hp1.length→(∀ t,t<hp0.length→t≠2→aZ hp1 t=aZ hp0 t)→aZ hp1 2=some ⟨.live,(S.set i true).map bl⟩ →
  ∃ m,cb (CC L) run true hp1 109 [.sc (.int .i64 ((row:Int)+1)),.ptr 0 0,.ptr 3 0,.ptr 4 0]=some (.agg (cz (U i)),hp1,⟨[],List.replicate m 2,true,true⟩)
theorem JR (L:Lst)(run:aq)(k:Nat)(gm:bu L 56=fun a=>mq (aJ a))(ga:bu L 87=fun a=>iT (aJ a))(gn:bu L 106=fun a=>j0 (aJ a))(gs:bu L 49=fun a=>jj (aJ a))(hp0:List Blk)(row n:Nat)(M:List (List Rat))(S:List Bool)(U:Nat→Option Rat){k1 k2:Nat}
  (hS:S.length=n) (h9':row<1000) (hn9:n<1000) (h5:5≤hp0.length) (hH:H0 hp0 M n S) (hr:row<M.length) (hR:M[row].length=n) (hk:0<k1) (hb2:RbL k1 M[row]) (hb3:∀ i,Rb k2 (vv (U i))) (h6:n*(k1+k2+1)+1+k1+k2≤1000000) (hcall:VI L run hp0 S row n U) :
  ∀ (d i:Nat) (fr:List PV) (hp:List Blk) (wr:List Nat),i+d=n→XF fr hp0.length row n i (exS (fun i=>vv (U i)) M[row] S i).2→XH hp0 hp (cz (exS (fun i=>vv (U i)) M[row] S i).1)→WB hp0.length wr →
  ∃ fr' hp' wr',ca (af (CC L) run k exL) (d+1) ⟨fr,hp,wr⟩=some (.exit 0,⟨fr',hp',wr'⟩)∧XF fr' hp0.length row n n (exS (fun i=>vv (U i)) M[row] S n).2∧XH hp0 hp' (cz (exS (fun i=>vv (U i)) M[row] S n).1)∧WB hp0.length wr'
 | 0,i,fr,hp,wr,hin,h,hX,hw=>by
  have e:i=n:=by omega
  subst e
  obtain⟨fr',q1,q2⟩:=ada L run k fr hp wr hp0.length row i _ h
  exact⟨fr',hp,wr,bz q1,q2,hX,hw⟩
 | d+1,i,fr,hp,wr,hin,h,hX,hw=>by
  have hi:i<n:=by omega
  have hiR:i<M[row].length:=by omega
  obtain⟨fr1,fr2,a1,a2,a3,a4,a5⟩:=agk L run k fr hp wr hp0.length row n i _ hi h
  have hHh:H0 hp M n S:=by
   obtain⟨p0,p2,p3,p4⟩:=hH
   obtain⟨-,q2,-⟩:=hX
   exact⟨by rw[q2 0 (by omega),p0],by rw[q2 2 (by omega),p2],by rw[q2 3 (by omega),p3],by rw[q2 4 (by omega),p4]⟩
  have go:∀ (fr3:List PV) (hp3:List Blk) (wr3:List Nat),af (CC L) run k (.block 1 (.seq Zu (.seq Zt (.seq mS JV)))) ⟨fr1,hp,wr⟩=some (.normal,⟨fr3,hp3,wr3⟩)→XF fr3 hp0.length row n i (exS (fun i=>vv (U i)) M[row] S (i+1)).2→XH hp0 hp3 (cz (exS (fun i=>vv (U i)) M[row] S (i+1)).1)→WB hp0.length wr3 →
    ∃ fr' hp' wr',ca (af (CC L) run k exL) (d+1+1) ⟨fr,hp,wr⟩=some (.exit 0,⟨fr',hp',wr'⟩)∧XF fr' hp0.length row n n (exS (fun i=>vv (U i)) M[row] S n).2∧XH hp0 hp' (cz (exS (fun i=>vv (U i)) M[row] S n).1)∧WB hp0.length wr':=by
   intro fr3 hp3 wr3 b1 b2 b3 b4
   obtain⟨fr4,c1,c2⟩:=afm L run k fr3 hp3 wr3 hp0.length row n i _ (by omega) b2
   obtain⟨fr',hp',wr',s1,s2⟩:=JR L run k gm ga gn gs hp0 row n M S U hS h9' hn9 h5 hH hr hR hk hb2 hb3 h6 hcall d (i+1) fr4 hp3 wr3 (by omega) c2 b3 b4
   refine⟨fr',hp',wr',?_,s2⟩
   rw[bU (st':=⟨fr4,hp3,wr3⟩) (by rw[adg,aw a1,aw a2,aw b1];exact c1)]
   exact s1
  have eS:exS (fun i=>vv (U i)) M[row] S (i+1)=if S.getD i false=true then exS (fun i=>vv (U i)) M[row] S i else if M[row].getD i 0=0 then ((exS (fun i=>vv (U i)) M[row] S i).1, !(exS (fun i=>vv (U i)) M[row] S i).2) else
   (some (vv (exS (fun i=>vv (U i)) M[row] S i).1+(bif (exS (fun i=>vv (U i)) M[row] S i).2 then -(M[row].getD i 0*vv (U i)) else M[row].getD i 0*vv (U i))), !(exS (fun i=>vv (U i)) M[row] S i).2):=rfl
  have eR:M[row].getD i 0=M[row][i]:=by rw[List.getD_eq_getElem?_getD,List.getElem?_eq_getElem hiR];rfl
  cases hv:S.getD i false with
  | true =>
   obtain⟨fr3,b1,b2,-⟩:=JQ L run k fr2 hp wr hp0.length row n i _ M S hi hS true hv a4 a5 hHh
   rw[if_pos hv] at eS
   refine go fr3 hp wr ?_ (by rw[eS];exact b2) (by rw[eS];exact hX) hw
   exact tA (by rw[aw a3];exact xP b1)
  | false =>
   obtain⟨fr3,b1,b2,b2'⟩:=JQ L run k fr2 hp wr hp0.length row n i _ M S hi hS false hv a4 a5 hHh
   rw[if_neg (by rw[hv];simp),eR] at eS
   have hbe:Rb k1 M[row][i]:=hb2 _ (List.getElem_mem hiR)
   obtain⟨fr4,fr5,c1,c2,c3,c4,c5,c6⟩:=agl L run k fr3 hp wr hp0.length row n i _ M S hr hiR _ (aac gs run (p:=.agg (rcs M[row][i])) (u:=some M[row][i]) (.inl rfl) hbe (by omega)) rfl b2 b2' hHh
   obtain⟨q1,q2,q3,q4⟩:=hX
   have nh:∀ t,t<hp.length→aZ (cf (aP hp rz) hp.length ⟨.live,rcs M[row][i]⟩) t=aZ hp t:=fun t ht=>al3 hp rz _ t ht
   have X5:XH hp0 (cf (aP hp rz) hp.length ⟨.live,rcs M[row][i]⟩) (cz (exS (fun i=>vv (U i)) M[row] S i).1) :=
    ⟨by rw[al4];omega,fun t ht=>by rw[nh t (by omega),q2 t ht],by rw[nh _ (by omega),q3],by rw[nh _ (by omega),q4]⟩
   have w5:WB hp0.length (az [hp.length] (az [hp.length] wr)):=(hw.add (WB.one (x:=hp.length) (.inr (by omega)))).add (WB.one (x:=hp.length) (.inr (by omega)))
   rw[WL] at c6
   have ec:ak fr5 (.tmp 33) = .sc (.bool (!decide (M[row][i]=0))):=c6
   by_cases h0:M[row][i]=0
   ·rw[decide_eq_true h0,Bool.not_true] at ec
    have hN:af (CC L) run k mS ⟨fr3,hp,wr⟩=some (.normal,⟨fr5,cf (aP hp rz) hp.length ⟨.live,rcs M[row][i]⟩,az [hp.length] (az [hp.length] wr)⟩):=by
     rw[JU,aw c1,aw c2,zH ec];rfl
    obtain⟨fr6,d1,d2⟩:=aaJ L run k fr5 (cf (aP hp rz) hp.length ⟨.live,rcs M[row][i]⟩) (az [hp.length] (az [hp.length] wr)) hp0.length row n i _ c3
    rw[if_pos h0] at eS
    refine go fr6 _ _ ?_ (by rw[eS];exact d2) (by rw[eS];exact X5) w5
    exact fA (by rw[aw a3,aw b1,aw hN];exact d1)
   ·rw[decide_eq_false h0,Bool.not_false] at ec
    have hbS:Rb (i*(k1+k2+1)+1) (vv (exS (fun i=>vv (U i)) M[row] S i).1):=Hw (fun i=>hb3 i) hb2 hk i
    have hin2:i*(k1+k2+1)≤n*(k1+k2+1):=Nat.mul_le_mul_right _ (by omega)
    obtain⟨fr6,hp6,wr6,sc6,d1,d2,d3,d4,d5⟩:=Zo L run k gm ga gn hp0 _ fr5 _ row n i hp.length _ M S _ _ M[row][i] (vv (U i)) (cz (U i)) (U i) hi hS h9' hv h5 hH X5 q1 (by rw[al4];omega) (al2 hp rz _) ⟨c3,c4,c5⟩ (zT _) (zT _) rfl hbS hbe (hb3 i) (by omega) w5 (hcall i hi hv)
    have d6:=afI d5
    rw[if_neg h0] at eS
    obtain⟨fr7,e1,e2⟩:=aaJ L run k fr6 hp6 wr6 hp0.length row n i _ d2
    have hN:af (CC L) run k mS ⟨fr3,hp,wr⟩=some (.normal,⟨fr6,hp6,wr6⟩):=by
     rw[JU,aw c1,aw c2,zH ec];exact d1
    refine go fr7 hp6 wr6 ?_ (by rw[eS];exact e2) (by rw[eS,← d6];exact d3) d4
    exact fA (by rw[aw a3,aw b1,aw hN];exact e1)
theorem wP (n:Nat)(p q r s:PV):(entry (n+4) [p,q,r,s]).length=n+4∧nth (entry (n+4) [p,q,r,s]) 0=p∧nth (entry (n+4) [p,q,r,s]) 1=q∧nth (entry (n+4) [p,q,r,s]) 2=r∧nth (entry (n+4) [p,q,r,s]) 3=s:=⟨gw _ _ (by simp),rfl,rfl,rfl,rfl⟩
noncomputable def Zr:Code:=seq1 (seq1 (ah 4 exC))
theorem ac8:ah 4 exC = .seq (.seq Zr (.block 0 (.loop exL))) (ah 5 exC):=rfl
theorem Zq (L:Lst)(run:aq)(k:Nat)(hp0:List Blk)(n:Nat)(M:List (List Rat))(hM:M.length=n)(S:List Bool)(h5:5≤hp0.length)(hH:H0 hp0 M n S)(g:ar L run 110 [.sc (.int .i64 1),.sc (.int .i64 1)] (.agg (rcs 1))) :
  ∃ st,af (CC L) run k exC ⟨entry 56 [iv n,.ptr 0 0,.ptr 3 0,.ptr 4 0],hp0,[]⟩=some (.ret,st)∧st.hp=cf (aP hp0 rz) hp0.length ⟨.live,rcs 1⟩∧st.wr=az [hp0.length] (az [hp0.length] [])∧aV TT st.fr st.hp Tryz.f109.results.toList=some [.agg (rcs 1)]:=by
 obtain⟨e0,e1,e2,e3,e4⟩:=wP 52 (iv n) (.ptr 0 0) (.ptr 3 0) (.ptr 4 0)
 generalize entry 56 [iv n,.ptr 0 0,.ptr 3 0,.ptr 4 0]=fr0 at *
 obtain⟨p0,p2,p3,p4⟩:=hH
 have hl:=Hm M
 have hx:=al1 hp0 rz
 have hx1:=eE rz (rcs 1) (by rw[cO.len];rfl)
 have hx2:=al2 hp0 rz ⟨.live,rcs 1⟩
 have hx4:=eD (rcs 1) (cO.len _)
 have hok:=cO.okc 1
 have hlx:=cO.len 1
 have hp0':aZ (aP hp0 rz) 0=some ⟨.live,[mC M]⟩:=by rw[bO,if_neg (by omega),p0]
 unfold ar at g
 generalize rcs 1=c1 at *
 have zR':=zRz
 rw[hM] at hl
 simp only[iv] at e1
 simp[exC,Tryz.f109,af,aH,an,ao,aG,ag,ai,aO,aj,ak,aC,FP.none,aY,au,bf,av,bK,partOf,aa,ae,ab,bh,bm,eo,e0,e1,e2,hx,hx1,hx2,hx4,hok,hlx,hp0',hl,g,zR',Kq,I7,ur,aR,sR,aU,br,aV]
theorem ac9 (L:Lst)(run:aq)(k:Nat)(hp0:List Blk)(row n:Nat)(M:List (List Rat))(hM:M.length=n)(hr:row<n)(S:List Bool)(h5:5≤hp0.length)(hH:H0 hp0 M n S) :
  ∃ fr fr',aX (CC L) run k 4 exC ⟨entry 56 [iv row,.ptr 0 0,.ptr 3 0,.ptr 4 0],hp0,[]⟩=some ⟨fr,aP (aP hp0 rz) rz,az [hp0.length+1] (az [hp0.length] [])⟩∧af (CC L) run k Zr ⟨fr,aP (aP hp0 rz) rz,az [hp0.length+1] (az [hp0.length] [])⟩=some (.normal,⟨fr',aP (aP hp0 rz) rz,az [hp0.length+1] (az [hp0.length] [])⟩)∧XF fr' hp0.length row n 0 false:=by
 obtain⟨e0,e1,e2,e3,e4⟩:=wP 52 (iv row) (.ptr 0 0) (.ptr 3 0) (.ptr 4 0)
 generalize entry 56 [iv row,.ptr 0 0,.ptr 3 0,.ptr 4 0]=fr0 at *
 obtain⟨p0,p2,p3,p4⟩:=hH
 have hl:=Hm M
 have hp0':aZ (aP hp0 rz) 0=some ⟨.live,[mC M]⟩:=by rw[bO,if_neg (by omega),p0]
 have hp3':aZ (aP (aP hp0 rz) rz) 3=some ⟨.live,[.own 2 1 0 n true]⟩:=by
  rw[bO,if_neg (by simp[aP];omega),bO,if_neg (by omega),p3]
 have hl1:(aP hp0 rz).length=hp0.length+1:=by simp[aP]
 have zR':=zRz
 rw[hM] at hl
 have hne:((row:Int) == (n:Int))=false:=by rw[beq_eq_false_iff_ne];omega
 have hne2 : ¬ row=n:=by omega
 simp only[iv] at e1
 obtain⟨fr,a1,a0,a2,a3,a4,a5,a6,a7,a8⟩:∃ fr,aX (CC L) run k 4 exC ⟨fr0,hp0,[]⟩=some ⟨fr,aP (aP hp0 rz) rz,az [hp0.length+1] (az [hp0.length] [])⟩∧fr.length=56∧nth fr 0 = .sc (.int .i64 (row:Int))∧nth fr 1 = .ptr 0 0∧nth fr 2 = .ptr 3 0∧nth fr 3 = .ptr 4 0∧nth fr 5 = .ptr hp0.length 0∧nth fr 6 = .ptr (hp0.length+1) 0∧nth fr 7 = .sc (.bool false):=by
  simp[exC,Tryz.f109,aX,af,aH,an,ao,aG,ag,ai,aj,ak,aC,FP.none,aY,au,bf,av,bK,partOf,aa,ae,ab,bh,eo,e0,e1,e2,e3,e4,hp0',hl,hl1,hne,zR',Kq,I7,ur,aU,br]
 refine⟨fr,?_⟩
 rw[a1]
 simp[XF,iv,Zr,exC,Tryz.f109,ah,seq1,af,aH,an,ao,aG,ag,ai,aj,ak,aC,FP.none,av,bK,partOf,aa,ae,ab,bh,hD,eo,a0,a2,a3,a4,a5,a6,a7,a8,hp3',Bt,uT,Fg,aU,br]
theorem Zp (L:Lst)(run:aq)(k:Nat)(fr:List PV)(hp0 hp:List Blk)(wr:List Nat)(row n i:Nat)(neg:Bool)(sc:List PV)(u:Option Rat)(hc:Rc sc u)(h:XF fr hp0.length row n i neg)(hX:XH hp0 hp sc) :
  ∃ st,af (CC L) run k (ah 5 exC) ⟨fr,hp,wr⟩=some (.ret,st)∧st.hp=cf hp hp0.length ⟨.live,sc⟩∧st.wr=az [hp0.length] wr∧aV TT st.fr st.hp Tryz.f109.results.toList=some [.agg sc]:=by
 obtain⟨h0,h1,h2,h3,h4,h5,h6,h7,h8,h9⟩:=h
 obtain⟨q1,q2,q3,q4⟩:=hX
 have ht:=eD sc hc.len
 have ho:=eE rz sc (by rw[hc.len];rfl)
 have hs:=qR (b:=⟨.live,sc⟩) q3
 have hok:=hc.okc
 have hlx:=hc.len
 simp[exC,Tryz.f109,ah,af,aH,an,ao,aG,ag,ai,aj,ak,aC,partOf,aa,ae,bh,bm,eo,h0,h5,h6,q3,q4,ht,ho,hs,hok,hlx,aR,sR,aU,br,aV]
theorem wC (n:Nat):∀ S:List Bool,dY n (S.map bl)=true
 | []=>rfl
 | a::l=>by simp only[List.map_cons,dY,wC n l];rfl
theorem TH (L:Lst)(gm:bu L 56=fun a=>mq (aJ a))(ga:bu L 87=fun a=>iT (aJ a))(gn:bu L 106=fun a=>j0 (aJ a))(gs:bu L 49=fun a=>jj (aJ a))(gf:bu L 110=fun a=>D0 (aJ a))(n:Nat)(M:List (List Rat)){k1:Nat}(hk:0<k1)(hM:M.length=n)(hn9:n<1000)(hR:∀ R ∈ M,R.length=n∧RbL k1 R)(h6:n*(k1+exB n k1 (n - 1)+1)+1+k1+exB n k1 (n - 1)≤1000000) :
  ∀ (rows:List (List Rat)) (row:Nat) (S:List Bool) (hp0:List Blk),M.drop row=rows→row+rows.length=n→S.length=n→5≤hp0.length→H0 hp0 M n S →
  ∃ hp' w,runK (CC L) (rows.length+n+3) 109 [iv row,.ptr 0 0,.ptr 3 0,.ptr 4 0] hp0=some ([.agg (cz (exU n rows S))],hp',w)∧hp0.length≤hp'.length∧(∀ i,i<hp0.length→aZ hp' i=aZ hp0 i)∧WB hp0.length w
 | [],row,S,hp0,hd,hl,hS,h5,hH=>by
  have e:row=n:=by simpa using hl
  subst e
  obtain⟨st,x1,x2,x3,x4⟩:=Zq L (runK (CC L) (row+2)) (row+2) hp0 row M hM S h5 hH (aek gf _)
  have hb:=nX Ah rfl x1 x4
  rw[x2,x3] at hb
  have w0:WB hp0.length ([]:List Nat):=fun i hi=>by cases hi
  have e9:([]:List (List Rat)).length+row+3=row+2+1:=by rw[List.length_nil];omega
  rw[e9]
  exact⟨_,_,hb,by rw[al4];omega,fun i hi=>al3 hp0 rz _ i hi,(w0.add (WB.one (x:=hp0.length) (.inr (Nat.le_refl _)))).add (WB.one (x:=hp0.length) (.inr (Nat.le_refl _)))⟩
 | r::rs,row,S,hp0,hd,hl,hS,h5,hH=>by
  have hrow:row<M.length:=by rw[hM];simp at hl;omega
  have hdr:=List.drop_eq_getElem_cons hrow
  rw[hd] at hdr
  simp only[List.cons.injEq] at hdr
  obtain⟨er,ers⟩:=hdr
  have hRr:=hR _ (List.getElem_mem hrow)
  have hmono:exB n k1 rs.length≤exB n k1 (n - 1):=by
   have hle:rs.length≤n - 1:=by simp at hl;omega
   have step:∀ d,exB n k1 d≤exB n k1 (d+1):=by
    intro d
    show exB n k1 d≤n*(k1+exB n k1 d+1)+1
    have:1*(k1+exB n k1 d+1)≤n*(k1+exB n k1 d+1):=Nat.mul_le_mul_right _ (by omega)
    omega
   have:∀ a b,a≤b→exB n k1 a≤exB n k1 b:=by
    intro a b hab
    induction hab with
    | refl=>exact Nat.le_refl _
    | step _ ih=>exact Nat.le_trans ih (step _)
   exact this _ _ hle
  have hnm:n*(k1+exB n k1 rs.length+1)≤n*(k1+exB n k1 (n - 1)+1):=Nat.mul_le_mul_left _ (by omega)
  have hcall:VI L (runK (CC L) (rs.length+n+3)) hp0 S row n (fun i=>exU n rs (S.set i true)):=by
   intro i hi hSi hp1 hl1 ho1 h12
   obtain⟨p0,p2,p3,p4⟩:=hH
   have H1:H0 hp1 M n (S.set i true):=⟨by rw[ho1 0 (by omega) (by omega),p0],h12,by rw[ho1 3 (by omega) (by omega),p3],by rw[ho1 4 (by omega) (by omega),p4]⟩
   obtain⟨hp',w,c1,c2,c3,c4⟩:=TH L gm ga gn gs gf n M hk hM hn9 hR h6 rs (row+1) (S.set i true) hp1 ers.symm (by simp at hl;omega) (by rw[List.length_set];exact hS) (by omega) H1
   have hold:∀ j ∈ ju hp1.length w,j=2:=fun j hj=>by
    obtain⟨m1,m2⟩:=kU hj
    rcases c4 j m1 with h | h
    ·exact h
    ·omega
   refine⟨(ju hp1.length w).length,?_⟩
   have hcc:=Cl (L:=L) I3 c1 (by cases exU n rs (S.set i true) <;> rfl) c2 c3 (fun j hj b hb=>by
    rw[hold j hj,c3 2 (by omega),h12] at hb
    simp only[Option.some.injEq] at hb
    rw[← hb];exact wC _ _) true
   rw[J9 hold] at hcc
   simpa [iv] using hcc
  obtain⟨fr,fr1,a1,a2,a3⟩:=ac9 L (runK (CC L) (rs.length+n+3)) (rs.length+n+3) hp0 row n M hM (by omega) S h5 hH
  have l1:(aP (aP hp0 rz) rz).length=hp0.length+2:=by simp[aP]
  have X0:XH hp0 (aP (aP hp0 rz) rz) (cz none):=by
   refine⟨by omega,fun i hi => ?_,?_,?_⟩
   ·rw[bO,if_neg (by simp[aP];omega),bO,if_neg (by omega)]
   ·rw[bO,if_neg (by simp[aP]),al1]
   ·have:hp0.length+1=(aP hp0 rz).length:=by simp[aP]
    rw[this,al1];rfl
  have w0:WB hp0.length ([]:List Nat):=fun i hi=>by cases hi
  have w1:=(w0.add (WB.one (x:=hp0.length) (.inr (Nat.le_refl _)))).add (WB.one (x:=hp0.length+1) (.inr (Nat.le_succ _)))
  obtain⟨fr2,hp2,wr2,b1,b2,b3,b4⟩:=JR L (runK (CC L) (rs.length+n+3)) (rs.length+n+3) gm ga gn gs hp0 row n M S (fun i=>exU n rs (S.set i true)) (k1:=k1) (k2:=exB n k1 rs.length) hS (by omega) hn9 h5 hH hrow hRr.1 hk hRr.2 (fun i=>Bc hk rs _ fun R hRm=>(hR R (by
   have:R ∈ M.drop (row+1):=by rw[← ers];exact hRm
   exact List.mem_of_mem_drop this)).2) (by omega) hcall n 0 fr1 _ _ (by omega) a3 X0 w1
  have eU:exU n (r::rs) S=(exS (fun i=>vv (exU n rs (S.set i true))) M[row] S n).1:=by rw[← er];rfl
  obtain⟨st,c1,c2,c3,c4⟩:=Zp L (runK (CC L) (rs.length+n+3)) (rs.length+n+3) fr2 hp0 hp2 wr2 row n n _ _ _ (zT _) b2 b3
  have hloop:af (CC L) (runK (CC L) (rs.length+n+3)) (rs.length+n+3) (.seq Zr (.block 0 (.loop exL))) ⟨fr,aP (aP hp0 rz) rz,az [hp0.length+1] (az [hp0.length] [])⟩=some (.normal,⟨fr2,hp2,wr2⟩):=by
   rw[aw a2];exact bF (bT b1 (by omega))
  have hx:af (CC L) (runK (CC L) (rs.length+n+3)) (rs.length+n+3) exC ⟨entry 56 [iv row,.ptr 0 0,.ptr 3 0,.ptr 4 0],hp0,[]⟩=some (.ret,st):=by
   rw[aM 4 a1,ac8,aw hloop,c1]
  have hb:=nX Ah rfl hx c4
  rw[c2,c3,← eU] at hb
  obtain⟨q1,q2,q3,q4⟩:=b3
  have e9:(r::rs).length+n+3=(rs.length+n+3)+1:=by simp;omega
  rw[e9]
  exact⟨_,_,hb,by rw[bG];omega,fun i hi=>by rw[ox (j:=i) q3 (by omega),q2 i hi],b4.add (WB.one (x:=hp0.length) (.inr (Nat.le_refl _)))⟩
theorem Iq:base.F.get 62=some Tryz.f62:=by kernel_rfl
theorem uP:base.shared 62=false:=by kernel_rfl
theorem bB:gh TT 4=some 1:=by kernel_rfl
theorem zB:dV TT 4=some [bl false]:=by kernel_rfl
theorem aaU:dV TT 140=some [.sc (.slice none 0 0)]:=by kernel_rfl
theorem zFn:dV TT 141=some [.sc .nilFunc]:=by kernel_rfl
theorem HK (f:FuncId)(cs:List PV):(PV.clos f cs).cells?=some [.clos f cs]:=(rfl)
theorem Dj (f:FuncId)(cs:List PV):eG (PV.clos f cs)=true:=(rfl)
theorem UH (M:List (List Rat)):(mC M).cells?=some [mC M]:=(rfl)
theorem PU:∀ n,rep n [bl false]=(List.replicate n false).map bl
 | 0=>rfl
 | n+1=>by rw[rep,PU n,List.replicate_succ];rfl
noncomputable def dtC:Code:=Tryz.f62.body.getD .skip
def dtH (M:List (List Rat))(n:Nat)(sc:List PV):List Blk:=[⟨.live,[mC M]⟩,⟨.live,sc⟩,⟨.live,(List.replicate n false).map bl⟩,⟨.live,[.own 2 1 0 n true]⟩,⟨.live,[fnP]⟩]
theorem ado (L:Lst)(run:aq)(k:Nat)(M:List (List Rat))(n:Nat)(hM:M.length=n)(hn:n≤1000) :
  ∃ fr wr,aX (CC L) run k 4 dtC ⟨entry 11 [mC M],[],[]⟩=some ⟨fr,dtH M n rz,wr⟩∧fr.length=11∧nth fr 2 = .ptr 1 0∧nth fr 4 = .ptr 4 0:=by
 obtain⟨e1,e2⟩:=cQ 10 (mC M)
 generalize entry 11 [mC M]=fr0 at *
 have hl:=Hm M
 rw[hM] at hl
 have hm:n≤cL:=Nat.le_trans hn (by decide)
 have hrp:=PU n
 have hb:[bl false].length=1:=rfl
 have hblf:(bl false) = .sc (.bool false):=rfl
 simp[dtC,Tryz.f62,aX,af,aH,an,ao,aG,ag,ai,aj,ak,aC,az,FP.none,bK,bk,partOf,aa,ae,ab,bh,and_assoc,NJ,vZ,bc,e1,e2,hl,UH,zRz,zFn,aaU,zB,bB,sB,hm,hrp,hb,ur,Kq,I7,Fg,uT,sFn,dtH,fnP,aP,aZ,cf,bX,aU,br,bZ,HK,Dj]
theorem ZA (L:Lst)(run:aq)(k:Nat)(fr:List PV)(wr:List Nat)(M:List (List Rat))(n m:Nat)(sc:List PV)(u:Option Rat)(hc:Rc sc u)(h0:fr.length=11)(h2:nth fr 2 = .ptr 1 0)(h4:nth fr 4 = .ptr 4 0)(hcall:∀ dr,cb (CC L) run dr (dtH M n rz) 109 [.sc (.int .i64 0),.ptr 0 0,.ptr 3 0,.ptr 4 0]=some (.agg sc,dtH M n rz,⟨[],List.replicate m 2,true,true⟩)) :
  ∃ st,af (CC L) run k (ah 4 dtC) ⟨fr,dtH M n rz,wr⟩=some (.ret,st)∧aV TT st.fr st.hp Tryz.f62.results.toList=some [.agg sc]:=by
 have ht:=eD sc hc.len
 have ho:=eE rz sc (by rw[hc.len];rfl)
 have hok:=hc.okc
 have hlx:=hc.len
 have k4:aZ (dtH M n rz) 4=some ⟨.live,[fnP]⟩:=rfl
 have k1:aZ (dtH M n rz) 1=some ⟨.live,rz⟩:=rfl
 have k1':aZ (cf (dtH M n rz) 1 ⟨.live,sc⟩) 1=some ⟨.live,sc⟩:=rfl
 unfold fnP at k4
 simp[dtC,Tryz.f62,ah,af,aH,an,ao,aG,ag,ai,aO,aj,ak,aC,az,av,partOf,aa,ae,ab,bh,bm,h0,h2,h4,k4,k1,k1',hcall,ht,ho,hok,hlx,aR,sR,aFn,sFn,aU,br,aV]
def Sq (n:Nat)(M:List (List Rat)):Prop:=M.length=n∧∀ R ∈ M,R.length=n∧RbL 1000 R
def mX (M:List (List Rat)):Option Rat:=exU M.length M (List.replicate M.length false)
theorem SC {k:Nat}{M N:List (List Rat)}(hM:∀ R ∈ M,RbL k R)(hN:∀ R ∈ N,RbL k R)(h9:k≤2000000)(h:mC M=mC N):M=N:=by
 unfold mC fJ at h
 simp only[PV.imm.injEq,true_and] at h
 obtain⟨-,h2⟩:=h
 induction M generalizing N with
 | nil=>cases N with
  | nil=>rfl
  | cons b N=>simp[eV] at h2
 | cons a M ih=>cases N with
  | nil=>simp[eV] at h2
  | cons b N =>
   simp only[List.flatMap_cons,eV,List.cons_append,List.nil_append,List.cons.injEq] at h2
   rw[uo (hM a List.mem_cons_self) (hN b List.mem_cons_self) h9 h2.1,ih (fun x hx=>hM x (List.mem_cons_of_mem _ hx)) (fun x hx=>hN x (List.mem_cons_of_mem _ hx)) h2.2]
noncomputable def rp:List PV→Option (List PV):=ctr (fun M:List (List Rat)=>[mC M]) (fun M=>∃ n,n≤4∧Sq n M) fun M=>[rv (mX M)]
theorem adj (n:Nat)(hn:n≤4):n*(1000+exB n 1000 (n - 1)+1)+1+1000+exB n 1000 (n - 1)≤1000000:=by
 have:n=0∨n=1∨n=2∨n=3∨n=4:=by omega
 rcases this with rfl | rfl | rfl | rfl | rfl <;> decide
theorem vM:Ab.Spec base.P 62 rp:=Ab.Spec.bN (C:=CC LR1) (cU xu) fun args rs h=>by
 obtain⟨M,⟨n,hn,hM,hR⟩,rfl,rfl⟩:=db h
 obtain⟨fr,wr,a1,a2,a3,a4⟩:=ado LR1 (runK (CC LR1) (n+n+3)) (n+n+3) M n hM (by omega)
 have hH:H0 (dtH M n rz) M n (List.replicate n false):=⟨rfl,rfl,rfl,rfl⟩
 obtain⟨hp',w,c1,c2,c3,c4⟩:=TH LR1 rfl rfl rfl rfl rfl n M (k1:=1000) (by omega) hM (by omega) hR (adj n hn) M 0 (List.replicate n false) (dtH M n rz) rfl (by omega) (by simp) (Nat.le_refl 5) hH
 rw[hM] at c1
 have hold:∀ j ∈ ju (dtH M n rz).length w,j=2:=fun j hj=>by
  obtain⟨m1,m2⟩:=kU hj
  rcases c4 j m1 with h | h
  ·exact h
  ·omega
 have hcc:=fun dr=>Cl (L:=LR1) I3 c1 (by cases exU n M (List.replicate n false) <;> rfl) c2 c3 (fun j hj b hb=>by
  rw[hold j hj,c3 2 (show 2<5 by omega)] at hb
  have hb2:some (⟨.live,(List.replicate n false).map bl⟩:Blk)=some b:=hb
  simp only[Option.some.injEq] at hb2
  rw[← hb2];exact wC _ _) dr
 rw[J9 hold] at hcc
 obtain⟨st,x1,x2⟩:=ZA LR1 (runK (CC LR1) (n+n+3)) (n+n+3) fr wr M n _ _ _ (zT _) a2 a3 a4 hcc
 have hx:af (CC LR1) (runK (CC LR1) (n+n+3)) (n+n+3) dtC ⟨entry 11 [mC M],[],[]⟩=some (.ret,st):=by
  rw[aM 4 a1,x1]
 have hd:mX M=exU n M (List.replicate n false):=by unfold mX;rw[hM]
 refine⟨_,_,_,_,_,_,aQ Iq rfl hx x2,(zT _).p.IZ _,?_,trivial⟩
 rw[hd]
 exact (zT _).p.wk
theorem aag {L:Lst}(hL:bu L 62=fun a=>rp (aJ a))(run:aq)(p:PV)(M:List (List Rat))(hp:∀ hp,bq (snap hp bj) [p]=some ([p],[]))(hc:canon p=mC M){n k:Nat}(hn:n≤4)(hk:k≤1000)(hM:M.length=n)(hR:∀ R ∈ M,R.length=n∧RbL k R):ar L run 62 [p] (rv (mX M)):=fun dr hh =>
 jf uP hL run dr hh _ [mC M] [rv (mX M)] (hp hh) (by simp only[aJ,hc]) (mZ (e:=fun M:List (List Rat)=>[mC M]) (x:=M) (fun x y hx hy h=>by
  obtain⟨_,_,_,h1⟩:=hx
  obtain⟨_,_,_,h2⟩:=hy
  rw[SC (fun R hR=>(h1 R hR).2) (fun R hR=>(h2 R hR).2) (by omega) (by simpa using h)]) ⟨n,hn,hM,fun R hRm=>⟨(hR R hRm).1,fun x hx=>((hR R hRm).2 x hx).mono hk⟩⟩)
theorem UK (M:List (List Rat)):canon (mT M)=mC M:=by
 unfold mT mC fJ
 rw[canon]
 congr 1
 induction M with
 | nil=>rfl
 | cons a M ih =>
  rw[List.flatMap_cons,List.flatMap_cons,kC,ih]
  simp only[eT,eV,aJ,zX]
noncomputable def rq (s:ByteArray):Rat:=@Classical.epsilon Rat ⟨0⟩ fun x=>s=qb x
theorem aaA (x:Rat):rq (qb x)=x:=by
 have h:qb x=qb (rq (qb x)):=Classical.epsilon_spec (p:=fun y=>qb x=qb y) ⟨x,rfl⟩
 exact (oG h).symm
noncomputable def toX (c:List (List ByteArray)):List (List Rat):=c.map fun p=>p.map rq
def qz (c:List (List ByteArray)):Prop:=c.length≤100∧∀ p ∈ c,p.length≤100∧∀ s ∈ p,(bys s).length≤60
theorem qz.fit {c:List (List ByteArray)}(h:qz c):Fit c:=⟨h.1,fun p hp=>⟨(h.2 p hp).1,fun s hs=>Nat.le_trans ((h.2 p hp).2 s hs) (by omega)⟩⟩
theorem ZV {m:Nat}{p:List ByteArray}(h:n7 m p=0)(hs:∀ s ∈ p,(bys s).length≤60):p.length=m∧1≤m∧m≤3∧p=(p.map rq).map qb∧RbL 61 (p.map rq):=by
 unfold n7 at h
 by_cases hb:p.length=0∨3<p.length∨p.length≠m
 ·rw[if_pos hb] at h;omega
 ·rw[if_neg hb] at h
  have hall:p.all (fun s=>pB (IsV s))=true:=by
   cases e:p.all (fun s=>pB (IsV s)) with
   | true=>rfl
   | false=>rw[e] at h;cases h
  rw[List.all_eq_true] at hall
  have hv:∀ s ∈ p,∃ x,s=qb x∧rq s=x∧Rb 61 x:=fun s hsp=>by
   obtain⟨x,hx,-⟩:=ab9.1 (hall s hsp)
   refine⟨x,hx,by rw[hx,aaA],?_⟩
   exact aaB (by rw[← hx];exact hs s hsp)
  refine⟨by omega,by omega,by omega,?_,?_⟩
  ·rw[List.map_map]
   conv=>lhs;rw[← List.map_id p]
   refine List.map_congr_left fun s hsp => ?_
   obtain⟨x,hx,e,-⟩:=hv s hsp
   show s=qb (rq s)
   rw[e];exact hx
  ·intro y hy
   obtain⟨s,hsp,rfl⟩:=List.mem_map.1 hy
   obtain⟨x,hx,e,hb⟩:=hv s hsp
   rw[e];exact hb
theorem J1 {m:Nat} : ∀ {c:List (List ByteArray)},je m c=0→∀ p ∈ c,n7 m p=0
 | p::r,h,q,hq=>by
  unfold je at h
  by_cases h0:n7 m p=0
  ·rw[if_pos h0] at h
   rcases List.mem_cons.1 hq with e | e
   ·rw[e];exact h0
   ·exact J1 h q e
  ·rw[if_neg h0] at h;exact absurd h h0
theorem Bk {c:List (List ByteArray)}(h:chk c=0)(hF:qz c):cE c=qC (toX c)∧xZ (hdL c) 61 (toX c)∧(c≠[]→1≤hdL c∧hdL c≤3)∧c.length≤64∧(toX c).length=c.length:=by
 unfold chk at h
 by_cases h64:64<c.length
 ·rw[if_pos h64] at h;omega
 ·rw[if_neg h64] at h
  have hp:=fun p hp=>ZV (J1 h p hp) (hF.2 p hp).2
  refine⟨?_,?_,?_,by omega,by simp[toX]⟩
  ·unfold qC toX
   congr 1
   rw[List.map_map]
   conv=>lhs;rw[← List.map_id c]
   exact List.map_congr_left fun p hpc=>(hp p hpc).2.2.2.1
  ·intro P hP
   unfold toX at hP
   obtain⟨p,hpc,rfl⟩:=List.mem_map.1 hP
   have:=hp p hpc
   exact⟨by rw[List.length_map];exact this.1,this.2.2.2.2⟩
  ·intro hne
   cases c with
   | nil=>exact absurd rfl hne
   | cons p r =>
    have:=hp p List.mem_cons_self
    exact⟨this.2.1,this.2.2.1⟩
theorem tZ {c:List (List ByteArray)}(h:chk c=0):kD c=hdL c:=by unfold kD;rw[if_pos h]
theorem Bm {c:List (List ByteArray)}{l:List Int}{n:Nat}(h:oQ c l (n:Int)=0):chk c=0∧l.length=n∧∀ z ∈ l,0≤z∧z<c.length:=by
 unfold oQ at h
 by_cases h1:chk c=0
 ·rw[if_neg (fun e=>e h1)] at h
  by_cases h2:(0:Int)≤(n:Int)∧(l.length:Int)≠n
  ·rw[if_pos h2] at h;omega
  ·rw[if_neg h2] at h
   refine⟨h1,by omega,fun z hz => ?_⟩
   cases hb:l.any (Bp c.length) with
   | true=>rw[hb] at h;cases h
   | false =>
    rw[List.any_eq_false] at hb
    have:=hb z hz
    unfold Bp at this
    simp only[Bool.or_eq_true,decide_eq_true_eq] at this
    omega
 ·rw[if_pos h1] at h;exact absurd h h1
theorem aaN {l:List Int}(h:∀ z ∈ l,0≤z):aE l=aN (l.map Int.toNat):=by
 unfold aN
 rw[List.map_map]
 congr 1
 conv=>lhs;rw[← List.map_id l]
 exact List.map_congr_left fun z hz=>(Int.toNat_of_nonneg (h z hz)).symm
noncomputable def jl (c:List (List ByteArray))(l:List Int):Option Rat × Nat :=
 if oQ c l ((kD c+1:Nat):Int)=0 then (mX (fq (toX c) (l.map Int.toNat)),0) else (none,oQ c l ((kD c+1:Nat):Int))
theorem IK {j k:Nat}{X Y:List Rat}(hX:RbL j X)(hY:RbL k Y):RbL (j+k+1) (eu X Y):=by
 intro z hz
 unfold eu at hz
 rw[List.mem_iff_getElem] at hz
 obtain⟨i,hi,rfl⟩:=hz
 rw[List.getElem_zipWith]
 exact (hX _ (List.getElem_mem _)).sub (hY _ (List.getElem_mem _))
theorem BM {X Y:List Rat}(h:X.length=Y.length):(eu X Y).length=X.length:=by unfold eu;rw[List.length_zipWith];omega
theorem Ej {m k:Nat}{X:List (List Rat)}{l:List Nat}(hE:xZ m k X)(hin:∀ i ∈ l,i<X.length):∀ R ∈ fq X l,R.length=m∧RbL (2*k+1) R:=by
 intro R hR
 unfold fq at hR
 obtain⟨i,hi,rfl⟩:=List.mem_map.1 hR
 cases l with
 | nil=>simp at hi
 | cons j l =>
  have h1:=hin i (List.mem_cons_of_mem _ hi)
  have h2:=hin j List.mem_cons_self
  simp only[List.headD_cons,List.getD_eq_getElem?_getD,List.getElem?_eq_getElem h1,List.getElem?_eq_getElem h2,Option.getD_some]
  have e1:=hE _ (List.getElem_mem h1)
  have e2:=hE _ (List.getElem_mem h2)
  refine⟨by rw[BM (by omega)];exact e1.1,fun z hz=>(IK e1.2 e2.2 z hz).mono (by omega)⟩
theorem zO (X:List (List Rat))(l:List Nat):(fq X l).length=l.length - 1:=by unfold fq;simp
theorem Ai:base.F.get 42=some Tryz.f42:=by kernel_rfl
theorem Wr:base.shared 42=false:=by kernel_rfl
theorem BF:base.F.get 15=some Tryz.f15:=by kernel_rfl
theorem FI:base.shared 15=false:=by kernel_rfl
theorem ZG (L:Lst)(run:aq)(k:Nat)(c:List (List ByteArray))(l:List Int)(m e:Nat)(hm:m<1000)(he:e≠0)(g1:ar L run 81 [cE c] (iv m))(g2:ar L run 50 [cE c,aE l,.sc (.int .i64 ((m:Int)+1))] (iv e)) :
  ∃ st,af (CC L) run k (Tryz.f42.body.getD .skip) ⟨entry 21 [cE c,aE l],[],[]⟩=some (.ret,st)∧aV TT st.fr st.hp Tryz.f42.results.toList=some [.agg rz,iv e]:=by
 obtain⟨e1,e2,e3⟩:=cn 19 (cE c) (aE l)
 generalize entry 21 [cE c,aE l]=fr0 at *
 have hw:=bJ m (by omega)
 have hb:((e:Int) != 0)=true:=by simp;omega
 have hok:bc rz=true:=rfl
 have hrl:rz.length=4:=rfl
 have ho:=eE rz rz rfl
 have ht:=eD rz rfl
 have hbd:eJ TT 72 []=some (.agg rz):=by simp[eJ,zRz,uR,sW,rf0,rf1,dn]
 unfold ar at g1 g2
 simp only[iv] at g1 g2 ⊢
 simp[Tryz.f42,af,aH,an,ao,aG,ag,ai,aO,aj,ak,aC,az,FP.none,aY,au,bf,av,partOf,aa,ae,ab,bh,bm,e1,e2,e3,g1,g2,hw,hb,zRz,hok,hrl,ho,ht,hbd,aR,sR,aP,aZ,cf,aU,br,aV]
theorem Ug (L:Lst)(run:aq)(k:Nat)(c:List (List ByteArray))(l:List Int)(m:Nat)(d:PV)(cs:List PV)(hcs:cs.length=4)(hok:bc cs=true)(hm:m<1000)(g1:ar L run 81 [cE c] (iv m))(g2:ar L run 50 [cE c,aE l,.sc (.int .i64 ((m:Int)+1))] (iv 0))(g3:ar L run 51 [cE c,aE l] d)(g4:ar L run 62 [d] (.agg cs)) :
  ∃ st,af (CC L) run k (Tryz.f42.body.getD .skip) ⟨entry 21 [cE c,aE l],[],[]⟩=some (.ret,st)∧aV TT st.fr st.hp Tryz.f42.results.toList=some [.agg cs,iv 0]:=by
 obtain⟨e1,e2,e3⟩:=cn 19 (cE c) (aE l)
 generalize entry 21 [cE c,aE l]=fr0 at *
 have hw:=bJ m (by omega)
 have ho:=eE rz cs (by rw[hcs];rfl)
 have ht:=eD cs hcs
 unfold ar at g1 g2 g3 g4
 simp only[iv,Int.cast_ofNat_Int] at g1 g2 ⊢
 simp[Tryz.f42,af,aH,an,ao,aG,ag,ai,aO,aj,ak,aC,az,FP.none,aY,au,bf,av,partOf,aa,ae,ab,bh,bm,e1,e2,e3,g1,g2,g3,g4,hw,zRz,hok,hcs,ho,ht,aR,sR,aP,aZ,cf,aU,br,aV]
noncomputable def LV1:Lst:=[(81,U3),(50,RN),(51,G0),(62,rp),(49,jj),(43,mr),(44,rtF)]
theorem Vm:dM base.P LV1:=⟨N0,ME,GZ,vM,lv,oz,WJ,trivial⟩
abbrev CA:=List (List ByteArray) × List Int
def eCA (p:CA):List PV:=[cE p.1,aE p.2]
theorem JX {p q:CA}(h:eCA p=eCA q):p=q:=by
 simp only[eCA,List.cons.injEq,and_true] at h
 exact Prod.ext (xn h.1) (H5 h.2)
def aeS (p:CA):Prop:=qz p.1∧p.2.length≤1000
noncomputable def RM:List PV→Option (List PV):=ctr eCA aeS fun p=>[rv (jl p.1 p.2).1,iv (jl p.1 p.2).2]
theorem acX {c:List (List ByteArray)}(h:Fit c):hdL c≤100:=by
 cases c with
 | nil=>exact Nat.zero_le _
 | cons p r=>exact (h.2 p List.mem_cons_self).1
theorem J5 {c:List (List ByteArray)}(h:Fit c):kD c<1000:=by
 have:=acX h
 unfold kD
 split <;> omega
theorem MD:Ab.Spec base.P 42 RM:=Ab.Spec.bN (C:=CC LV1) (cU Vm) fun args rs h=>by
 obtain⟨⟨c,l⟩,⟨hF,h9⟩,rfl,rfl⟩:=db h
 dsimp only at hF h9
 have g1:=aem (L:=LV1) rfl (runK (CC LV1) 1) c hF.fit
 have g2:=aeh (L:=LV1) rfl (runK (CC LV1) 1) c l ((kD c+1:Nat):Int) hF.fit h9
 show ∃ k rs1 hp1 wr rs2 ids,runK (CC LV1) k 42 [cE c,aE l] []=_∧_∧WkL rs2 [rv (jl c l).1,iv (jl c l).2]
 unfold jl
 by_cases h0:oQ c l ((kD c+1:Nat):Int)=0
 ·rw[if_pos h0]
  rw[h0] at g2
  obtain⟨h1,h2,h3⟩:=Bm h0
  obtain⟨q1,q2,q3,q4,q5⟩:=Bk h1 hF
  have hax:=tZ h1
  have hlne:l≠[]:=by intro e;rw[e] at h2;simp at h2
  have hcne:c≠[]:=by
   intro e
   cases l with
   | nil=>exact hlne rfl
   | cons z l =>
    have:=h3 z List.mem_cons_self
    rw[e] at this
    simp at this
    omega
  have q3':=q3 hcne
  have hin:∀ i ∈ l.map Int.toNat,i<(toX c).length:=fun i hi=>by
   obtain⟨z,hz,rfl⟩:=List.mem_map.1 hi
   have:=h3 z hz
   rw[q5];omega
  have g3:=aaf (L:=LV1) rfl (runK (CC LV1) 1) (toX c) (l.map Int.toNat) (by simpa using hlne) (by simpa using h9) hin (show hdL c≤1000 by omega) (show 61≤1000 by omega) q2
  rw[← q1,← aaN (fun z hz=>(h3 z hz).1)] at g3
  have hdo:=Ej q2 hin
  have hdl:(fq (toX c) (l.map Int.toNat)).length=hdL c:=by rw[zO,List.length_map,h2,hax];omega
  have g4:=aag (L:=LV1) rfl (runK (CC LV1) 1) (mT (fq (toX c) (l.map Int.toNat))) _ (fun _=>rfl) (UK _) (n:=hdL c) (by omega) (show 2*61+1≤1000 by omega) hdl hdo
  rw[yu] at g4
  obtain⟨st,x1,x2⟩:=Ug LV1 (runK (CC LV1) 1) 1 c l (kD c) _ _ (AM _) (pW.okc _) (J5 hF.fit) g1 g2 g3 g4
  rw[← yu] at x2
  exact⟨2,_,_,_,[rv (mX (fq (toX c) (l.map Int.toNat)))]++[iv 0],[],aQ Ai rfl x1 x2,kr (uz _ _) rfl,Wk.refl (by rw[yu];exact pW.idf _),Wk.refl rfl,trivial⟩
 ·rw[if_neg h0]
  obtain⟨st,x1,x2⟩:=ZG LV1 (runK (CC LV1) 1) 1 c l (kD c) _ (J5 hF.fit) h0 g1 g2
  refine⟨2,_,_,_,[.agg rz,iv _],[],aQ Ai rfl x1 x2,rfl,?_,Wk.refl rfl,trivial⟩
  exact (show Rp (.agg rz) none from .inr ⟨rfl,rfl⟩).wk
theorem B2 (hp:List Blk)(p:CA):bq (snap hp bj) (eCA p)=some (eCA p,[]):=rfl
theorem zZ (p:CA):aJ (eCA p)=eCA p:=by simp only[eCA,aJ,qk,xi]
theorem aeg {L:Lst}(hL:bu L 42=fun a=>RM (aJ a))(run:aq)(c:List (List ByteArray))(l:List Int)(hF:qz c)(h9:l.length≤1000):ar L run 42 [cE c,aE l] (.tup [rv (jl c l).1,iv (jl c l).2]) :=
 iw Wr (e:=eCA) (f:=fun p=>[rv (jl p.1 p.2).1,iv (jl p.1 p.2).2]) hL (fun x y _ _ h=>by rw[JX h]) run (c,l) ⟨hF,h9⟩ (B2 · _) (zZ _)
theorem ZH {c:List (List ByteArray)}{l:List Int}(hF:qz c):Rb 100000 (vv (jl c l).1):=by
 unfold jl
 by_cases h0:oQ c l ((kD c+1:Nat):Int)=0
 ·rw[if_pos h0]
  obtain⟨h1,h2,h3⟩:=Bm h0
  obtain⟨q1,q2,q3,q4,q5⟩:=Bk h1 hF
  have hax:=tZ h1
  have hin:∀ i ∈ l.map Int.toNat,i<(toX c).length:=fun i hi=>by
   obtain⟨z,hz,rfl⟩:=List.mem_map.1 hi
   have:=h3 z hz
   rw[q5];omega
  have hdo:=Ej q2 hin
  have hdl:(fq (toX c) (l.map Int.toNat)).length=hdL c:=by rw[zO,List.length_map,h2,hax];omega
  have hm:hdL c≤3:=by
   cases hc:c with
   | nil=>exact Nat.zero_le _
   | cons p r=>rw[← hc];exact (q3 (by rw[hc];simp)).2
  show Rb 100000 (vv (mX _))
  unfold mX
  refine (Bc (k:=123) (by omega) _ _ fun R hR => ?_).mono ?_
  ·exact (hdo R hR).2
  ·rw[hdl]
   have:hdL c=0∨hdL c=1∨hdL c=2∨hdL c=3:=by omega
   rcases this with h | h | h | h <;> rw[h] <;> decide
 ·rw[if_neg h0]
  exact (Rb.zero 0).mono (by omega)
theorem EO (L:Lst)(run:aq)(k:Nat)(c:List (List ByteArray))(l:List Int)(cs:List PV)(e:Nat)(s:Int)(hcs:cs.length=4)(hok:bc cs=true)(g1:ar L run 42 [cE c,aE l] (.tup [.agg cs,iv e]))(g2:ar L run 49 [.agg cs] (Ab.bC s)) :
  ∃ st,af (CC L) run k (Tryz.f15.body.getD .skip) ⟨entry 17 [cE c,aE l],[],[]⟩=some (.ret,st)∧aV TT st.fr st.hp Tryz.f15.results.toList=some [Ab.bC s,iv e]:=by
 obtain⟨e1,e2,e3⟩:=cn 15 (cE c) (aE l)
 generalize entry 17 [cE c,aE l]=fr0 at *
 have ho:=eE rz cs (by rw[hcs];rfl)
 have ht:=eD cs hcs
 unfold ar at g1 g2
 simp only[iv,Ab.bC] at g1 g2 ⊢
 simp[Tryz.f15,af,aH,an,ao,aG,ag,ai,aO,aj,ak,aC,az,FP.none,av,partOf,aa,ae,ab,bh,bm,e1,e2,e3,g1,g2,zRz,hok,hcs,ho,ht,aR,sR,aP,aZ,cf,aU,br,aV]
noncomputable def LV2:Lst:=(42,RM)::LV1
theorem adU:dM base.P LV2:=⟨MD,Vm⟩
noncomputable def xK (c:List (List ByteArray))(l:List Int):Int:=eN (vv (jl c l).1)
noncomputable def vT:List PV→Option (List PV):=ctr eCA aeS fun p=>[Ab.bC (xK p.1 p.2),iv (jl p.1 p.2).2]
theorem A2:Ab.Spec base.P 15 vT:=Ab.Spec.bN (C:=CC LV2) (cU adU) fun args rs h=>by
 obtain⟨⟨c,l⟩,⟨hF,h9⟩,rfl,rfl⟩:=db h
 dsimp only at hF h9
 have g1:=aeg (L:=LV2) rfl (runK (CC LV2) 1) c l hF h9
 have g2:=Kz (L:=LV2) rfl (runK (CC LV2) 1) (ZH (l:=l) hF) (by omega)
 rw[yu] at g1 g2
 obtain⟨st,x1,x2⟩:=EO LV2 (runK (CC LV2) 1) 1 c l _ (jl c l).2 _ (AM _) (pW.okc _) g1 g2
 exact⟨2,_,_,_,_,_,aQ BF rfl x1 x2,rfl,Wk.refl rfl,Wk.refl rfl,trivial⟩
theorem N7 {L:Lst}(hL:bu L 15=fun a=>vT (aJ a))(run:aq)(c:List (List ByteArray))(l:List Int)(hF:qz c)(h9:l.length≤1000):ar L run 15 [cE c,aE l] (.tup [Ab.bC (xK c l),iv (jl c l).2]) :=
 iw FI (e:=eCA) (f:=fun p=>[Ab.bC (xK p.1 p.2),iv (jl p.1 p.2).2]) hL (fun x y _ _ h=>by rw[JX h]) run (c,l) ⟨hF,h9⟩ (B2 · _) (zZ _)
end Go.Proofs.YtjdmodeenbdfpaaGreat
