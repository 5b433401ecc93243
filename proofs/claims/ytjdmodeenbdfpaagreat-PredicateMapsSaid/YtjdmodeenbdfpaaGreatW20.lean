/- Contracts of numbers kept as digits in text, part 20; each lemma states its conditions. -/
import Derived.Test.YtjdmodeenbdfpaaGreatW19
set_option linter.unusedSimpArgs false
set_option linter.unusedVariables false
noncomputable section
namespace Go.Proofs.YtjdmodeenbdfpaaGreat
open Go Go.Ab List Tryz
attribute [local simp] FzZ aC aF aG aH aM aZ aa ab ae af ag ah ai aj an ao aq au av bc bf bg
variable(L:Lst)(run:aw)(k:Nat)(fr:Ψ)(hp:Ω)(wr:Θ)
def zS:Code:=((f116.body).bind aA).getD .skip
def gX:Code:=f116.body.getD .skip
theorem qu:und TT 43=some (.slice 5):=by kernel_rfl
theorem sU8:de TT 5=some 1:=by kernel_rfl
theorem bU8:fQ TT 5=some 1:=by kernel_rfl
theorem zU8:eB TT 5=some [u8v 0]:=by kernel_rfl
theorem K9 (n:Nat):eM TT 43 1 [(0,.sc (.int .u8 (n:Int)))]=some (1,[u8v n]):=afn qu sU8 zU8 n
theorem SM (L:Lst)(run:aw)(k:Nat)(fr:Ψ)(hp:Θ)(wr:Ω)(h34:fr.length=34)(h6:nth fr 6 = .sc (.int .i64 (-1))) :
  ∃ fr',af (CC L) run k zS ⟨fr,hp,wr⟩=some (.exit 0,⟨fr',hp,wr⟩)∧fr'.length=34∧nth fr' 5=nth fr 5:=by
 simp[zS,f116,aA,h34,h6]
set_option maxHeartbeats 1000000 in
theorem Hk (L:Lst)(run:aw)(k:Nat)(fr:Ψ)(hp:Θ)(wr:Ω)(t out:Ω)(i:Nat)(ht:T.Dok t)(hi:i<t.length)(hi9:t.length<20000000)(ho9:out.length<20000001)(h34:fr.length=34)(h1:nth fr 1=bx t)(h6:nth fr 6=iv i)(hO:dw u8v 0 hp out (nth fr 5)) :
  ∃ fr' hp' wr',af (CC L) run k zS ⟨fr,hp,wr⟩=some (.normal,⟨fr',hp',wr'⟩)∧fr'.length=34∧nth fr' 1=bx t∧dw u8v 0 hp' (out++[at0 t i+48]) (nth fr' 5)∧nth fr' 6 = .sc (.int .i64 ((i:Int) - 1)):=by
 have hda:=fE t i hi
 have hd9:=T.cu ht i
 generalize at0 t i=d at *
 obtain⟨b,hb⟩:∃ b,b=d+48:=⟨_,rfl⟩
 rw[← hb]
 obtain⟨p',hp',fp,g1,g2,-⟩:=hO.app b (by omega)
 have hw:=cM i (by omega)
 have hw1:bF .i64 (48+(d:Int))=(b:Int):=by rw[show (48+(d:Int))=(b:Int) by omega];exact cq .i64 b (hiI (by omega))
 have hw2:bF .u8 (b:Int)=(b:Int):=cq .u8 b (show b≤255 by omega)
 have hlX:=K9 b
 have e1:bx t = .imm t.length false (t.map iv):=rfl
 rw[e1] at h1 ⊢
 simp only[iv] at h6
 simp[zS,f116,aA,soft,eu,aU,bh,partOf,and_assoc,bd,lQ,h34,h1,h6,hi,hda,aX,uL,uI,sI,aI,u8T,dI,hw,hw1,hw2,hlX,Kw,pP,qu,sU8,bU8,zU8,bQ,g1,g2]
theorem zQ (L:Lst)(run:aw)(k:Nat)(t pre:Ω)(ht:T.Dok t)(h9:t.length<10000000)(hp9:pre.length≤1):∀ (n:Nat) (fr:Ψ) (hp:Θ) (wr:Ω) (out:Ω),n≤t.length →
  fr.length=34→nth fr 1=bx t→nth fr 6 = .sc (.int .i64 ((n:Int) - 1))→dw u8v 0 hp out (nth fr 5)→out=pre++(t.drop n).reverse.map (· + 48) →
  ∃ (fr':Ψ) (hp':Θ) (wr':Ω),ch (af (CC L) run k zS) (n+1) ⟨fr,hp,wr⟩=some (.exit 0,⟨fr',hp',wr'⟩)∧fr'.length=34∧dw u8v 0 hp' (pre++t.reverse.map (· + 48)) (nth fr' 5)
 | 0,fr,hp,wr,out,hn,h34,h1,h6,hO,ho=>by
  obtain⟨fr',q1,q2,q3⟩:=SM L run k fr hp wr h34 (by rw[h6];rfl)
  refine⟨fr',hp,wr,bE q1,q2,?_⟩
  rw[q3]
  rw[drop_zero] at ho
  rw[← ho];exact hO
 | n+1,fr,hp,wr,out,hn,h34,h1,h6,hO,ho=>by
  have h6':nth fr 6=iv n:=by rw[h6];simp[iv]
  obtain⟨fr1,hp1,wr1,g1,g2,g3,g4,g5⟩:=Hk L run k fr hp wr t out n ht (by omega) (by omega) (by rw[ho];simp;omega) h34 h1 h6' hO
  obtain⟨fr',hp',wr',q1,q2,q3⟩:=zQ L run k t pre ht h9 hp9 n fr1 hp1 wr1 _ (by omega) g2 g3 g5 g4 (by
   rw[ho,drop_eq_getElem_cons (show n<t.length by omega),df (show n<t.length by omega),reverse_cons,map_append]
   simp only[map_cons,map_nil,append_assoc])
  exact⟨fr',hp',wr',by rw[ca g1];exact q1,q2,q3⟩
def BQ:Code:=seq1 (ag 4 gX)
def Hl:Code:=seq1 (seq1 (ag 5 gX))
theorem Eb:ag 4 gX = .seq BQ (ag 5 gX):=rfl
theorem Ea:ag 5 gX = .seq (.seq Hl (.block 0 (.loop zS))) (ag 6 gX):=rfl
theorem FN (run:aw)(dr:Bool)(hp:Θ)(l:Ω)(hd:T.Dok l)(hl:l.length<10000000):bU (CC LT1) run dr hp 156 [bx l]=some (bx (T.aK (T.val l)),hp,⟨[],[],false,false⟩) :=
 bu lK xt run dr hp _ [bx (T.aK (T.val l))] (pG hp l) (by simp only[aJ,pX]) (by simp only[iC,dY hd hl,T.eJ hd])
theorem SK (run:aw)(k:Nat)(m:Bool)(l t:Ω)(hc:∀ hp,bU (CC LT1) run false hp 156 [bx l]=some (bx t,hp,⟨[],[],false,false⟩)) :
  ∃ fr,ba (CC LT1) run k 2 gX ⟨entry 34 [.sc (.bool m),bx l],[],[]⟩=some ⟨fr,[],[]⟩∧fr.length=34∧nth fr 0 = .sc (.bool m)∧nth fr 1=bx t:=by
 obtain⟨e1,e2,e3⟩:=cC 32 (.sc (.bool m)) (bx l)
 generalize entry 34 [.sc (.bool m),bx l]=fr0 at *
 simp[gX,f116,ba,e1,e2,e3,hc]
theorem Nn (L:Lst)(run:aw)(k:Nat)(fr:Ψ)(hp:Θ)(wr:Ω)(h34:fr.length=34)(h1:nth fr 1=bx []) :
  ∃ st,af (CC L) run k (ag 2 gX) ⟨fr,hp,wr⟩=some (.ret,st)∧bc TT st.fr st.hp f116.results.toList=some [.sc (.string (tx [48]))]:=by
 have:(tx [48])={ data:=#[48] } := rfl
 rw[this]
 simp[gX,f116,bL,dV,h34,h1,uL]
theorem SL (L:Lst)(run:aw)(k:Nat)(fr:Ψ)(hp:Θ)(wr:Ω)(m:Bool)(t:Ω)(ht:0<t.length)(h34:fr.length=34)(h0:nth fr 0 = .sc (.bool m))(h1:nth fr 1=bx t) :
  ∃ fr',ba (CC L) run k 2 (ag 2 gX) ⟨fr,hp,wr⟩=some ⟨fr',hp,wr⟩∧fr'.length=34∧nth fr' 0 = .sc (.bool m)∧nth fr' 1=bx t∧nth fr' 5 = .sc (.slice none 0 0):=by
 have h:((t.length:Int) == 0)=false:=by rw[beq_eq_false_iff_ne];omega
 have h2 : ¬ (t.length=0):=by omega
 have h3:t≠[]:=by intro e;subst e;simp at ht
 simp[gX,f116,ba,bL,dV,h34,h0,h1,uL,h]
theorem Zu(m:Bool)(t:Ω)(h34:fr.length=34)(h0:nth fr 0 = .sc (.bool m))(h1:nth fr 1=bx t)(h5:nth fr 5 = .sc (.slice none 0 0)) :
  ∃ fr' hp' wr',af (CC L) run k BQ ⟨fr,[],[]⟩=some (.normal,⟨fr',hp',wr'⟩)∧fr'.length=34∧nth fr' 1=bx t∧dw u8v 0 hp' (bif m then [45] else []) (nth fr' 5):=by
 cases m with
 | false =>
  have hO:dw u8v 0 [] [] (.sc (.slice none 0 0)):=dw.nil (Nat.le_refl _)
  simp[BQ,gX,seq1,f116,and_assoc,h34,h0,h1,h5,hO]
 | true =>
  obtain⟨p',hp',fp,g1,g2,-⟩:=(dw.nil (e:=u8v) (b:=0) (hp:=[]) (Nat.le_refl _)).app 45 (by simp)
  rw[nil_append] at g2
  have hlX:eM TT 43 1 [(0,.sc (.int .u8 45))]=some (1,[u8v 45]):=K9 45
  simp[BQ,gX,seq1,f116,soft,eu,and_assoc,bd,lQ,h34,h0,h1,h5,hlX,Kw,pP,qu,sU8,bU8,zU8,bQ,g1,g2]
theorem Zt (L:Lst)(run:aw)(k:Nat)(fr:Ψ)(hp:Θ)(wr:Ω)(t:Ω)(ht:t.length<20000000)(h34:fr.length=34)(h1:nth fr 1=bx t) :
  ∃ fr',af (CC L) run k Hl ⟨fr,hp,wr⟩=some (.normal,⟨fr',hp,wr⟩)∧fr'.length=34∧nth fr' 1=bx t∧nth fr' 5=nth fr 5∧nth fr' 6 = .sc (.int .i64 ((t.length:Int) - 1)):=by
 have hw:=cM t.length (by omega)
 simp[Hl,gX,seq1,f116,bL,dV,h34,h1,uL,hw]
theorem No (L:Lst)(run:aw)(k:Nat)(fr:Ψ)(hp:Θ)(wr:Ω)(l:Ω)(hl:Bok l)(h34:fr.length=34)(hO:dw u8v 0 hp l (nth fr 5)) :
  ∃ st,af (CC L) run k (ag 6 gX) ⟨fr,hp,wr⟩=some (.ret,st)∧bc TT st.fr st.hp f116.results.toList=some [.sc (.string (tx l))]:=by
 obtain⟨ids,h1⟩:=hO.s.rd
 have h2:=FV hl
 have hcv:dI TT hp 43 94 (nth fr 5)=some (.sc (.string (tx l)),ids):=by
  have h3:tx l=mkStr (l.map UInt8.ofNat):=rfl
  rw[h3]
  obtain⟨-,h⟩:=hO
  rcases h with ⟨rfl,h⟩| ⟨id,m,-,-,h,-⟩
  ·rw[h] at h1 ⊢
   simp only[dI,qu,uAI,u8T,h1,h2]
  ·rw[h] at h1 ⊢
   simp only[dI,qu,uAI,u8T,h1,h2]
 simp[gX,f116,h34,hcv]
def mU:Ψ→Option Ψ
 | [.sc (.bool m),p]=>match mY p with
  | some l=>some [.sc (.string (tx (itx m (T.val l))))]
  | none=>none
 | _=>none
theorem KH (hp:Θ)(s:ByteArray):bj (snap hp bp) [.sc (.string s)]=some ([.sc (.string s)],[]):=rfl
theorem sE:Ab.Spec base.P 116 mU:=Ab.Spec.bN (C:=CC LT1) (cP Jf) fun args rs h=>by
 unfold mU at h
 split at h
 ·split at h
  ·rename_i m p _ l e
   obtain⟨rfl,hd,hl⟩:=fZ e
   simp only[OiE] at h
   subst h
   have hlt:=T.di (T.eX hd)
   obtain⟨f1,p1,p2,p3,p4⟩:=SK (runK (CC LT1) (l.length+1)) (l.length+1) m l _ (fun hp=>FN (runK (CC LT1) (l.length+1)) false hp l hd hl)
   by_cases h0:T.val l=0
   ·rw[h0] at p4
    obtain⟨st,x1,x2⟩:=Nn LT1 (runK (CC LT1) (l.length+1)) (l.length+1) f1 [] [] p2 p4
    have hx:af (CC LT1) (runK (CC LT1) (l.length+1)) (l.length+1) gX ⟨entry 34 [.sc (.bool m),bx l],[],[]⟩=some (.ret,st):=by
     rw[aQ 2 p1];exact x1
    rw[h0]
    exact⟨l.length+2,_,_,_,_,_,aV uG rfl hx x2,KH _ _,Wk.refl rfl,trivial⟩
   ·obtain⟨f2,q1,q2,q3,q4,q5⟩:=SL LT1 (runK (CC LT1) (l.length+1)) (l.length+1) f1 [] [] m _ (T.cT.2 h0) p2 p3 p4
    obtain⟨f3,hp3,wr3,r1,r2,r3,r4⟩:=Zu LT1 (runK (CC LT1) (l.length+1)) (l.length+1) f2 m _ q2 q3 q4 q5
    obtain⟨f4,s1,s2,s3,s4,s5⟩:=Zt LT1 (runK (CC LT1) (l.length+1)) (l.length+1) f3 hp3 wr3 _ (by omega) r2 r3
    obtain⟨f5,hp5,wr5,t1,t2,t3⟩:=zQ LT1 (runK (CC LT1) (l.length+1)) (l.length+1) (T.aK (T.val l)) (bif m then [45] else []) (T.bS _) (by omega) (by cases m <;> simp) _ f4 hp3 wr3 _ (Nat.le_refl _) s2 s3 s5 (by rw[s4];exact r4) (by simp)
    have hitx:itx m (T.val l)=(bif m then [45] else [])++(T.aK (T.val l)).reverse.map (· + 48):=by rw[itx,if_neg h0]
    rw[← hitx] at t3
    obtain⟨st,x1,x2⟩:=No LT1 (runK (CC LT1) (l.length+1)) (l.length+1) f5 hp5 wr5 _ (Vz _ _) t2 t3
    have hx:af (CC LT1) (runK (CC LT1) (l.length+1)) (l.length+1) gX ⟨entry 34 [.sc (.bool m),bx l],[],[]⟩=some (.ret,st):=by
     rw[aQ 2 p1,aQ 2 q1,show ag 2 (ag 2 gX)=ag 4 gX from rfl,Eb,ar r1,Ea,ar ((ar s1).trans (bK (bT t1 (by omega))))]
     exact x1
    exact⟨l.length+2,_,_,_,_,_,aV uG rfl hx x2,KH _ _,Wk.refl rfl,trivial⟩
  ·cases h
 ·cases h
def eZ:Ω→Nat
 | []=>0
 | a::l=>bif a.beq 45 then l.length else (a::l).length
theorem af0 (a:Nat):((a:Int) == 45)=a.beq 45:=by
 cases h:a.beq 45 with
 | true=>rw[Nat.eq_of_beq_eq_true h];rfl
 | false =>
  rw[beq_eq_false_iff_ne]
  intro e
  have:a=45:=by omega
  subst this;cases h
theorem yI(l:Ω)(hl:Bok l)(h9:l.length<100000000) :
  ∃ st,af (CC L) run k (f147.body.getD .skip) ⟨entry 16 [.sc (.string (tx l))],[],[]⟩=some (.ret,st)∧bc TT st.fr st.hp f147.results.toList=some [iv (eZ l)]:=by
 obtain⟨e1,e2⟩:=cL 15 (.sc (.string (tx l)))
 generalize entry 16 [.sc (.string (tx l))]=fr0 at *
 cases l with
 | nil=>simp[f147,e1,e2,bL,dT,uAI,undef,eZ,iv]
 | cons a l =>
  have hx:ig TT 94 (.sc (.string (tx (a::l)))) (.sc (.int .i64 0))=some (.sc (.int .u8 (a:Int))):=fg uAI hl .i64 0 (by simp)
  have hp:(0:Int)<(l.length:Int)+1:=by omega
  have hw:=cq .i64 l.length (hiI (by simp at h9;omega))
  have hb:=af0 a
  cases h:a.beq 45 <;> rw[h] at hb <;> simp[f147,e1,e2,bL,dT,uAI,hx,hb,hp,hw,eZ,h,iv]
def lO:Ψ→Option Ψ
 | [.sc (.string s)]=>bif (bys s).length.blt 100000000 then some [iv (eZ (bys s))] else none
 | _=>none
theorem yH:Ab.Spec base.P 147 lO:=Ab.Spec.bN (C:=CC []) (cP trivial) fun args rs h=>by
 unfold lO at h
 split at h
 ·rename_i s
  cases hb:(bys s).length.blt 100000000 with
  | false=>rw[hb] at h;cases h
  | true =>
   rw[hb] at h
   simp only[cond_true,OiE] at h
   subst h
   rw[Nat.blt_eq] at hb
   obtain⟨st,x1,x2⟩:=yI [] (runK (CC []) 1) 1 (bys s) (mO s) hb
   rw[iw] at x1
   exact⟨2,_,_,_,_,_,aV yU rfl x1 x2,rfl,Wk.refl rfl,trivial⟩
 ·cases h
def LT2:Lst:=[(147,lO)]
theorem XB:dt base.P LT2:=⟨yH,trivial⟩
theorem aal:bt LT2 147=fun a=>lO (aJ a):=rfl
theorem pY (run:aw)(dr:Bool)(hp:Θ)(l:Ω)(hl:Bok l)(h9:l.length<100000000):bU (CC LT2) run dr hp 147 [.sc (.string (tx l))]=some (.sc (.int .i64 (eZ l:Int)),hp,⟨[],[],false,false⟩) :=
 bu DA aal run dr hp _ [iv (eZ l)] rfl rfl (by
  have h:l.length.blt 100000000=true:=by rw[Nat.blt_eq];exact h9
  simp only[lO,jO hl,h,cond_true])
theorem Ew(l:Ω)(hl:Bok l)(h9:l.length<100000000) :
  ∃ st,af (CC LT2) run k (f100.body.getD .skip) ⟨entry 6 [.sc (.string (tx l))],[],[]⟩=some (.ret,st)∧bc TT st.fr st.hp f100.results.toList=some [.sc (.bool (decide (1000<eZ l)))]:=by
 obtain⟨e1,e2⟩:=cL 5 (.sc (.string (tx l)))
 generalize entry 6 [.sc (.string (tx l))]=fr0 at *
 have hc:=fun dr hp=>pY run dr hp l hl h9
 generalize eZ l=d at *
 have h1:((1000:Int)<(d:Int))=(1000<d):=by apply propext;omega
 simp[f100,e1,e2,hc,h1]
def oO:Ψ→Option Ψ
 | [.sc (.string s)]=>bif (bys s).length.blt 100000000 then some [.sc (.bool (decide (1000<eZ (bys s))))] else none
 | _=>none
theorem uk:Ab.Spec base.P 100 oO:=Ab.Spec.bN (C:=CC LT2) (cP XB) fun args rs h=>by
 unfold oO at h
 split at h
 ·rename_i s
  cases hb:(bys s).length.blt 100000000 with
  | false=>rw[hb] at h;cases h
  | true =>
   rw[hb] at h
   simp only[cond_true,OiE] at h
   subst h
   rw[Nat.blt_eq] at hb
   obtain⟨st,x1,x2⟩:=Ew (runK (CC LT2) 1) 1 (bys s) (mO s) hb
   rw[iw] at x1
   exact⟨2,_,_,_,_,_,aV Gf rfl x1 x2,rfl,Wk.refl rfl,trivial⟩
 ·cases h
def ub:Code:=((f113.body).bind aA).getD .skip
def mV:Code:=f113.body.getD .skip
theorem SY(l:Ω)(h38:fr.length=38)(h0:nth fr 0 = .sc (.string (tx l)))(h5:nth fr 5=iv l.length) :
  ∃ fr',af (CC L) run k ub ⟨fr,[],[]⟩=some (.exit 0,⟨fr',[],[]⟩)∧fr'.length=38∧nth fr' 0 = .sc (.string (tx l))∧nth fr' 4=nth fr 4:=by
 simp only[iv] at h5
 simp[ub,f113,aA,bL,dT,h38,h0,h5,uAI]
set_option maxHeartbeats 1000000 in
theorem Ny(l:Ω)(i:Nat)(hl:Bok l)(hi:i<l.length)(hi9:i<20000000)(h45:at0 l i=45)(h38:fr.length=38)(h0:nth fr 0 = .sc (.string (tx l)))(h5:nth fr 5=iv i) :
  ∃ fr',af (CC L) run k ub ⟨fr,[],[]⟩=some (.normal,⟨fr',[],[]⟩)∧fr'.length=38∧nth fr' 0 = .sc (.string (tx l))∧nth fr' 4=nth fr 4∧nth fr' 5=iv (i+1):=by
 have hx:=fg uAI hl .i64 i hi
 have hw:=bA i (by omega)
 rw[h45] at hx
 simp only[iv] at h5 ⊢
 simp[ub,f113,aA,bL,dT,h38,h0,h5,uAI,hi,hx,hw]
set_option maxHeartbeats 1000000 in
theorem ZC(l:Ω)(i n:Nat)(hl:Bok l)(hi:i<l.length)(hi9:i<20000000)(hd:lZ (at0 l i)=true)(hn:n<1000000000)(h38:fr.length=38)(h0:nth fr 0 = .sc (.string (tx l)))(h4:nth fr 4=iv n)(h5:nth fr 5=iv i) :
  ∃ fr',af (CC L) run k ub ⟨fr,[],[]⟩=some (.normal,⟨fr',[],[]⟩)∧fr'.length=38∧nth fr' 0 = .sc (.string (tx l))∧nth fr' 4=iv (stp n (at0 l i))∧nth fr' 5=iv (i+1):=by
 have hx:=fg uAI hl .i64 i hi
 rw[dN] at hd
 have hw:=bA i (by omega)
 generalize at0 l i=b at *
 obtain⟨s1,hs1⟩:∃ s1,s1=10*n:=⟨_,rfl⟩
 obtain⟨s2,hs2⟩:∃ s2,s2=s1+b:=⟨_,rfl⟩
 obtain⟨s3,hs3⟩:∃ s3,s3=stp n b:=⟨_,rfl⟩
 have hs4:s2=s3+48:=by rw[hs3,hs2,hs1];unfold stp dv;omega
 rw[← hs3]
 have hw1:=JL .i64 n s1 hs1 (hiI (by omega))
 have hw2:=cq .i64 b (hiI (by omega))
 have hw3:=dA .i64 s1 b s2 hs2 (hiI (by omega))
 have hw4:=A8 .i64 s2 s3 hs4 (hiI (by omega))
 have hne:((b:Int) == 45)=false:=by rw[beq_eq_false_iff_ne];omega
 have hne2 : ¬ ((b:Int)=45):=by omega
 simp only[iv] at h4 h5 ⊢
 simp[ub,f113,aA,bL,dT,h38,h0,h4,h5,uAI,uI,u8T,dI,hi,hx,hne,bne,hw,hw1,hw2,hw3,hw4]
theorem sF (L:Lst)(run:aw)(k:Nat)(m:Bool)(ds:Ω)(hd:eO ds=true)(h9:ds.length≤9):∀ (n i:Nat) (fr:Ψ) (x:Nat),i+n=((bif m then [45] else [])++ds).length →
  fr.length=38→nth fr 0 = .sc (.string (tx ((bif m then [45] else [])++ds)))→nth fr 4=iv x→nth fr 5=iv i→x=dec 0 (ds.take (i - (bif m then 1 else 0))) →
  ∃ (fr':Ψ),ch (af (CC L) run k ub) (n+1) ⟨fr,[],[]⟩=some (.exit 0,⟨fr',[],[]⟩)∧fr'.length=38∧nth fr' 0 = .sc (.string (tx ((bif m then [45] else [])++ds)))∧nth fr' 4=iv (dec 0 ds)
 | 0,i,fr,x,hin,h38,h0,h4,h5,hx=>by
  have e:i=((bif m then [45] else [])++ds).length:=by omega
  rw[e] at h5
  obtain⟨fr',q1,q2,q3,q4⟩:=SY L run k fr _ h38 h0 h5
  refine⟨fr',bE q1,q2,q3,?_⟩
  rw[q4,h4,hx,take_of_length_le (by rw[e];cases m <;> simp)]
 | n+1,i,fr,x,hin,h38,h0,h4,h5,hx=>by
  have hB:Bok ((bif m then [45] else [])++ds):=by
   refine Bok.append ?_ ?_
   ·cases m
    ·exact Bok.nil
    ·exact Bok.nil.cons (by omega)
   ·intro x hx
    have:=dN.1 (fS hd hx)
    omega
  have hlen:((bif m then [45] else [])++ds).length=(bif m then 1 else 0)+ds.length:=by cases m <;> simp;omega
  rw[hlen] at hin
  have hil:i<(bif m then 1 else 0)+ds.length:=by omega
  have hi9:i<20000000:=by cases m <;> simp at hil <;> omega
  by_cases hs:m=true∧i=0
  ·obtain⟨rfl,rfl⟩:=hs
   obtain⟨fr1,g1,g2,g3,g4,g5⟩:=Ny L run k fr _ 0 hB (by rw[hlen];exact hil) hi9 rfl h38 h0 h5
   obtain⟨fr',q1,q2⟩:=sF L run k true ds hd h9 n 1 fr1 x (by rw[hlen];omega) g2 g3 (by rw[g4,h4]) g5 (by simpa using hx)
   exact⟨fr',by rw[ca g1];exact q1,q2⟩
  ·obtain⟨j,hj,hj2⟩:∃ j,i=(bif m then 1 else 0)+j∧j<ds.length:=by
    cases m with
    | false=>exact⟨i,by simp,by simp at hil;exact hil⟩
    | true =>
     have:i≠0:=fun h=>hs ⟨rfl,h⟩
     exact⟨i - 1,by simp;omega,by simp at hil;omega⟩
   have hat:at0 ((bif m then [45] else [])++ds) i=ds[j]:=by
    unfold at0
    cases m with
    | false=>simp only[cond_false,nil_append,Nat.zero_add] at hj ⊢;subst hj;simp[hj2]
    | true=>simp only[cond_true] at hj ⊢;subst hj;rw[Nat.add_comm];simp[hj2]
   have hdb:lZ (at0 ((bif m then [45] else [])++ds) i)=true:=by rw[hat];exact fS hd (getElem_mem hj2)
   have hdr:i - (bif m then 1 else 0)=j:=by rw[hj];cases m <;> simp
   have hdr2:i+1 - (bif m then 1 else 0)=j+1:=by rw[hj];cases m <;> simp <;> omega
   rw[hdr] at hx
   have hx9:x<1000000000:=by
    have h1:eO (ds.take j)=true:=by
     have:=fY (ds.take j) (ds.drop j)
     rw[take_append_drop,hd] at this
     have h2:=this.symm
     rw[Bool.and_eq_true] at h2
     exact h2.1
    have h2:=dec_lt _ h1
    rw[hx]
    refine Nat.lt_of_lt_of_le h2 (Nat.le_trans (Nat.pow_le_pow_right (by omega) (show (ds.take j).length≤9 by rw[length_take];omega)) (by decide))
   obtain⟨fr1,g1,g2,g3,g4,g5⟩:=ZC L run k fr _ i x hB (by rw[hlen];exact hil) hi9 hdb hx9 h38 h0 h4 h5
   rw[hat] at g4
   obtain⟨fr',q1,q2⟩:=sF L run k m ds hd h9 n (i+1) fr1 _ (by rw[hlen];omega) g2 g3 g4 g5 (by
    rw[hdr2,take_succ_eq_append_getElem hj2,mN,← hx];rfl)
   exact⟨fr',by rw[ca g1];exact q1,q2⟩
theorem IQ {s:Ω}{m:Bool}{ds:Ω}(h:yD s=some (m,ds)):eZ s=ds.length:=by
 obtain⟨h1,h2,h3⟩:=su h
 cases m with
 | true=>subst h1;rfl
 | false =>
  simp only[cond_false,nil_append] at h1
  subst h1
  cases s with
  | nil=>rfl
  | cons a l =>
   have:=dN.1 (fS h2 (mem_cons_self ..))
   have hb:a.beq 45=false:=by
    cases e:a.beq 45 with
    | false=>rfl
    | true=>have:=Nat.eq_of_beq_eq_true e;omega
   simp[eZ,hb]
def Hu:Code:=seq1 (seq1 (ag 3 mV))
theorem En:ag 3 mV = .seq (.seq Hu (.block 0 (.loop ub))) (ag 4 mV):=rfl
theorem NA(l:Ω)(hl:Bok l)(h9:l.length<100000000)(hd:9<eZ l) :
  ∃ st,af (CC LT2) run k mV ⟨entry 38 [.sc (.string (tx l))],[],[]⟩=some (.ret,st)∧bc TT st.fr st.hp f113.results.toList=some [Ab.bJ 0,.sc (.bool false)]:=by
 obtain⟨e1,e2⟩:=cL 37 (.sc (.string (tx l)))
 generalize entry 38 [.sc (.string (tx l))]=fr0 at *
 have hc:=fun dr hp=>pY run dr hp l hl h9
 generalize eZ l=d at *
 have h1:((9:Int)<(d:Int)):=by omega
 simp[mV,f113,e1,e2,hc,h1,Ab.bJ]
theorem Nz (run:aw)(k:Nat)(l:Ω)(hl:Bok l)(h9:l.length<100000000)(hd:eZ l≤9) :
  ∃ fr,ba (CC LT2) run k 3 mV ⟨entry 38 [.sc (.string (tx l))],[],[]⟩=some ⟨fr,[],[]⟩∧fr.length=38∧nth fr 0 = .sc (.string (tx l))∧nth fr 4=iv 0:=by
 obtain⟨e1,e2⟩:=cL 37 (.sc (.string (tx l)))
 generalize entry 38 [.sc (.string (tx l))]=fr0 at *
 have hc:=fun dr hp=>pY run dr hp l hl h9
 generalize eZ l=d at *
 have h1 : ¬ ((9:Int)<(d:Int)):=by omega
 simp[mV,f113,ba,e1,e2,hc,h1,iv]
theorem ZB(h38:fr.length=38) :
  ∃ fr',af (CC L) run k Hu ⟨fr,[],[]⟩=some (.normal,⟨fr',[],[]⟩)∧fr'.length=38∧nth fr' 0=nth fr 0∧nth fr' 4=nth fr 4∧nth fr' 5=iv 0:=by
 simp[Hu,mV,seq1,f113,h38,iv]
theorem NB(a:Nat)(l:Ω)(x:Nat)(hl:Bok (a::l))(hx9:x<1000000000)(h38:fr.length=38)(h0:nth fr 0 = .sc (.string (tx (a::l))))(h4:nth fr 4=iv x) :
  ∃ st,af (CC L) run k (ag 4 mV) ⟨fr,[],[]⟩=some (.ret,st)∧bc TT st.fr st.hp f113.results.toList=some [Ab.bJ (gL (a.beq 45) x),.sc (.bool true)]:=by
 have hx:ig TT 94 (.sc (.string (tx (a::l)))) (.sc (.int .i64 0))=some (.sc (.int .u8 (a:Int))):=fg uAI hl .i64 0 (by simp)
 have hp:(0:Int)<(l.length:Int)+1:=by omega
 have hb:=af0 a
 have hw:bF .i64 (-(x:Int)) = -(x:Int):=fA _ (by omega) (by omega)
 simp only[iv] at h4
 cases h:a.beq 45 with
 | true =>
  rw[h] at hb
  have e:gL true x = -(x:Int):=by cases x <;> rfl
  rw[e]
  simp[mV,f113,bL,unP,dT,h38,h0,h4,uAI,hx,hp,hb,hw,Ab.bJ]
 | false =>
  rw[h] at hb
  have e:gL false x=(x:Int):=rfl
  rw[e]
  simp[mV,f113,bL,dT,h38,h0,h4,uAI,hx,hp,hb,Ab.bJ]
def ua:Ψ→Option Ψ
 | [.sc (.string s)]=>match yD (bys s) with
  | some (m,ds)=>bif (bys s).length.blt 100000000 then (bif ds.length.ble 9 then some [Ab.bJ (gL m (dec 0 ds)),.sc (.bool true)] else some [Ab.bJ 0,.sc (.bool false)]) else none
  | none=>none
 | _=>none
theorem zX:Ab.Spec base.P 113 ua:=Ab.Spec.bN (C:=CC LT2) (cP XB) fun args rs h=>by
 unfold ua at h
 split at h
 ·rename_i s
  split at h
  ·rename_i m ds e
   cases hb:(bys s).length.blt 100000000 with
   | false=>rw[hb] at h;cases h
   | true =>
    rw[hb] at h
    simp only[cond_true] at h
    rw[Nat.blt_eq] at hb
    have hs:s=tx (bys s):=(iw s).symm
    have hok:=mO s
    have hdn:=IQ e
    obtain⟨e1,e2,e3⟩:=su e
    cases hc:ds.length.ble 9 with
    | false =>
     rw[hc] at h
     simp only[cond_false,OiE] at h
     subst h
     have hd:9<eZ (bys s):=by
      rw[hdn]
      rcases Nat.lt_or_ge 9 ds.length with h | h
      ·exact h
      ·rw[show ds.length.ble 9=true by rw[Nat.ble_eq];exact h] at hc;cases hc
     obtain⟨st,x1,x2⟩:=NA (runK (CC LT2) 1) 1 (bys s) hok hb hd
     rw[← hs] at x1
     exact⟨2,_,_,_,_,_,aV sd rfl x1 x2,rfl,Wk.refl rfl,Wk.refl rfl,trivial⟩
    | true =>
     rw[hc] at h
     simp only[cond_true,OiE] at h
     subst h
     rw[Nat.ble_eq] at hc
     obtain⟨f1,p1,p2,p3,p4⟩:=Nz (runK (CC LT2) ((bys s).length+1)) ((bys s).length+1) (bys s) hok hb (by rw[hdn];exact hc)
     obtain⟨f2,q1,q2,q3,q4,q5⟩:=ZB LT2 (runK (CC LT2) ((bys s).length+1)) ((bys s).length+1) f1 p2
     obtain⟨f3,r1,r2,r3,r4⟩:=sF LT2 (runK (CC LT2) ((bys s).length+1)) ((bys s).length+1) m ds e2 hc (bys s).length 0 f2 0 (by rw[← e1];omega) q2 (by rw[q3,p3,← e1]) (by rw[q4,p4]) q5 (by cases m <;> rfl)
     rw[← e1] at r3
     obtain⟨a,l,hal⟩:∃ a l,bys s=a::l:=by
      cases h:bys s with
      | nil=>exact absurd h e3
      | cons a l=>exact⟨a,l,rfl⟩
     have hm:a.beq 45=m:=by
      rw[hal] at e1
      cases m with
      | true=>simp at e1;rw[e1.1];rfl
      | false =>
       simp only[cond_false,nil_append] at e1
       subst e1
       have:=dN.1 (fS e2 (mem_cons_self ..))
       cases h:a.beq 45 with
       | false=>rfl
       | true=>have:=Nat.eq_of_beq_eq_true h;omega
     have hx9:dec 0 ds<1000000000:=Nat.lt_of_lt_of_le (dec_lt _ e2) (Nat.le_trans (Nat.pow_le_pow_right (by omega) hc) (by decide))
     rw[hal] at hok r3
     obtain⟨st,x1,x2⟩:=NB LT2 (runK (CC LT2) ((bys s).length+1)) ((bys s).length+1) f3 a l _ hok hx9 r2 r3 r4
     rw[hm] at x2
     have hx:af (CC LT2) (runK (CC LT2) ((bys s).length+1)) ((bys s).length+1) mV ⟨entry 38 [.sc (.string s)],[],[]⟩=some (.ret,st):=by
      rw[iw] at p1
      rw[aQ 3 p1,En,ar ((ar q1).trans (bK r1))]
      exact x1
     exact⟨(bys s).length+2,_,_,_,_,_,aV sd rfl hx x2,rfl,Wk.refl rfl,Wk.refl rfl,trivial⟩
  ·cases h
 ·cases h
def LT3:Lst:=[(116,mU)]
theorem agE:dt base.P LT3:=⟨sE,trivial⟩
theorem EM:bt LT3 116=fun a=>mU (aJ a):=rfl
def fJ:Code:=f114.body.getD .skip
def lN:Code:=match bn (seq1 (ag 1 fJ)) with | .cond _ a _=>a | c=>c
def sL:Code:=(aA lN).getD .skip
def sK:Code:=(aA (ag 3 fJ)).getD .skip
theorem NK (L:Lst)(run:aw)(k:Nat)(fr:Ψ)(hp:Θ)(wr:Ω)(h42:fr.length=42)(h0:nth fr 0=iv 0) :
  ∃ fr',af (CC L) run k sK ⟨fr,hp,wr⟩=some (.exit 2,⟨fr',hp,wr⟩)∧fr'.length=42∧nth fr' 6=nth fr 6:=by
 simp only[iv] at h0
 simp[sK,fJ,f114,aA,h42,h0]
set_option maxHeartbeats 1000000 in
theorem Es (L:Lst)(run:aw)(k:Nat)(fr:Ψ)(hp:Θ)(wr:Ω)(x:Nat)(out:Ω)(hx:0<x)(hx9:x≤9223372036854775807)(ho9:out.length<20000000)(h42:fr.length=42)(h0:nth fr 0=iv x)(hO:dw iv 0 hp out (nth fr 6)) :
  ∃ fr' hp' wr',af (CC L) run k sK ⟨fr,hp,wr⟩=some (.normal,⟨fr',hp',wr'⟩)∧fr'.length=42∧nth fr' 0=iv (x / 10)∧dw iv 0 hp' (out++[x % 10]) (nth fr' 6):=by
 obtain⟨q,hq⟩:∃ q,q=x / 10:=⟨_,rfl⟩
 obtain⟨r,hr⟩:∃ r,r=x % 10:=⟨_,rfl⟩
 obtain⟨p',hp',fp,g1,g2,-⟩:=hO.app r (by omega)
 have hq9:q≤9223372036854775807:=by rw[hq];exact Nat.le_trans (Nat.div_le_self _ _) hx9
 have hw1:bF .i64 ((x:Int) / 10)=(q:Int):=T.jK .i64 x q hq hq9
 have hw2:=T.lG x r hr
 have hlX:eM TT 24 1 [(0,.sc (.int .i64 (r:Int)))]=some (1,[iv r]):=lW r
 rw[← hq,← hr]
 simp only[iv] at h0 ⊢
 simp[sK,fJ,f114,aA,soft,eu,and_assoc,bd,dW,h42,h0,hx,hw1,hw2,hlX,kn,iL,uL,sI,bI,zI,bQ,g1,g2]
theorem HD (L:Lst)(run:aw)(k:Nat):∀ (x:Nat) (fr:Ψ) (hp:Θ) (wr:Ω) (out:Ω),x≤9223372036854775807→out.length+(T.aK x).length<20000000→fr.length=42→nth fr 0=iv x→dw iv 0 hp out (nth fr 6) →
  ∃ (fr':Ψ) (hp':Θ) (wr':Ω),ch (af (CC L) run k sK) ((T.aK x).length+1) ⟨fr,hp,wr⟩=some (.exit 2,⟨fr',hp',wr'⟩)∧fr'.length=42∧dw iv 0 hp' (out++T.aK x) (nth fr' 6):=by
 intro x
 induction x using Nat.strongRecOn with
 | _ x ih =>
  intro fr hp wr out hx9 ho9 h42 h0 hO
  by_cases h:x=0
  ·subst h
   obtain⟨fr',q1,q2,q3⟩:=NK L run k fr hp wr h42 h0
   exact⟨fr',hp,wr,by rw[T.ft];exact bE q1,q2,by rw[q3,T.ft,append_nil];exact hO⟩
  ·rw[T.eo h] at ho9 ⊢
   rw[length_cons] at ho9
   obtain⟨fr1,hp1,wr1,g1,g2,g3,g4⟩:=Es L run k fr hp wr x out (by omega) hx9 (by omega) h42 h0 hO
   obtain⟨fr',hp',wr',q1,q2,q3⟩:=ih (x / 10) (by omega) fr1 hp1 wr1 _ (Nat.le_trans (Nat.div_le_self _ _) hx9) (by simp;omega) g2 g3 g4
   exact⟨fr',hp',wr',by rw[length_cons,ca g1];exact q1,q2,by simpa using q3⟩
theorem NM (L:Lst)(run:aw)(k:Nat)(fr:Ψ)(hp:Θ)(wr:Ω)(h42:fr.length=42)(h0:nth fr 3=iv 0) :
  ∃ fr',af (CC L) run k sL ⟨fr,hp,wr⟩=some (.exit 0,⟨fr',hp,wr⟩)∧fr'.length=42∧nth fr' 5=nth fr 5:=by
 simp only[iv] at h0
 simp[sL,lN,fJ,f114,seq1,bn,aA,h42,h0]
set_option maxHeartbeats 1000000 in
theorem Et (L:Lst)(run:aw)(k:Nat)(fr:Ψ)(hp:Θ)(wr:Ω)(x:Nat)(out:Ω)(hx:0<x)(hx9:x≤9223372036854775807)(ho9:out.length<20000000)(h42:fr.length=42)(h0:nth fr 3=iv x)(hO:dw iv 0 hp out (nth fr 5)) :
  ∃ fr' hp' wr',af (CC L) run k sL ⟨fr,hp,wr⟩=some (.normal,⟨fr',hp',wr'⟩)∧fr'.length=42∧nth fr' 3=iv (x / 10)∧dw iv 0 hp' (out++[x % 10]) (nth fr' 5):=by
 obtain⟨q,hq⟩:∃ q,q=x / 10:=⟨_,rfl⟩
 obtain⟨r,hr⟩:∃ r,r=x % 10:=⟨_,rfl⟩
 obtain⟨p',hp',fp,g1,g2,-⟩:=hO.app r (by omega)
 have hq9:q≤9223372036854775807:=by rw[hq];exact Nat.le_trans (Nat.div_le_self _ _) hx9
 have hw1:bF .i64 ((x:Int) / 10)=(q:Int):=T.jK .i64 x q hq hq9
 have hw2:=T.lG x r hr
 have hlX:eM TT 24 1 [(0,.sc (.int .i64 (r:Int)))]=some (1,[iv r]):=lW r
 rw[← hq,← hr]
 simp only[iv] at h0 ⊢
 simp[sL,lN,fJ,f114,seq1,bn,aA,soft,eu,and_assoc,bd,dW,h42,h0,hx,hw1,hw2,hlX,kn,iL,uL,sI,bI,zI,bQ,g1,g2]
theorem HF (L:Lst)(run:aw)(k:Nat):∀ (x:Nat) (fr:Ψ) (hp:Θ) (wr:Ω) (out:Ω),x≤9223372036854775807→out.length+(T.aK x).length<20000000→fr.length=42→nth fr 3=iv x→dw iv 0 hp out (nth fr 5) →
  ∃ (fr':Ψ) (hp':Θ) (wr':Ω),ch (af (CC L) run k sL) ((T.aK x).length+1) ⟨fr,hp,wr⟩=some (.exit 0,⟨fr',hp',wr'⟩)∧fr'.length=42∧dw iv 0 hp' (out++T.aK x) (nth fr' 5):=by
 intro x
 induction x using Nat.strongRecOn with
 | _ x ih =>
  intro fr hp wr out hx9 ho9 h42 h0 hO
  by_cases h:x=0
  ·subst h
   obtain⟨fr',q1,q2,q3⟩:=NM L run k fr hp wr h42 h0
   exact⟨fr',hp,wr,by rw[T.ft];exact bE q1,q2,by rw[q3,T.ft,append_nil];exact hO⟩
  ·rw[T.eo h] at ho9 ⊢
   rw[length_cons] at ho9
   obtain⟨fr1,hp1,wr1,g1,g2,g3,g4⟩:=Et L run k fr hp wr x out (by omega) hx9 (by omega) h42 h0 hO
   obtain⟨fr',hp',wr',q1,q2,q3⟩:=ih (x / 10) (by omega) fr1 hp1 wr1 _ (Nat.le_trans (Nat.div_le_self _ _) hx9) (by simp;omega) g2 g3 g4
   exact⟨fr',hp',wr',by rw[length_cons,ca g1];exact q1,q2,by simpa using q3⟩
def BW:Code:=seq1 (seq1 (ag 1 fJ))
theorem ue:ag 1 fJ = .seq (.seq BW (.cond (.tmp 8) lN .skip)) (ag 2 fJ):=rfl
theorem Er:ag 3 fJ = .seq (.block 2 (.loop sK)) (ag 4 fJ):=rfl
def HG:Code:=seq1 (seq1 (ag 3 lN))
theorem Ep:ag 3 lN = .seq (.seq HG (.block 0 (.loop sL))) (ag 4 lN):=rfl
theorem Tp (L:Lst)(run:aw)(k:Nat)(z:Int) :
  ∃ fr,ba (CC L) run k 1 fJ ⟨entry 42 [.sc (.int .i64 z)],[],[]⟩=some ⟨fr,[],[]⟩∧fr.length=42∧nth fr 0 = .sc (.int .i64 z):=by
 obtain⟨e1,e2⟩:=cL 41 (.sc (.int .i64 z))
 generalize entry 42 [.sc (.int .i64 z)]=fr0 at *
 simp[fJ,f114,ba,e1,e2]
theorem ZL(z:Int)(h42:fr.length=42)(h0:nth fr 0 = .sc (.int .i64 z)) :
  ∃ fr',af (CC L) run k BW ⟨fr,[],[]⟩=some (.normal,⟨fr',[],[]⟩)∧fr'.length=42∧nth fr' 0 = .sc (.int .i64 z)∧nth fr' 8 = .sc (.bool (decide (z<0))):=by
 simp[BW,fJ,seq1,f114,h42,h0]
theorem Tn(h42:fr.length=42) :
  ∃ fr',ba (CC L) run k 1 (ag 2 fJ) ⟨fr,[],[]⟩=some ⟨fr',[],[]⟩∧fr'.length=42∧nth fr' 0=nth fr 0∧nth fr' 6 = .sc (.slice none 0 0):=by
 simp[fJ,f114,ba,h42]
theorem HC (L:Lst)(run:aw)(k:Nat)(fr:Ψ)(hp hp':Θ)(wr:Ω)(p q:PV)(fp:FP)(h42:fr.length=42)(h6:nth fr 6=p)(hc:bU (CC L) run false hp 116 [.sc (.bool false),p]=some (q,hp',fp)) :
  ∃ st,af (CC L) run k (ag 4 fJ) ⟨fr,hp,wr⟩=some (.ret,st)∧bc TT st.fr st.hp f114.results.toList=some [q]:=by
 simp[fJ,f114,h42,h6,hc]
theorem HE (L:Lst)(run:aw)(k:Nat)(fr:Ψ)(hp hp':Θ)(wr:Ω)(p q:PV)(fp:FP)(h42:fr.length=42)(h6:nth fr 5=p)(hc:bU (CC L) run false hp 116 [.sc (.bool true),p]=some (q,hp',fp)) :
  ∃ st,af (CC L) run k (ag 4 lN) ⟨fr,hp,wr⟩=some (.ret,st)∧bc TT st.fr st.hp f114.results.toList=some [q]:=by
 simp[lN,fJ,seq1,bn,f114,h42,h6,hc]
set_option maxHeartbeats 1000000 in
theorem NL(z:Int)(q r:Nat)(hq:z.tdiv 10 = -(q:Int))(hr:z.tmod 10 = -(r:Int))(hq9:q≤9223372036854775807)(hr9:r<10)(h42:fr.length=42)(h0:nth fr 0 = .sc (.int .i64 z)) :
  ∃ fr' hp' wr',ba (CC L) run k 3 lN ⟨fr,[],[]⟩=some ⟨fr',hp',wr'⟩∧fr'.length=42∧nth fr' 3 = .sc (.int .i64 (-(q:Int)))∧dw iv 0 hp' [r] (nth fr' 5):=by
 obtain⟨p',hp',fp,g1,g2,-⟩:=(dw.nil (e:=iv) (b:=0) (hp:=[]) (Nat.le_refl _)).app r (by simp)
 rw[nil_append] at g2
 have hw1:bF .i64 (-(q:Int)) = -(q:Int):=fA _ (by omega) (by omega)
 have hw2:bF .i64 (r:Int)=(r:Int):=cq .i64 r (hiI (by omega))
 have hlX:eM TT 24 1 [(0,.sc (.int .i64 (r:Int)))]=some (1,[iv r]):=lW r
 simp[lN,fJ,f114,seq1,bn,ba,soft,eu,unP,and_assoc,bd,dW,h42,h0,hq,hr,hw1,hw2,hlX,kn,iL,uL,sI,bI,zI,bQ,g1,g2]
theorem ZK (L:Lst)(run:aw)(k:Nat)(fr:Ψ)(hp:Θ)(wr:Ω)(q:Nat)(hq9:q≤9223372036854775807)(h42:fr.length=42)(h3:nth fr 3 = .sc (.int .i64 (-(q:Int)))) :
  ∃ fr',af (CC L) run k HG ⟨fr,hp,wr⟩=some (.normal,⟨fr',hp,wr⟩)∧fr'.length=42∧nth fr' 3=iv q∧nth fr' 5=nth fr 5:=by
 have hw2:bF .i64 (q:Int)=(q:Int):=cq .i64 q (hiI hq9)
 simp[HG,lN,fJ,f114,seq1,bn,unP,h42,h3,hw2,iv]
def ug:Ψ→Option Ψ
 | [.sc (.int .i64 z)]=>bif decide (-9223372036854775808≤z) && decide (z≤9223372036854775807) then some [zs z] else none
 | _=>none
theorem uy {x:Nat}(h:x≤9223372036854775808):(T.aK x).length≤19:=T.di (Nat.lt_of_le_of_lt h (by decide))
theorem z8:Ab.Spec base.P 114 ug:=Ab.Spec.bN (C:=CC LT3) (cP agE) fun args rs h=>by
 unfold ug at h
 split at h
 ·rename_i z
  cases hb:decide (-9223372036854775808≤z) && decide (z≤9223372036854775807) with
  | false=>rw[hb] at h;cases h
  | true =>
   rw[hb] at h
   simp only[cond_true,OiE] at h
   subst h
   simp only[Bool.and_eq_true,decide_eq_true_eq] at hb
   have htext:∀ (m:Bool) (l:Ω),T.Dok l→l.length<10000000→mU [.sc (.bool m),mJ iv l]=some [zs (gL m (T.val l))]:=by
    intro m l h1 h2
    have:=dY h1 h2
    simp only[bx] at this
    simp only[mU,this,zs,vk]
   obtain⟨f1,p1,p2,p3⟩:=Tp LT3 (runK (CC LT3) 21) 21 z
   obtain⟨f2,q1,q2,q3,q4⟩:=ZL LT3 (runK (CC LT3) 21) 21 f1 z p2 p3
   by_cases hz:z<0
   ·have hd:=uy (x:=z.natAbs) (by omega)
    have hstep:=T.eo (show z.natAbs≠0 by omega)
    have hq:z.tdiv 10 = -((z.natAbs / 10:Nat):Int):=by
     have:z = -((z.natAbs:Nat):Int):=by omega
     rw[this,Int.neg_tdiv,Int.natAbs_neg,Int.natAbs_natCast]
     congr 1
    have hr:z.tmod 10 = -((z.natAbs % 10:Nat):Int):=by
     have:z = -((z.natAbs:Nat):Int):=by omega
     rw[this,Int.neg_tmod,Int.natAbs_neg,Int.natAbs_natCast]
     congr 1
    obtain⟨f3,hp3,wr3,r1,r2,r3,r4⟩:=NL LT3 (runK (CC LT3) 21) 21 f2 z _ _ hq hr (by omega) (by omega) q2 q3
    obtain⟨f4,s1,s2,s3,s4⟩:=ZK LT3 (runK (CC LT3) 21) 21 f3 hp3 wr3 _ (by omega) r2 r3
    rw[hstep,length_cons] at hd
    obtain⟨f5,hp5,wr5,t1,t2,t3⟩:=HF LT3 (runK (CC LT3) 21) 21 (z.natAbs / 10) f4 hp3 wr3 [z.natAbs % 10] (by omega) (by simp only[length_cons,length_nil];omega) s2 s3 (by rw[s4];exact r4)
    have e:[z.natAbs % 10]++T.aK (z.natAbs / 10)=T.aK z.natAbs:=by rw[hstep];rfl
    rw[e] at t3
    obtain⟨hp6,fp,c1,-⟩:=o9 kd EM (runK (CC LT3) 21) false iY true t3.s _ (htext true _ (T.bS _) (by rw[hstep,length_cons];omega))
    rw[T.bV] at c1
    have hzz:gL true z.natAbs=z:=by
     have:bw z=true:=by rw[cK];simpa using hz
     rw[← this,ik]
    rw[hzz] at c1
    obtain⟨st,x1,x2⟩:=HE LT3 (runK (CC LT3) 21) 21 f5 hp5 hp6 wr5 _ _ fp t2 rfl c1
    have hcond:decide (z<0)=true:=decide_eq_true hz
    rw[hcond] at q4
    have hx:af (CC LT3) (runK (CC LT3) 21) 21 fJ ⟨entry 42 [.sc (.int .i64 z)],[],[]⟩=some (.ret,st):=by
     rw[aQ 1 p1,ue]
     refine cj ?_
     rw[ar q1,uw (by simpa [aj] using q4),aQ 3 r1,Ep,ar ((ar s1).trans (bK (bT t1 (by omega))))]
     exact x1
    exact⟨22,_,_,_,_,_,aV pA rfl hx x2,rfl,Wk.refl rfl,trivial⟩
   ·have hd:=uy (x:=z.natAbs) (by omega)
    have hcond:decide (z<0)=false:=decide_eq_false hz
    rw[hcond] at q4
    obtain⟨f3,r1,r2,r3,r4⟩:=Tn LT3 (runK (CC LT3) 21) 21 f2 q2
    have hzi:PV.sc (.int .i64 z)=iv z.natAbs:=by
     unfold iv
     rw[show ((z.natAbs:Nat):Int)=z by omega]
    obtain⟨f5,hp5,wr5,t1,t2,t3⟩:=HD LT3 (runK (CC LT3) 21) 21 z.natAbs f3 [] [] [] (by omega) (by simp only[length_nil];omega) r2 (by rw[r3,q3,hzi]) (by rw[r4];exact dw.nil (Nat.le_refl _))
    rw[nil_append] at t3
    obtain⟨hp6,fp,c1,-⟩:=o9 kd EM (runK (CC LT3) 21) false iY false t3.s _ (htext false _ (T.bS _) (by omega))
    rw[T.bV] at c1
    have hzz:gL false z.natAbs=z:=by
     have:bw z=false:=by rw[cK];simpa using hz
     rw[← this,ik]
    rw[hzz] at c1
    obtain⟨st,x1,x2⟩:=HC LT3 (runK (CC LT3) 21) 21 f5 hp5 hp6 wr5 _ _ fp t2 rfl c1
    have hx:af (CC LT3) (runK (CC LT3) 21) 21 fJ ⟨entry 42 [.sc (.int .i64 z)],[],[]⟩=some (.ret,st):=by
     rw[aQ 1 p1,ue]
     have hm:af (CC LT3) (runK (CC LT3) 21) 21 (.seq BW (.cond (.tmp 8) lN .skip)) ⟨f1,[],[]⟩=some (.normal,⟨f2,[],[]⟩):=by
      rw[ar q1,ux (by simpa [aj] using q4),AJ]
     rw[ar hm,aQ 1 r1,show ag 1 (ag 2 fJ)=ag 3 fJ from rfl,Er,ar (bK (bT t1 (by omega)))]
     exact x1
    exact⟨22,_,_,_,_,_,aV pA rfl hx x2,rfl,Wk.refl rfl,trivial⟩
 ·cases h
def LT4:Lst:=[(115,ui),(116,mU),(113,ua),(114,ug),(118,kN),(117,wQ),(119,nH)]
theorem yt:dt base.P LT4:=⟨Ae,sE,zX,z8,tY,Hq,wY,trivial⟩
theorem aaj:bt LT4 115=fun a=>ui (aJ a):=rfl
theorem EL:bt LT4 116=fun a=>mU (aJ a):=rfl
theorem N7:bt LT4 113=fun a=>ua (aJ a):=rfl
theorem aai:bt LT4 114=fun a=>ug (aJ a):=rfl
theorem Uc:bt LT4 118=fun a=>kN (aJ a):=rfl
theorem aah:bt LT4 117=fun a=>wQ (aJ a):=rfl
theorem aak:bt LT4 119=fun a=>nH (aJ a):=rfl
def Zm (z:Int):Prop:=(ztx z).length≤fO
theorem Zm.lt {z:Int}(h:Zm z):(ztx z).length<9000000:=Nat.lt_of_le_of_lt h (by decide)
theorem Zm.eA {z:Int}(h:Zm z):(dtx z.natAbs).length<9000000:=by
 have h1:=h.lt
 rw[gu] at h1
 exact Nat.lt_of_le_of_lt (Nat.le_add_left _ _) h1
theorem Zm.aK {z:Int}(h:Zm z):(T.aK z.natAbs).length<9000000:=Nat.lt_of_le_of_lt (AP _) h.eA
theorem Zm.Ls {z:Int}(h:Zm z):(T.aK z.natAbs).length≤3000000:=by
 have h1:(ztx z).length≤3000000:=h
 rw[gu] at h1
 exact Nat.le_trans (AP _) (Nat.le_trans (Nat.le_add_left _ _) h1)
theorem W3 (z:Int):bys (tx (ztx z))=ztx z:=jO (kX z)
theorem Wn (z:Int)(h:Zm z):ui [zs z]=some [.sc (.bool (bw z)),bx (T.aK z.natAbs)]:=by
 obtain⟨m,h1,h2⟩:=nc z
 have h3:(dtx z.natAbs).length.blt 9000000=true:=by rw[Nat.blt_eq];exact h.eA
 simp only[ui,zs,W3,h1,h3,cond_true,oY,h2]
theorem A9 (m:Bool)(l:Ω)(h1:T.Dok l)(h2:l.length<10000000):mU [.sc (.bool m),bx l]=some [zs (gL m (T.val l))]:=by
 simp only[mU,dY h1 h2,zs,vk]
theorem RQ (z:Int)(h:Zm z):ua [zs z]=some (bif (eA z).ble 9 then [Ab.bJ z,.sc (.bool true)] else [Ab.bJ 0,.sc (.bool false)]):=by
 obtain⟨m,h1,h2⟩:=nc z
 have h3:(ztx z).length.blt 100000000=true:=by rw[Nat.blt_eq];exact Nat.lt_trans h.lt (by decide)
 have h4:(dtx z.natAbs).length=eA z:=rfl
 simp only[ua,zs,W3,h1,h3,cond_true,oY,h2,ik,h4]
 cases (eA z).ble 9 <;> rfl
theorem FL (m:Bool)(l:Ω):aJ [.sc (.bool m),bx l]=[.sc (.bool m),bx l]:=by
 simp only[aJ,pX];rfl
theorem oh (a b:Ω):aJ [bx a,bx b]=[bx a,bx b]:=by
 simp only[aJ,pX]
theorem kS(z:Int)(h:Zm z):az LT4 run 115 [zs z] (.tup [.sc (.bool (bw z)),bx (T.aK z.natAbs)]):=fun dr hp =>
 bu tH aaj run dr hp _ [.sc (.bool (bw z)),bx (T.aK z.natAbs)] rfl rfl (Wn z h)
theorem nX(m:Bool)(l:Ω)(h1:T.Dok l)(h2:l.length<10000000):az LT4 run 116 [.sc (.bool m),bx l] (zs (gL m (T.val l))):=fun dr hp =>
 bu kd EL run dr hp _ [zs (gL m (T.val l))] rfl (FL m l) (A9 m l h1 h2)
theorem oT(z:Int)(h:Zm z):az LT4 run 113 [zs z] (.tup (bif (eA z).ble 9 then [Ab.bJ z,.sc (.bool true)] else [Ab.bJ 0,.sc (.bool false)])):=fun dr hp=>by
 have:=bu we N7 run dr hp [zs z] _ rfl rfl (RQ z h)
 rw[this]
 cases (eA z).ble 9 <;> rfl
theorem Lc(z:Int)(h1 : -9223372036854775808≤z)(h2:z≤9223372036854775807):az LT4 run 114 [.sc (.int .i64 z)] (zs z):=fun dr hp =>
 bu tI aai run dr hp _ [zs z] rfl rfl (by simp only[ug,decide_eq_true h1,decide_eq_true h2,Bool.and_self,cond_true])
theorem qS (x y:Nat):kM (T.aK x) (T.aK y)=dZ x y:=by
 unfold kM
 by_cases h1:(T.aK x).length<(T.aK y).length
 ·rw[if_pos h1,dZ,if_pos]
  exact Nat.lt_of_not_le fun h=>absurd (T.cG h) (by omega)
 ·rw[if_neg h1]
  by_cases h2:(T.aK y).length<(T.aK x).length
  ·have h3:y<x:=Nat.lt_of_not_le fun h=>absurd (T.cG h) (by omega)
   rw[if_pos h2,dZ,if_neg (by omega),if_neg (by omega)]
  ·rw[if_neg h2,T.bV,T.bV]
theorem xP(x y:Nat)(hx:(T.aK x).length<10000000)(hy:(T.aK y).length<10000000):az LT4 run 118 [bx (T.aK x),bx (T.aK y)] (Ab.bJ (dZ x y)):=fun dr hp =>
 bu zp Uc run dr hp _ [Ab.bJ (dZ x y)] rfl (oh _ _) (by simp only[kN,dY (T.bS x) hx,dY (T.bS y) hy,qS])
theorem aby(x y:Nat)(hx:(T.aK x).length<10000000)(hy:(T.aK y).length<10000000):az LT4 run 117 [bx (T.aK x),bx (T.aK y)] (bx (yB (T.aK x) (T.aK y))):=fun dr hp =>
 bu Rl aah run dr hp _ [bx (yB (T.aK x) (T.aK y))] rfl (oh _ _) (by simp only[wQ,dY (T.bS x) hx,dY (T.bS y) hy])
theorem Ld (run:aw)(x y:Nat)(hx:(T.aK x).length<10000000)(hy:(T.aK y).length<10000000)(h:y≤x):az LT4 run 119 [bx (T.aK x),bx (T.aK y)] (bx (T.aK (x - y))):=fun dr hp =>
 bu zq aak run dr hp _ [bx (T.aK (x - y))] rfl (oh _ _) (by
  have h1:(T.aK y).length.ble (T.aK x).length=true:=by rw[Nat.ble_eq];exact T.cG h
  have h2:y.ble x=true:=by rw[Nat.ble_eq];exact h
  simp only[nH,dY (T.bS x) hx,dY (T.bS y) hy,T.bV,h1,h2,Bool.and_self,cond_true])
theorem HB(s r:ByteArray)(m:Bool)(l:Ω)(g1:az L run 115 [.sc (.string s)] (.tup [.sc (.bool m),bx l]))(g2:az L run 116 [.sc (.bool (!m)),bx l] (.sc (.string r))) :
  ∃ st,af (CC L) run k (f120.body.getD .skip) ⟨entry 14 [.sc (.string s)],[],[]⟩=some (.ret,st)∧bc TT st.fr st.hp f120.results.toList=some [.sc (.string r)]:=by
 obtain⟨e1,e2⟩:=cL 13 (.sc (.string s))
 generalize entry 14 [.sc (.string s)]=fr0 at *
 unfold az at *
 cases m <;> simp only[Bool.not_true,Bool.not_false] at g2 <;> simp[f120,e1,e2,unP,g1,g2]
theorem Hy(s r:ByteArray)(m:Bool)(l:Ω)(g1:az L run 115 [.sc (.string s)] (.tup [.sc (.bool m),bx l]))(g2:az L run 116 [.sc (.bool false),bx l] (.sc (.string r))) :
  ∃ st,af (CC L) run k (f155.body.getD .skip) ⟨entry 12 [.sc (.string s)],[],[]⟩=some (.ret,st)∧bc TT st.fr st.hp f155.results.toList=some [.sc (.string r)]:=by
 obtain⟨e1,e2⟩:=cL 11 (.sc (.string s))
 generalize entry 12 [.sc (.string s)]=fr0 at *
 unfold az at *
 simp[f155,e1,e2,g1,g2]
def nG:Ψ→Option Ψ
 | [p]=>match fL p with
  | some z=>some [zs (-z)]
  | none=>none
 | _=>none
def sJ:Ψ→Option Ψ
 | [p]=>match fL p with
  | some z=>some [zs (Int.ofNat z.natAbs)]
  | none=>none
 | _=>none
theorem RW (z:Int):gL (!bw z) z.natAbs = -z:=by
 cases z with
 | ofNat n=>cases n <;> rfl
 | negSucc n=>rfl
theorem wW:Ab.Spec base.P 120 nG:=Ab.Spec.bN (C:=CC LT4) (cP yt) fun args rs h=>by
 unfold nG at h
 split at h
 ·split at h
  ·rename_i z e
   obtain⟨rfl,hz⟩:=dk e
   simp only[OiE] at h
   subst h
   have g2:=nX (runK (CC LT4) 1) (!bw z) (T.aK z.natAbs) (T.bS _) (Nat.lt_trans (Zm.aK hz) (by decide))
   rw[T.bV,RW] at g2
   obtain⟨st,x1,x2⟩:=HB LT4 (runK (CC LT4) 1) 1 _ _ _ _ (kS _ z hz) g2
   exact⟨2,_,_,_,_,_,aV Jn rfl x1 x2,rfl,Wk.refl rfl,trivial⟩
  ·cases h
 ·cases h
theorem Hx:Ab.Spec base.P 155 sJ:=Ab.Spec.bN (C:=CC LT4) (cP yt) fun args rs h=>by
 unfold sJ at h
 split at h
 ·split at h
  ·rename_i z e
   obtain⟨rfl,hz⟩:=dk e
   simp only[OiE] at h
   subst h
   have g2:=nX (runK (CC LT4) 1) false (T.aK z.natAbs) (T.bS _) (Nat.lt_trans (Zm.aK hz) (by decide))
   rw[T.bV] at g2
   obtain⟨st,x1,x2⟩:=Hy LT4 (runK (CC LT4) 1) 1 _ _ _ _ (kS _ z hz) g2
   exact⟨2,_,_,_,_,_,aV Jm rfl x1 x2,rfl,Wk.refl rfl,trivial⟩
  ·cases h
 ·cases h
set_option maxHeartbeats 1000000 in
theorem HO(s t:ByteArray)(m n:Bool)(a b:Ω)(r1 r2:Int)(g1:az L run 115 [.sc (.string s)] (.tup [.sc (.bool m),bx a]))(g2:az L run 115 [.sc (.string t)] (.tup [.sc (.bool n),bx b]))
  (g3:az L run 118 [bx a,bx b] (Ab.bJ r1)) (g4:az L run 118 [bx b,bx a] (Ab.bJ r2)) :
  ∃ st,af (CC L) run k (f69.body.getD .skip) ⟨entry 30 [.sc (.string s),.sc (.string t)],[],[]⟩=some (.ret,st)∧bc TT st.fr st.hp f69.results.toList=some [Ab.bJ (if m=n then (if m=true then r2 else r1) else (if m=true then -1 else 1))]:=by
 obtain⟨e1,e2,e3⟩:=cC 28 (.sc (.string s)) (.sc (.string t))
 generalize entry 30 [.sc (.string s),.sc (.string t)]=fr0 at *
 unfold az at *
 simp only[Ab.bJ] at *
 cases m <;> cases n <;> simp[f69,e1,e2,e3,dP,uB,g1,g2,g3,g4]
def mr:Ψ→Option Ψ
 | [p,q]=>match fL p,fL q with
  | some x,some y=>some [Ab.bJ (fP x y)]
  | _,_=>none
 | _=>none
theorem WI (x y:Int):(if bw x=bw y then (if bw x=true then dZ y.natAbs x.natAbs else dZ x.natAbs y.natAbs) else (if bw x=true then -1 else 1))=fP x y:=by
 rw[cK,cK]
 unfold fP dZ
 by_cases hx:x<0 <;> by_cases hy:y<0 <;> simp[hx,hy]
 ·by_cases h1:x<y
  ·rw[if_pos (by omega),if_pos h1]
  ·rw[if_neg (by omega),if_neg h1]
   by_cases h2:x=y
   ·rw[if_pos (by omega),if_pos h2]
   ·rw[if_neg (by omega),if_neg h2]
 ·first | (intros;omega) | (rw[if_pos (by omega)])
 ·first | (intros;omega) | (rw[if_neg (by omega),if_neg (by omega)])
 ·by_cases h1:x<y
  ·rw[if_pos (by omega),if_pos h1]
  ·rw[if_neg (by omega),if_neg h1]
   by_cases h2:x=y
   ·rw[if_pos (by omega),if_pos h2]
   ·rw[if_neg (by omega),if_neg h2]
theorem pH:Ab.Spec base.P 69 mr:=Ab.Spec.bN (C:=CC LT4) (cP yt) fun args rs h=>by
 unfold mr at h
 split at h
 ·split at h
  ·rename_i x y ex ey
   obtain⟨rfl,hx⟩:=dk ex
   obtain⟨rfl,hy⟩:=dk ey
   simp only[OiE] at h
   subst h
   have hx9:=Nat.lt_trans (Zm.aK hx) (show 9000000<10000000 by decide)
   have hy9:=Nat.lt_trans (Zm.aK hy) (show 9000000<10000000 by decide)
   obtain⟨st,x1,x2⟩:=HO LT4 (runK (CC LT4) 1) 1 _ _ _ _ _ _ _ _ (kS _ x hx) (kS _ y hy) (xP _ x.natAbs y.natAbs hx9 hy9) (xP _ y.natAbs x.natAbs hy9 hx9)
   rw[WI] at x2
   exact⟨2,_,_,_,_,_,aV Jp rfl x1 x2,rfl,Wk.refl rfl,trivial⟩
  ·cases h
 ·cases h
set_option maxHeartbeats 1000000 in
theorem Tm(s t r:ByteArray)(u v w:Int)(g1:az L run 113 [.sc (.string s)] (.tup [Ab.bJ u,.sc (.bool true)]))(g2:az L run 113 [.sc (.string t)] (.tup [Ab.bJ v,.sc (.bool true)]))
  (hw:bF .i64 (u+v)=w) (g3:az L run 114 [.sc (.int .i64 w)] (.sc (.string r))) :
  ∃ st,af (CC L) run k (f66.body.getD .skip) ⟨entry 63 [.sc (.string s),.sc (.string t)],[],[]⟩=some (.ret,st)∧bc TT st.fr st.hp f66.results.toList=some [.sc (.string r)]:=by
 obtain⟨e1,e2,e3⟩:=cC 61 (.sc (.string s)) (.sc (.string t))
 generalize entry 63 [.sc (.string s),.sc (.string t)]=fr0 at *
 unfold az at *
 simp only[Ab.bJ] at *
 simp[f66,e1,e2,e3,g1,g2,hw,g3]
def jP:Code:=f66.body.getD .skip
set_option maxHeartbeats 1000000 in
theorem Hz (L:Lst)(run:aw)(k:Nat)(s t:ByteArray)(u v:Int)(f1 f2:Bool)(hf:(f1 && f2)=false)(g1:az L run 113 [.sc (.string s)] (.tup [Ab.bJ u,.sc (.bool f1)]))(g2:az L run 113 [.sc (.string t)] (.tup [Ab.bJ v,.sc (.bool f2)])) :
  ∃ fr,ba (CC L) run k 4 jP ⟨entry 63 [.sc (.string s),.sc (.string t)],[],[]⟩=some ⟨fr,[],[]⟩∧fr.length=63∧nth fr 0 = .sc (.string s)∧nth fr 1 = .sc (.string t):=by
 obtain⟨e1,e2,e3⟩:=cC 61 (.sc (.string s)) (.sc (.string t))
 generalize entry 63 [.sc (.string s),.sc (.string t)]=fr0 at *
 unfold az at *
 simp only[Ab.bJ] at *
 cases f1 <;> cases f2 <;> simp only[Bool.and_true,Bool.and_false,Bool.and_self,Bool.true_eq_false] at hf <;> simp[jP,f66,ba,e1,e2,e3,g1,g2,undef]
theorem HA(s t:ByteArray)(m n:Bool)(a b:Ω)(g1:az L run 115 [.sc (.string s)] (.tup [.sc (.bool m),bx a]))(g2:az L run 115 [.sc (.string t)] (.tup [.sc (.bool n),bx b]))
  (h63:fr.length=63) (h0:nth fr 0 = .sc (.string s)) (h1:nth fr 1 = .sc (.string t)) :
  ∃ fr',ba (CC L) run k 2 (ag 4 jP) ⟨fr,[],[]⟩=some ⟨fr',[],[]⟩∧fr'.length=63∧nth fr' 9 = .sc (.bool m)∧nth fr' 10=bx a∧nth fr' 11 = .sc (.bool n)∧nth fr' 12=bx b:=by
 unfold az at *
 simp[jP,f66,ba,h63,h0,h1,g1,g2]
set_option maxHeartbeats 1000000 in
theorem Tl(m:Bool)(a b c:Ω)(r:ByteArray)(g1:az L run 117 [bx a,bx b] (bx c))(g2:az L run 116 [.sc (.bool m),bx c] (.sc (.string r)))
  (h63:fr.length=63) (h9:nth fr 9 = .sc (.bool m)) (h10:nth fr 10=bx a) (h11:nth fr 11 = .sc (.bool m)) (h12:nth fr 12=bx b) :
  ∃ st,af (CC L) run k (ag 6 jP) ⟨fr,[],[]⟩=some (.ret,st)∧bc TT st.fr st.hp f66.results.toList=some [.sc (.string r)]:=by
 unfold az at *
 cases m <;> simp[jP,f66,h63,h9,h10,h11,h12,dP,uB,g1,g2]
set_option maxHeartbeats 1000000 in
theorem NJ(m:Bool)(a b c:Ω)(r:ByteArray)(z:Int)(hz:z<0)(g0:az L run 118 [bx a,bx b] (Ab.bJ z))(g1:az L run 119 [bx b,bx a] (bx c))(g2:az L run 116 [.sc (.bool (!m)),bx c] (.sc (.string r)))
  (h63:fr.length=63) (h9:nth fr 9 = .sc (.bool m)) (h10:nth fr 10=bx a) (h11:nth fr 11 = .sc (.bool (!m))) (h12:nth fr 12=bx b) :
  ∃ st,af (CC L) run k (ag 6 jP) ⟨fr,[],[]⟩=some (.ret,st)∧bc TT st.fr st.hp f66.results.toList=some [.sc (.string r)]:=by
 unfold az at *
 simp only[Ab.bJ] at *
 cases m <;> simp only[Bool.not_true,Bool.not_false] at g2 h11 <;> simp[jP,f66,h63,h9,h10,h11,h12,dP,uB,hz,g0,g1,g2]
set_option maxHeartbeats 1000000 in
theorem NI(m:Bool)(a b c:Ω)(r:ByteArray)(z:Int)(hz : ¬ z<0)(g0:az L run 118 [bx a,bx b] (Ab.bJ z))(g1:az L run 119 [bx a,bx b] (bx c))(g2:az L run 116 [.sc (.bool m),bx c] (.sc (.string r)))
  (h63:fr.length=63) (h9:nth fr 9 = .sc (.bool m)) (h10:nth fr 10=bx a) (h11:nth fr 11 = .sc (.bool (!m))) (h12:nth fr 12=bx b) :
  ∃ st,af (CC L) run k (ag 6 jP) ⟨fr,[],[]⟩=some (.ret,st)∧bc TT st.fr st.hp f66.results.toList=some [.sc (.string r)]:=by
 unfold az at *
 simp only[Ab.bJ] at *
 cases m <;> simp only[Bool.not_true,Bool.not_false] at h11 <;> simp[jP,f66,h63,h9,h10,h11,h12,dP,uB,hz,g0,g1,g2]
def iE:Ψ→Option Ψ
 | [p,q]=>match fL p,fL q with
  | some x,some y=>some [zs (x+y)]
  | _,_=>none
 | _=>none
theorem yW {z:Int}(h:(eA z).ble 9=true) : -1000000000<z∧z<1000000000:=by
 rw[Nat.ble_eq] at h
 have:=(tg (n:=z.natAbs) (k:=9) (by omega)).1 h
 omega
theorem QU (a b:Ω)(ha:T.Dok a)(hb:T.Dok b):T.val (yB a b)=T.val a+T.val b:=by
 unfold yB
 refine T.fo _ _ ?_
 have h1:=T.eX ha
 have h2:=T.eX hb
 have hm:=ma a b
 have h3:10 ^ a.length≤10 ^ Nat.max a.length b.length:=Nat.pow_le_pow_right (by omega) (by omega)
 have h4:10 ^ b.length≤10 ^ Nat.max a.length b.length:=Nat.pow_le_pow_right (by omega) (by omega)
 split
 ·rw[Nat.pow_succ];omega
 ·rename_i h
  rw[Nat.add_zero];omega
theorem Yz (a b:Ω):T.Dok (yB a b):=T.gD _ _
theorem QV (a b:Ω):(yB a b).length≤Nat.max a.length b.length+1:=by
 unfold yB
 rw[T.dp]
 split <;> omega
theorem kI (m:Bool)(n:Nat):gL m n=if m=true then -(n:Int) else (n:Int):=by
 cases m with
 | false=>rfl
 | true=>cases n <;> rfl
theorem nE:Ab.Spec base.P 66 iE:=Ab.Spec.bN (C:=CC LT4) (cP yt) fun args rs h=>by
 unfold iE at h
 split at h
 ·split at h
  ·rename_i x y ex ey
   obtain⟨rfl,hx⟩:=dk ex
   obtain⟨rfl,hy⟩:=dk ey
   simp only[OiE] at h
   subst h
   have hx9:=Nat.lt_trans (Zm.aK hx) (show 9000000<10000000 by decide)
   have hy9:=Nat.lt_trans (Zm.aK hy) (show 9000000<10000000 by decide)
   have gs1:=oT (runK (CC LT4) 1) x hx
   have gs2:=oT (runK (CC LT4) 1) y hy
   suffices hgo:∃ st,af (CC LT4) (runK (CC LT4) 1) 1 jP ⟨entry 63 [zs x,zs y],[],[]⟩=some (.ret,st)∧bc TT st.fr st.hp f66.results.toList=some [zs (x+y)] by
    obtain⟨st,x1,x2⟩:=hgo
    exact⟨2,_,_,_,_,_,aV Ge rfl x1 x2,rfl,Wk.refl rfl,trivial⟩
   have rest:∀ (u v:Int) (f1 f2:Bool),(f1 && f2)=false→az LT4 (runK (CC LT4) 1) 113 [zs x] (.tup [Ab.bJ u,.sc (.bool f1)])→az LT4 (runK (CC LT4) 1) 113 [zs y] (.tup [Ab.bJ v,.sc (.bool f2)]) →
     ∃ st,af (CC LT4) (runK (CC LT4) 1) 1 jP ⟨entry 63 [zs x,zs y],[],[]⟩=some (.ret,st)∧bc TT st.fr st.hp f66.results.toList=some [zs (x+y)]:=by
    intro u v f1 f2 hf q1 q2
    obtain⟨fr1,a1,a2,a3,a4⟩:=Hz LT4 (runK (CC LT4) 1) 1 _ _ u v f1 f2 hf q1 q2
    obtain⟨fr2,b1,b2,b3,b4,b5,b6⟩:=HA LT4 (runK (CC LT4) 1) 1 fr1 _ _ _ _ _ _ (kS _ x hx) (kS _ y hy) a2 a3 a4
    have hex:∀ {r},af (CC LT4) (runK (CC LT4) 1) 1 (ag 6 jP) ⟨fr2,[],[]⟩=r→af (CC LT4) (runK (CC LT4) 1) 1 jP ⟨entry 63 [zs x,zs y],[],[]⟩=r:=by
     intro r hr
     have e1:af (CC LT4) (runK (CC LT4) 1) 1 jP ⟨entry 63 [zs x,zs y],[],[]⟩=af (CC LT4) (runK (CC LT4) 1) 1 (ag 4 jP) ⟨fr1,[],[]⟩:=aQ 4 a1
     rw[e1,aQ 2 b1]
     exact hr
    by_cases hn:bw x=bw y
    ·have gt:=nX (runK (CC LT4) 1) (bw x) (yB (T.aK x.natAbs) (T.aK y.natAbs)) (Yz _ _) (by
      have h1:=QV (T.aK x.natAbs) (T.aK y.natAbs)
      have h2:=ma (T.aK x.natAbs) (T.aK y.natAbs)
      have h3:=Zm.aK hx
      have h4:=Zm.aK hy
      omega)
     rw[QU _ _ (T.bS _) (T.bS _),T.bV,T.bV] at gt
     have e:gL (bw x) (x.natAbs+y.natAbs)=x+y:=by
      rw[kI,cK]
      rw[cK,cK] at hn
      by_cases h1:x<0 <;> by_cases h2:y<0 <;> simp[h1,h2] at hn ⊢ <;> omega
     rw[e] at gt
     rw[← hn] at b5
     obtain⟨st,x1,x2⟩:=Tl LT4 (runK (CC LT4) 1) 1 fr2 (bw x) _ _ _ _ (aby _ x.natAbs y.natAbs hx9 hy9) gt b2 b3 b4 b5 b6
     exact⟨st,hex x1,x2⟩
    ·have hn':bw y = !bw x:=by revert hn;cases bw x <;> cases bw y <;> simp
     rw[hn'] at b5
     have gz:=xP (runK (CC LT4) 1) x.natAbs y.natAbs hx9 hy9
     by_cases hc:x.natAbs<y.natAbs
     ·have hz:dZ x.natAbs y.natAbs<0:=by unfold dZ;rw[if_pos hc];omega
      have gt:=nX (runK (CC LT4) 1) (!bw x) (T.aK (y.natAbs - x.natAbs)) (T.bS _) (by
       have:=T.cG (show y.natAbs - x.natAbs≤y.natAbs by omega)
       omega)
      rw[T.bV] at gt
      have e:gL (!bw x) (y.natAbs - x.natAbs)=x+y:=by
       rw[kI,← hn',cK]
       rw[cK,cK] at hn
       by_cases h1:x<0 <;> by_cases h2:y<0 <;> simp[h1,h2] at hn ⊢ <;> omega
      rw[e] at gt
      obtain⟨st,x1,x2⟩:=NJ LT4 (runK (CC LT4) 1) 1 fr2 (bw x) _ _ _ _ _ hz gz (Ld _ y.natAbs x.natAbs hy9 hx9 (by omega)) gt b2 b3 b4 b5 b6
      exact⟨st,hex x1,x2⟩
     ·have hz : ¬ dZ x.natAbs y.natAbs<0:=by
       unfold dZ
       rw[if_neg hc]
       split <;> omega
      have gt:=nX (runK (CC LT4) 1) (bw x) (T.aK (x.natAbs - y.natAbs)) (T.bS _) (by
       have:=T.cG (show x.natAbs - y.natAbs≤x.natAbs by omega)
       omega)
      rw[T.bV] at gt
      have e:gL (bw x) (x.natAbs - y.natAbs)=x+y:=by
       rw[kI,cK]
       rw[cK,cK] at hn
       by_cases h1:x<0 <;> by_cases h2:y<0 <;> simp[h1,h2] at hn ⊢ <;> omega
      rw[e] at gt
      obtain⟨st,x1,x2⟩:=NI LT4 (runK (CC LT4) 1) 1 fr2 (bw x) _ _ _ _ _ hz gz (Ld _ x.natAbs y.natAbs hx9 hy9 (by omega)) gt b2 b3 b4 b5 b6
      exact⟨st,hex x1,x2⟩
   cases h1:(eA x).ble 9 with
   | false =>
    rw[h1] at gs1
    cases h2:(eA y).ble 9 with
    | false=>rw[h2] at gs2;exact rest _ _ false false rfl gs1 gs2
    | true=>rw[h2] at gs2;exact rest _ _ false true rfl gs1 gs2
   | true =>
    rw[h1] at gs1
    cases h2:(eA y).ble 9 with
    | false=>rw[h2] at gs2;exact rest _ _ true false rfl gs1 gs2
    | true =>
     rw[h2] at gs2
     have b1:=yW h1
     have b2:=yW h2
     exact Tm LT4 (runK (CC LT4) 1) 1 _ _ _ x y (x+y) gs1 gs2 (fA _ (by omega) (by omega)) (Lc _ (x+y) (by omega) (by omega))
  ·cases h
 ·cases h
end Go.Proofs.YtjdmodeenbdfpaaGreat
end
