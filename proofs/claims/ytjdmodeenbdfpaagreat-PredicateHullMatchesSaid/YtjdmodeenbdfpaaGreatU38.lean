/- Contracts of fractions, clouds and predicates, part 38; each lemma states its conditions. -/
import Derived.Test.YtjdmodeenbdfpaaGreatU37
set_option linter.unusedSimpArgs false
set_option linter.unusedVariables false
noncomputable section
namespace Go.Proofs.YtjdmodeenbdfpaaGreat
open Go Go.Ab List Tryz
attribute [local simp] FzZ aC aF aG aH aO aV aa ab ae af ag ah aj an aq ar au aw az bM ba bf bg blk iv partOf seq1
variable(L:Lst)(run:av)(k:Nat)(fr:Ψ)(hp:Θ)(wr:Ω)
def es (s:ByteArray):Ψ:=[.sc (.string s)]
theorem Fs:Ec 1 es where
 len:=fun _=>rfl
 okc:=fun _=>rfl
 can:=fun _=>rfl
 idf:=fun _=>rfl
 sn:=fun _ _ _=>rfl
def pE (p:List ByteArray):PV:=jM es p
def ep (p:List ByteArray):Ψ:=[pE p]
theorem I7:Ec 1 ep:=Fs.list
def cE (c:List (List ByteArray)):PV:=jM ep c
theorem uPt:und TT 39=some (.slice 27):=by kernel_rfl
theorem uCl:und TT 23=some (.slice 39):=by kernel_rfl
theorem uRs:und TT 38=some (.slice 27):=by kernel_rfl
theorem gN:dm TT 27=some 1:=by kernel_rfl
theorem iJ:ia TT 27=some false:=by kernel_rfl
theorem sPt:dm TT 39=some 1:=by kernel_rfl
theorem sCl:dm TT 23=some 1:=by kernel_rfl
theorem aCl:ia TT 23=some false:=by kernel_rfl
theorem aPt:ia TT 39=some false:=by kernel_rfl
theorem eF (p:List ByteArray):dc (pE p)=some p.length:=rfl
theorem fm (c:List (List ByteArray)):dc (cE c)=some c.length:=rfl
theorem yq (p:List ByteArray):canon (pE p)=pE p:=Fs.yZ p
theorem lO (c:List (List ByteArray)):canon (cE c)=cE c:=I7.yZ c
theorem uv {t:Nat}(hu:und TT t=some (.slice 27))(p:List ByteArray)(i:Nat)(hi:i<p.length):∃ r,bc TT t (pE p) (.sc (.int .i64 (i:Int)))=some (.iptr r)∧r.head?=some (.sc (.string p[i])):=by
 have h:=mG Fs.toEl p i hi
 refine⟨bz (p.flatMap es) (i*1),?_,by rw[h];rfl⟩
 unfold pE jM
 simp only[bc,hu,bm,gN,hi,if_true]
theorem kG {t:Nat}(hu:und TT t=some (.slice 39))(c:List (List ByteArray))(i:Nat)(hi:i<c.length):∃ r,bc TT t (cE c) (.sc (.int .i64 (i:Int)))=some (.iptr r)∧r.head?=some (pE c[i]):=by
 have h:=mG I7.toEl c i hi
 refine⟨bz (c.flatMap ep) (i*1),?_,by rw[h];rfl⟩
 unfold cE jM
 simp only[bc,hu,bm,sPt,hi,if_true]
theorem Ip:∀ {p q:List ByteArray},pE p=pE q→p=q
 | p,q,h=>by
  unfold pE jM at h
  simp only[PV.imm.injEq,true_and] at h
  have:∀ (p q:List ByteArray),p.flatMap es=q.flatMap es→p=q:=by
   intro p
   induction p with
   | nil=>intro q h;cases q with
    | nil=>rfl
    | cons a q=>simp[es] at h
   | cons a p ih=>intro q h;cases q with
    | nil=>simp[es] at h
    | cons b q =>
     simp only[flatMap_cons,es,cons_append,nil_append,List.cons.injEq,PV.sc.injEq,Value.string.injEq] at h
     rw[h.1,ih q h.2]
  exact this p q h.2
theorem Xz {c d:List (List ByteArray)}(h:cE c=cE d):c=d:=by
 unfold cE jM at h
 simp only[PV.imm.injEq,true_and] at h
 have:∀ (p q:List (List ByteArray)),p.flatMap ep=q.flatMap ep→p=q:=by
  intro p
  induction p with
  | nil=>intro q h;cases q with
   | nil=>rfl
   | cons a q=>simp[ep] at h
  | cons a p ih=>intro q h;cases q with
   | nil=>simp[ep] at h
   | cons b q =>
    simp only[flatMap_cons,ep,cons_append,nil_append,List.cons.injEq] at h
    rw[Ip h.1,ih q h.2]
 exact this c d h.2
def rO (m:Nat)(p:List ByteArray):Nat:=if p.length=0∨3<p.length∨p.length≠m then 10 else bif p.all (fun s=>pB (IsV s)) then 0 else 1
def jG (m:Nat):List (List ByteArray)→Nat
 | []=>0
 | p::r=>if rO m p=0 then jG m r else rO m p
def hdL (c:List (List ByteArray)):Nat:=match c with
 | []=>0
 | p::_=>p.length
def chk (c:List (List ByteArray)):Nat:=if 64<c.length then 3 else jG (hdL c) c
def Fit (c:List (List ByteArray)):Prop:=c.length≤100∧∀ p ∈ c,p.length≤100∧∀ s ∈ p,(bys s).length≤100000
theorem Gu:base.F.get 80=some f80:=by kernel_rfl
theorem M7:base.shared 80=false:=by kernel_rfl
def ckC:Code:=f80.body.getD .skip
def ckO:Code:=(az ckC).getD .skip
def ckI:Code:=(az ckO).getD .skip
def CF (fr:Ψ)(c:List (List ByteArray))(j:Nat):Prop:=fr.length=44∧nth fr 0=cE c∧nth fr 10=cE c∧nth fr 11=iv c.length∧nth fr 12=iv j
theorem ac7(c:List (List ByteArray))(j:Nat)(n:Nat)(h:CF fr c j)(h34:nth fr 34=iv n)(h35:nth fr 35=iv n) :
  ∃ fr',ae (CC L) run k ckI ⟨fr,[],[]⟩=some (.exit 2,⟨fr',[],[]⟩)∧CF fr' c j:=by
 obtain⟨h0,h1,h10,h11,h12⟩:=h
 simp only[iv] at h34 h35 h11 h12
 simp[CF,ckI,ckO,ckC,f80,h0,h1,h10,h11,h12,h34,h35]
theorem Pm(c:List (List ByteArray))(j:Nat)(p:List ByteArray)(i:Nat)(hi:i<p.length)(h9:p.length≤100)(v:Bool)(g:aA L run 77 [.sc (.string p[i])] (.sc (.bool v)))(h:CF fr c j)(h33:nth fr 33=pE p)(h34:nth fr 34=iv p.length)(h35:nth fr 35=iv i) :
  ∃ fr',ae (CC L) run k ckI ⟨fr,[],[]⟩=some (bif v then .normal else .ret,⟨fr',[],[]⟩)∧(v=true→CF fr' c j∧nth fr' 33=pE p∧nth fr' 34=iv p.length∧nth fr' 35=iv (i+1))∧(v=false→nth fr' 2=iv 1):=by
 obtain⟨h0,h1,h10,h11,h12⟩:=h
 obtain⟨r,x1,x2⟩:=uv uPt p i hi
 have hw:=bE i (by omega)
 unfold aA at g
 generalize p[i]=s at *
 simp only[iv] at h34 h35 h11 h12
 cases v <;> simp[CF,ckI,ckO,ckC,f80,aM,unP,and_assoc,h0,h1,h10,h11,h12,h33,h34,h35,hi,x1,x2,g,hw,iJ,gN]
theorem FF (L:Lst)(run:av)(k:Nat)(c:List (List ByteArray))(j:Nat)(p:List ByteArray)(h9:p.length≤100)(g:∀ s ∈ p,aA L run 77 [.sc (.string s)] (.sc (.bool (pB (IsV s))))):∀ (n i:Nat) (fr:Ψ),i+n=p.length→CF fr c j→nth fr 33=pE p→nth fr 34=iv p.length→nth fr 35=iv i →
  ∃ fr',cg (ae (CC L) run k ckI) (n+1) ⟨fr,[],[]⟩=some (bif (p.drop i).all (fun s=>pB (IsV s)) then .exit 2 else .ret,⟨fr',[],[]⟩)∧((p.drop i).all (fun s=>pB (IsV s))=true→CF fr' c j)∧((p.drop i).all (fun s=>pB (IsV s))=false→nth fr' 2=iv 1)
 | 0,i,fr,hin,h,h33,h34,h35=>by
  have e:i=p.length:=by omega
  subst e
  obtain⟨fr',q1,q2⟩:=ac7 L run k fr c j p.length h h34 h35
  rw[drop_length]
  exact⟨fr',br q1,fun _=>q2,nofun⟩
 | n+1,i,fr,hin,h,h33,h34,h35=>by
  have hi:i<p.length:=by omega
  obtain⟨fr1,q1,q2,q3⟩:=Pm L run k fr c j p i hi h9 _ (g _ (getElem_mem hi)) h h33 h34 h35
  rw[drop_eq_getElem_cons hi,all_cons]
  cases hv:pB (IsV p[i]) with
  | false =>
   rw[hv] at q1 q3
   exact⟨fr1,dD q1,nofun,fun _=>q3 rfl⟩
  | true =>
   rw[hv] at q1 q2
   obtain⟨a1,a2,a3,a4⟩:=q2 rfl
   obtain⟨fr',s1,s2⟩:=FF L run k c j p h9 g n (i+1) fr1 (by omega) a1 a2 a3 a4
   rw[Bool.true_and]
   exact⟨fr',by rw[bU q1];exact s1,s2⟩
def agE:Code:=seq1 ckO
def agD:Code:=seq1 (aO ckO)
def ckB:Code:=blk (seq1 (aO (aO ckO)))
def W0:Code:=seq1 ckB
def yY:Code:=seq1 (aO ckB)
def WZ:Code:=seq1 (aO (aO ckB))
def WY:Code:=aO (aO (aO ckO))
theorem WX:ckO = .seq agE (.seq agD (.seq (.block 1 (.seq W0 (.seq yY (.seq WZ (.block 2 (.loop ckI)))))) WY)):=rfl
theorem ac6(c:List (List ByteArray))(h:CF fr c c.length) :
  ∃ fr',ae (CC L) run k ckO ⟨fr,[],[]⟩=some (.exit 0,⟨fr',[],[]⟩)∧fr'.length=44:=by
 obtain⟨h0,h1,h10,h11,h12⟩:=h
 simp only[iv] at h11 h12
 simp[ckO,ckC,f80,h0,h11,h12]
theorem ajq(c:List (List ByteArray))(j:Nat)(hj:j<c.length)(h:CF fr c j) :
  ∃ fr1 fr2,ae (CC L) run k agE ⟨fr,[],[]⟩=some (.normal,⟨fr1,[],[]⟩)∧ae (CC L) run k agD ⟨fr1,[],[]⟩=some (.normal,⟨fr1,[],[]⟩)∧ae (CC L) run k W0 ⟨fr1,[],[]⟩=some (.normal,⟨fr2,[],[]⟩)∧CF fr2 c j∧nth fr2 4=pE c[j]:=by
 obtain⟨h0,h1,h10,h11,h12⟩:=h
 obtain⟨r,x1,x2⟩:=kG uCl c j hj
 generalize c[j]=p at *
 simp only[iv] at h11 h12
 refine⟨eS fr 13 (.sc (.bool true)),?_⟩
 simp[CF,agE,agD,W0,ckB,ckO,ckC,f80,and_assoc,h0,h1,h10,h11,h12,hj,x1,x2,aPt,sPt]
theorem agi (m:Nat):((m:Int) == 0)=decide (m=0):=by
 by_cases h:m=0
 ·subst h;rfl
 ·rw[decide_eq_false h,beq_eq_false_iff_ne];omega
theorem gt3 (m:Nat):((m:Int) > 3)=(3<m):=by apply propext;omega
set_option maxHeartbeats 1000000 in
theorem ac8(c:List (List ByteArray))(j:Nat)(p:List ByteArray)(hc:0<c.length)(hb:p.length=0∨3<p.length∨p.length≠c[0].length)(h:CF fr c j)(h4:nth fr 4=pE p) :
  ∃ fr',ae (CC L) run k yY ⟨fr,[],[]⟩=some (.ret,⟨fr',[],[]⟩)∧nth fr' 2=iv 10:=by
 obtain⟨h0,h1,h10,h11,h12⟩:=h
 obtain⟨r,x1,x2⟩:=kG uCl c 0 hc
 rw[show (((0:Nat):Int))=(0:Int) from rfl] at x1
 generalize c[0]=q at *
 have hl:=eF p
 have hl2:=eF q
 generalize p.length=m at *
 generalize q.length=m0 at *
 by_cases b1:m=0
 ·subst b1
  simp[yY,ckB,ckO,ckC,f80,h0,h4,hl,uPt,undef]
 ·by_cases b2:3<m
  ·simp[yY,ckB,ckO,ckC,f80,h0,h4,hl,uPt,undef,b1,b2,agi,gt3]
  ·have b3:m≠m0:=by rcases hb with hb | hb | hb <;> first | exact absurd hb b1 | exact absurd hb b2 | exact hb
   simp[yY,ckB,ckO,ckC,f80,FX,h0,h1,h4,hl,hl2,uPt,x1,x2,aPt,sPt,b1,b2,b3,agi,gt3]
set_option maxHeartbeats 1000000 in
theorem agF(c:List (List ByteArray))(j:Nat)(p:List ByteArray)(hc:0<c.length)(b1:p.length≠0)(b2 : ¬ 3<p.length)(b3:p.length=c[0].length)(h:CF fr c j)(h4:nth fr 4=pE p) :
  ∃ fr1 fr',ae (CC L) run k yY ⟨fr,[],[]⟩=some (.normal,⟨fr1,[],[]⟩)∧ae (CC L) run k WZ ⟨fr1,[],[]⟩=some (.normal,⟨fr',[],[]⟩)∧CF fr' c j∧nth fr' 33=pE p∧nth fr' 34=iv p.length∧nth fr' 35=iv 0:=by
 obtain⟨h0,h1,h10,h11,h12⟩:=h
 obtain⟨r,x1,x2⟩:=kG uCl c 0 hc
 rw[show (((0:Nat):Int))=(0:Int) from rfl] at x1
 generalize c[0]=q at *
 have hl:=eF p
 have hl2:=eF q
 rw[← b3] at hl2
 clear b3
 generalize p.length=m at *
 obtain⟨fr1,g1,g2,g3,g4⟩:∃ fr1,ae (CC L) run k yY ⟨fr,[],[]⟩=some (.normal,⟨fr1,[],[]⟩)∧CF fr1 c j∧nth fr1 4=pE p∧True:=by
  simp only[CF]
  simp[h10,h11,h12,yY,ckB,ckO,ckC,f80,and_assoc,h0,h1,h4,hl,hl2,uPt,x1,x2,aPt,sPt,b1,b2,agi,gt3]
 obtain⟨k0,k1,k10,k11,k12⟩:=g2
 refine⟨fr1,?_⟩
 rw[g1]
 simp[CF,WZ,ckB,ckO,ckC,f80,and_assoc,k0,k1,k10,k11,k12,g3,hl,uPt]
theorem ajp(c:List (List ByteArray))(j:Nat)(hj:j<1000)(h:CF fr c j) :
  ∃ fr',ae (CC L) run k WY ⟨fr,[],[]⟩=some (.normal,⟨fr',[],[]⟩)∧CF fr' c (j+1):=by
 obtain⟨h0,h1,h10,h11,h12⟩:=h
 have hw:=bE j (by omega)
 simp only[iv] at h11 h12
 simp[CF,WY,ckO,ckC,f80,h0,h1,h10,h11,h12,hw]
theorem FE (L:Lst)(run:av)(k:Nat)(hk:200≤k)(c:List (List ByteArray))(hF:Fit c)(g:∀ s:ByteArray,(bys s).length≤100000→aA L run 77 [.sc (.string s)] (.sc (.bool (pB (IsV s))))):∀ (n j:Nat) (fr:Ψ),j+n=c.length→CF fr c j →
  (∃ fr',jG (hdL c) (c.drop j)=0∧cg (ae (CC L) run k ckO) (n+1) ⟨fr,[],[]⟩=some (.exit 0,⟨fr',[],[]⟩)∧fr'.length=44)∨∃ fr',jG (hdL c) (c.drop j)≠0∧cg (ae (CC L) run k ckO) (n+1) ⟨fr,[],[]⟩=some (.ret,⟨fr',[],[]⟩)∧nth fr' 2=iv (jG (hdL c) (c.drop j))
 | 0,j,fr,hjn,h=>by
  have e:j=c.length:=by omega
  subst e
  obtain⟨fr',q1,q2⟩:=ac6 L run k fr c h
  rw[drop_length]
  exact .inl ⟨fr',rfl,br q1,q2⟩
 | n+1,j,fr,hjn,h=>by
  have hj:j<c.length:=by omega
  have hc:0<c.length:=by omega
  have hh:hdL c=c[0].length:=by
   cases c with
   | nil=>simp at hc
   | cons p r=>rfl
  obtain⟨fr1,fr2,a1,a2,a3,a4,a5⟩:=ajq L run k fr c j hj h
  have hFp:=hF.2 c[j] (getElem_mem hj)
  have hFc:=hF.1
  rw[drop_eq_getElem_cons hj]
  have run_ret:∀ {fr'},ae (CC L) run k (.seq W0 (.seq yY (.seq WZ (.block 2 (.loop ckI))))) ⟨fr1,[],[]⟩=some (.ret,⟨fr',[],[]⟩)→cg (ae (CC L) run k ckO) (n+1+1) ⟨fr,[],[]⟩=some (.ret,⟨fr',[],[]⟩):=by
   intro fr' hr
   refine dD ?_
   rw[WX,ao a1,ao a2]
   exact bK (fo hr)
  by_cases hb:c[j].length=0∨3<c[j].length∨c[j].length≠c[0].length
  ·obtain⟨fr',b1,b2⟩:=ac8 L run k fr2 c j c[j] hc hb a4 a5
   have hcp:rO (hdL c) c[j]=10:=by unfold rO;rw[hh,if_pos hb]
   refine .inr ⟨fr',?_,run_ret ?_,?_⟩
   ·rw[jG,hcp];simp
   ·rw[ao a3,bK b1]
   ·rw[jG,hcp];exact b2
  ·have n1:c[j].length≠0:=fun e=>hb (.inl e)
   have n2 : ¬ 3<c[j].length:=fun e=>hb (.inr (.inl e))
   have n3:c[j].length=c[0].length:=Classical.byContradiction fun e=>hb (.inr (.inr e))
   obtain⟨fr3,fr4,b1,b2,b3,b4,b5,b6⟩:=agF L run k fr2 c j c[j] hc n1 n2 n3 a4 a5
   obtain⟨fr5,d1,d2,d3⟩:=FF L run k c j c[j] hFp.1 (fun s hs=>g s (hFp.2 s hs)) c[j].length 0 fr4 (by omega) b3 b4 b5 b6
   rw[drop_zero] at d1 d2 d3
   have hcp:rO (hdL c) c[j]=bif c[j].all (fun s=>pB (IsV s)) then 0 else 1:=by unfold rO;rw[hh,if_neg hb]
   cases hv:c[j].all (fun s=>pB (IsV s)) with
   | false =>
    rw[hv] at d1 hcp
    have d4:=d3 hv
    refine .inr ⟨fr5,?_,run_ret ?_,?_⟩
    ·rw[jG,hcp];simp
    ·rw[ao a3,ao b1,ao b2]
     exact cL (bG d1 (by omega))
    ·rw[jG,hcp];exact d4
   | true =>
    rw[hv] at d1 hcp
    have d4:=d2 hv
    obtain⟨fr6,e1,e2⟩:=ajp L run k fr5 c j (by omega) d4
    have hgo:ae (CC L) run k ckO ⟨fr,[],[]⟩=some (.normal,⟨fr6,[],[]⟩):=by
     rw[WX,ao a1,ao a2]
     have:ae (CC L) run k (.seq W0 (.seq yY (.seq WZ (.block 2 (.loop ckI))))) ⟨fr1,[],[]⟩=some (.normal,⟨fr5,[],[]⟩):=by
      rw[ao a3,ao b1,ao b2]
      exact bD (bG d1 (by omega))
     rw[ao (fC this)]
     exact e1
    have hce:jG (hdL c) (c[j]::c.drop (j+1))=jG (hdL c) (c.drop (j+1)):=by rw[jG,hcp];rfl
    rw[hce,bU hgo]
    exact FE L run k hk c hF g n (j+1) fr6 (by omega) e2
def WW:Code:=seq1 (seq1 (ai 2 ckC))
theorem agA:ai 2 ckC = .seq (.seq WW (.block 0 (.loop ckO))) (ai 3 ckC):=rfl
theorem ac4(c:List (List ByteArray))(h:64<c.length):∃ st,ae (CC L) run k ckC ⟨entry 44 [cE c],[],[]⟩=some (.ret,st)∧aY TT st.fr st.hp f80.results.toList=some [iv 3]:=by
 obtain⟨e1,e2⟩:=cV 43 (cE c)
 generalize entry 44 [cE c]=fr0 at *
 have hl:=fm c
 generalize c.length=m at *
 have h2:((m:Int) > 64)=True:=by simp;omega
 have h3:((64:Int)<m)=True:=by simp;omega
 simp[ckC,f80,e1,e2,hl,uCl,h2,aY]
theorem agC (L:Lst)(run:av)(k:Nat)(c:List (List ByteArray))(h : ¬ 64<c.length):∃ fr fr',bh (CC L) run k 2 ckC ⟨entry 44 [cE c],[],[]⟩=some ⟨fr,[],[]⟩∧ae (CC L) run k WW ⟨fr,[],[]⟩=some (.normal,⟨fr',[],[]⟩)∧CF fr' c 0:=by
 obtain⟨e1,e2⟩:=cV 43 (cE c)
 generalize entry 44 [cE c]=fr0 at *
 have hl:=fm c
 have h2:((c.length:Int) > 64)=False:=by simp;omega
 have h3:((64:Int)<c.length)=False:=by simp;omega
 obtain⟨fr,a1,a2,a3⟩:∃ fr,bh (CC L) run k 2 ckC ⟨fr0,[],[]⟩=some ⟨fr,[],[]⟩∧fr.length=44∧nth fr 0=cE c:=by
  simp[ckC,f80,bh,e1,e2,hl,uCl,h2]
 refine⟨fr,?_⟩
 rw[a1]
 simp[CF,WW,ai,ckC,f80,a2,a3,hl,uCl]
theorem ac3(h0:fr.length=44):∃ st,ae (CC L) run k (ai 3 ckC) ⟨fr,[],[]⟩=some (.ret,st)∧aY TT st.fr st.hp f80.results.toList=some [iv 0]:=by
 simp[ckC,ai,f80,h0,aY]
theorem agB(n:Nat)(h:nth fr 2=iv n):aY TT fr [] f80.results.toList=some [iv n]:=by
 simp[f80,aY,h]
def Jk:Ψ→Option Ψ:=ctr (fun c=>[cE c]) Fit fun c=>[iv (chk c)]
theorem ac5(hk:200≤k)(c:List (List ByteArray))(hF:Fit c)(g:∀ s:ByteArray,(bys s).length≤100000→aA L run 77 [.sc (.string s)] (.sc (.bool (pB (IsV s))))) :
  ∃ st,ae (CC L) run k ckC ⟨entry 44 [cE c],[],[]⟩=some (.ret,st)∧aY TT st.fr st.hp f80.results.toList=some [iv (chk c)]:=by
 unfold chk
 by_cases h:64<c.length
 ·rw[if_pos h];exact ac4 L run k c h
 ·rw[if_neg h]
  obtain⟨fr,fr1,a1,a2,a3⟩:=agC L run k c h
  rw[aU 2 a1,agA]
  have hl:=FE L run k hk c hF g c.length 0 fr1 (by omega) a3
  rw[drop_zero] at hl
  rcases hl with ⟨fr2,h0,b1,b2⟩| ⟨fr3,b0,b1,b2⟩
  ·have:ae (CC L) run k (.seq WW (.block 0 (.loop ckO))) ⟨fr,[],[]⟩=some (.normal,⟨fr2,[],[]⟩):=by
    rw[ao a2];exact bD (bG b1 (by have:=hF.1;omega))
   rw[ao this,h0]
   exact ac3 L run k fr2 b2
  ·have:ae (CC L) run k (.seq WW (.block 0 (.loop ckO))) ⟨fr,[],[]⟩=some (.ret,⟨fr3,[],[]⟩):=by
    rw[ao a2];exact cL (bG b1 (by have:=hF.1;omega))
   rw[bK this]
   exact⟨_,rfl,agB fr3 _ b2⟩
theorem ze:base.F.get 22=some f22:=by kernel_rfl
theorem Dm:base.shared 22=false:=by kernel_rfl
def rkC:Code:=f22.body.getD .skip
def rkO:Code:=(az rkC).getD .skip
def rkI:Code:=(az rkO).getD .skip
def RF (fr:Ψ)(c:List (List ByteArray))(j:Nat):Prop:=fr.length=58∧nth fr 0=cE c∧nth fr 3=iv j
theorem ZW(c:List (List ByteArray))(j:Nat)(hj:j<c.length)(h:RF fr c j)(h4:nth fr 4=iv c[j].length) :
  ∃ fr',ae (CC L) run k rkI ⟨fr,[],[]⟩=some (.exit 2,⟨fr',[],[]⟩)∧RF fr' c j:=by
 obtain⟨h0,h1,h3⟩:=h
 obtain⟨r,x1,x2⟩:=kG uCl c j hj
 have hl:=eF c[j]
 generalize c[j]=p at *
 generalize p.length=m at *
 simp only[iv] at h3 h4
 simp[RF,rkI,rkO,rkC,f22,h0,h1,h3,h4,x1,x2,hl,uPt,aPt,sPt]
theorem Nj(c:List (List ByteArray))(j:Nat)(hj:j<c.length)(i:Nat)(hi:i<c[j].length)(h9:c[j].length≤100)(v:Bool)(g:aA L run 23 [.sc (.string c[j][i])] (.sc (.bool v)))(h:RF fr c j)(h4:nth fr 4=iv i) :
  ∃ fr',ae (CC L) run k rkI ⟨fr,[],[]⟩=some (bif v then .normal else .ret,⟨fr',[],[]⟩)∧(v=true→RF fr' c j∧nth fr' 4=iv (i+1))∧(v=false→nth fr' 2=iv 1):=by
 obtain⟨h0,h1,h3⟩:=h
 obtain⟨r,x1,x2⟩:=kG uCl c j hj
 obtain⟨r',y1,y2⟩:=uv uPt c[j] i hi
 have hl:=eF c[j]
 have hw:=bE i (by omega)
 unfold aA at g
 generalize c[j][i]=s at *
 generalize c[j]=p at *
 simp only[iv] at h3 h4
 cases v <;> simp[RF,rkI,rkO,rkC,f22,aM,unP,and_assoc,h0,h1,h3,h4,x1,x2,y1,y2,hl,hi,g,hw,uPt,aPt,sPt,iJ,gN]
theorem DA (L:Lst)(run:av)(k:Nat)(c:List (List ByteArray))(j:Nat)(hj:j<c.length)(h9:c[j].length≤100)(g:∀ s ∈ c[j],aA L run 23 [.sc (.string s)] (.sc (.bool (pB (IsV s))))):∀ (n i:Nat) (fr:Ψ),i+n=c[j].length→RF fr c j→nth fr 4=iv i →
  ∃ fr',cg (ae (CC L) run k rkI) (n+1) ⟨fr,[],[]⟩=some (bif (c[j].drop i).all (fun s=>pB (IsV s)) then .exit 2 else .ret,⟨fr',[],[]⟩)∧((c[j].drop i).all (fun s=>pB (IsV s))=true→RF fr' c j)∧((c[j].drop i).all (fun s=>pB (IsV s))=false→nth fr' 2=iv 1)
 | 0,i,fr,hin,h,h4=>by
  have e:i=c[j].length:=by omega
  subst e
  obtain⟨fr',q1,q2⟩:=ZW L run k fr c j hj h h4
  rw[drop_length]
  exact⟨fr',br q1,fun _=>q2,nofun⟩
 | n+1,i,fr,hin,h,h4=>by
  have hi:i<c[j].length:=by omega
  obtain⟨fr1,q1,q2,q3⟩:=Nj L run k fr c j hj i hi h9 _ (g _ (getElem_mem hi)) h h4
  rw[drop_eq_getElem_cons hi,all_cons]
  cases hv:pB (IsV c[j][i]) with
  | false =>
   rw[hv] at q1 q3
   exact⟨fr1,dD q1,nofun,fun _=>q3 rfl⟩
  | true =>
   rw[hv] at q1 q2
   obtain⟨a1,a2⟩:=q2 rfl
   obtain⟨fr',s1,s2⟩:=DA L run k c j hj h9 g n (i+1) fr1 (by omega) a1 a2
   rw[Bool.true_and]
   exact⟨fr',by rw[bU q1];exact s1,s2⟩
def aeR:Code:=seq1 rkO
def rkB:Code:=blk (seq1 (aO rkO))
def yP:Code:=seq1 rkB
def So:Code:=seq1 (aO rkB)
def aeQ:Code:=aO (aO rkO)
theorem Sn:rkO = .seq aeR (.seq (.block 1 (.seq yP (.seq So (.block 2 (.loop rkI))))) aeQ):=rfl
theorem ZV(c:List (List ByteArray))(h:RF fr c c.length) :
  ∃ fr',ae (CC L) run k rkO ⟨fr,[],[]⟩=some (.exit 0,⟨fr',[],[]⟩)∧fr'.length=58:=by
 obtain⟨h0,h1,h3⟩:=h
 simp only[iv] at h3
 simp[rkO,rkC,f22,fm,h0,h1,h3,uCl]
theorem ah2(c:List (List ByteArray))(j:Nat)(hj:j<c.length)(h:RF fr c j) :
  ∃ fr1,ae (CC L) run k aeR ⟨fr,[],[]⟩=some (.normal,⟨fr1,[],[]⟩)∧RF fr1 c j:=by
 obtain⟨h0,h1,h3⟩:=h
 simp only[iv] at h3
 simp[RF,aeR,rkO,rkC,f22,fm,h0,h1,h3,uCl,hj]
theorem lt1 (m:Nat):((m:Int)<1)=(m=0):=by apply propext;omega
set_option maxHeartbeats 1000000 in
theorem ZX(c:List (List ByteArray))(j:Nat)(hj:j<c.length)(hc:0<c.length)(hb:c[j].length=0∨3<c[j].length∨c[j].length≠c[0].length)(h:RF fr c j) :
  ∃ fr',ae (CC L) run k yP ⟨fr,[],[]⟩=some (.ret,⟨fr',[],[]⟩)∧nth fr' 2=iv 10:=by
 obtain⟨h0,h1,h3⟩:=h
 obtain⟨r,x1,x2⟩:=kG uCl c 0 hc
 obtain⟨r',y1,y2⟩:=kG uCl c j hj
 rw[show (((0:Nat):Int))=(0:Int) from rfl] at x1
 have hl:=eF c[j]
 have hl2:=eF c[0]
 generalize c[0]=q at *
 generalize c[j]=p at *
 generalize p.length=m at *
 generalize q.length=m0 at *
 simp only[iv] at h3
 by_cases b1:m=0
 ·subst b1
  simp[yP,rkB,rkO,rkC,f22,h0,h1,h3,hl,uPt,y1,y2,aPt,sPt,undef,number,FP.free]
 ·by_cases b2:3<m
  ·simp[yP,rkB,rkO,rkC,f22,h0,h1,h3,hl,uPt,y1,y2,aPt,sPt,undef,b1,b2,gt3,lt1,number,FP.free]
  ·have b3:m≠m0:=by rcases hb with hb | hb | hb <;> first | exact absurd hb b1 | exact absurd hb b2 | exact hb
   simp[yP,rkB,rkO,rkC,f22,FX,h0,h1,h3,hl,hl2,uPt,x1,x2,y1,y2,aPt,sPt,b1,b2,b3,gt3,lt1,number,FP.free]
set_option maxHeartbeats 1000000 in
theorem aeS(c:List (List ByteArray))(j:Nat)(hj:j<c.length)(hc:0<c.length)(b1:c[j].length≠0)(b2 : ¬ 3<c[j].length)(b3:c[j].length=c[0].length)(h:RF fr c j) :
  ∃ fr1 fr',ae (CC L) run k yP ⟨fr,[],[]⟩=some (.normal,⟨fr1,[],[]⟩)∧ae (CC L) run k So ⟨fr1,[],[]⟩=some (.normal,⟨fr',[],[]⟩)∧RF fr' c j∧nth fr' 4=iv 0:=by
 obtain⟨h0,h1,h3⟩:=h
 obtain⟨r,x1,x2⟩:=kG uCl c 0 hc
 obtain⟨r',y1,y2⟩:=kG uCl c j hj
 rw[show (((0:Nat):Int))=(0:Int) from rfl] at x1
 have hl:=eF c[j]
 have hl2:=eF c[0]
 rw[← b3] at hl2
 clear b3
 generalize c[0]=q at *
 generalize c[j]=p at *
 generalize p.length=m at *
 simp only[iv] at h3
 obtain⟨fr1,g1,g2,g3,g4⟩:∃ fr1,ae (CC L) run k yP ⟨fr,[],[]⟩=some (.normal,⟨fr1,[],[]⟩)∧fr1.length=58∧nth fr1 0=cE c∧nth fr1 3 = .sc (.int .i64 (j:Int)):=by
  simp[yP,rkB,rkO,rkC,f22,h0,h1,h3,hl,hl2,uPt,x1,x2,y1,y2,aPt,sPt,b1,b2,gt3,lt1,number,FP.free]
 refine⟨fr1,?_⟩
 rw[g1]
 simp[RF,So,rkB,rkO,rkC,f22,and_assoc,g2,g3,g4]
theorem ah1(c:List (List ByteArray))(j:Nat)(hj:j<1000)(h:RF fr c j) :
  ∃ fr',ae (CC L) run k aeQ ⟨fr,[],[]⟩=some (.normal,⟨fr',[],[]⟩)∧RF fr' c (j+1):=by
 obtain⟨h0,h1,h3⟩:=h
 have hw:=bE j (by omega)
 simp only[iv] at h3
 simp[RF,aeQ,rkO,rkC,f22,h0,h1,h3,hw]
theorem Dz (L:Lst)(run:av)(k:Nat)(hk:200≤k)(c:List (List ByteArray))(hF:Fit c)(g:∀ s:ByteArray,(bys s).length≤100000→aA L run 23 [.sc (.string s)] (.sc (.bool (pB (IsV s))))):∀ (n j:Nat) (fr:Ψ),j+n=c.length→RF fr c j →
  (∃ fr',jG (hdL c) (c.drop j)=0∧cg (ae (CC L) run k rkO) (n+1) ⟨fr,[],[]⟩=some (.exit 0,⟨fr',[],[]⟩)∧fr'.length=58)∨∃ fr',jG (hdL c) (c.drop j)≠0∧cg (ae (CC L) run k rkO) (n+1) ⟨fr,[],[]⟩=some (.ret,⟨fr',[],[]⟩)∧nth fr' 2=iv (jG (hdL c) (c.drop j))
 | 0,j,fr,hjn,h=>by
  have e:j=c.length:=by omega
  subst e
  obtain⟨fr',q1,q2⟩:=ZV L run k fr c h
  rw[drop_length]
  exact .inl ⟨fr',rfl,br q1,q2⟩
 | n+1,j,fr,hjn,h=>by
  have hj:j<c.length:=by omega
  have hc:0<c.length:=by omega
  have hh:hdL c=c[0].length:=by
   cases c with
   | nil=>simp at hc
   | cons p r=>rfl
  obtain⟨fr1,a1,a4⟩:=ah2 L run k fr c j hj h
  have hFp:=hF.2 c[j] (getElem_mem hj)
  have hFc:=hF.1
  rw[drop_eq_getElem_cons hj]
  have run_ret:∀ {fr'},ae (CC L) run k (.seq yP (.seq So (.block 2 (.loop rkI)))) ⟨fr1,[],[]⟩=some (.ret,⟨fr',[],[]⟩)→cg (ae (CC L) run k rkO) (n+1+1) ⟨fr,[],[]⟩=some (.ret,⟨fr',[],[]⟩):=by
   intro fr' hr
   refine dD ?_
   rw[Sn,ao a1]
   exact bK (fo hr)
  by_cases hb:c[j].length=0∨3<c[j].length∨c[j].length≠c[0].length
  ·obtain⟨fr',b1,b2⟩:=ZX L run k fr1 c j hj hc hb a4
   have hcp:rO (hdL c) c[j]=10:=by unfold rO;rw[hh,if_pos hb]
   refine .inr ⟨fr',?_,run_ret ?_,?_⟩
   ·rw[jG,hcp];simp
   ·rw[bK b1]
   ·rw[jG,hcp];exact b2
  ·have n1:c[j].length≠0:=fun e=>hb (.inl e)
   have n2 : ¬ 3<c[j].length:=fun e=>hb (.inr (.inl e))
   have n3:c[j].length=c[0].length:=Classical.byContradiction fun e=>hb (.inr (.inr e))
   obtain⟨fr3,fr4,b1,b2,b3,b6⟩:=aeS L run k fr1 c j hj hc n1 n2 n3 a4
   obtain⟨fr5,d1,d2,d3⟩:=DA L run k c j hj hFp.1 (fun s hs=>g s (hFp.2 s hs)) c[j].length 0 fr4 (by omega) b3 b6
   rw[drop_zero] at d1 d2 d3
   have hcp:rO (hdL c) c[j]=bif c[j].all (fun s=>pB (IsV s)) then 0 else 1:=by unfold rO;rw[hh,if_neg hb]
   cases hv:c[j].all (fun s=>pB (IsV s)) with
   | false =>
    rw[hv] at d1 hcp
    have d4:=d3 hv
    refine .inr ⟨fr5,?_,run_ret ?_,?_⟩
    ·rw[jG,hcp];simp
    ·rw[ao b1,ao b2]
     exact cL (bG d1 (by omega))
    ·rw[jG,hcp];exact d4
   | true =>
    rw[hv] at d1 hcp
    have d4:=d2 hv
    obtain⟨fr6,e1,e2⟩:=ah1 L run k fr5 c j (by omega) d4
    have hgo:ae (CC L) run k rkO ⟨fr,[],[]⟩=some (.normal,⟨fr6,[],[]⟩):=by
     rw[Sn,ao a1]
     have:ae (CC L) run k (.seq yP (.seq So (.block 2 (.loop rkI)))) ⟨fr1,[],[]⟩=some (.normal,⟨fr5,[],[]⟩):=by
      rw[ao b1,ao b2]
      exact bD (bG d1 (by omega))
     rw[ao (fC this)]
     exact e1
    have hce:jG (hdL c) (c[j]::c.drop (j+1))=jG (hdL c) (c.drop (j+1)):=by rw[jG,hcp];rfl
    rw[hce,bU hgo]
    exact Dz L run k hk c hF g n (j+1) fr6 (by omega) e2
def Sl:Code:=seq1 (seq1 (ai 2 rkC))
theorem aeM:ai 2 rkC = .seq (.seq Sl (.block 0 (.loop rkO))) (ai 3 rkC):=rfl
theorem ZT(c:List (List ByteArray))(h:64<c.length):∃ st,ae (CC L) run k rkC ⟨entry 58 [cE c],[],[]⟩=some (.ret,st)∧aY TT st.fr st.hp f22.results.toList=some [iv 3]:=by
 obtain⟨e1,e2⟩:=cV 57 (cE c)
 generalize entry 58 [cE c]=fr0 at *
 have hl:=fm c
 generalize c.length=m at *
 have h2:((m:Int) > 64)=True:=by simp;omega
 have h3:((64:Int)<m)=True:=by simp;omega
 simp[rkC,f22,e1,e2,hl,uCl,h2,aY]
theorem aeO (L:Lst)(run:av)(k:Nat)(c:List (List ByteArray))(h : ¬ 64<c.length):∃ fr fr',bh (CC L) run k 2 rkC ⟨entry 58 [cE c],[],[]⟩=some ⟨fr,[],[]⟩∧ae (CC L) run k Sl ⟨fr,[],[]⟩=some (.normal,⟨fr',[],[]⟩)∧RF fr' c 0:=by
 obtain⟨e1,e2⟩:=cV 57 (cE c)
 generalize entry 58 [cE c]=fr0 at *
 have hl:=fm c
 have h2:((c.length:Int) > 64)=False:=by simp;omega
 have h3:((64:Int)<c.length)=False:=by simp;omega
 obtain⟨fr,a1,a2,a3⟩:∃ fr,bh (CC L) run k 2 rkC ⟨fr0,[],[]⟩=some ⟨fr,[],[]⟩∧fr.length=58∧nth fr 0=cE c:=by
  simp[rkC,f22,bh,e1,e2,hl,uCl,h2]
 refine⟨fr,?_⟩
 rw[a1]
 simp[RF,Sl,ai,rkC,f22,a2,a3]
theorem ZS(h0:fr.length=58):∃ st,ae (CC L) run k (ai 3 rkC) ⟨fr,[],[]⟩=some (.ret,st)∧aY TT st.fr st.hp f22.results.toList=some [iv 0]:=by
 simp[rkC,ai,f22,h0,aY]
theorem aeN(n:Nat)(h:nth fr 2=iv n):aY TT fr [] f22.results.toList=some [iv n]:=by
 simp[f22,aY,h]
theorem ZU(hk:200≤k)(c:List (List ByteArray))(hF:Fit c)(g:∀ s:ByteArray,(bys s).length≤100000→aA L run 23 [.sc (.string s)] (.sc (.bool (pB (IsV s))))) :
  ∃ st,ae (CC L) run k rkC ⟨entry 58 [cE c],[],[]⟩=some (.ret,st)∧aY TT st.fr st.hp f22.results.toList=some [iv (chk c)]:=by
 unfold chk
 by_cases h:64<c.length
 ·rw[if_pos h];exact ZT L run k c h
 ·rw[if_neg h]
  obtain⟨fr,fr1,a1,a2,a3⟩:=aeO L run k c h
  rw[aU 2 a1,aeM]
  have hl:=Dz L run k hk c hF g c.length 0 fr1 (by omega) a3
  rw[drop_zero] at hl
  rcases hl with ⟨fr2,h0,b1,b2⟩| ⟨fr3,b0,b1,b2⟩
  ·have:ae (CC L) run k (.seq Sl (.block 0 (.loop rkO))) ⟨fr,[],[]⟩=some (.normal,⟨fr2,[],[]⟩):=by
    rw[ao a2];exact bD (bG b1 (by have:=hF.1;omega))
   rw[ao this,h0]
   exact ZS L run k fr2 b2
  ·have:ae (CC L) run k (.seq Sl (.block 0 (.loop rkO))) ⟨fr,[],[]⟩=some (.ret,⟨fr3,[],[]⟩):=by
    rw[ao a2];exact cL (bG b1 (by have:=hF.1;omega))
   rw[bK this]
   exact⟨_,rfl,aeN fr3 _ b2⟩
def LQ5:Lst:=[(77,Bf),(23,KJ)]
theorem XU:dt base.P LQ5:=⟨vS,zF,trivial⟩
theorem jN {c d:List (List ByteArray)}(h:[cE c]=[cE d]):c=d:=Xz (by simpa using h)
theorem W1:Ab.Spec base.P 80 Jk:=Ab.Spec.bL (C:=CC LQ5) (cP XU) fun args rs h=>by
 obtain⟨c,hF,rfl,rfl⟩:=cX h
 obtain⟨st,x1,x2⟩:=ac5 LQ5 (runK (CC LQ5) 200) 200 (by omega) c hF (fun s h9=>Cq rfl _ s h9)
 exact⟨201,_,_,_,_,_,aZ Gu rfl x1 x2,rfl,Wk.refl rfl,trivial⟩
theorem zL:Ab.Spec base.P 22 Jk:=Ab.Spec.bL (C:=CC LQ5) (cP XU) fun args rs h=>by
 obtain⟨c,hF,rfl,rfl⟩:=cX h
 obtain⟨st,x1,x2⟩:=ZU LQ5 (runK (CC LQ5) 200) 200 (by omega) c hF (fun s h9=>yE rfl _ s h9)
 exact⟨201,_,_,_,_,_,aZ ze rfl x1 x2,rfl,Wk.refl rfl,trivial⟩
theorem wb(c:List (List ByteArray)):bu (snap hp bn) [cE c]=some ([cE c],[]):=rfl
theorem tq (c:List (List ByteArray)):aK [cE c]=[cE c]:=by simp only[aK,lO]
theorem ajJ {L:Lst}(hL:bC L 80=fun a=>Jk (aK a))(run:av)(c:List (List ByteArray))(hF:Fit c):aA L run 80 [cE c] (iv (chk c)) :=
 gi M7 (e:=fun c=>[cE c]) (f:=fun c=>[iv (chk c)]) hL (fun x y _ _ h=>by rw[jN h]) run c hF (wb · c) (tq c)
theorem ahh {L:Lst}(hL:bC L 22=fun a=>Jk (aK a))(run:av)(c:List (List ByteArray))(hF:Fit c):aA L run 22 [cE c] (iv (chk c)) :=
 gi Dm (e:=fun c=>[cE c]) (f:=fun c=>[iv (chk c)]) hL (fun x y _ _ h=>by rw[jN h]) run c hF (wb · c) (tq c)
end Go.Proofs.YtjdmodeenbdfpaaGreat
end
