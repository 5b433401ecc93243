/- Contracts of the two hulls, of the program and of the reference, part 27; each lemma states its conditions. -/
import Derived.Test.YtjdmodeenbdfpaaGreatV26
import Derived.Test.YtjdmodeenbdfpaaGreatRows
import Derived.ProofKit
import Derived.ShutString
import Derived.ChangeOld
set_option linter.unusedSimpArgs false
set_option linter.unusedVariables false
noncomputable section
namespace Go.Proofs.YtjdmodeenbdfpaaGreat
open Go Go.Ab List
theorem CS:base.F.get 8=some Tryz.f8:=by kernel_rfl
theorem or3 {c:Pl}(hF:qz c)(hf:fO c=0){a b k:Nat}(ha:a<c.length)(hb:b<c.length)(hk:k<c.length):OS c [Int.ofNat a,Int.ofNat b,Int.ofNat k]=ko (cr (at2 (toP c) a) (at2 (toP c) b) (at2 (toP c) k))∧(ma c [Int.ofNat a,Int.ofNat b,Int.ofNat k]).2=0:=by
 obtain⟨x1,x2,x3,x4,x5,x6⟩:=kB hf hF
 have hh:hdL c=2:=by
  cases c with
  | nil=>simp at ha
  | cons p c=>exact (x6 p (by simp)).1
 have hax:lJ c=2:=by unfold lJ;rw[if_pos x5,hh]
 have d:=PS (c:=c) (l:=[a,b,k]) x5 (by rw[hax];rfl) (fun i hi=>by
  simp only[mem_cons,not_mem_nil,or_false] at hi
  rcases hi with rfl | rfl | rfl <;> assumption)
 rw[show [a,b,k].map Int.ofNat=[Int.ofNat a,Int.ofNat b,Int.ofNat k] from rfl] at d
 have gt:∀ i (hi:i<c.length),(toX c).getD i []=[(at2 (toP c) i).1,(at2 (toP c) i).2]:=fun i hi=>by
  rw[ael c i hi]
  have h1:=(x6 c[i] (getElem_mem _)).1
  have h2:(toX c).getD i []=c[i].map rq:=by
   rw[getD_eq_getElem?_getD,List.getElem?_eq_getElem (by simpa [toX] using hi)]
   simp[toX]
  rw[h2]
  generalize c[i]=p at *
  match p,h1 with
  | [x,y],_=>rfl
 refine⟨?_,by rw[d]⟩
 unfold OS
 rw[d]
 dsimp only
 rw[XP]
 simp only[jK,tail_cons,headD_cons,map_cons,map_nil,gt a ha,gt b hb,gt k hk,akn,jc]
 congr 1
theorem akL {L:Lst}(hL:bx L 15=fun a=>xC (aK a))(run:aw)(c:Pl)(hF:qz c)(a b k:Nat):az L run 15 [cE c,.imm 3 true [iv a,iv b,iv k]] (.tup [.sc (.int .i64 (OS c [Int.ofNat a,Int.ofNat b,Int.ofNat k])),iv (ma c [Int.ofNat a,Int.ofNat b,Int.ofNat k]).2]):=fun dr hp =>
 ic Hj hL run dr hp _ (eCA (c,[Int.ofNat a,Int.ofNat b,Int.ofNat k])) [.sc (.int .i64 (OS c [Int.ofNat a,Int.ofNat b,Int.ofNat k])),iv (ma c [Int.ofNat a,Int.ofNat b,Int.ofNat k]).2] rfl (by
  have h:=PQ.Yz 3 true [Int.ofNat a,Int.ofNat b,Int.ofNat k] rfl
  simp only[aK,iY]
  rw[show (PV.imm 3 true [iv a,iv b,iv k])=PV.imm 3 true ([Int.ofNat a,Int.ofNat b,Int.ofNat k].flatMap ei) from rfl,h];rfl)
  (oB (e:=eCA) (ok:=agd) (f:=fun p=>[Ab.bN (OS p.1 p.2),iv (ma p.1 p.2).2]) (fun x y _ _ h=>by rw[Mx h]) (x:=(c,[Int.ofNat a,Int.ofNat b,Int.ofNat k])) ⟨hF,by simp⟩)
theorem akF {L:Lst}(hL:bx L 30=fun a=>RH (aK a))(run:aw)(c:Pl)(s t:ByteArray)(h:IK (c,[s,t])):az L run 30 [cE c,.imm 2 true [.sc (.string s),.sc (.string t)]] (.tup [.sc (.bool (jd c [s,t]).1),iv (jd c [s,t]).2]):=fun dr hp =>
 ic Su hL run dr hp _ (cpE (c,[s,t])) [.sc (.bool (jd c [s,t]).1),iv (jd c [s,t]).2] rfl (by
  have h:=adJ.Yz 2 true [s,t] rfl
  simp only[aK,iY]
  rw[show (PV.imm 2 true [PV.sc (.string s),.sc (.string t)])=PV.imm 2 true ([s,t].flatMap es) from rfl,h];rfl)
  (oB (e:=cpE) (ok:=IK) (f:=fun a=>[.sc (.bool (jd a.1 a.2).1),iv (jd a.1 a.2).2]) (fun x y _ _ h=>by rw[ad3 h]) (x:=(c,[s,t])) h)
theorem LP (a b c:Nat):fY TT 24 3 [(0,iv a),(1,iv b),(2,iv c)]=some (1,[iv a,iv b,iv c]):=by
 simp[fY,kM,sI,zI,rep,dH,ca,show ∀ n,(iv n).cells?=some [iv n] from fun _=>rfl]
theorem VP {c:Pl}(hF:qz c)(hf:fO c=0){i k:Nat}(hi:i<c.length)(hk:k<c.length):jd c [qb (((at2 (toP c) i).1+(at2 (toP c) k).1) / 2),qb (((at2 (toP c) i).2+(at2 (toP c) k).2) / 2)]=(true,0)∧Rb 200 (((at2 (toP c) i).1+(at2 (toP c) k).1) / 2)∧Rb 200 (((at2 (toP c) i).2+(at2 (toP c) k).2) / 2):=by
 obtain⟨x1,x2,x3,x4,x5,x6⟩:=kB hf hF
 have hi':i<(toP c).length:=by omega
 have hk':k<(toP c).length:=by omega
 have r2:Rb 1 (2:Rat):=by constructor <;> unfold Nb <;> decide
 have m1:=(((x2 i hi').1.add (x2 k hk').1).div r2 (by decide)).mono (show _≤200 by omega)
 have m2:=(((x2 i hi').2.add (x2 k hk').2).div r2 (by decide)).mono (show _≤200 by omega)
 have p1:at2 (toP c) i ∈ toP c:=by rw[fK hi'];exact getElem_mem _
 have p2:at2 (toP c) k ∈ toP c:=by rw[fK hk'];exact getElem_mem _
 generalize at2 (toP c) i=A at *
 generalize at2 (toP c) k=B at *
 refine⟨?_,m1,m2⟩
 have v1:IsV (qb ((A.1+B.1) / 2)):=⟨_,rfl,m1.mono (by omega)⟩
 have v2':IsV (qb ((A.2+B.2) / 2)):=⟨_,rfl,m2.mono (by omega)⟩
 have e:jz [qb ((A.1+B.1) / 2),qb ((A.2+B.2) / 2)]=((A.1+B.1) / 2,(A.2+B.2) / 2):=by
  unfold jz
  show (rq (qb _),rq (qb _))=_
  rw[Ll,Ll]
 have hin:Jf (toP c) (jz [qb ((A.1+B.1) / 2),qb ((A.2+B.2) / 2)])=true:=by
  rw[e];exact iy (xW.2 (agz p1 p2 rfl rfl))
 unfold jd
 rw[decide_eq_true hf,hin]
 simp[iy v1,iy v2']
def lhC:Code:=Tryz.f8.body.getD .skip
def lhT:Code:=aQ (aQ (aQ (aQ lhC)))
def lhU:Code:=aQ lhT
def lhV:Code:=aQ lhU
def I7:Code:=(aA (seq1 lhT)).getD .skip
def agQ:Code:=jb I7
def ve:Code:=(aA (seq1 lhU)).getD .skip
def qf:Code:=jb ve
def Ps:Code:=aQ (aQ qf)
def Pt:Code:=(aA qf).getD .skip
def agP:Code:=jb Pt
def y8:Code:=(aA (seq1 lhV)).getD .skip
def Cf:Code:=jb y8
def I6:Code:=(aA Cf).getD .skip
def xS:Code:=jb I6
theorem agR:lhC = .seq (seq1 lhC) (.seq (seq1 (aQ lhC)) (.seq (seq1 (aQ (aQ lhC))) (.seq (seq1 (aQ (aQ (aQ lhC)))) (.seq (.seq (seq1 (seq1 lhT)) (.block 0 (.loop I7))) (.seq (.seq (seq1 (seq1 lhU)) (.block 2 (.loop ve))) (.seq (.seq (seq1 (seq1 lhV)) (.block 6 (.loop y8))) (aQ lhV))))))):=rfl
theorem acO:qf = .seq (seq1 qf) (.seq (.seq (seq1 (seq1 (aQ qf))) (.block 4 (.loop Pt))) (.seq (seq1 Ps) (aQ Ps))):=rfl
theorem acN:Cf = .seq (seq1 Cf) (.block 8 (.loop I6)):=rfl
theorem acM:xS = .seq (seq1 xS) (.seq (seq1 (aQ xS)) (aQ (aQ xS))):=rfl
section
variable (L:Lst) (run:aw) (k:Nat)
theorem ajM (C:PV):∃ fr,ae (CC L) run k (seq1 lhC) ⟨entry 201 [C],[],[]⟩=some (.normal,⟨fr,[],[]⟩)∧fr.length=201∧nth fr 0=C:=by
 obtain⟨e1,e2⟩:=cO 200 C
 generalize entry 201 [C]=fr0 at *
 simp[lhC,Tryz.f8,seq1,ae,aH,ao,aq,aG,ag,ah,an,aj,aF,aC,FzZ,av,af,ab,e1,e2]
theorem Wm (c:Pl)(lg:Bool)(e:Nat)(h:lg=true∨e≠0∨c=[]∨hdL c≠2)(g1:az L run 11 [cE c] (.sc (.bool lg)))(g2:lg=false→az L run 22 [cE c] (iv e))(g3:az L run 12 [] (.sc (.bool true))) :
  ∃ st,ae (CC L) run k lhC ⟨entry 201 [cE c],[],[]⟩=some (.ret,st)∧aX TT st.fr st.hp Tryz.f8.results.toList=some [.sc (.bool true)]:=by
 obtain⟨fr,a1,a2,a3⟩:=ajM L run k (cE c)
 suffices hs:∃ st,ae (CC L) run k (seq1 (aQ lhC)) ⟨fr,[],[]⟩=some (.ret,st)∧aX TT st.fr st.hp Tryz.f8.results.toList=some [.sc (.bool true)] by
  obtain⟨st,b1,b2⟩:=hs
  exact⟨st,by rw[agR];exact (ar a1).trans (bO b1),b2⟩
 unfold az iv at *
 cases lg with
 | true =>
  generalize cE c=C at *
  simp[lhC,Tryz.f8,seq1,aQ,ae,aH,ao,aq,aG,ag,ah,aM,an,aj,aF,aC,FzZ,av,aa,af,ab,a2,a3,g1,g3,undef,aX]
 | false =>
  replace g2:=g2 rfl
  by_cases he:e=0
  ·subst he
   cases c with
   | nil =>
    have hl:cX (cE [])=some 0:=eG []
    generalize cE []=C at *
    simp[lhC,Tryz.f8,seq1,aQ,ae,aH,ao,aq,aG,ag,ah,aM,an,aj,aF,aC,FzZ,aZ,au,bf,av,bL,aa,af,ab,bc,a2,a3,g1,g2,g3,hl,uCl,undef,aX]
   | cons p c =>
    have hp:p.length≠2:=by
     rcases h with h | h | h | h
     ·cases h
     ·exact absurd rfl h
     ·cases h
     ·exact h
    have hl:cX (cE (p::c))=some (c.length+1):=eG _
    obtain⟨r,x1,x2⟩:=jH uCl (p::c) 0 (by simp)
    replace x1:bd TT 23 (cE (p::c)) (.sc (.int .i64 0))=some (.iptr r):=x1
    rw[getElem_cons_zero] at x2
    have hpl:=eF p
    have hb:(((p.length:Nat):Int) != 2)=true:=by
     have:((p.length:Nat):Int)≠2:=by omega
     simpa using this
    have hb0:(((c.length+1:Nat):Int) == 0)=false:=by
     have:((c.length+1:Nat):Int)≠0:=by omega
     simpa using this
    generalize cE (p::c)=C at *
    generalize c.length+1=n at *
    generalize pE p=P at *
    generalize p.length=m at *
    simp[lhC,Tryz.f8,seq1,aQ,ae,aH,ao,aq,aG,ag,ah,aM,an,aj,aF,aC,FzZ,aZ,au,bf,av,bL,partOf,aa,af,ab,bc,a2,a3,g1,g2,g3,hl,hb0,x1,x2,hpl,hb,uCl,uPt,aPt,sPt,aU,undef,aX]
  ·have hb:(((e:Nat):Int) != 0)=true:=by simpa using he
   generalize cE c=C at *
   simp[lhC,Tryz.f8,seq1,aQ,ae,aH,ao,aq,aG,ag,ah,aM,an,aj,aF,aC,FzZ,aZ,au,bf,av,aa,af,ab,a2,a3,g1,g2,g3,hb,undef,aX]
theorem agO (c:Pl)(l:PV)(m:Nat)(hc:c≠[])(hp2:hdL c=2)(hl:cX l=some m)(hm:m≠0)(hmc:m≤c.length)(g1:az L run 11 [cE c] (.sc (.bool false)))(g2:az L run 22 [cE c] (iv 0))(g3:az L run 12 [] (.sc (.bool true)))(g4:az L run 28 [cE c] (.tup [l,iv 0])) :
  ∃ fr0 fr1 fr2 fr3,ae (CC L) run k (seq1 lhC) ⟨entry 201 [cE c],[],[]⟩=some (.normal,⟨fr0,[],[]⟩)∧ae (CC L) run k (seq1 (aQ lhC)) ⟨fr0,[],[]⟩=some (.normal,⟨fr1,[],[]⟩)∧ae (CC L) run k (seq1 (aQ (aQ lhC))) ⟨fr1,[],[]⟩=some (.normal,⟨fr2,[],[]⟩)∧ae (CC L) run k (seq1 (aQ (aQ (aQ lhC)))) ⟨fr2,[],[]⟩=some (.normal,⟨fr3,[],[]⟩)∧fr3.length=201∧nth fr3 0=cE c∧nth fr3 3=l:=by
 obtain⟨fr,a1,a2,a3⟩:=ajM L run k (cE c)
 obtain⟨p,c',rfl⟩:=exists_cons_of_ne_nil hc
 have hp2:p.length=2:=hp2
 have hlc:cX (cE (p::c'))=some (p::c').length:=eG _
 obtain⟨r,x1,x2⟩:=jH uCl (p::c') 0 (by simp)
 replace x1:bd TT 23 (cE (p::c')) (.sc (.int .i64 0))=some (.iptr r):=x1
 rw[getElem_cons_zero] at x2
 have hpl:=eF p
 rw[hp2] at hpl
 have hb0:(((p::c').length:Int) == 0)=false:=by
  have:(((p::c').length:Nat):Int)≠0:=by simp;omega
  simpa using this
 have hbm:((m:Int) == 0)=false:=by
  have:(m:Int)≠0:=by omega
  simpa using this
 have hgt : ¬ (((p::c').length:Nat):Int)<(m:Int):=by omega
 generalize (p::c').length=n at *
 generalize cE (p::c')=C at *
 generalize pE p=P at *
 unfold az iv at *
 obtain⟨fr1,b1,b2,b3⟩:∃ fr1,ae (CC L) run k (seq1 (aQ lhC)) ⟨fr,[],[]⟩=some (.normal,⟨fr1,[],[]⟩)∧fr1.length=201∧nth fr1 0=C:=by
  simp[lhC,Tryz.f8,seq1,aQ,ae,aH,ao,aq,aG,ag,ah,aM,an,aj,aF,aC,FzZ,aZ,au,bf,av,bL,partOf,unP,aa,af,ab,bc,a2,a3,g1,g2,g3,hlc,hb0,x1,x2,hpl,uCl,uPt,aPt,sPt,aU]
 obtain⟨fr2,d1,d2,d3,d4,d5⟩:∃ fr2,ae (CC L) run k (seq1 (aQ (aQ lhC))) ⟨fr1,[],[]⟩=some (.normal,⟨fr2,[],[]⟩)∧fr2.length=201∧nth fr2 0=C∧nth fr2 3=l∧nth fr2 4 = .sc (.int .i64 0):=by
  simp[lhC,Tryz.f8,seq1,aQ,ae,aH,ao,aq,aG,ag,ah,aM,an,aj,aF,aC,FzZ,aa,af,ab,b2,b3,g4]
 obtain⟨fr3,e1,e2,e3,e4⟩:∃ fr3,ae (CC L) run k (seq1 (aQ (aQ (aQ lhC)))) ⟨fr2,[],[]⟩=some (.normal,⟨fr3,[],[]⟩)∧fr3.length=201∧nth fr3 0=C∧nth fr3 3=l:=by
  simp[lhC,Tryz.f8,seq1,aQ,ae,aH,ao,aq,aG,ag,ah,an,aj,aF,aC,FzZ,aZ,au,bf,av,bL,aa,af,ab,bc,d2,d3,d4,d5,hl,hlc,hbm,hgt,kM,uCl]
 exact⟨fr,fr1,fr2,fr3,a1,b1,d1,e1,e2,e3,e4⟩
end
section
variable (L:Lst) (run:aw) (k:Nat) (fr:Ψ) (hp:Θ) (wr:Ω)
theorem ala (h0:fr.length=201):∃ fr',ae (CC L) run k (seq1 (seq1 lhT)) ⟨fr,hp,wr⟩=some (.normal,⟨fr',hp,wr⟩)∧nth fr' 5=iv 0:=by
 simp[iv,lhT,lhC,Tryz.f8,seq1,aQ,ae,aH,ao,aq,aG,ag,ah,an,aj,aF,aC,FzZ,av,aa,h0]
theorem ajL (h0:fr.length=201):∃ fr',ae (CC L) run k (seq1 (seq1 lhU)) ⟨fr,hp,wr⟩=some (.normal,⟨fr',hp,wr⟩)∧nth fr' 6=iv 0:=by
 simp[iv,lhU,lhT,lhC,Tryz.f8,seq1,aQ,ae,aH,ao,aq,aG,ag,ah,an,aj,aF,aC,FzZ,av,aa,h0]
theorem ajJ (h0:fr.length=201):∃ fr',ae (CC L) run k (seq1 (seq1 (aQ qf))) ⟨fr,hp,wr⟩=some (.normal,⟨fr',hp,wr⟩)∧nth fr' 9=iv 0:=by
 simp[iv,qf,ve,lhU,lhT,lhC,Tryz.f8,jb,aA,seq1,aQ,ae,aH,ao,aq,aG,ag,ah,an,aj,aF,aC,FzZ,av,aa,h0]
theorem ajG (h0:fr.length=201):∃ fr',ae (CC L) run k (seq1 (seq1 lhV)) ⟨fr,hp,wr⟩=some (.normal,⟨fr',hp,wr⟩)∧nth fr' 14=iv 0:=by
 simp[iv,lhV,lhU,lhT,lhC,Tryz.f8,seq1,aQ,ae,aH,ao,aq,aG,ag,ah,an,aj,aF,aC,FzZ,av,aa,h0]
theorem ajF (h0:fr.length=201):∃ fr',ae (CC L) run k (seq1 Cf) ⟨fr,hp,wr⟩=some (.normal,⟨fr',hp,wr⟩)∧nth fr' 15=iv 0:=by
 simp[iv,Cf,y8,lhV,lhU,lhT,lhC,Tryz.f8,jb,aA,seq1,aQ,ae,aH,ao,aq,aG,ag,ah,an,aj,aF,aC,FzZ,av,aa,h0]
theorem ajC (h0:fr.length=201):∃ st,ae (CC L) run k (aQ lhV) ⟨fr,hp,wr⟩=some (.ret,st)∧aX TT st.fr st.hp Tryz.f8.results.toList=some [.sc (.bool true)]:=by
 simp[lhV,lhU,lhT,lhC,Tryz.f8,aQ,ae,aH,ao,aq,aG,ag,ah,an,aj,aF,aC,FzZ,av,aa,h0,aX]
theorem LX (l:Ω)(i:Nat)(hi:i<l.length):∃ r,bd TT 24 (aN l) (.sc (.int .i64 (i:Int)))=some (.iptr r)∧r.head?=some (.sc (.int .i64 (l[i]:Int))):=by
 obtain⟨r,x1,x2⟩:=LY (l.map Int.ofNat) i (by simpa using hi)
 exact⟨r,x1,by rw[x2,getElem_map];rfl⟩
theorem Cg (l:Ω):cX (aN l)=some l.length:=by
 show cX (aE (l.map Int.ofNat))=_
 rw[Ch,length_map]
theorem ak9 (C:PV)(n:Nat)(l:Ω)(i:Nat)(hi:i<l.length)(hn:l[i]<n)(hlC:cX C=some n)(h0:fr.length=201)(h00:nth fr 0=C)(h3:nth fr 3=aN l)(h5:nth fr 5=iv i):∃ fr' wr',ae (CC L) run k (.block 1 agQ) ⟨fr,hp,wr⟩=some (.normal,⟨fr',hp,wr'⟩):=by
 obtain⟨r,x1,x2⟩:=LX l i hi
 have hge : ¬ (n:Int)≤(l[i]:Int):=by omega
 have hlt : ¬ ((l[i]:Int)<0):=by omega
 generalize l[i]=m at *
 simp only[iv] at h5
 simp[agQ,I7,lhT,lhC,Tryz.f8,jb,aA,seq1,aQ,ae,aH,ao,aq,aG,ag,ah,an,aj,aF,aC,FzZ,aZ,au,bf,av,bL,partOf,aa,af,ab,bc,h0,h00,h3,h5,x1,x2,hlC,hge,hlt,uCl,aI,sI,aU]
theorem ajK (l:Ω)(i j:Nat)(hi:i<l.length)(hj:j=(i+1) % l.length)(hjl:j<l.length)(h9:l.length<1000)(h0:fr.length=201)(h3:nth fr 3=aN l)(h6:nth fr 6=iv i):∃ fr' wr',ae (CC L) run k (seq1 qf) ⟨fr,hp,wr⟩=some (.normal,⟨fr',hp,wr'⟩)∧nth fr' 7=iv l[i]∧nth fr' 8=iv l[j]:=by
 obtain⟨r,x1,x2⟩:=LX l i hi
 obtain⟨s,y1,y2⟩:=LX l j hjl
 have hll:=Cg l
 have w1:bA .i64 ((i:Int)+1)=((i+1:Nat):Int):=by
  simpa using dm .i64 i 1 (i+1) rfl (hiI (by omega))
 have w2:((i+1:Nat):Int).tmod (l.length:Int)=(j:Int):=by rw[hj];exact (Int.ofNat_tmod (i+1) l.length).symm
 have hn0:l.length≠0:=by omega
 generalize aN l=A at *
 generalize l[i]=m at *
 generalize l[j]=m' at *
 generalize ((i+1:Nat):Int)=I1 at *
 generalize l.length=n at *
 simp only[iv] at h6
 simp[iv,qf,ve,lhU,lhT,lhC,Tryz.f8,jb,aA,seq1,aQ,ae,aH,ao,aq,aG,ag,ah,an,aj,aF,aC,FzZ,aZ,au,bf,av,bL,partOf,aa,af,ab,bc,and_assoc,h0,h3,h6,x1,x2,y1,y2,hll,w1,w2,hn0,kM,aI,sI,aU,number,FP.free]
theorem ajI (C:PV)(a b q:Nat)(s:Int)(hs:0≤s)(g:az L run 15 [C,.imm 3 true [iv a,iv b,iv q]] (.tup [.sc (.int .i64 s),iv 0]))(h0:fr.length=201)(h00:nth fr 0=C)(h7:nth fr 7=iv a)(h8:nth fr 8=iv b)(h9:nth fr 9=iv q):∃ fr' wr',ae (CC L) run k (.block 5 agP) ⟨fr,hp,wr⟩=some (.normal,⟨fr',hp,wr'⟩):=by
 have l1:=LP a b q
 have hid:bV [iv a,iv b,iv q]=true:=rfl
 have hlt : ¬ s<0:=by omega
 unfold az at g
 generalize iv a=va at *
 generalize iv b=vb at *
 generalize iv q=vq at *
 simp only[iv] at g
 simp[agP,Pt,qf,ve,lhU,lhT,lhC,Tryz.f8,jb,aA,seq1,aQ,ae,aH,ao,aq,aG,ag,ah,aM,an,aj,aF,aC,FzZ,aZ,au,bf,av,aa,af,ab,bc,h0,h00,h7,h8,h9,l1,hid,g,hlt]
theorem ajH (C:PV)(l:Ω)(i j:Nat)(a b:Nat)(s:Int)(e:Nat)(hi:i<l.length)(hj:j=(i+2) % l.length)(hjl:j<l.length)(h9:l.length<1000)(hok:2<l.length→e=0∧s=1)(g:az L run 15 [C,.imm 3 true [iv a,iv b,iv l[j]]] (.tup [.sc (.int .i64 s),iv e]))(h0:fr.length=201)(h00:nth fr 0=C)(h3:nth fr 3=aN l)(h6:nth fr 6=iv i)(h7:nth fr 7=iv a)(h8:nth fr 8=iv b):∃ fr' wr',ae (CC L) run k (.seq (seq1 Ps) (aQ Ps)) ⟨fr,hp,wr⟩=some (.normal,⟨fr',hp,wr'⟩):=by
 obtain⟨r,y1,y2⟩:=LX l j hjl
 have hll:=Cg l
 have l1:=LP a b l[j]
 have hid:bV [iv a,iv b,iv l[j]]=true:=rfl
 have w1:bA .i64 ((i:Int)+2)=((i+2:Nat):Int):=by
  simpa using dm .i64 i 2 (i+2) rfl (hiI (by omega))
 have w2:((i+2:Nat):Int).tmod (l.length:Int)=(j:Int):=by rw[hj];exact (Int.ofNat_tmod (i+2) l.length).symm
 have hn0:l.length≠0:=by omega
 have hgt:(2<(l.length:Int)) ↔ 2<l.length:=by omega
 generalize aN l=A at *
 rw[show (PV.sc (.int .i64 (l[j]:Int)))=iv l[j] from rfl] at y2
 generalize iv l[j]=m' at *
 generalize ((i+2:Nat):Int)=I1 at *
 unfold az at g
 generalize iv a=va at *
 generalize iv b=vb at *
 simp only[iv] at h6 g
 by_cases h2:2<l.length
 ·obtain⟨rfl,rfl⟩:=hok h2
  have hg:=hgt.2 h2
  generalize l.length=n at *
  simp[Ps,qf,ve,lhU,lhT,lhC,Tryz.f8,jb,aA,seq1,aQ,ae,aH,ao,aq,aG,ag,ah,aM,an,aj,aF,aC,FzZ,aZ,au,bf,av,bL,partOf,aa,af,ab,bc,h0,h00,h3,h6,h7,h8,y1,y2,hll,w1,w2,hn0,l1,hid,g,hg,kM,aI,sI,aU]
 ·have hg : ¬ (2<(l.length:Int)):=fun h=>h2 (hgt.1 h)
  generalize l.length=n at *
  simp[Ps,qf,ve,lhU,lhT,lhC,Tryz.f8,jb,aA,seq1,aQ,ae,aH,ao,aq,aG,ag,ah,aM,an,aj,aF,aC,FzZ,aZ,au,bf,av,bL,partOf,aa,af,ab,bc,h0,h00,h3,h6,h7,h8,y1,y2,hll,w1,w2,hn0,l1,hid,g,hg,kM,aI,sI,aU,undef]
end
section
variable (L:Lst) (run:aw) (k:Nat) (fr:Ψ) (hp:Θ) (wr:Ω)
theorem ajE (X:List P2)(i j:Nat)(hi:i<X.length)(hj:j<X.length)(x y:Rat)(g1:az L run 24 [qt (at2 X i).1,qt (at2 X j).1] (qt x))(g2:az L run 25 [qt x,qt 2] (qt (x / 2)))(g3:az L run 24 [qt (at2 X i).2,qt (at2 X j).2] (qt y))(g4:az L run 25 [qt y,qt 2] (qt (y / 2)))(h0:fr.length=201)(h00:nth fr 0=qP X)(h14:nth fr 14=iv i)(h15:nth fr 15=iv j):∃ fr' wr',ae (CC L) run k (seq1 xS) ⟨fr,hp,wr⟩=some (.normal,⟨fr',hp,wr'⟩)∧nth fr' 16 = .imm 2 true [qt (x / 2),qt (y / 2)]:=by
 obtain⟨r1,x1,x2⟩:=LW uCl X i hi
 obtain⟨r2,y1,y2⟩:=LW uCl X j hj
 obtain⟨s1,s2,a1,a2,a3,a4⟩:=Fj (qb (at2 X i).1) (qb (at2 X i).2)
 obtain⟨t1,t2,b1,b2,b3,b4⟩:=Fj (qb (at2 X j).1) (qb (at2 X j).2)
 rw[show pE [qb (at2 X i).1,qb (at2 X i).2]=q2 (at2 X i) from rfl] at a1 a3
 rw[show pE [qb (at2 X j).1,qb (at2 X j).2]=q2 (at2 X j) from rfl] at b1 b3
 have l1:=agL (qb (x / 2)) (qb (y / 2))
 unfold az qt at *
 rw[qb2] at g2 g4
 have hid:∀ u v,bV [PV.sc (.string u),.sc (.string v)]=true:=fun _ _=>rfl
 generalize q2 (at2 X i)=Qi at *
 generalize q2 (at2 X j)=Qj at *
 generalize qb (at2 X i).1=xi at *
 generalize qb (at2 X i).2=yi at *
 generalize qb (at2 X j).1=xj at *
 generalize qb (at2 X j).2=yj at *
 generalize qb (x / 2)=mx at *
 generalize qb (y / 2)=my at *
 generalize qb x=sx at *
 generalize qb y=sy at *
 simp only[iv] at h14 h15
 simp[xS,I6,Cf,y8,lhV,lhU,lhT,lhC,Tryz.f8,jb,aA,seq1,aQ,ae,aH,ao,aq,aG,ag,ah,aM,an,aj,aF,aC,FzZ,av,partOf,aa,af,ab,bc,and_assoc,h0,h00,h14,h15,x1,x2,y1,y2,a1,a2,a3,a4,b1,b2,b3,b4,g1,g2,g3,g4,l1,hid,aPt,sPt,pP,nt,aU,number,FP.free]
theorem ajD (C P:PV)(g:az L run 30 [C,P] (.tup [.sc (.bool true),iv 0]))(h0:fr.length=201)(h00:nth fr 0=C)(h16:nth fr 16=P):∃ fr' wr',ae (CC L) run k (.seq (seq1 (aQ xS)) (aQ (aQ xS))) ⟨fr,hp,wr⟩=some (.normal,⟨fr',hp,wr'⟩):=by
 unfold az at g
 simp only[iv] at g
 simp[xS,I6,Cf,y8,lhV,lhU,lhT,lhC,Tryz.f8,jb,aA,seq1,aQ,ae,aH,ao,aq,aG,ag,ah,aM,an,aj,aF,aC,FzZ,aZ,au,bf,av,unP,aa,af,ab,h0,h00,h16,g]
end
def LHu:Lst:=[(11,I5),(22,Cy),(12,ir []),(28,WJ),(15,xC),(30,RH),(24,wT),(25,ovF)]
theorem aik:dE base.P LHu:=⟨Pr,sX,aek,Iw,B9,It,Af,abF,trivial⟩
theorem acL (k:Nat)(hk:100<k)(c:Pl)(hF:qz c)(hf:fO c=0)(hne:c≠[])(h11:c.length≤11)(fr:Ψ)(h0:fr.length=201)(h00:nth fr 0=cE c)(h3:nth fr 3=aN (lb (toP c))) :
  ∃ st,ae (CC LHu) (runK (CC LHu) k) k lhT ⟨fr,[],[]⟩=some (.ret,st)∧aX TT st.fr st.hp Tryz.f8.results.toList=some [.sc (.bool true)]:=by
 obtain⟨x1,x2,x3,x4,x5,x6⟩:=kB hf hF
 have hlX:(lb (toP c)).length≤c.length:=by rw[← x3];exact Fq _
 have hpos:0<(lb (toP c)).length:=Fp (fun e=>hne (length_eq_zero_iff.1 (by rw[← x3,e];rfl)))
 obtain⟨l,hld⟩:∃ l,lb (toP c)=l:=⟨_,rfl⟩
 rw[hld] at h3 hlX hpos
 have hat:∀ i (h:i<l.length),l[i]<c.length∧(il (srt (toP c)))[i]?=some (at2 (toP c) l[i]):=fun i h=>by
  have:=WI (X:=toP c) (i:=i) (m:=l[i]) (by rw[hld];exact List.getElem?_eq_getElem h)
  rw[x3] at this
  exact this
 have hn:(il (srt (toP c))).length=l.length:=by rw[← qg,hld]
 have hlc:=eG c
 have hll:=Cg l
 have gO:∀ a b q,a<c.length→b<c.length→q<c.length→az LHu (runK (CC LHu) k) 15 [cE c,.imm 3 true [iv a,iv b,iv q]] (.tup [.sc (.int .i64 (ko (cr (at2 (toP c) a) (at2 (toP c) b) (at2 (toP c) q)))),iv 0]):=fun a b q ha hb hq=>by
  have:=akL (L:=LHu) rfl (runK (CC LHu) k) c hF a b q
  obtain⟨o1,o2⟩:=or3 hF hf ha hb hq
  rw[o1,o2] at this
  exact this
 obtain⟨fr1,a1,a2⟩:=ala LHu (runK (CC LHu) k) k fr [] [] h0
 have K1:=bj _ a1
 have l1:=K1.len h0
 obtain⟨fr2,hp2,wr2,b1,K2,b3⟩:=Lp.go (C:=CC LHu) (run:=runK (CC LHu) k) (k:=k) (l:=y7 I7) (body:=agQ) (m:=201) (B:=I7) rfl (by kernel_rfl) (by kernel_rfl) (by kernel_rfl) ⟨_,kM⟩ (n:=l.length) (j0:=0) (by omega) (by omega) (by omega)
  (J:=fun j f hp'=>hp'=[]) (fr0:=fr1) (hp0:=[]) (wr0:=[]) l1 (K1.at h3) hll a2
  (fun _ _ _ _ _ h=>h)
  (fun j fr' hp' wr' _ hj hK hij hJ=>by
   obtain⟨fr'',wr'',y⟩:=ak9 LHu (runK (CC LHu) k) k fr' hp' wr' (cE c) c.length l j hj (hat j hj).1 hlc (hK.len l1) (hK.at (K1.at h00)) (hK.at (K1.at h3)) hij
   exact⟨fr'',hp',wr'',y,hJ⟩)
  rfl
 subst b3
 have l2:=K2.len l1
 have f0:=K2.at (K1.at h00)
 have f3:=K2.at (K1.at h3)
 obtain⟨fr3,c1,c2⟩:=ajL LHu (runK (CC LHu) k) k fr2 [] wr2 l2
 have K3:=bj _ c1
 have l3:=K3.len l2
 have g0:=K3.at f0
 have g3:=K3.at f3
 obtain⟨fr4,hp4,wr4,d1,K4,d3⟩:=Lp.go (C:=CC LHu) (run:=runK (CC LHu) k) (k:=k) (l:=y7 ve) (body:=qf) (m:=201) (B:=ve) rfl (by kernel_rfl) (by kernel_rfl) (by kernel_rfl) ⟨_,kM⟩ (n:=l.length) (j0:=0) (by omega) (by omega) (by omega)
  (J:=fun j f hp'=>hp'=[]) (fr0:=fr3) (hp0:=[]) (wr0:=wr2) l3 g3 hll c2
  (fun _ _ _ _ _ h=>h)
  (fun i fr' hp' wr' _ hi hK hij hJ=>by
   subst hJ
   have e0:=hK.len l3
   have e00:=hK.at g0
   have e3:=hK.at g3
   have hj:(i+1) % l.length<l.length:=Nat.mod_lt _ hpos
   have ht:(i+2) % l.length<l.length:=Nat.mod_lt _ hpos
   obtain⟨p1,p2⟩:=hat i hi
   obtain⟨q1,q2⟩:=hat _ hj
   obtain⟨r1,r2⟩:=hat _ ht
   obtain⟨fr5,wr5,m1,m2,m3⟩:=ajK LHu (runK (CC LHu) k) k fr' [] wr' l i _ hi rfl hj (by omega) e0 e3 hij
   have K5:=bj _ m1
   obtain⟨fr6,n1,n2⟩:=ajJ LHu (runK (CC LHu) k) k fr5 [] wr5 (K5.len e0)
   have K6:=bj _ n1
   have l6:=K6.len (K5.len e0)
   have u0:=K6.at (K5.at e00)
   have u7:=K6.at m2
   have u8:=K6.at m3
   obtain⟨fr7,hp7,wr7,o1,K7,o3⟩:=Lp.go (C:=CC LHu) (run:=runK (CC LHu) k) (k:=k) (l:=y7 Pt) (body:=agP) (m:=201) (B:=Pt) rfl (by kernel_rfl) (by kernel_rfl) (by kernel_rfl) ⟨_,uCl⟩ (n:=c.length) (j0:=0) (by omega) (by omega) (by omega)
    (J:=fun j f hp'=>hp'=[]) (fr0:=fr6) (hp0:=[]) (wr0:=wr5) l6 u0 hlc n2
    (fun _ _ _ _ _ h=>h)
    (fun q fr'' hp'' wr'' _ hq hK' hij' hJ'=>by
     subst hJ'
     have hs:=Lc (X:=toP c) (q:=at2 (toP c) q) hn hi rfl p2 q2 (by rw[fK (by omega:q<(toP c).length)];exact getElem_mem _)
     obtain⟨w1,w2,w3⟩:=ajI LHu (runK (CC LHu) k) k fr'' [] wr'' (cE c) _ _ q _ (by
      rcases wK (cr (at2 (toP c) l[i]) (at2 (toP c) l[(i+1) % l.length]) (at2 (toP c) q)) with ⟨h,e⟩| ⟨h,e⟩| ⟨h,e⟩ <;> rw[e] <;> first | omega | (exfalso;grind)) (gO _ _ q p1 q1 hq) (hK'.len l6) (hK'.at u0) (hK'.at u7) (hK'.at u8) hij'
     exact⟨w1,[],w2,w3,rfl⟩)
    rfl
   subst o3
   have l7:=K7.len l6
   obtain⟨fr8,wr8,s1⟩:=ajH LHu (runK (CC LHu) k) k fr7 [] wr7 (cE c) l i _ _ _ _ _ hi rfl ht (by omega) (fun h2=>⟨rfl,DK (Z2 hn h2 hi rfl rfl p2 q2 r2)⟩) (gO _ _ _ p1 q1 r1) l7 (K7.at u0) (K7.at (K6.at (K5.at e3))) (K7.at (K6.at (K5.at hij))) (K7.at u7) (K7.at u8)
   have hs2:ae (CC LHu) (runK (CC LHu) k) k (.seq (seq1 (seq1 (aQ qf))) (.block 4 (.loop Pt))) ⟨fr5,[],wr5⟩=some (.normal,⟨fr7,[],wr7⟩):=by rw[ar n1];exact o1
   have hX:ae (CC LHu) (runK (CC LHu) k) k qf ⟨fr',[],wr'⟩=some (.normal,⟨fr8,[],wr8⟩):=by
    rw[acO,ar m1,ar hs2,s1]
   exact⟨fr8,[],wr8,by rw[show (y7 ve).e2=3 from rfl,ae,hX],rfl⟩)
  rfl
 subst d3
 have l4:=K4.len l3
 have v0:=K4.at g0
 obtain⟨fr5,e1,e2⟩:=ajG LHu (runK (CC LHu) k) k fr4 [] wr4 l4
 have K5:=bj _ e1
 have l5:=K5.len l4
 have w0:=K5.at v0
 obtain⟨fr6,hp6,wr6,m1,K6,m3⟩:=Lp.go (C:=CC LHu) (run:=runK (CC LHu) k) (k:=k) (l:=y7 y8) (body:=Cf) (m:=201) (B:=y8) rfl (by kernel_rfl) (by kernel_rfl) (by kernel_rfl) ⟨_,uCl⟩ (n:=c.length) (j0:=0) (by omega) (by omega) (by omega)
  (J:=fun j f hp'=>hp'=[]) (fr0:=fr5) (hp0:=[]) (wr0:=wr4) l5 w0 hlc e2
  (fun _ _ _ _ _ h=>h)
  (fun i fr' hp' wr' _ hi hK hij hJ=>by
   subst hJ
   have y0:=hK.len l5
   have y00:=hK.at w0
   obtain⟨fr7,n1,n2⟩:=ajF LHu (runK (CC LHu) k) k fr' [] wr' y0
   have K7:=bj _ n1
   have l7:=K7.len y0
   have z0:=K7.at y00
   have z14:=K7.at hij
   obtain⟨fr8,hp8,wr8,o1,K8,o3⟩:=Lp.go (C:=CC LHu) (run:=runK (CC LHu) k) (k:=k) (l:=y7 I6) (body:=xS) (m:=201) (B:=I6) rfl (by kernel_rfl) (by kernel_rfl) (by kernel_rfl) ⟨_,uCl⟩ (n:=c.length) (j0:=0) (by omega) (by omega) (by omega)
    (J:=fun j f hp'=>hp'=[]) (fr0:=fr7) (hp0:=[]) (wr0:=wr') l7 z0 hlc n2
    (fun _ _ _ _ _ h=>h)
    (fun j fr'' hp'' wr'' _ hj hK' hij' hJ'=>by
     subst hJ'
     have t0:=hK'.len l7
     have t00:=hK'.at z0
     have hi':i<(toP c).length:=by omega
     have hj':j<(toP c).length:=by omega
     have r2:Rb 1 (2:Rat):=by constructor <;> unfold Nb <;> decide
     have s1:=x2 i hi'
     have s2:=x2 j hj'
     obtain⟨p1,p2,p3⟩:=VP hF hf hi hj
     obtain⟨fr9,wr9,q1,q2⟩:=ajE LHu (runK (CC LHu) k) k fr'' [] wr'' (toP c) i j hi' hj' _ _ (akJ rfl _ s1.1 s2.1 (by omega)) (akK rfl _ (s1.1.add s2.1) r2 (by omega) (by omega) (by decide)) (akJ rfl _ s1.2 s2.2 (by omega)) (akK rfl _ (s1.2.add s2.2) r2 (by omega) (by omega) (by decide)) t0 (by rw[t00,x1]) (hK'.at z14) hij'
     have K9:=bj _ q1
     have gW:=akF (L:=LHu) rfl (runK (CC LHu) k) c (qb (((at2 (toP c) i).1+(at2 (toP c) j).1) / 2)) (qb (((at2 (toP c) i).2+(at2 (toP c) j).2) / 2)) ⟨⟨hF,by simp,fun s hs=>by
      simp only[mem_cons,not_mem_nil,or_false] at hs
      rcases hs with rfl | rfl
      ·exact Nat.le_trans (Ir p2) (by omega)
      ·exact Nat.le_trans (Ir p3) (by omega)⟩,fun _=>h11⟩
     rw[p1] at gW
     obtain⟨fr10,wr10,u1⟩:=ajD LHu (runK (CC LHu) k) k fr9 [] wr9 (cE c) _ gW (K9.len t0) (K9.at t00) q2
     have hX:ae (CC LHu) (runK (CC LHu) k) k xS ⟨fr'',[],wr''⟩=some (.normal,⟨fr10,[],wr10⟩):=by
      rw[acM,ar q1];exact u1
     exact⟨fr10,[],wr10,by rw[show (y7 I6).e2=9 from rfl,ae,hX],rfl⟩)
    rfl
   subst o3
   have hX:ae (CC LHu) (runK (CC LHu) k) k Cf ⟨fr',[],wr'⟩=some (.normal,⟨fr8,[],wr8⟩):=by
    rw[acN,ar n1];exact o1
   exact⟨fr8,[],wr8,by rw[show (y7 y8).e2=7 from rfl,ae,hX],rfl⟩)
  rfl
 subst m3
 obtain⟨st,z1,z2⟩:=ajC LHu (runK (CC LHu) k) k fr6 [] wr6 (K6.len l5)
 refine⟨st,?_,z2⟩
 have s1:ae (CC LHu) (runK (CC LHu) k) k (.seq (seq1 (seq1 lhT)) (.block 0 (.loop I7))) ⟨fr,[],[]⟩=some (.normal,⟨fr2,[],wr2⟩):=by rw[ar a1];exact b1
 have s2:ae (CC LHu) (runK (CC LHu) k) k (.seq (seq1 (seq1 lhU)) (.block 2 (.loop ve))) ⟨fr2,[],wr2⟩=some (.normal,⟨fr4,[],wr4⟩):=by rw[ar c1];exact d1
 have s3:ae (CC LHu) (runK (CC LHu) k) k (.seq (seq1 (seq1 lhV)) (.block 6 (.loop y8))) ⟨fr4,[],wr4⟩=some (.normal,⟨fr6,[],wr6⟩):=by rw[ar e1];exact m1
 rw[show lhT = .seq (.seq (seq1 (seq1 lhT)) (.block 0 (.loop I7))) (.seq (.seq (seq1 (seq1 lhU)) (.block 2 (.loop ve))) (.seq (.seq (seq1 (seq1 lhV)) (.block 6 (.loop y8))) (aQ lhV))) from rfl,ar s1,ar s2,ar s3]
 exact z1
def ajq (c:Pl):Prop:=∀ q ∈ c,Bl q.length
def lhF:Ψ→Option Ψ:=ctr (fun c=>[cE c]) ajq fun _=>[.sc (.bool true)]
theorem acK:Ab.Spec base.P 8 lhF:=Ab.Spec.bS (C:=CC LHu) (cR aik) fun args rs h=>by
 obtain⟨c,hB,rfl,rfl⟩:=db h
 have g1:=aiz (L:=LHu) rfl (runK (CC LHu) 200) c hB
 have g3:=aex (L:=LHu) rfl (runK (CC LHu) 200)
 have g2:rF c=false→az LHu (runK (CC LHu) 200) 22 [cE c] (iv (chk c)):=fun h=>aiu rfl _ c (Fb h).fit
 have key:∃ st,ae (CC LHu) (runK (CC LHu) 200) 200 lhC ⟨entry 201 [cE c],[],[]⟩=some (.ret,st)∧aX TT st.fr st.hp Tryz.f8.results.toList=some [.sc (.bool true)]:=by
  by_cases he:rF c=true∨chk c≠0∨c=[]∨hdL c≠2
  ·exact Wm LHu (runK (CC LHu) 200) 200 c _ _ he g1 g2 g3
  ·simp only[not_or,Decidable.not_not] at he
   obtain⟨h1,h2,h3,h4⟩:=he
   have h1:rF c=false:=by simpa using h1
   have hF:=Fb h1
   have hf:fO c=0:=by
    unfold fO yf
    rw[if_pos h2]
    cases c with
    | nil=>rfl
    | cons p c =>
     dsimp only
     rw[if_pos (show p.length=2 from h4)]
   have h11:c.length≤11:=by
    have h64:=(kB hf hF).2.2.2.1
    unfold rF at h1
    rw[Bool.or_eq_false_iff,Bool.and_eq_false_iff] at h1
    rcases h1.1 with h | h
    ·have:=of_decide_eq_false h;omega
    ·have:=of_decide_eq_false h;omega
   have x3:=(kB hf hF).2.2.1
   have gH:=ac8 (L:=LHu) Sv rfl (runK (CC LHu) 200) c ⟨hF,fun _=>h11⟩
   have hr:rK c=lb (toP c):=by unfold rK;rw[decide_eq_true hf];rfl
   rw[hr,hf] at gH
   rw[h1] at g1
   have g2':=g2 h1
   rw[h2] at g2'
   obtain⟨fr0,fr1,fr2,fr3,a1,a2,a3,a4,a5,a6,a7⟩:=agO LHu (runK (CC LHu) 200) 200 c _ _ h3 h4 (Cg (lb (toP c))) (by
    have:=Fp (X:=toP c) (fun e=>h3 (length_eq_zero_iff.1 (by rw[← x3,e];rfl)))
    omega) (by rw[← x3];exact Fq _) g1 g2' g3 gH
   obtain⟨st,b1,b2⟩:=acL 200 (by omega) c hF hf h3 h11 fr3 a5 a6 a7
   refine⟨st,?_,b2⟩
   rw[show lhC = .seq (seq1 lhC) (.seq (seq1 (aQ lhC)) (.seq (seq1 (aQ (aQ lhC))) (.seq (seq1 (aQ (aQ (aQ lhC)))) lhT))) from rfl,ar a1,ar a2,ar a3,ar a4]
   exact b1
 obtain⟨st,c1,c2⟩:=key
 exact⟨201,_,_,_,_,_,ba CS rfl c1 c2,rfl,Wk.refl rfl,trivial⟩
theorem WV {α:Type}(f:α→PV):∀ l:List α,l.map f=l.flatMap fun a=>[f a]
 | []=>rfl
 | a::l=>by rw[map_cons,flatMap_cons,WV f l];rfl
theorem akV:Rdg Tryz.prog 39 pE fun p=>p.length≤reachBytes∧∀ s ∈ p,s.size≤reachBytes:=fun H enc W fuel cs x h hw=>by
 obtain⟨a,v,h1,h2,h3⟩:=z8 Tryz.underlying39 (by kernel_rfl) (by decide +kernel) (fun _=>rfl) (HE Tryz.underlying27) H enc W fuel cs x h hw
 refine⟨a,v,h1,h2,?_⟩
 dsimp only at h3
 rw[WV] at h3
 exact h3
theorem ag7 (p:List ByteArray):(pE p).cH=true:=by
 have:=(ahs).idf p
 simpa only[ep,bV,Bool.and_true] using this
theorem akW:Rdg Tryz.prog 23 cE fun c=>c.length≤reachBytes∧∀ p ∈ c,p.length≤reachBytes∧∀ s ∈ p,s.size≤reachBytes:=fun H enc W fuel cs x h hw=>by
 obtain⟨a,v,h1,h2,h3⟩:=z8 Tryz.underlying23 (by kernel_rfl) (by decide +kernel) ag7 akV H enc W fuel cs x h hw
 refine⟨a,v,h1,h2,?_⟩
 dsimp only at h3
 rw[WV] at h3
 exact h3
theorem ahS {n:Nat}(h:n≤reachBytes):Bl n:=Nat.lt_of_le_of_lt h (by decide)
theorem tq:∀ l:Ω,bV (l.map u8v)=true
 | []=>rfl
 | _::l=>by rw[map_cons,bV,tq l];rfl
namespace predicateSwaps
open Go.ChangeShapes Go.WideShapes Go.ChangeAt Go.RowKit List
theorem RQ {H:Type}{enc:TypeId × Value→H}{P:Program}{W:World}{t:TypeId}{v:Value}{d:DataW H}{ps:List MemPlace}(h:DataW.Trod enc P W 0 (fun _=>true) true t v d ps):∀ x ∈ ps,x.block<W.heap.size:=by
 obtain⟨fu,hf⟩:=h
 exact DataW.trod_lt _ _ _ _ hf
end predicateSwaps
end Go.Proofs.YtjdmodeenbdfpaaGreat
end
