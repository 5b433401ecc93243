/- Contracts of the two hulls, of the program and of the reference, part 49; each lemma states its conditions. -/
import Derived.Test.YtjdmodeenbdfpaaGreatU48
import Derived.Test.YtjdmodeenbdfpaaGreatU46
import Derived.Test.YtjdmodeenbdfpaaGreatU40
set_option linter.unusedSimpArgs false
set_option linter.unusedVariables false
noncomputable section
namespace Go.Proofs.YtjdmodeenbdfpaaGreat
open Go Go.Ab List Tryz
variable(L:Lst)(run:av)(k:Nat)(fr:Ψ)(hp:Θ)(wr:Ω)
theorem JW:base.F.get 30=some f30:=by kernel_rfl
theorem RH:base.shared 30=false:=by kernel_rfl
theorem Gm:base.F.get 79=some f79:=by kernel_rfl
theorem MW:base.shared 79=true:=by kernel_rfl
theorem J1:base.F.get 78=some f78:=by kernel_rfl
theorem RO:base.shared 78=true:=by kernel_rfl
theorem Bb:base.F.get 134=some f134:=by kernel_rfl
theorem Y9:base.shared 134=true:=by kernel_rfl
theorem YI(c:Pl)(z:VN)(hb:aX hp 0=some ⟨.live,[cE c]⟩) :
  ∃ st,ae (CC L) run k (f79.body.getD .skip) ⟨entry 9 [.agg (eC true z),.ptr 0 0],hp,[]⟩=some (.ret,st)∧Hgr hp st.hp∧Fr hp.length st.wr∧aY TT st.fr st.hp f79.results.toList=some [.sc (.bool (decide (z.2=c.length)))]:=by
 obtain⟨e1,e2,e3⟩:=cb 7 (.agg (eC true z)) (.ptr 0 0)
 generalize entry 9 [.agg (eC true z),.ptr 0 0]=fr0 at *
 have b1:=al1 hp (eC true z)
 have b2:=Hgr.new hp (eC true z)
 have b3:=(b2.2 0 (gp hb)).trans hb
 have hd:(bz (eC true z) 1).head?=some (.sc (.int .i64 (z.2:Int))):=rfl
 have hl:=fm c
 have hcc:(PV.agg (eC true z)).cells?=some (eC true z):=rfl
 obtain⟨u,hu⟩:∃ u,decide (z.2=c.length)=u:=⟨_,rfl⟩
 have hu':((z.2:Int) == (c.length:Int))=u:=by
  rw[← hu]
  by_cases h:z.2=c.length
  ·rw[h];simp
  ·rw[decide_eq_false h]
   have:(z.2:Int)≠(c.length:Int):=by omega
   simpa using this
 rw[hu]
 generalize eC true z=cz at *
 generalize cE c=C at *
 simp[f79,ae,aH,aq,ar,aF,ag,ah,an,aj,aC,FzZ,ba,aw,bg,au,bM,partOf,aa,af,ab,bf,rY,e1,e2,e3,hcc,b1,b2,b3,hd,hl,hu',oX,Ca,fa1,uCl,aI,sI,aCl,sCl,bz,aV,aY]
theorem YJ(c:Pl)(z:VN)(hb:aX hp 0=some ⟨.live,[cE c]⟩)(dr:Bool):bS (CC L) (runK (CC L) (k+1)) dr hp 79 [.agg (eC true z),.ptr 0 0]=some (.sc (.bool (decide (z.2=c.length))),hp,⟨[],[],true,true⟩):=by
 obtain⟨st,x1,x2,x3,x4⟩:=YI L (runK (CC L) k) k hp c z hb
 exact qB MW (gw Gm rfl x1 x4) rfl x2 x3 dr
def ri:Code:=f134.body.getD .skip
def B2:Code:=(az ri).getD .skip
def KxF (fr:Ψ)(p f:PV)(n i:Nat):Prop:=fr.length=19∧nth fr 0=p∧nth fr 1=f∧nth fr 7=iv n∧nth fr 8=iv i
theorem ab5(p f:PV)(n:Nat)(h:KxF fr p f n n) :
  ∃ fr',ae (CC L) run k B2 ⟨fr,hp,[]⟩=some (.exit 0,⟨fr',hp,[]⟩)∧fr'.length=19:=by
 obtain⟨h0,h1,h2,h7,h8⟩:=h
 simp only[iv] at h7 h8
 simp[B2,ri,f134,az,ae,aH,aq,ar,aF,ag,ah,an,aj,aC,aG,FzZ,ba,aw,bg,aa,ab,h0,h7,h8]
theorem OT(oid:Nat)(x:Bool)(O:List VN)(M:Ψ)(g:Nat)(caps:Ψ)(i:Nat)(v:Bool)(hi:i<O.length)(h9:O.length<1000000)(hm:aX hp oid=some ⟨.live,cells O M⟩)(hc:∀ dr,bS (CC L) run dr hp g ([.agg (eC true O[i])]++caps)=some (.sc (.bool v),hp,⟨[],[],true,true⟩))(h:KxF fr (.own oid 2 0 O.length x) (.clos g caps) O.length i) :
  ∃ fr',ae (CC L) run k B2 ⟨fr,hp,[]⟩=some (bif v then .ret else .normal,⟨fr',hp,[]⟩)∧(v=true→nth fr' 4=iv i)∧(v=false→KxF fr' (.own oid 2 0 O.length x) (.clos g caps) O.length (i+1)):=by
 obtain⟨h0,h1,h2,h7,h8⟩:=h
 have q1:=ki O M i hi
 have x1:=rm oid O.length i x hi
 have hw:=bE i (by omega)
 simp only[iv] at h7 h8
 simp only[cons_append,nil_append] at hc
 generalize eC true O[i]=cz at *
 cases v <;> simp[KxF,iv,B2,ri,f134,az,ae,aH,aq,ar,aF,ag,ah,aM,an,aj,aC,aG,FzZ,ba,aw,bg,au,partOf,aa,af,ab,bf,h0,h1,h2,h7,h8,hi,x1,hm,q1,hc,hw,y6,mU,aV]
theorem EU (L:Lst)(run:av)(k:Nat)(hp:Θ)(oid:Nat)(x:Bool)(O:List VN)(M:Ψ)(g:Nat)(caps:Ψ)(b:VN→Bool)(h9:O.length<1000000)(hm:aX hp oid=some ⟨.live,cells O M⟩)(hc:∀ z dr,bS (CC L) run dr hp g ([.agg (eC true z)]++caps)=some (.sc (.bool (b z)),hp,⟨[],[],true,true⟩)):∀ (n i:Nat) (fr:Ψ),i+n=O.length→KxF fr (.own oid 2 0 O.length x) (.clos g caps) O.length i →
  ((∀ z ∈ O.drop i,b z=false)∧∃ fr',cg (ae (CC L) run k B2) (n+1) ⟨fr,hp,[]⟩=some (.exit 0,⟨fr',hp,[]⟩)∧fr'.length=19)∨∃ fr' j,(∃ z ∈ O.drop i,b z=true)∧cg (ae (CC L) run k B2) (n+1) ⟨fr,hp,[]⟩=some (.ret,⟨fr',hp,[]⟩)∧nth fr' 4=iv j
 | 0,i,fr,hin,h=>by
  have e:i=O.length:=by omega
  subst e
  obtain⟨fr',q1,q2⟩:=ab5 L run k fr hp _ _ _ h
  exact .inl ⟨fun z hz=>by simp at hz,fr',br q1,q2⟩
 | n+1,i,fr,hin,h=>by
  have hi:i<O.length:=by omega
  obtain⟨fr1,q1,q2,q3⟩:=OT L run k fr hp oid x O M g caps i (b O[i]) hi h9 hm (hc _) h
  have hdr:=drop_eq_getElem_cons hi
  cases hv:b O[i] with
  | true =>
   rw[hv] at q1 q2
   exact .inr ⟨fr1,i,⟨O[i],by rw[hdr];exact mem_cons_self,hv⟩,dD q1,q2 rfl⟩
  | false =>
   rw[hv] at q1 q3
   rw[bU q1]
   rcases EU L run k hp oid x O M g caps b h9 hm hc n (i+1) fr1 (by omega) (q3 rfl) with ⟨r1,r2⟩| ⟨fr',j,⟨z,hz,hb⟩,r2⟩
   ·exact .inl ⟨fun z hz=>by
     rw[hdr] at hz
     rcases mem_cons.1 hz with rfl | hz
     ·exact hv
     ·exact r1 z hz,r2⟩
   ·exact .inr ⟨fr',j,⟨z,by rw[hdr];exact mem_cons_of_mem _ hz,hb⟩,r2⟩
def EV:Code:=seq1 (seq1 (ai 1 ri))
theorem Lm:ai 1 ri = .seq (.seq EV (.block 0 (.loop B2))) (ai 2 ri):=rfl
theorem ab4 (L:Lst)(run:av)(k:Nat)(p f:PV)(n:Nat)(hl:dc p=some n)(hp:Θ):∃ fr fr',bh (CC L) run k 1 ri ⟨entry 19 [p,f],hp,[]⟩=some ⟨fr,hp,[]⟩∧ae (CC L) run k EV ⟨fr,hp,[]⟩=some (.normal,⟨fr',hp,[]⟩)∧KxF fr' p f n 0:=by
 obtain⟨e1,e2,e3⟩:=cb 17 p f
 generalize entry 19 [p,f]=fr0 at *
 obtain⟨fr,a1,a2,a3,a4⟩:∃ fr,bh (CC L) run k 1 ri ⟨fr0,hp,[]⟩=some ⟨fr,hp,[]⟩∧fr.length=19∧nth fr 0=p∧nth fr 1=f:=by
  simp[ri,f134,bh,e1,e2,e3,ae,aH,aq,ar,aF,ag,ah,an,aj,aC,aG,FzZ,au,af,ab]
 refine⟨fr,?_⟩
 rw[a1]
 simp[KxF,iv,EV,seq1,ai,ri,f134,a2,a3,a4,ae,aH,aq,ar,aF,ag,ah,an,aj,aC,aG,FzZ,au,bM,aa,af,ab,bf,hl,ko]
theorem VA(h0:fr.length=19):∃ st,ae (CC L) run k (ai 2 ri) ⟨fr,hp,[]⟩=some (.ret,st)∧st.hp=hp∧st.wr=[]∧aY TT st.fr st.hp f134.results.toList=some [.sc (.int .i64 (-1))]:=by
 simp[ri,ai,f134,h0,ae,aH,aq,ar,aF,ag,ah,an,aj,aC,aG,FzZ,au,aa,aY]
theorem ab3(oid:Nat)(x:Bool)(O:List VN)(M:Ψ)(g:Nat)(caps:Ψ)(b:VN→Bool)(hk:O.length<k)(h9:O.length<1000000)(hm:aX hp oid=some ⟨.live,cells O M⟩)(hc:∀ z dr,bS (CC L) (runK (CC L) k) dr hp g ([.agg (eC true z)]++caps)=some (.sc (.bool (b z)),hp,⟨[],[],true,true⟩)) :
  ∃ r:Int,runK (CC L) (k+1) 134 [.own oid 2 0 O.length x,.clos g caps] hp=some ([.sc (.int .i64 r)],hp,[])∧decide (0≤r)=O.any b:=by
 obtain⟨fr,fr1,a1,a2,a3⟩:=ab4 L (runK (CC L) k) k (.own oid 2 0 O.length x) (.clos g caps) O.length rfl hp
 rcases EU L (runK (CC L) k) k hp oid x O M g caps b h9 hm hc O.length 0 fr1 (by omega) a3 with ⟨h0,fr2,b1,b2⟩| ⟨fr2,j,h0,b1,b2⟩
 ·have:ae (CC L) (runK (CC L) k) k (.seq EV (.block 0 (.loop B2))) ⟨fr,hp,[]⟩=some (.normal,⟨fr2,hp,[]⟩):=by
   rw[ao a2];exact bD (bG b1 (by omega))
  obtain⟨st,c1,c2,c3,c4⟩:=VA L (runK (CC L) k) k fr2 hp b2
  have hx:ae (CC L) (runK (CC L) k) k ri ⟨entry 19 [.own oid 2 0 O.length x,.clos g caps],hp,[]⟩=some (.ret,st):=by
   rw[aU 1 a1,Lm,ao this,c1]
  have:=gw Bb rfl hx c4
  rw[c2,c3] at this
  refine⟨-1,this,?_⟩
  have:O.any b=false:=by
   rw[any_eq_false]
   intro z hz
   rw[h0 z (by simpa using hz)];simp
  rw[this];rfl
 ·have:ae (CC L) (runK (CC L) k) k (.seq EV (.block 0 (.loop B2))) ⟨fr,hp,[]⟩=some (.ret,⟨fr2,hp,[]⟩):=by
   rw[ao a2];exact cL (bG b1 (by omega))
  have hx:ae (CC L) (runK (CC L) k) k ri ⟨entry 19 [.own oid 2 0 O.length x,.clos g caps],hp,[]⟩=some (.ret,⟨fr2,hp,[]⟩):=by
   rw[aU 1 a1,Lm,bK this]
  refine⟨j,gw Bb rfl hx (show aY TT fr2 hp f134.results.toList=some [iv j] by simp[f134,aY,b2]),?_⟩
  obtain⟨z,hz,hb⟩:=h0
  have:O.any b=true:=any_eq_true.2 ⟨z,by simpa using hz,hb⟩
  rw[this];simp
theorem acZ(p f:PV)(r:Int)(hc:∀ dr,bS (CC L) run dr hp 134 [p,f]=some (.sc (.int .i64 r),hp,⟨[],[],true,true⟩)) :
  ∃ st,ae (CC L) run k (f78.body.getD .skip) ⟨entry 9 [p,f],hp,[]⟩=some (.ret,st)∧st.hp=hp∧st.wr=[]∧aY TT st.fr st.hp f78.results.toList=some [.sc (.bool (decide (0≤r)))]:=by
 obtain⟨e1,e2,e3⟩:=cb 7 p f
 generalize entry 9 [p,f]=fr0 at *
 obtain⟨u,hu⟩:∃ u,decide (0≤r)=u:=⟨_,rfl⟩
 rw[hu]
 cases u <;> simp only[decide_eq_true_eq,decide_eq_false_iff_not] at hu <;> simp[f78,ae,aH,aq,ar,aF,ag,ah,aM,an,aj,aC,aG,FzZ,ba,aw,bg,au,aa,af,ab,e1,e2,e3,hc,hu,aY]
theorem ac0(oid:Nat)(x:Bool)(O:List VN)(M:Ψ)(c:Pl)(hk:O.length<k+1)(h9:O.length<1000000)(hm:aX hp oid=some ⟨.live,cells O M⟩)(hb:aX hp 0=some ⟨.live,[cE c]⟩)(dr:Bool):bS (CC L) (runK (CC L) (k+3)) dr hp 78 [.own oid 2 0 O.length x,.clos 79 [.ptr 0 0]]=some (.sc (.bool (O.any fun z=>decide (z.2=c.length))),hp,⟨[],[],true,true⟩):=by
 obtain⟨r,a1,a2⟩:=ab3 L (k+1) hp oid x O M 79 [.ptr 0 0] (fun z=>decide (z.2=c.length)) hk h9 hm (fun z dr=>YJ L k hp c z hb dr)
 have b1:=fun dr=>KH (L:=L) Y9 a1 rfl dr
 obtain⟨st,c1,c2,c3,c4⟩:=acZ L (runK (CC L) (k+2)) (k+2) hp _ _ r b1
 have:=gw J1 rfl c1 c4
 rw[c2,c3,a2] at this
 exact KH RO this rfl dr
def wpC:Code:=f30.body.getD .skip
def wpT:Code:=ai 6 wpC
def wpB:Code:=(az wpC).getD .skip
def wpX:Code:=blk (seq1 (aO (aO wpB)))
theorem aeg:wpT = .seq (.seq (seq1 (seq1 wpT)) (.block 0 (.loop wpB))) (aO wpT):=rfl
theorem QD:wpB = .seq (seq1 wpB) (.seq (.cond (.tmp 42) .skip (.exit 0)) (.seq (.block 1 wpX) (aO (aO (aO wpB))))):=rfl
section
variable (L:Lst) (run:av) (k:Nat)
theorem YB (C P:PV)(e:Nat)(he:e≠0)(hC:C.cells?=some [C])(g:aA L run 71 [C] (iv e)) :
  ∃ st,ae (CC L) run k wpC ⟨entry 59 [C,P],[],[]⟩=some (.ret,st)∧aY TT st.fr st.hp f30.results.toList=some [.sc (.bool false),iv e]:=by
 obtain⟨e1,e2,e3⟩:=cb 57 C P
 unfold aA iv at *
 generalize entry 59 [C,P]=fr0 at *
 have hb:(((e:Nat):Int) != 0)=true:=by simpa using he
 have h0:aX (bd [] [C]) 0=some ⟨.live,[C]⟩:=rfl
 simp[wpC,f30,ae,aH,aq,ar,aF,ag,ah,aM,an,aj,aC,aG,FzZ,ba,aw,bg,au,partOf,aa,af,ab,bf,e1,e2,g,hb,hC,h0,aCl,sCl,bz,aV,aY]
theorem YA (C:PV)(p:List ByteArray)(hp:p.length≠2)(hC:C.cells?=some [C])(g:aA L run 71 [C] (iv 0)) :
  ∃ st,ae (CC L) run k wpC ⟨entry 59 [C,pE p],[],[]⟩=some (.ret,st)∧aY TT st.fr st.hp f30.results.toList=some [.sc (.bool false),iv 10]:=by
 obtain⟨e1,e2,e3⟩:=cb 57 C (pE p)
 unfold aA iv at *
 generalize entry 59 [C,pE p]=fr0 at *
 have hl:=eF p
 generalize pE p=P at *
 have hb:(((p.length:Nat):Int) != 2)=true:=by
  have:((p.length:Nat):Int)≠2:=by omega
  simpa using this
 generalize p.length=n at *
 have h0:aX (bd [] [C]) 0=some ⟨.live,[C]⟩:=rfl
 simp[wpC,f30,ae,aH,aq,ar,aF,ag,ah,aM,an,aj,aC,aG,FzZ,ba,aw,bg,au,bM,partOf,aa,af,ab,bf,e1,e2,e3,g,hl,hb,hC,h0,uPt,aCl,sCl,bz,aV,aY]
theorem Kq (C:PV)(s t:ByteArray)(a b:Bool)(hab:a=false∨b=false)(hC:C.cells?=some [C])(g:aA L run 71 [C] (iv 0))(g1:aA L run 77 [.sc (.string s)] (.sc (.bool a)))(g2:aA L run 77 [.sc (.string t)] (.sc (.bool b))) :
  ∃ st,ae (CC L) run k wpC ⟨entry 59 [C,pE [s,t]],[],[]⟩=some (.ret,st)∧aY TT st.fr st.hp f30.results.toList=some [.sc (.bool false),iv 1]:=by
 obtain⟨e1,e2,e3⟩:=cb 57 C (pE [s,t])
 obtain⟨r,q,x1,x2,y1,y2⟩:=rl s t
 unfold aA iv at *
 generalize entry 59 [C,pE [s,t]]=fr0 at *
 have hl:=eF [s,t]
 generalize pE [s,t]=P at *
 have h0:aX (bd [] [C]) 0=some ⟨.live,[C]⟩:=rfl
 cases a
 ·simp[wpC,f30,ae,aH,aq,ar,aF,ag,ah,aM,an,aj,aC,aG,FzZ,ba,aw,bg,au,bM,partOf,unP,aa,af,ab,bf,e1,e2,e3,g,g1,hl,x1,x2,hC,h0,uPt,aCl,sCl,iJ,gN,bz,aV,undef,aY]
 ·obtain rfl:b=false:=by
   rcases hab with h | h
   ·cases h
   ·exact h
  simp[wpC,f30,ae,aH,aq,ar,aF,ag,ah,aM,an,aj,aC,aG,FzZ,ba,aw,bg,au,bM,partOf,unP,aa,af,ab,bf,e1,e2,e3,g,g1,g2,hl,x1,x2,y1,y2,hC,h0,uPt,aCl,sCl,iJ,gN,bz,aV,aY]
theorem aef (s t:ByteArray)(g:aA L run 71 [cE []] (iv 0))(g1:aA L run 77 [.sc (.string s)] (.sc (.bool true)))(g2:aA L run 77 [.sc (.string t)] (.sc (.bool true))) :
  ∃ st,ae (CC L) run k wpC ⟨entry 59 [cE [],pE [s,t]],[],[]⟩=some (.ret,st)∧aY TT st.fr st.hp f30.results.toList=some [.sc (.bool false),iv 0]:=by
 obtain⟨e1,e2,e3⟩:=cb 57 (cE []) (pE [s,t])
 obtain⟨r,q,x1,x2,y1,y2⟩:=rl s t
 unfold aA iv at *
 generalize entry 59 [cE [],pE [s,t]]=fr0 at *
 have hl:=eF [s,t]
 have hl0:dc (cE [])=some 0:=fm []
 have hC:(cE []).cells?=some [cE []]:=rfl
 generalize pE [s,t]=P at *
 generalize cE []=C at *
 have h0:aX (bd [] [C]) 0=some ⟨.live,[C]⟩:=rfl
 simp[wpC,f30,ae,aH,aq,ar,aF,ag,ah,aM,an,aj,aC,aG,FzZ,ba,aw,bg,au,bM,partOf,unP,aa,af,ab,bf,e1,e2,e3,g,g1,g2,hl,hl0,x1,x2,y1,y2,hC,h0,uPt,uCl,aCl,sCl,iJ,gN,bz,aV,aY]
theorem aee (C:PV)(n:Nat)(hn:n≠0)(hlC:dc C=some n)(s t:ByteArray)(z:VN)(hz:z.2=n)(hC:C.cells?=some [C])(g:aA L run 71 [C] (iv 0))(g1:aA L run 77 [.sc (.string s)] (.sc (.bool true)))(g2:aA L run 77 [.sc (.string t)] (.sc (.bool true)))(g3:aA L run 59 [pE [s,t]] (v2 true z.1)) :
  ∃ fr wr,bh (CC L) run k 6 wpC ⟨entry 59 [C,pE [s,t]],[],[]⟩=some ⟨fr,[⟨.live,[C]⟩],wr⟩∧fr.length=59∧nth fr 2 = .ptr 0 0∧nth fr 7 = .imm 1 true (eC true z):=by
 obtain⟨e1,e2,e3⟩:=cb 57 C (pE [s,t])
 obtain⟨r,q,x1,x2,y1,y2⟩:=rl s t
 unfold aA iv at *
 generalize entry 59 [C,pE [s,t]]=fr0 at *
 have hl:=eF [s,t]
 generalize pE [s,t]=P at *
 have h0:aX (bd [] [C]) 0=some ⟨.live,[C]⟩:=rfl
 have ha:bd [] [C]=[⟨.live,[C]⟩]:=rfl
 have hb:(((n:Nat):Int) == 0)=false:=by
  have:((n:Nat):Int)≠0:=by omega
  simpa using this
 have hbd:=agL true z
 rw[hz] at hbd
 have l1:=Li z
 have i1:bT (eC true z)=true:=rfl
 generalize eC true z=cz at *
 generalize v2 true z.1=V at *
 generalize hN:((n:Nat):Int)=N at *
 simp[wpC,f30,bh,ae,aH,aq,ar,aF,ag,ah,aM,an,aj,aC,aG,FzZ,ba,aw,bg,au,bM,partOf,unP,aa,af,ab,bf,and_assoc,e1,e2,e3,g,g1,g2,g3,hl,hlC,hN,hb,x1,x2,y1,y2,hC,h0,hbd,l1,i1,uPt,uCl,aCl,sCl,iJ,gN,bz,aV,number,FP.free]
 exact ha
end
section
variable (L:Lst) (run:av) (k:Nat) (fr:Ψ) (hp:Θ) (wr:Ω)
theorem ahA (C:PV)(n:Nat)(hl:dc C=some n)(hb:aX hp 0=some ⟨.live,[C]⟩)(h0:fr.length=59)(h2:nth fr 2 = .ptr 0 0):∃ fr',ae (CC L) run k (seq1 (seq1 wpT)) ⟨fr,hp,wr⟩=some (.normal,⟨fr',hp,wr⟩)∧nth fr' 39=C∧nth fr' 40=iv n∧nth fr' 41=iv 0:=by
 simp[iv,wpT,wpC,f30,ai,seq1,ae,aH,aq,ar,aF,ag,ah,an,aj,aC,aG,FzZ,au,bM,partOf,aa,af,ab,bf,h0,h2,hb,hl,uCl,aCl,sCl,bz,aV]
theorem adx (i n:Nat)(h0:fr.length=59)(h40:nth fr 40=iv n)(h41:nth fr 41=iv i):∃ fr',ae (CC L) run k (seq1 wpB) ⟨fr,hp,wr⟩=some (.normal,⟨fr',hp,wr⟩)∧nth fr' 42 = .sc (.bool (decide (i<n))):=by
 obtain⟨u,hu⟩:∃ u,decide (i<n)=u:=⟨_,rfl⟩
 rw[hu]
 simp only[iv] at h40 h41
 cases u <;> simp only[decide_eq_true_eq,decide_eq_false_iff_not] at hu <;> simp[wpB,wpC,f30,az,seq1,ae,aH,aq,ar,aF,ag,ah,an,aj,aC,aG,FzZ,ba,aw,bg,aa,h0,h40,h41,hu]
theorem ahz (i:Nat)(h9:i<1000)(h0:fr.length=59)(h41:nth fr 41=iv i):∃ fr',ae (CC L) run k (aO (aO (aO wpB))) ⟨fr,hp,wr⟩=some (.normal,⟨fr',hp,wr⟩)∧nth fr' 41=iv (i+1):=by
 have hw:=bE i (by omega)
 simp only[iv] at h41
 simp[iv,wpB,wpC,f30,az,aO,ae,aH,aq,ar,aF,ag,ah,an,aj,aC,aG,FzZ,ba,aw,bg,au,aa,ab,h0,h41,hw]
theorem ajL (b:Nat)(X:List P2)(i:Nat)(l:List VN)(q:PV)(hi:i<X.length)(h9:l.length<1000)(hO:CrA b hp l q)(g:aA L run 59 [q2 (at2 X i)] (v2 true (at2 X i)))(h0:fr.length=59)(h7:nth fr 7=q)(h39:nth fr 39=qP X)(h41:nth fr 41=iv i):∃ fr' hp' wr',ae (CC L) run k wpX ⟨fr,hp,wr⟩=some (.normal,⟨fr',hp',wr'⟩)∧cH 2 (eC true) b hp' (l++[(at2 X i,i)]) (nth fr' 7)∧(∀ j,j<b→aX hp' j=aX hp j):=by
 obtain⟨r,x1,x2⟩:=kd uCl X i hi
 obtain⟨p',hp',fp,a1,a2,a3,-⟩:=hO.app (at2 X i,i) h9
 have hbd:=agL true (at2 X i,i)
 have l1:=Li (at2 X i,i)
 have r1:=fun hp=>aeX hp (at2 X i,i)
 have k1:bj (eC true (at2 X i,i))=true:=rfl
 have i1:bT (eC true (at2 X i,i))=true:=rfl
 have zz:ef TT 102=some zC:=Gw
 have hz:zC.length=2:=rfl
 dsimp only at hbd
 generalize eC true (at2 X i,i)=cz at *
 unfold aA at g
 generalize v2 true (at2 X i)=V at *
 generalize q2 (at2 X i)=Q at *
 simp only[iv] at h41
 simp[wpX,blk,wpB,wpC,f30,az,seq1,aO,ae,aH,aq,ar,aF,ag,ah,aM,an,aj,aC,aG,FzZ,au,partOf,aa,af,ab,bf,and_assoc,h0,h7,h39,h41,x1,x2,g,hbd,l1,r1,k1,i1,zz,hz,a1,a2,ko,mU,aPt,sPt,agN,bZ,aV]
 exact a3
theorem ahy (p r:PV)(u:Bool)(hp':Θ)(fp:FP)(hc:bS (CC L) run false hp 72 [p]=some (r,hp',fp))(hd:bS (CC L) run false hp' 78 [r,.clos 79 [.ptr 0 0]]=some (.sc (.bool u),hp',⟨[],[],true,true⟩))(h0:fr.length=59)(h2:nth fr 2 = .ptr 0 0)(h7:nth fr 7=p):∃ st,ae (CC L) run k (aO wpT) ⟨fr,hp,wr⟩=some (.ret,st)∧aY TT st.fr st.hp f30.results.toList=some [.sc (.bool !u),iv 0]:=by
 simp[iv,wpT,wpC,f30,ai,aO,ae,aH,aq,ar,aF,ag,ah,aM,an,aj,aC,aG,FzZ,au,unP,aa,af,ab,h0,h2,h7,hc,hd,aY]
end
theorem aaO {b:Nat}{hp:Θ}{O:List VN}{q:PV}(h:cH 2 (eC true) b hp O q)(hne:O≠[]):∃ oid M x,b≤oid∧q = .own oid 2 0 O.length x∧aX hp oid=some ⟨.live,cells O M⟩:=by
 rcases h.2 with ⟨h,-⟩| ⟨id,m,x,h1,h2,h3,h4,h5⟩
 ·exact absurd h hne
 ·exact⟨id,m.flatMap (eC true),x,h1,h3,by rw[h5,flatMap_append];rfl⟩
theorem wp_loop {L:Lst}{run:av}{k:Nat}(X:List P2)(hX:X.length<900)(hX1:X≠[])(hk:X.length<k)(g:∀ i,i<X.length→aA L run 59 [q2 (at2 X i)] (v2 true (at2 X i)))(z:VN)(C:PV)(fr:Ψ)(wr:Ω)(h0:fr.length=59)(h7:nth fr 7 = .imm 1 true (eC true z))(h39:nth fr 39=qP X)(h40:nth fr 40=iv X.length)(h41:nth fr 41=iv 0) :
  ∃ st,ae (CC L) run k (.block 0 (.loop wpB)) ⟨fr,[⟨.live,[C]⟩],wr⟩=some (.normal,st)∧cH 2 (eC true) 1 st.hp (z::X.zipIdx) (nth st.fr 7)∧aX st.hp 0=some ⟨.live,[C]⟩:=by
 have zt:∀ i,i<X.length→X.zipIdx.take (i+1)=X.zipIdx.take i++[(at2 X i,i)]:=fun i hi=>by
  rw[take_succ_eq_append_getElem (by simpa using hi),getElem_zipIdx,gH hi,Nat.zero_add]
 obtain⟨st,a1,a2⟩:=lK (C:=CC L) (run:=run) (k:=k) (e:=0) (b:=wpB) (n:=X.length) (st:=⟨fr,[⟨.live,[C]⟩],wr⟩)
  (Inv:=fun i st=>dX (df wpB) fr st.fr∧nth st.fr 41=iv i∧CrA 1 st.hp (z::X.zipIdx.take i) (nth st.fr 7)∧aX st.hp 0=some ⟨.live,[C]⟩)
  (Q:=fun st=>cH 2 (eC true) 1 st.hp (z::X.zipIdx) (nth st.fr 7)∧aX st.hp 0=some ⟨.live,[C]⟩) hk
  (fun i st hi ⟨iK,i41,iO,iB⟩=>by
   obtain⟨fr0,hp0,wr0⟩:=st
   dsimp only at iK i41 iO iB
   have l0:=iK.len h0
   obtain⟨fr1,b1,b2⟩:=adx L run k fr0 hp0 wr0 i X.length l0 (iK.at h40) i41
   rw[decide_eq_true hi] at b2
   have K1:=aP _ b1
   have e7:nth fr1 7=nth fr0 7:=K1.at rfl
   rw[← e7] at iO
   obtain⟨fr2,hp2,wr2,c1,c2,c3⟩:=ajL L run k fr1 hp0 wr0 1 X i _ _ hi (by simp[length_take];omega) iO (g i hi) (K1.len l0) rfl (K1.at (iK.at h39)) (K1.at i41)
   have K2:=aP _ c1
   have c1':ae (CC L) run k (.block 1 wpX) ⟨fr1,hp0,wr0⟩=some (.normal,⟨fr2,hp2,wr2⟩):=by simp only[ae,c1]
   obtain⟨fr3,d1,d2⟩:=ahz L run k fr2 hp2 wr2 i (by omega) (K2.len (K1.len l0)) (K2.at (K1.at i41))
   have K3:=aP _ d1
   have x3:ae (CC L) run k (.cond (.tmp 42) .skip (.exit 0)) ⟨fr1,hp0,wr0⟩=some (.normal,⟨fr1,hp0,wr0⟩):=by simp[ae,aj,b2]
   have hr:ae (CC L) run k wpB ⟨fr0,hp0,wr0⟩=some (.normal,⟨fr3,hp2,wr2⟩):=by
    rw[QD,ao b1,ao x3,ao c1',d1]
   exact⟨_,hr,iK.trans (aP _ hr),d2,by
    show CrA 1 hp2 _ (nth fr3 7)
    rw[zt i hi,K3.at rfl];exact .inl c2,(c3 0 (by omega)).trans iB⟩)
  (fun st ⟨iK,i41,iO,iB⟩=>by
   obtain⟨fr0,hp0,wr0⟩:=st
   dsimp only at iK i41 iO iB
   obtain⟨fr1,b1,b2⟩:=adx L run k fr0 hp0 wr0 X.length X.length (iK.len h0) (iK.at h40) i41
   rw[decide_eq_false (by omega)] at b2
   have K1:=aP _ b1
   refine⟨⟨fr1,hp0,wr0⟩,?_,?_,iB⟩
   ·have x3:ae (CC L) run k (.cond (.tmp 42) .skip (.exit 0)) ⟨fr1,hp0,wr0⟩=some (.exit 0,⟨fr1,hp0,wr0⟩):=by simp[ae,aj,b2]
    rw[QD,ao b1,ae,x3]
   ·rw[take_of_length_le (by simp)] at iO
    show cH 2 (eC true) 1 hp0 _ (nth fr1 7)
    rw[K1.at rfl]
    rcases iO with h | ⟨y,h,-⟩
    ·exact h
    ·exfalso
     have:(z::X.zipIdx).length=1:=by rw[h];rfl
     simp at this
     exact hX1 this)
  ⟨dX.refl _ _,h41,by
   show CrA 1 [⟨.live,[C]⟩] [z] (nth fr 7)
   rw[h7];exact .inr ⟨z,rfl,rfl,by simp⟩,rfl⟩
 exact⟨st,a1,a2⟩
def Un (a:CPt):Prop:=aaT a∧(eL a.1=0→a.1.length≤11)
def QJ:Ψ→Option Ψ:=ctr cpE Un fun a=>[.sc (.bool (fe a.1 a.2).1),iv (fe a.1 a.2).2]
def LZz:Lst:=[(71,uw),(59,BR),(124,XI),(159,A7),(129,lv),(130,aaF),(77,Bf)]
theorem agR:dt base.P LZz:=⟨AO,xh,F3,A6,jW,Ed,vS,trivial⟩
theorem Yz (c:Pl)(s t:ByteArray)(hF:Cv c)(hc:c.length≤11)(hne:c≠[])(hf:eL c=0)(hs:IsV s)(ht:IsV t)(g1:aA LZz (runK (CC LZz) 34) 77 [.sc (.string s)] (.sc (.bool true)))(g2:aA LZz (runK (CC LZz) 34) 77 [.sc (.string t)] (.sc (.bool true))) :
  ∃ st,ae (CC LZz) (runK (CC LZz) 34) 34 wpC ⟨entry 59 [cE c,pE [s,t]],[],[]⟩=some (.ret,st)∧aY TT st.fr st.hp f30.results.toList=some [.sc (.bool (nQ (toP c) (fR [s,t]))),iv 0]:=by
 have g:=JI (L:=LZz) rfl (runK (CC LZz) 34) c hF.fit
 rw[hf] at g
 obtain⟨x1,x2,x3,x4,x5,x6⟩:=nW hf hF
 obtain⟨v1,v2'⟩:=B3 hs
 obtain⟨w1,w2⟩:=B3 ht
 have hq:pE [s,t]=q2 (fR [s,t]):=by
  show pE [s,t]=pE [qb (rq s),qb (rq t)]
  rw[← v1,← w1]
 have hsz:Rb2 1000 (fR [s,t]):=⟨v2',w2⟩
 have up:∀ {p:P2},Rb2 61 p→Rb2 1000 p:=fun h=>⟨h.1.mono (by omega),h.2.mono (by omega)⟩
 have hXl:(toP c).length≤11:=by omega
 have hXne:toP c≠[]:=fun e=>hne (length_eq_zero_iff.1 (by rw[← x3,e];rfl))
 obtain⟨fr,wr,a1,a2,a3,a4⟩:=aee LZz (runK (CC LZz) 34) 34 (cE c) c.length (fun e=>hne (length_eq_zero_iff.1 e)) (fm c) s t (fR [s,t],c.length) rfl rfl g g1 g2 (by
  rw[hq];exact Ct rfl _ _ (BF hsz) (by simp))
 obtain⟨fr1,b1,b2,b3,b4⟩:=ahA LZz (runK (CC LZz) 34) 34 fr [⟨.live,[cE c]⟩] wr (cE c) c.length (fm c) rfl a2 a3
 have K1:=aP _ b1
 have l1:=K1.len a2
 rw[x1] at b2
 rw[← x3] at b3
 obtain⟨⟨fr2,hp2,wr2⟩,c1,c2,c3⟩:=wp_loop (L:=LZz) (run:=runK (CC LZz) 34) (k:=34) (toP c) (by omega) hXne (by omega) (fun i hi=>Ct rfl _ _ (BF (up (x2 i hi))) (by simp)) (fR [s,t],c.length) (cE c) fr1 wr l1 (K1.at a4) b2 b3 b4
 dsimp only at c2 c3
 have K2:=aP _ c1
 obtain⟨oid,M,x,d1,d2,d3⟩:=aaO c2 (by simp)
 have hol:=gp d3
 have hEl:((fR [s,t],c.length)::(toP c).zipIdx).length≤12:=by simp;omega
 obtain⟨hp5,r,fp,S,m1,m2,m3,m4,m5⟩:=Ue (L:=LZz) (k:=30) (ok:=okV) (bI:=oe) (tI:=fun a b z=>fk a.1 b.1 z.1) (adX rfl _) rfl (ajf rfl 29 (by omega)) (ahG rfl _) _ hEl (by simp;omega) (nth fr2 7) hp2 oid (.inr ⟨by simp,x,M,d2,d3⟩) (fun z hz=>by
  rcases mem_cons.1 hz with rfl | hz
  ·exact⟨hsz,by show c.length<1000;omega⟩
  ·exact Um x2 (by omega) z hz) false
 have hb5:aX hp5 0=some ⟨.live,[cE c]⟩:=(m5 0 (by omega) (by omega)).trans c3
 have hSl:=m2.length_eq
 have hone:j8 (ddp none S)≠[]:=by
  intro e
  have hd:ddp none S≠[]:=fun e=>by
   cases S with
   | nil=>simp at hSl
   | cons a S=>simp[ddp] at e
  unfold j8 at e
  split at e
  ·exact hd e
  ·next h3 =>
   exact Fm (by omega) (reverse_eq_nil_iff.1 (append_eq_nil_iff.1 e).1)
 obtain⟨oid',M',x',n1,n2⟩:∃ oid M x,r = .own oid 2 0 (j8 (ddp none S)).length x∧aX hp5 oid=some ⟨.live,cells (j8 (ddp none S)) M⟩:=by
  rcases m4 with ⟨h,-⟩| h
  ·exact absurd h hone
  ·exact h
 have hOl:(j8 (ddp none S)).length≤24:=by
  have h1:=xy (ddp none S)
  have h2:=vI none S
  omega
 have ct:=ac0 LZz 31 hp5 oid' x' (j8 (ddp none S)) M' c (by omega) (by omega) n2 hb5 false
 rw[← n1] at ct
 obtain⟨st,o1,o2⟩:=ahy LZz (runK (CC LZz) 34) 34 fr2 hp2 wr2 _ r _ hp5 fp m1 ct (K2.len l1) (K2.at (K1.at a3)) rfl
 have hs1:ae (CC LZz) (runK (CC LZz) 34) 34 (.seq (seq1 (seq1 wpT)) (.block 0 (.loop wpB))) ⟨fr,[⟨.live,[cE c]⟩],wr⟩=some (.normal,⟨fr2,hp2,wr2⟩):=by rw[ao b1];exact c1
 refine⟨st,?_,?_⟩
 ·rw[aU 6 a1]
  show ae _ _ _ wpT _=_
  rw[aeg,ao hs1];exact o1
 ·rw[o2]
  have hw:=CM (X:=toP c) (p:=fR [s,t]) (S:=S) (by rw[x3];exact m2) m3
  have e:(!(j8 (ddp none S)).any fun z=>decide (z.2=c.length))=nQ (toP c) (fR [s,t]):=by
   rw[Bool.eq_iff_iff,Bool.not_eq_true',← Bool.not_eq_true,any_eq_true,nQ,BS,xN]
   have:(∃ x,x ∈ j8 (ddp none S)∧decide (x.2=c.length)=true) ↔ ∃ y ∈ j8 (ddp none S),y.2=(toP c).length:=by
    rw[x3]
    exact⟨fun ⟨y,h1,h2⟩=>⟨y,h1,of_decide_eq_true h2⟩,fun ⟨y,h1,h2⟩=>⟨y,h1,decide_eq_true h2⟩⟩
   rw[this,hw]
   exact Classical.not_not
  rw[e]
theorem Ik:Ab.Spec base.P 30 QJ:=Ab.Spec.bL (C:=CC LZz) (cP agR) fun args rs h=>by
 obtain⟨⟨c,p⟩,⟨⟨hF,h9,h60⟩,h11⟩,rfl,rfl⟩:=cX h
 dsimp only at hF h9 h60 h11
 have g:=JI (L:=LZz) rfl (runK (CC LZz) 34) c hF.fit
 have key:∃ st,ae (CC LZz) (runK (CC LZz) 34) 34 wpC ⟨entry 59 [cE c,pE p],[],[]⟩=some (.ret,st)∧aY TT st.fr st.hp f30.results.toList=some [.sc (.bool (fe c p).1),iv (fe c p).2]:=by
  by_cases hf:eL c=0
  ·rw[hf] at g
   by_cases hl:p.length=2
   ·obtain⟨s,t,rfl⟩:∃ s t,p=[s,t]:=by
     match p,hl with
     | [x,y],_=>exact⟨x,y,rfl⟩
    have hs60:=h60 s (by simp)
    have ht60:=h60 t (by simp)
    have g1:=Cq (L:=LZz) rfl (runK (CC LZz) 34) s (by omega)
    have g2:=Cq (L:=LZz) rfl (runK (CC LZz) 34) t (by omega)
    have hw:fe c [s,t]=bif !(pB (IsV s) && pB (IsV t)) then (false,1) else (nQ (toP c) (fR [s,t]),0):=by
     simp[fe,hf]
    by_cases hs:IsV s
    ·by_cases ht:IsV t
     ·rw[hw,gF hs,gF ht]
      rw[gF hs] at g1
      rw[gF ht] at g2
      by_cases hne:c=[]
      ·subst hne
       have:nQ (toP []) (fR [s,t])=false:=fT fun h=>by
        obtain⟨a,b,ha,-⟩:=xN.1 h
        simp[toP] at ha
       simp only[Bool.and_self,Bool.not_true,cond_false,this]
       exact aef LZz (runK (CC LZz) 34) 34 s t g g1 g2
      ·exact Yz c s t hF (h11 hf) hne hf hs ht g1 g2
     ·rw[hw,gF hs,fT ht]
      exact Kq LZz (runK (CC LZz) 34) 34 (cE c) s t _ _ (.inr (fT ht)) rfl g g1 g2
    ·rw[hw,fT hs]
     exact Kq LZz (runK (CC LZz) 34) 34 (cE c) s t _ _ (.inl (fT hs)) rfl g g1 g2
   ·have hw:fe c p=(false,10):=by simp[fe,hf,hl]
    rw[hw]
    exact YA LZz (runK (CC LZz) 34) 34 (cE c) p hl rfl g
  ·have hw:fe c p=(false,eL c):=by simp[fe,hf]
   rw[hw]
   exact YB LZz (runK (CC LZz) 34) 34 (cE c) (pE p) _ hf rfl g
 obtain⟨st,c1,c2⟩:=key
 exact⟨_,_,_,_,_,_,aZ JW rfl c1 c2,rfl,Wk.refl rfl,Wk.refl rfl,trivial⟩
theorem JY:base.F.get 21=some f21:=by kernel_rfl
theorem RL:base.shared 21=false:=by kernel_rfl
def inC:Code:=f21.body.getD .skip
def inB:Code:=(az inC).getD .skip
theorem aj9:ai 2 inC = .seq (.seq (seq1 (seq1 (ai 2 inC))) (.block 0 (.loop inB))) (ai 3 inC):=rfl
theorem acg(l:List Int)(j:Nat)(hj:j<l.length)(h0:fr.length=26)(h00:nth fr 0=aE l)(h1:nth fr 1=aE l)(h5:nth fr 5=iv j) :
  ∃ fr' wr',ae (CC L) run k (.block 1 (cI inB)) ⟨fr,hp,wr⟩=some (.normal,⟨fr',hp,wr'⟩):=by
 obtain⟨r,x1,x2⟩:=aiQ l j hj
 generalize l[j]=z at *
 simp only[iv] at h5
 simp[cI,inB,inC,f21,az,ae,aH,aq,ar,aF,ag,ah,an,aj,aC,aG,FzZ,ba,aw,bg,partOf,aa,af,ab,bf,h0,h00,h1,h5,x1,x2,aI,sI,aV,number,FP.free]
theorem af8 (L:Lst)(run:av)(k:Nat)(l:List Int):∃ fr wr,bh (CC L) run k 2 inC ⟨entry 26 [aE l,aE l],[],[]⟩=some ⟨fr,[],wr⟩∧fr.length=26∧nth fr 0=aE l∧nth fr 1=aE l:=by
 obtain⟨e1,e2,e3⟩:=cb 24 (aE l) (aE l)
 generalize entry 26 [aE l,aE l]=fr0 at *
 have hl:=Vv l
 simp[inC,f21,bh,ae,aH,aq,ar,aF,ag,ah,an,aj,aC,aG,FzZ,ba,aw,bg,au,bM,aa,af,ab,bf,and_assoc,e1,e2,e3,hl,mZ]
theorem ai1(h0:fr.length=26):∃ fr',ae (CC L) run k (seq1 (seq1 (ai 2 inC))) ⟨fr,hp,wr⟩=some (.normal,⟨fr',hp,wr⟩)∧nth fr' 5=iv 0:=by
 simp[iv,seq1,ai,inC,f21,ae,aH,aq,ar,aF,ag,ah,an,aj,aC,aG,FzZ,au,aa,h0]
theorem acf(h0:fr.length=26):∃ st,ae (CC L) run k (ai 3 inC) ⟨fr,hp,wr⟩=some (.ret,st)∧aY TT st.fr st.hp f21.results.toList=some [.sc (.bool true)]:=by
 simp[inC,ai,f21,h0,ae,aH,aq,ar,aF,ag,ah,an,aj,aC,aG,FzZ,au,aa,aY]
def af7 (l:List Int):Ψ:=[aE l,aE l]
def af6:Ψ→Option Ψ:=ctr af7 (fun l=>l.length≤1000) fun _=>[.sc (.bool true)]
theorem VI:Ab.Spec base.P 21 af6:=Ab.Spec.bL (C:=CC LLi) (cP ag8) fun args rs h=>by
 obtain⟨l,h9,rfl,rfl⟩:=cX h
 obtain⟨fr1,wr1,a1,a2,a3,a4⟩:=af8 LLi (runK (CC LLi) (l.length+2)) (l.length+2) l
 obtain⟨fr2,b1,b2⟩:=ai1 LLi (runK (CC LLi) (l.length+2)) (l.length+2) fr1 [] wr1 a2
 have K2:=aP _ b1
 have l2:=K2.len a2
 obtain⟨fr3,hp3,wr3,c1,c2,-⟩:=Lp.go (C:=CC LLi) (run:=runK (CC LLi) (l.length+2)) (k:=l.length+2) (l:=pf inB) (body:=cI inB) (m:=26) (B:=inB) rfl (by kernel_rfl) (by kernel_rfl) (by kernel_rfl) aem (n:=l.length) (j0:=0) (by omega) (by omega) (by omega)
  (J:=fun _ _ _=>True) (fr0:=fr2) (hp0:=[]) (wr0:=wr1) (p:=aE l) l2 (K2.at a3) (Vv l) b2
  (fun _ _ _ _ _ _=>trivial)
  (fun j fr hp wr _ hj hK hij _=>by
   obtain⟨fr',wr',x1⟩:=acg LLi (runK (CC LLi) (l.length+2)) (l.length+2) fr hp wr l j hj (hK.len l2) (hK.at (K2.at a3)) (hK.at (K2.at a4)) hij
   exact⟨fr',hp,wr',x1,trivial⟩)
  trivial
 obtain⟨st,d1,d2⟩:=acf LLi (runK (CC LLi) (l.length+2)) (l.length+2) fr3 hp3 wr3 (c2.len l2)
 have hx:ae (CC LLi) (runK (CC LLi) (l.length+2)) (l.length+2) inC ⟨entry 26 [aE l,aE l],[],[]⟩=some (.ret,st):=by
  have hs:ae (CC LLi) (runK (CC LLi) (l.length+2)) (l.length+2) (.seq (seq1 (seq1 (ai 2 inC))) (.block 0 (.loop inB))) ⟨fr1,[],wr1⟩=some (.normal,⟨fr3,hp3,wr3⟩):=by rw[ao b1];exact c1
  rw[aU 2 a1,aj9,ao hs];exact d1
 exact⟨_,_,_,_,[.sc (.bool true)],[],aZ JY rfl hx d2,rfl,Wk.refl rfl,trivial⟩
theorem JZ:base.F.get 7=some Tryz.f7:=by kernel_rfl
def hmC:Code:=Tryz.f7.body.getD .skip
theorem adQ (p:List ByteArray):fP TT 23 1 [(0,pE p)]=some (1,[pE p]):=by
 simp[fP,uCl,sPt,zPt,rep,dJ,b9,show (pE p).cells?=some [pE p] from rfl]
theorem ahl {L:Lst}(hL:bC L 11=fun a=>BZ (aK a))(run:av)(p:List ByteArray)(h9:Bl p.length):aA L run 11 [.imm 1 true [pE p]] (.sc (.bool (lE [p]))):=fun dr hp =>
 rS Dr hL run dr hp _ [cE [p]] [.sc (.bool (lE [p]))] rfl (by
  have h:=I7.ada 1 true [p] rfl
  simp only[aK]
  rw[show (PV.imm 1 true [pE p])=PV.imm 1 true ([p].flatMap ep) from rfl,h];rfl)
  (pU (e:=fun c=>[cE c]) (f:=fun c=>[.sc (.bool (lE c))]) (fun x y _ _ h=>by rw[jN h]) (x:=[p]) (fun q hq=>by
   obtain rfl:q=p:=by simpa using hq
   exact h9))
theorem VK(c:Pl)(p:List ByteArray)(u v:Bool)(h:u=true∨v=true)(g1:aA L run 11 [cE c] (.sc (.bool u)))(g2:aA L run 11 [.imm 1 true [pE p]] (.sc (.bool v)))(g3:aA L run 12 [] (.sc (.bool true))) :
  ∃ st,ae (CC L) run k hmC ⟨entry 64 [cE c,pE p],[],[]⟩=some (.ret,st)∧aY TT st.fr st.hp Tryz.f7.results.toList=some [.sc (.bool true)]:=by
 obtain⟨e0,e1,e2⟩:=cb 62 (cE c) (pE p)
 generalize entry 64 [cE c,pE p]=fr0 at *
 have l1:=adQ p
 have hid:bT [pE p]=true:=rfl
 unfold aA at g1 g2 g3
 generalize cE c=C at *
 generalize pE p=P at *
 cases u with
 | true=>simp[hmC,Tryz.f7,ae,aH,aq,ar,aF,ag,ah,aM,an,aj,aC,aG,FzZ,au,aa,af,ab,e0,e1,g1,g3,undef,aY]
 | false =>
  obtain rfl:v=true:=by
   rcases h with h | h
   ·cases h
   ·exact h
  simp[hmC,Tryz.f7,ae,aH,aq,ar,aF,ag,ah,aM,an,aj,aC,aG,FzZ,au,aa,af,ab,bf,e0,e1,e2,g1,g2,g3,l1,hid,aY]
theorem aen:und TT 4=some .bool:=by kernel_rfl
theorem acq(c:Pl)(p:List ByteArray)(A:PV)(e f:Nat)(b:Bool)(g1:aA L run 11 [cE c] (.sc (.bool false)))(g2:aA L run 11 [.imm 1 true [pE p]] (.sc (.bool false)))(g3:aA L run 12 [] (.sc (.bool true)))(g4:aA L run 28 [cE c] (.tup [A,iv e]))(g5:aA L run 29 [cE c] (.tup [A,iv e]))(g6:aA L run 30 [cE c,pE p] (.tup [.sc (.bool b),iv f]))(g7:aA L run 31 [cE c,pE p] (.tup [.sc (.bool b),iv f]))(g8:aA L run 21 [A,A] (.sc (.bool true))) :
  ∃ st,ae (CC L) run k hmC ⟨entry 64 [cE c,pE p],[],[]⟩=some (.ret,st)∧aY TT st.fr st.hp Tryz.f7.results.toList=some [.sc (.bool true)]:=by
 obtain⟨e0,e1,e2⟩:=cb 62 (cE c) (pE p)
 generalize entry 64 [cE c,pE p]=fr0 at *
 have l1:=adQ p
 have hid:bT [pE p]=true:=rfl
 unfold aA iv at *
 generalize cE c=C at *
 generalize pE p=P at *
 cases b <;> simp[hmC,Tryz.f7,ae,aH,aq,ar,aF,ag,ah,aM,an,aj,aC,aG,FzZ,ba,aw,bg,dG,au,aa,af,ab,bf,e0,e1,e2,g1,g2,g3,g4,g5,g6,g7,g8,l1,hid,aen,aY]
theorem Lt {L:Lst}{F:Nat}(hs:base.shared F=false)(hL:bC L F=fun a=>E8 (aK a))(run:av)(c:Pl)(h:aiz c):aA L run F [cE c] (.tup [aN (lH c),iv (eL c)]) :=
 gi hs (e:=fun c=>[cE c]) (f:=fun c=>[aN (lH c),iv (eL c)]) hL (fun x y _ _ h=>by rw[jN h]) run c h (fun _=>rfl) (by simp only[aK,lO])
theorem LU {x y:CPt}(h:cpE x=cpE y):x=y:=by
 simp only[cpE,List.cons.injEq,and_true] at h
 exact Prod.ext (jN (by rw[h.1])) (by
  have h2:[cE [x.2]]=[cE [y.2]]:=by unfold cE jM ep;simp[h.2]
  have h3:=jN h2
  simpa using h3)
theorem A4 (x:CPt):aK (cpE x)=cpE x:=by simp only[cpE,aK,lO,yq]
theorem YD {L:Lst}(hL:bC L 31=fun a=>QK (aK a))(run:av)(x:CPt)(h:aaT x):aA L run 31 (cpE x) (.tup [.sc (.bool (fe x.1 x.2).1),iv (fe x.1 x.2).2]) :=
 gi G8 (e:=cpE) (f:=fun a=>[.sc (.bool (fe a.1 a.2).1),iv (fe a.1 a.2).2]) hL (fun x y _ _ h=>by rw[LU h]) run x h (fun _=>rfl) (A4 x)
theorem YC {L:Lst}(hL:bC L 30=fun a=>QJ (aK a))(run:av)(x:CPt)(h:Un x):aA L run 30 (cpE x) (.tup [.sc (.bool (fe x.1 x.2).1),iv (fe x.1 x.2).2]) :=
 gi RH (e:=cpE) (f:=fun a=>[.sc (.bool (fe a.1 a.2).1),iv (fe a.1 a.2).2]) hL (fun x y _ _ h=>by rw[LU h]) run x h (fun _=>rfl) (A4 x)
theorem ai0 {L:Lst}(hL:bC L 21=fun a=>af6 (aK a))(run:av)(l:List Int)(h:l.length≤1000):aA L run 21 [aE l,aE l] (.sc (.bool true)) :=
 gi RL (e:=af7) (f:=fun _=>[.sc (.bool true)]) hL (fun _ _ _ _ _=>rfl) run l h (fun _=>rfl) (by simp only[af7,aK,W6])
theorem E6 (p:V2):∀ l:List V2,(uU p l).length≤l.length+1
 | []=>Nat.le_refl _
 | q::r=>by
  have:=E6 p r
  unfold uU
  split
  ·simp
  ·split
   ·simp
   ·simp only[length_cons];omega
theorem KD:∀ X:List V2,(srt X).length≤X.length
 | []=>Nat.le_refl _
 | p::X=>by
  have h1:=E6 p (srt X)
  have h2:=KD X
  show (uU p (srt X)).length≤_
  simp only[length_cons];omega
theorem O1 (X:List V2):(AH X).length≤2*X.length:=by
 unfold AH
 rw[length_map]
 have h:=Eo (f:=fun x=>(x,0)) (fun _=>rfl) (srt X)
 have h1:=xy ((srt X).map fun x=>(x,0))
 have h2:=KD X
 rw[h,length_map,length_map] at h1
 omega
def LHm:Lst:=[(11,BZ),(12,ig []),(28,E8),(29,E8),(30,QJ),(31,QK),(21,af6)]
theorem ag9:dt base.P LHm:=⟨OO,adl,Io,Hq,Ik,Hj,VI,trivial⟩
def aiy (x:CPt):Prop:=(∀ q ∈ x.1,Bl q.length)∧Bl x.2.length
def hmF:Ψ→Option Ψ:=ctr cpE aiy fun _=>[.sc (.bool true)]
theorem acp:Ab.Spec base.P 7 hmF:=Ab.Spec.bL (C:=CC LHm) (cP ag9) fun args rs h=>by
 obtain⟨⟨c,p⟩,⟨hB,hb⟩,rfl,rfl⟩:=cX h
 dsimp only at hB hb
 have g1:=ahk (L:=LHm) rfl (runK (CC LHm) 10) c hB
 have g2:=ahl (L:=LHm) rfl (runK (CC LHm) 10) p hb
 have g3:=adt (L:=LHm) rfl (runK (CC LHm) 10)
 have key:∃ st,ae (CC LHm) (runK (CC LHm) 10) 10 hmC ⟨entry 64 [cE c,pE p],[],[]⟩=some (.ret,st)∧aY TT st.fr st.hp Tryz.f7.results.toList=some [.sc (.bool true)]:=by
  by_cases he:lE c=true∨lE [p]=true
  ·exact VK LHm (runK (CC LHm) 10) 10 c p _ _ he g1 g2 g3
  ·have h1:lE c=false:=by
    cases e:lE c with
    | true=>exact absurd (.inl e) he
    | false=>rfl
   have h2:lE [p]=false:=by
    cases e:lE [p] with
    | true=>exact absurd (.inr e) he
    | false=>rfl
   have hF:=EO h1
   have hFp:=(EO h2).2 p (by simp)
   have hl:eL c=0→c.length≤11:=fun h=>by
    have h64:=(nW h hF).2.2.2.1
    unfold lE at h1
    rw[Bool.or_eq_false_iff,Bool.and_eq_false_iff] at h1
    rcases h1.1 with h | h
    ·have:=of_decide_eq_false h;omega
    ·have:=of_decide_eq_false h;omega
   have hcp:aaT (c,p):=⟨hF,hFp.1,hFp.2⟩
   rw[h1] at g1
   rw[h2] at g2
   have hlen:(lH c).length≤1000:=by
    unfold lH
    by_cases h:eL c=0
    ·rw[decide_eq_true h,cond_true]
     have h3:=O1 (toP c)
     have h4:=hl h
     have h5:(toP c).length=c.length:=by simp[toP]
     omega
    ·rw[decide_eq_false h,cond_false];simp
   exact acq LHm (runK (CC LHm) 10) 10 c p _ _ _ _ g1 g2 g3 (Lt RI rfl _ c ⟨hF,hl⟩) (Lt Ha rfl _ c ⟨hF,hl⟩) (YC rfl _ (c,p) ⟨hcp,hl⟩) (YD rfl _ (c,p) hcp) (ai0 rfl _ _ (by simpa using hlen))
 obtain⟨st,c1,c2⟩:=key
 exact⟨11,_,_,_,_,_,aZ JZ rfl c1 c2,rfl,Wk.refl rfl,trivial⟩
end Go.Proofs.YtjdmodeenbdfpaaGreat
end
