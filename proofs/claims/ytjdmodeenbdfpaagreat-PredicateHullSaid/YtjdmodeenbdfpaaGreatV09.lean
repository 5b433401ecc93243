/- Contracts of num's integers, part 9; each lemma states its conditions. -/
import Derived.Test.YtjdmodeenbdfpaaGreatV08
set_option linter.unusedSimpArgs false
set_option linter.unusedVariables false
noncomputable section
namespace Go.Proofs.YtjdmodeenbdfpaaGreat
open Go Go.Ab List Tryz
attribute [local simp] FzZ aC aF aG aH aU aX aZ ae ag ah aj an ao aq au av bL bf partOf
def TT:Tab:=base.T.get
def CC (L:List (Nat × (Ψ→Option Ψ))):Cfg:=base.cfg (bx L)
theorem bc (L:List (Nat × (Ψ→Option Ψ))):(CC L).T=TT:=(rfl)
theorem cR {L:List (Nat × (Ψ→Option Ψ))}(h:dE base.P L):vc (CC L):=ahY.cfg (EJ h)
theorem aa {fr:Ψ}{d:Nat}{v:PV}(h:d<fr.length):nth (eX fr d v) d=v:=by
 rw[th,jZ];simp[h]
theorem af {fr:Ψ}{d t:Nat}{v:PV}(h:t≠d):nth (eX fr d v) t=nth fr t:=kz h
theorem ab (fr:Ψ)(d:Nat)(v:PV):(eX fr d v).length=fr.length:=by
 rw[jZ];simp
def wf0:Field:={ name := "neg",type:=4,offset:=0,embedded:=false,tag := "",pkgPath := "torus/num",byteOffset:=0 }
def wf1:Field:={ name := "d",type:=68,offset:=1,embedded:=false,tag := "",pkgPath := "torus/num",byteOffset:=8 }
theorem uW:und TT 70=some (.struct #[wf0,wf1]):=by kernel_rfl
theorem uD:und TT 68=some (.slice 171):=by kernel_rfl
theorem u32:und TT 171=some (.int .u32):=by kernel_rfl
theorem u64:und TT 174=some (.int .u64):=by kernel_rfl
theorem uI:und TT 3=some (.int .i64):=by kernel_rfl
theorem uB:und TT 4=some .bool:=by kernel_rfl
theorem sB:de TT 4=some 1:=by kernel_rfl
theorem sD:de TT 68=some 1:=by kernel_rfl
theorem sW:de TT 70=some 2:=by kernel_rfl
theorem s32:de TT 171=some 1:=by kernel_rfl
theorem b32:ja TT 171=some 4:=by kernel_rfl
theorem z32:dU TT 171=some [dg 0]:=by kernel_rfl
theorem zW:dU TT 70=some [.sc (.bool false),.sc (.slice none 0 0)]:=by kernel_rfl
theorem aW:fR TT 70=some true:=by kernel_rfl
theorem aB:fR TT 4=some false:=by kernel_rfl
theorem aD:fR TT 68=some false:=by kernel_rfl
theorem a32:fR TT 171=some false:=by kernel_rfl
theorem QV:base.F.get 167=some f167:=by kernel_rfl
theorem Gs:base.F.get 152=some f152:=by kernel_rfl
theorem aey:base.F.get 97=some f97:=by kernel_rfl
theorem Q7:base.F.get 101=some f101:=by kernel_rfl
theorem ZA:base.F.get 149=some f149:=by kernel_rfl
theorem ZE:base.F.get 96=some f96:=by kernel_rfl
theorem tF:base.F.get 146=some f146:=by kernel_rfl
theorem QX:base.F.get 160=some f160:=by kernel_rfl
theorem KE:base.F.get 161=some f161:=by kernel_rfl
theorem ZF:base.F.get 139=some f139:=by kernel_rfl
theorem Zh:base.F.get 168=some f168:=by kernel_rfl
theorem ZB:base.F.get 105=some f105:=by kernel_rfl
theorem J3:base.F.get 181=some f181:=by kernel_rfl
theorem qA:base.F.get 166=some f166:=by kernel_rfl
theorem GJ:base.F.get 151=some f151:=by kernel_rfl
theorem GH:base.F.get 150=some f150:=by kernel_rfl
theorem QU:base.F.get 165=some f165:=by kernel_rfl
theorem J2:base.F.get 164=some f164:=by kernel_rfl
theorem vu:base.shared 167=false:=by kernel_rfl
theorem oU:base.shared 152=false:=by kernel_rfl
theorem zU:base.shared 97=false:=by kernel_rfl
theorem vw:base.shared 101=false:=by kernel_rfl
theorem Hl:base.shared 149=false:=by kernel_rfl
theorem Hn:base.shared 96=false:=by kernel_rfl
theorem Ld:base.shared 146=false:=by kernel_rfl
theorem aah:base.shared 160=false:=by kernel_rfl
theorem Sw:base.shared 161=false:=by kernel_rfl
theorem Ho:base.shared 139=false:=by kernel_rfl
theorem afs:base.shared 168=false:=by kernel_rfl
theorem aft:base.shared 105=false:=by kernel_rfl
theorem Dr:base.shared 181=false:=by kernel_rfl
theorem DB:base.shared 166=false:=by kernel_rfl
theorem ND:base.shared 151=false:=by kernel_rfl
theorem SH:base.shared 150=false:=by kernel_rfl
theorem aae:base.shared 165=false:=by kernel_rfl
theorem Sh:base.shared 164=false:=by kernel_rfl
def ofB:Code:=((f97.body).bind aA).getD .skip
set_option maxHeartbeats 1000000 in
theorem U3 (L:List (Nat × (Ψ→Option Ψ)))(run:aw)(k:Nat)(fr:Ψ)(hp:Θ)(wr:Ω)(u:Nat)(l:Ω)
  (hu:u≠0) (hu2:u<18446744073709551616) (h20:fr.length=26) (h3:nth fr 3 = .sc (.int .u64 (Int.ofNat u))) (hO:dM 1 hp l (nth fr 5)) (hl:l.length<1000) :
  ∃ fr' hp' wr',ae (CC L) run k ofB ⟨fr,hp,wr⟩=some (.normal,⟨fr',hp',wr'⟩)∧fr'.length=26∧nth fr' 3 = .sc (.int .u64 (Int.ofNat (u / 1000000000)))
   ∧ dM 1 hp' (l++[u % 1000000000]) (nth fr' 5)∧nth fr' 2=nth fr 2∧nth fr' 4=nth fr 4∧aL hp' 0=aL hp 0:=by
 have hq:bA .u64 ((u:Int) / 1000000000)=Int.ofNat (u / 1000000000):=dk .u64 (u / 1000000000) (by simp[hiN];omega)
 have hc:bA .u32 ((u:Int).tmod 1000000000)=Int.ofNat (u % 1000000000):=dk .u32 (u % 1000000000) (by simp[hiN];omega)
 generalize u / 1000000000=q at *
 generalize u % 1000000000=r at *
 obtain⟨p',hp',fp,ha,hO',hk⟩:=hO.app r (by omega)
 have hu0:0<u:=by omega
 have hdg:PV.sc (.int .u32 (r:Int))=dg r:=rfl
 have hlit:fY TT 68 1 [(0,dg r)]=some (1,[dg r]):=by
  simp[fY,uD,s32,z32,rep,dH,gi,ca]
 have hrd:fW hp 1 (.imm 1 true [dg r])=some (1,[dg r],[]):=by simp[fW]
 have hif:bV [dg r]=true:=rfl
 have hk0:=hk 0 (by omega)
 simp[ofB,f97,aA,aa,af,ab,bc,and_assoc,bg,dq,h20,h3,dD,u32,u64,uD,s32,b32,z32,hq,hc,hu0,hdg,hlit,hrd,hif,ch,ha,hO',hk0]
theorem abH (L:List (Nat × (Ψ→Option Ψ)))(run:aw)(k:Nat)(fr:Ψ)(hp:Θ)(wr:Ω)
  (h20:fr.length=26) (h3:nth fr 3 = .sc (.int .u64 (Int.ofNat 0))) :
  ∃ fr',ae (CC L) run k ofB ⟨fr,hp,wr⟩=some (.exit 0,⟨fr',hp,wr⟩)∧nth fr' 5=nth fr 5∧nth fr' 2=nth fr 2∧nth fr' 4=nth fr 4∧fr'.length=26:=by
 simp[ofB,f97,aA,aa,af,ab,h20,h3]
theorem LB (L:List (Nat × (Ψ→Option Ψ)))(run:aw)(k:Nat):∀ (j u:Nat) (l:Ω) (fr:Ψ) (hp:Θ) (wr:Ω),
  u<1000000000 ^ j→l.length+j<1000→u<18446744073709551616→fr.length=26→nth fr 3 = .sc (.int .u64 (Int.ofNat u))→dM 1 hp l (nth fr 5) →
  ∃ fr' hp' wr',cb (ae (CC L) run k ofB) (j+1) ⟨fr,hp,wr⟩=some (.exit 0,⟨fr',hp',wr'⟩)∧fr'.length=26
   ∧ dM 1 hp' (l++aJ u) (nth fr' 5)∧nth fr' 2=nth fr 2∧nth fr' 4=nth fr 4∧aL hp' 0=aL hp 0
 | j,u,l,fr,hp,wr,hu,hl,hu2,h20,h3,hO=>by
  by_cases h0:u=0
  ·subst h0
   obtain⟨fr',h1,h2,h4,h5,h6⟩:=abH L run k fr hp wr h20 h3
   refine⟨fr',hp,wr,bu h1,h6,?_,h4,h5,rfl⟩
   rw[h2,fq,append_nil];exact hO
  ·cases j with
   | zero=>simp at hu;omega
   | succ j =>
    obtain⟨fr1,hp1,wr1,h1,h2,h4,h5,h6,h7,h8⟩:=U3 L run k fr hp wr u l h0 hu2 h20 h3 hO (by omega)
    obtain⟨fr',hp',wr',g1,g2,g3,g4,g5,g6⟩:=LB L run k j (u / 1000000000) (l++[u % 1000000000]) fr1 hp1 wr1 (by rw[Nat.pow_succ] at hu;omega) (by simp;omega) (by omega) h2 h4 h5
    refine⟨fr',hp',wr',by rw[bT h1];exact g1,g2,?_,by rw[g4,h6],by rw[g5,h7],by rw[g6,h8]⟩
    rw[dZ h0]
    simpa using g3
def ofC:Code:=f97.body.getD .skip
theorem U2:ai 4 ofC = .seq (.block 0 (.loop ofB)) (ai 5 ofC):=rfl
theorem age (L:List (Nat × (Ψ→Option Ψ)))(run:aw)(k:Nat)(z:Int)(h1 : -9223372036854775808≤z)(h2:z<9223372036854775808) :
  ∃ fr hp wr,bh (CC L) run k 4 ofC ⟨entry 26 [Ab.bN z],[],[]⟩=some ⟨fr,hp,wr⟩∧fr.length=26∧nth fr 3 = .sc (.int .u64 (Int.ofNat z.natAbs))∧nth fr 5 = .sc (.slice none 0 0)
   ∧ nth fr 2 = .ptr 0 0∧nth fr 4 = .sc (.bool (bz z))∧hp=[⟨.live,[.sc (.bool false),.sc (.slice none 0 0)]⟩]:=by
 cases z with
 | ofNat n =>
  have hw:bA .u64 (n:Int)=Int.ofNat n:=dk .u64 n (by simp[hiN];simp at h2;omega)
  have hlt:((n:Int)<0)=False:=by simp
  simp[ofC,f97,bh,entry,nth,eX,Ab.bN,bc,and_assoc,dD,uI,u64,zW,aO,hw,bz,hlt]
 | negSucc n =>
  have hw:bA .u64 (Int.negSucc n)=Int.ofNat (18446744073709551616 - (n+1)):=by
   have:=vX (n:=n+1) (by omega) (by omega)
   rw[← this];rfl
  have hlt:(Int.negSucc n<0)=True:=by simp
  have hw2:bA .u64 (-((18446744073709551616 - (n+1):Nat):Int))=(n:Int)+1:=by
   rw[vX (by omega) (by omega)]
   simp;omega
  simp only[Int.ofNat_eq_natCast] at hw
  generalize 18446744073709551616 - (n+1)=m at *
  simp[ofC,f97,bh,entry,nth,eX,Ab.bN,unP,bc,and_assoc,dD,uI,u64,zW,aO,hw,hw2,bz,hlt]
theorem abI (L:List (Nat × (Ψ→Option Ψ)))(run:aw)(k:Nat)(fr:Ψ)(hp:Θ)(wr:Ω)(n:Bool)(l:Ω)(p:PV)
  (h20:fr.length=26) (h2:nth fr 2 = .ptr 0 0) (h4:nth fr 4 = .sc (.bool n)) (h5:nth fr 5=p) (hO:dM 1 hp l p) (hb:aL hp 0=some ⟨.live,[.sc (.bool false),.sc (.slice none 0 0)]⟩) :
  ∃ st,ae (CC L) run k (ai 5 ofC) ⟨fr,hp,wr⟩=some (.ret,st)∧aX TT st.fr st.hp f97.results.toList=some [.agg [.sc (.bool n),p]]∧st.hp=cg hp 0 ⟨.live,[.sc (.bool n),p]⟩:=by
 have hc:=hO.cells
 have hk:=hO.okc
 have hokb:∀ b,eo (PV.sc (.bool b))=true:=fun _=>rfl
 have hcb:∀ b,(PV.sc (.bool b)).cells?=some [.sc (.bool b)]:=fun _=>rfl
 have hca:∀ cs,(PV.agg cs).cells?=some cs:=fun _=>rfl
 have hn:aL (cg hp 0 ⟨.live,[.sc (.bool n),p]⟩) 0=some ⟨.live,[.sc (.bool n),p]⟩:=by rw[cI hb,if_pos rfl]
 simp[ofC,ai,f97,aa,af,ab,bc,bm,kE,bG,bg,h20,h2,h4,h5,eK,zW,uW,wf0,wf1,sB,sD,sW,aW,dH,kr,hc,hk,ca,hb,hn,bp,bF]
def ofF:Ψ→Option Ψ
 | [.sc (.int .i64 z)]=>bif decide (-9223372036854775808≤z) && decide (z<9223372036854775808) then some [br z] else none
 | _=>none
theorem mM:Ab.Spec base.P 97 ofF:=Ab.Spec.bS (C:=CC []) (cR trivial) fun args rs h=>by
 unfold ofF at h
 split at h
 ·rename_i z
  cases hd:decide (-9223372036854775808≤z) && decide (z<9223372036854775808) with
  | false=>rw[hd] at h;cases h
  | true =>
   rw[hd] at h
   simp only[cond_true,OiE] at h
   subst h
   simp only[Bool.and_eq_true,decide_eq_true_eq] at hd
   obtain⟨fr1,hp1,wr1,h1,h20,h3,h5,h2,h4,hhp⟩:=age [] (runK (CC []) 4) 4 z hd.1 hd.2
   obtain⟨fr2,hp2,wr2,g1,g2,g3,g4,g5,g6⟩:=LB [] (runK (CC []) 4) 4 3 z.natAbs [] fr1 hp1 wr1 (by omega) (by simp) (by omega) h20 h3 (by rw[h5];exact dM.nil (by rw[hhp];simp))
   obtain⟨st,e1,e2,e3⟩:=abI [] (runK (CC []) 4) 4 fr2 hp2 wr2 (bz z) _ _ g2 (by rw[g4,h2]) (by rw[g5,h4]) rfl g3 (by rw[g6,hhp];rfl)
   have hx:ae (CC []) (runK (CC []) 4) 4 ofC ⟨entry 26 [Ab.bN z],[],[]⟩=some (.ret,st):=by
    rw[aY 4 h1,U2,ar (bE g1)]
    exact e1
   obtain⟨rs2,ids,q1,q2⟩:=(g3.set 0 ⟨.live,[.sc (.bool (bz z)),nth fr2 5]⟩ (by omega)).out (bz z)
   rw[← e3] at q1
   exact⟨5,_,_,_,rs2,ids,ba aey rfl hx e2,q1,q2⟩
 ·cases h
abbrev Lst:=List (Nat × (Ψ→Option Ψ))
def tM:Code:=((f167.body).bind aA).getD .skip
theorem afq (l:Ω)(a:Nat)(hp:Θ):dw TT hp 68 (aP (l++[a])) none (some (.sc (.int .i64 (l.length:Int)))) none=some (aP l):=by
 have h:aP (l++[a]) = .imm (l.length+1) false ((l++[a]).map dg):=by simp[aP]
 rw[h]
 simp only[dw,uD,iJ,s32,bnd,fv,gl,Option.map]
 simp[gK,bp]
 rw[dh (by simp)]
 simp[aP]
set_option maxHeartbeats 1000000 in
theorem M4 (L:Lst)(run:aw)(k:Nat)(fr:Ψ)(hp:Θ)(wr:Ω)(l:Ω)(a:Nat)(hl:l.length<10000000)(ha:a≠0)
  (h21:fr.length=21) (h0:nth fr 0=aP (l++[a])) :
  ∃ fr',ae (CC L) run k tM ⟨fr,hp,wr⟩=some (.exit 0,⟨fr',hp,wr⟩)∧nth fr' 0=nth fr 0∧fr'.length=21:=by
 have hw:bA .i64 ((l.length+1:Nat) - 1:Int)=Int.ofNat l.length:=by
  have:=dk .i64 l.length (by simp[hiN];omega)
  rw[← this];congr 1;omega
 have hw':bA .i64 (l.length:Int)=Int.ofNat l.length:=dk .i64 l.length (by simp[hiN];omega)
 have h:aP (l++[a]) = .imm (l.length+1) false ((l++[a]).map dg):=by simp[aP]
 have hd:(bp ((l++[a]).map dg) l.length).head?=some (.sc (.int .u32 a)):=by
  rw[eM _ _ (by simp)];simp[dg]
 rw[h] at h0
 have ha':((a:Int) == 0)=false:=by simp;exact ha
 simp[tM,f167,aA,bd,bn,aa,af,ab,bc,cP,h21,h0,uD,s32,a32,hw',hd,ha',-map_append]
set_option maxHeartbeats 1000000 in
theorem RT (L:Lst)(run:aw)(k:Nat)(fr:Ψ)(hp:Θ)(wr:Ω)(h21:fr.length=21)(h0:nth fr 0=aP []) :
  ∃ fr',ae (CC L) run k tM ⟨fr,hp,wr⟩=some (.exit 0,⟨fr',hp,wr⟩)∧nth fr' 0=nth fr 0∧fr'.length=21:=by
 have h:aP [] = .imm 0 false []:=rfl
 rw[h] at h0
 simp[tM,f167,aA,aa,af,ab,bc,cP,h21,h0,uD,-map_append]
set_option maxHeartbeats 1000000 in
theorem Z4 (L:Lst)(run:aw)(k:Nat)(fr:Ψ)(hp:Θ)(wr:Ω)(l:Ω)(hl:l.length<10000000)
  (h21:fr.length=21) (h0:nth fr 0=aP (l++[0])) :
  ∃ fr',ae (CC L) run k tM ⟨fr,hp,wr⟩=some (.normal,⟨fr',hp,wr⟩)∧nth fr' 0=aP l∧fr'.length=21:=by
 have hw':bA .i64 (l.length:Int)=Int.ofNat l.length:=dk .i64 l.length (by simp[hiN];omega)
 have h:aP (l++[0]) = .imm (l.length+1) false ((l++[0]).map dg):=by simp[aP]
 have hd:(bp ((l++[0]).map dg) l.length).head?=some (.sc (.int .u32 0)):=by
  rw[eM _ _ (by simp)];simp[dg]
 have hs:=afq l 0
 rw[h] at h0 hs
 simp[tM,f167,aA,bd,bn,aa,af,ab,bc,cP,h21,h0,uD,s32,a32,hw',hd,hs,-map_append]
theorem zH (L:Lst)(run:aw)(k:Nat):∀ (n:Nat) (l:Ω) (fr:Ψ) (hp:Θ) (wr:Ω),l.length=n→n<10000000→fr.length=21→nth fr 0=aP l →
  ∃ fr',cb (ae (CC L) run k tM) (n+1) ⟨fr,hp,wr⟩=some (.exit 0,⟨fr',hp,wr⟩)∧nth fr' 0=aP (fi l)∧fr'.length=21
 | 0,l,fr,hp,wr,hl,hn,h21,h0=>by
  have:l=[]:=length_eq_zero_iff.1 hl
  subst this
  obtain⟨fr',h1,h2,h3⟩:=RT L run k fr hp wr h21 h0
  exact⟨fr',bu h1,by rw[h2,h0];rfl,h3⟩
 | n+1,l,fr,hp,wr,hl,hn,h21,h0=>by
  obtain⟨l',a,rfl,hl'⟩:=BG hl
  by_cases ha:a=0
  ·subst ha
   obtain⟨fr1,h1,h2,h3⟩:=Z4 L run k fr hp wr l' (by omega) h21 h0
   obtain⟨fr',g1,g2,g3⟩:=zH L run k n l' fr1 hp wr hl' (by omega) h3 h2
   exact⟨fr',by rw[bT h1];exact g1,by rw[g2,eA,if_pos rfl],g3⟩
  ·obtain⟨fr',h1,h2,h3⟩:=M4 L run k fr hp wr l' a (by omega) ha h21 h0
   exact⟨fr',bu h1,by rw[h2,h0,eA,if_neg ha],h3⟩
def wg:Code:=f167.body.getD .skip
theorem GS:ai 1 wg = .seq (.block 0 (.loop tM)) (ai 2 wg):=rfl
theorem RS (L:Lst)(run:aw)(k:Nat)(p:PV):∃ fr,bh (CC L) run k 1 wg ⟨entry 21 [p],[],[]⟩=some ⟨fr,[],[]⟩∧fr.length=21∧nth fr 0=p:=by
 simp[wg,f167,bh,entry,nth,eX]
theorem M5 (L:Lst)(run:aw)(k:Nat)(fr:Ψ)(hp:Θ)(wr:Ω)(p:PV)(h21:fr.length=21)(h0:nth fr 0=p) :
  ∃ st,ae (CC L) run k (ai 2 wg) ⟨fr,hp,wr⟩=some (.ret,st)∧aX TT st.fr st.hp f167.results.toList=some [p]:=by
 simp[wg,ai,f167,aa,ab,h21,h0]
def jy:Ψ→Option Ψ
 | [p]=>match ia p with
  | some l=>some [aP (fi l)]
  | none=>none
 | _=>none
theorem EG (hp:Θ)(l:Ω):bw (snap hp bq) [aP l]=some ([aP l],[]):=rfl
theorem jF (hp:Θ)(z:Int):bw (snap hp bq) [br z]=some ([br z],[]):=rfl
theorem jj:Ab.Spec base.P 167 jy:=Ab.Spec.bS (C:=CC []) (cR trivial) fun args rs h=>by
 unfold jy at h
 split at h
 ·split at h
  ·rename_i l hl
   obtain⟨rfl,_,hlen⟩:=dx hl
   simp only[OiE] at h
   subst h
   obtain⟨fr1,h1,h20,h0⟩:=RS [] (runK (CC []) (l.length+1)) (l.length+1) (aP l)
   obtain⟨fr2,g1,g2,g3⟩:=zH [] (runK (CC []) (l.length+1)) (l.length+1) l.length l fr1 [] [] rfl (by omega) h20 h0
   obtain⟨st,e1,e2⟩:=M5 [] (runK (CC []) (l.length+1)) (l.length+1) fr2 [] [] _ g3 g2
   have hx:ae (CC []) (runK (CC []) (l.length+1)) (l.length+1) wg ⟨entry 21 [aP l],[],[]⟩=some (.ret,st):=by
    rw[aY 1 h1,GS,ar (bE g1)]
    exact e1
   exact⟨l.length+2,_,_,_,_,_,ba QV rfl hx e2,EG _ _,Wk.refl rfl,trivial⟩
  ·cases h
 ·cases h
def sgn (n:Bool)(v:Nat):Int:=bif n then Int.negOfNat v else Int.ofNat v
theorem afj {l:Ω}(h:Dok l)(n:Bool):wh (n && decide (0<(fi l).length)) (fi l)=br (sgn n (val l)):=by
 rw[eB h]
 cases n with
 | false=>rfl
 | true =>
  by_cases h0:val l=0
  ·rw[h0];rfl
  ·rw[sgn,cond_true,FI h0]
   have:=cT.2 h0
   simp[this]
def fA:Ψ→Option Ψ
 | [.sc (.bool n),p]=>match ia p with
  | some l=>some [br (sgn n (val l))]
  | none=>none
 | _=>none
def Bp:Lst:=[(167,jy)]
theorem P9 (run:aw)(dr:Bool)(hp:Θ)(l:Ω)(hd:Dok l)(hl:l.length<1000000):bP (CC Bp) run dr hp 167 [aP l]=some (aP (fi l),hp,⟨[],[],false,false⟩):=by
 have h3:(CC Bp).orc 167 [aP l]=some [aP (fi l)]:=by
  show jy (aK [aP l])=_
  simp only[aK,fJ,jy,cW hd hl]
 exact eJ vu (EG hp l) h3 rfl
def Lb:Code:=f152.body.getD .skip
theorem Dn (neg:Bool)(l:Ω)(hd:Dok l)(hl:l.length<1000000)(run:aw)(k:Nat) :
  ∃ st,ae (CC Bp) run k Lb ⟨entry 15 [.sc (.bool neg),aP l],[],[]⟩=some (.ret,st)∧aX TT st.fr st.hp f152.results.toList=some [br (sgn neg (val l))]:=by
 rw[← afj hd]
 have hc:∀ hp dr,bP (CC Bp) run dr hp 167 [aP l]=some (aP (fi l),hp,⟨[],[],false,false⟩):=fun hp dr=>P9 run dr hp l hd hl
 cases neg <;> simp[Lb,f152,entry,nth,eX,aM,bc,cm,yy,bm,kE,bZ,bG,bg,hc,zW,aO,uD,eK,uW,wf0,wf1,sB,sD,sW,aW,dH,kr,ca,aL,cg,bp,bF,wh]
theorem jB:Ab.Spec base.P 152 fA:=Ab.Spec.bS (C:=CC Bp) (cR ⟨jj,trivial⟩) fun args rs h=>by
 unfold fA at h
 split at h
 ·split at h
  ·rename_i n p _ l hl
   obtain⟨rfl,hd,hlen⟩:=dx hl
   simp only[OiE] at h
   subst h
   obtain⟨st,e1,e2⟩:=Dn n l hd hlen (runK (CC Bp) 1) 1
   exact⟨2,_,_,_,_,_,ba Gs rfl e1 e2,jF _ _,Wk.refl rfl,trivial⟩
  ·cases h
 ·cases h
def pI:Code:=((f146.body).bind aA).getD .skip
def lR:Code:=f146.body.getD .skip
set_option maxHeartbeats 1000000 in
theorem Se (L:Lst)(run:aw)(k:Nat)(fr:Ψ)(h41:fr.length=41)(h5:nth fr 5 = .sc (.int .i64 (-1))) :
  ∃ fr',ae (CC L) run k pI ⟨fr,[],[]⟩=some (.exit 0,⟨fr',[],[]⟩)∧fr'.length=41:=by
 simp[pI,f146,aA,aa,ab,h41,h5]
set_option maxHeartbeats 1000000 in
theorem size_eq (L:Lst)(run:aw)(k:Nat)(fr:Ψ)(a b:Ω)(m:Nat)(hma:m<a.length)(hmb:m<b.length)(hl:a.length<1000000)
  (h41:fr.length=41) (h0:nth fr 0=aP a) (h1:nth fr 1=aP b) (h5:nth fr 5 = .sc (.int .i64 (m:Int))) (h:a[m]=b[m]) :
  ∃ fr',ae (CC L) run k pI ⟨fr,[],[]⟩=some (.normal,⟨fr',[],[]⟩)∧fr'.length=41∧nth fr' 0=aP a∧nth fr' 1=aP b∧nth fr' 5 = .sc (.int .i64 ((m:Int) - 1)):=by
 have hw:bA .i64 ((m:Int) - 1)=(m:Int) - 1:=cM m (by omega)
 have hda:=eM a m hma
 have hdb:=eM b m hmb
 rw[h] at hda
 generalize b[m]=y at *
 have e1:aP a = .imm a.length false (a.map dg):=rfl
 have e2:aP b = .imm b.length false (b.map dg):=rfl
 have hdg:dg y = .sc (.int .u32 (y:Int)):=rfl
 rw[e1] at h0 ⊢;rw[e2] at h1 ⊢;rw[hdg] at hda hdb
 simp[pI,f146,aA,bd,bn,aa,af,ab,bc,h41,h0,h1,h5,uD,s32,a32,hma,hmb,hda,hdb,number,FP.free,hw]
set_option maxHeartbeats 1000000 in
theorem aab (L:Lst)(run:aw)(k:Nat)(fr:Ψ)(a b:Ω)(m:Nat)(hma:m<a.length)(hmb:m<b.length)(hl:a.length<1000000)
  (h41:fr.length=41) (h0:nth fr 0=aP a) (h1:nth fr 1=aP b) (h5:nth fr 5 = .sc (.int .i64 (m:Int))) (h:a[m]≠b[m]) :
  ∃ fr',ae (CC L) run k pI ⟨fr,[],[]⟩=some (.ret,⟨fr',[],[]⟩)∧fr'.length=41∧nth fr' 4 = .sc (.int .i64 (if a[m]<b[m] then -1 else 1)):=by
 have hda:=eM a m hma
 have hdb:=eM b m hmb
 generalize b[m]=y at *
 generalize a[m]=x at *
 have e1:aP a = .imm a.length false (a.map dg):=rfl
 have e2:aP b = .imm b.length false (b.map dg):=rfl
 have hdx:dg x = .sc (.int .u32 (x:Int)):=rfl
 have hdy:dg y = .sc (.int .u32 (y:Int)):=rfl
 rw[e1] at h0;rw[e2] at h1;rw[hdx] at hda;rw[hdy] at hdb
 by_cases hxy:x<y
 ·simp[pI,f146,aA,bd,bn,aa,af,ab,bc,Gh,h41,h0,h1,h5,uD,s32,a32,hma,hmb,hda,hdb,number,FP.free,h,hxy]
 ·simp[pI,f146,aA,bd,bn,aa,af,ab,bc,Gh,h41,h0,h1,h5,uD,s32,a32,hma,hmb,hda,hdb,number,FP.free,h,hxy]
theorem zO (L:Lst)(run:aw)(k:Nat)(a b:Ω)(hab:a.length=b.length)(hl:a.length<1000000)(ha:Dok a)(hb:Dok b):∀ (m:Nat) (fr:Ψ),m≤a.length →
  fr.length=41→nth fr 0=aP a→nth fr 1=aP b→nth fr 5 = .sc (.int .i64 ((m:Int) - 1))→a.drop m=b.drop m →
  (∃ fr',cb (ae (CC L) run k pI) (m+1) ⟨fr,[],[]⟩=some (.exit 0,⟨fr',[],[]⟩)∧fr'.length=41∧dS (val a) (val b)=0) ∨
  (∃ fr',cb (ae (CC L) run k pI) (m+1) ⟨fr,[],[]⟩=some (.ret,⟨fr',[],[]⟩)∧nth fr' 4 = .sc (.int .i64 (dS (val a) (val b))))
 | 0,fr,hm,h41,h0,h1,h5,hd=>by
  obtain⟨fr',g1,g2⟩:=Se L run k fr h41 h5
  refine .inl ⟨fr',bu g1,g2,?_⟩
  simp at hd
  simp[dS,hd]
 | m+1,fr,hm,h41,h0,h1,h5,hd=>by
  have h5':nth fr 5 = .sc (.int .i64 (m:Int)):=by rw[h5];simp
  have hmb:m<b.length:=by omega
  have hma:m<a.length:=by omega
  by_cases h:a[m]=b[m]
  ·obtain⟨fr1,g1,g2,g3,g4,g5⟩:=size_eq L run k fr a b m hma hmb hl h41 h0 h1 h5' h
   have hd':a.drop m=b.drop m:=by rw[drop_eq_getElem_cons hma,drop_eq_getElem_cons hmb,hd,h]
   rw[bT g1]
   exact zO L run k a b hab hl ha hb m fr1 (by omega) g2 g3 g4 g5 hd'
  ·obtain⟨fr1,g1,g2,g3⟩:=aab L run k fr a b m hma hmb hl h41 h0 h1 h5' h
   refine .inr ⟨fr1,du g1,?_⟩
   rw[g3]
   by_cases hxy:a[m]<b[m]
   ·have:=lL ha hma hmb hd hxy
    rw[if_pos hxy,dS,if_pos this]
   ·have:=lL hb hmb hma hd.symm (by omega)
    rw[if_neg hxy,dS,if_neg (by omega),if_neg (by omega)]
def pH (a b:Ω):Int:=if a.length<b.length then -1 else if b.length<a.length then 1 else dS (val a) (val b)
theorem Nj (L:Lst)(run:aw)(k:Nat)(a b:Ω)(h:a.length≠b.length) :
  ∃ st,ae (CC L) run k lR ⟨entry 41 [aP a,aP b],[],[]⟩=some (.ret,st)∧aX TT st.fr st.hp f146.results.toList=some [Ab.bN (pH a b)]:=by
 by_cases hx:a.length<b.length
 ·simp[lR,f146,entry,nth,eX,bc,cm,Gh,uD,h,hx,pH,Ab.bN]
 ·have:b.length<a.length:=by omega
  simp[lR,f146,entry,nth,eX,bc,cm,Gh,uD,h,hx,this,pH,Ab.bN]
theorem Ni (L:Lst)(run:aw)(k:Nat)(a b:Ω)(h:a.length=b.length)(hl:a.length<1000000) :
  ∃ fr,bh (CC L) run k 2 lR ⟨entry 41 [aP a,aP b],[],[]⟩=some ⟨fr,[],[]⟩∧fr.length=41∧nth fr 0=aP a∧nth fr 1=aP b:=by
 simp[lR,f146,bh,entry,nth,eX,bc,cm,uD,h]
def Hb:Code:=seq1 (seq1 (ai 2 lR))
theorem wB:ai 2 lR = .seq (.seq Hb (.block 0 (.loop pI))) (ai 3 lR):=rfl
theorem aaa (L:Lst)(run:aw)(k:Nat)(fr:Ψ)(a b:Ω)(hl:a.length<1000000)(h41:fr.length=41)(h0:nth fr 0=aP a)(h1:nth fr 1=aP b) :
  ∃ fr',ae (CC L) run k Hb ⟨fr,[],[]⟩=some (.normal,⟨fr',[],[]⟩)∧fr'.length=41∧nth fr' 0=aP a∧nth fr' 1=aP b∧nth fr' 5 = .sc (.int .i64 ((a.length:Int) - 1)):=by
 have hw:bA .i64 ((a.length:Int) - 1)=(a.length:Int) - 1:=cM _ (by omega)
 simp[Hb,lR,ai,seq1,f146,aa,af,ab,bc,cm,uD,h41,h0,h1,hw]
theorem Nk (L:Lst)(run:aw)(k:Nat)(fr:Ψ)(h41:fr.length=41) :
  ∃ st,ae (CC L) run k (ai 3 lR) ⟨fr,[],[]⟩=some (.ret,st)∧aX TT st.fr st.hp f146.results.toList=some [Ab.bN 0]:=by
 simp[lR,ai,f146,aa,h41,Ab.bN]
theorem cJ {C:Cfg}{run:aw}{k i:Nat}{b:Code}{st st':St}(h:cb (ae C run k b) k st=some (.ret,st')):ae C run k (.block i (.loop b)) st=some (.ret,st'):=by
 simp only[ae,h]
theorem bO {C:Cfg}{run:aw}{k:Nat}{a b:Code}{st st':St}(h:ae C run k a st=some (.ret,st')):ae C run k (.seq a b) st=some (.ret,st'):=by
 simp only[ae,h]
def tQ:Ψ→Option Ψ
 | [p,q]=>match ia p,ia q with
  | some a,some b=>some [Ab.bN (pH a b)]
  | _,_=>none
 | _=>none
theorem eD (hp:Θ)(z:Int):bw (snap hp bq) [Ab.bN z]=some ([Ab.bN z],[]):=rfl
theorem zN:Ab.Spec base.P 146 tQ:=Ab.Spec.bS (C:=CC []) (cR trivial) fun args rs h=>by
 unfold tQ at h
 split at h
 ·split at h
  ·rename_i a b ea eb
   obtain⟨rfl,ha,hla⟩:=dx ea
   obtain⟨rfl,hb,hlb⟩:=dx eb
   simp only[OiE] at h
   subst h
   by_cases hab:a.length=b.length
   ·obtain⟨fr1,h1,h2,h3,h4⟩:=Ni [] (runK (CC []) (a.length+1)) (a.length+1) a b hab hla
    obtain⟨fr2,g1,g2,g3,g4,g5⟩:=aaa [] (runK (CC []) (a.length+1)) (a.length+1) fr1 a b hla h2 h3 h4
    have hs:pH a b=dS (val a) (val b):=by simp[pH,hab]
    rcases zO [] (runK (CC []) (a.length+1)) (a.length+1) a b hab hla ha hb a.length fr2 (Nat.le_refl _) g2 g3 g4 g5 (by simp[hab]) with ⟨fr3,q1,q2,q3⟩| ⟨fr3,q1,q2⟩
    ·obtain⟨st,e1,e2⟩:=Nk [] (runK (CC []) (a.length+1)) (a.length+1) fr3 q2
     have hx:ae (CC []) (runK (CC []) (a.length+1)) (a.length+1) lR ⟨entry 41 [aP a,aP b],[],[]⟩=some (.ret,st):=by
      rw[aY 2 h1,wB,ar ((ar g1).trans (bE q1))]
      exact e1
     rw[hs,q3]
     exact⟨a.length+2,_,_,_,_,_,ba tF rfl hx e2,eD _ _,Wk.refl rfl,trivial⟩
    ·have hx:ae (CC []) (runK (CC []) (a.length+1)) (a.length+1) lR ⟨entry 41 [aP a,aP b],[],[]⟩=some (.ret,⟨fr3,[],[]⟩):=by
      rw[aY 2 h1,wB,bO ((ar g1).trans (cJ q1))]
     have e2:aX TT fr3 [] f146.results.toList=some [Ab.bN (dS (val a) (val b))]:=by
      simp[f146,q2,Ab.bN]
     rw[hs]
     exact⟨a.length+2,_,_,_,_,_,ba tF rfl hx e2,eD _ _,Wk.refl rfl,trivial⟩
   ·obtain⟨st,e1,e2⟩:=Nj [] (runK (CC []) 1) 1 a b hab
    exact⟨2,_,_,_,_,_,ba tF rfl e1 e2,eD _ _,Wk.refl rfl,trivial⟩
  ·cases h
 ·cases h
theorem oq (n:Nat):fY TT 68 1 [(0,dg n)]=some (1,[dg n]):=Wj uD s32 z32 n
def xw:Code:=((f160.body).bind aA).getD .skip
def kX:Code:=f160.body.getD .skip
theorem UB (L:Lst)(run:aw)(k:Nat)(fr:Ψ)(hp:Θ)(wr:Ω)(n:Nat)(h52:fr.length=52)
  (h21:nth fr 21 = .sc (.int .i64 (n:Int))) (h22:nth fr 22 = .sc (.int .i64 (n:Int))) :
  ∃ fr',ae (CC L) run k xw ⟨fr,hp,wr⟩=some (.exit 0,⟨fr',hp,wr⟩)∧fr'.length=52∧nth fr' 5=nth fr 5∧nth fr' 6=nth fr 6:=by
 simp[xw,f160,aA,aa,af,ab,h52,h21,h22]
set_option maxHeartbeats 2000000 in
theorem Iv (L:Lst)(run:aw)(k:Nat)(fr:Ψ)(hp:Θ)(wr:Ω)(a b out:Ω)(i c s:Nat)(ha:Dok a)(hb:Dok b)(hc:c≤1)(hi:i<a.length)(hl:a.length<1000000)
  (h52:fr.length=52) (h20:nth fr 20=aP a) (h21:nth fr 21 = .sc (.int .i64 (a.length:Int))) (h22:nth fr 22 = .sc (.int .i64 (i:Int))) (h1:nth fr 1=aP b)
  (h6:nth fr 6 = .sc (.int .u32 (c:Int))) (hO:dM 0 hp out (nth fr 5)) (ho:out.length=i) (hs:s=at0 a i+c+at0 b i) :
  ∃ fr' hp' wr',ae (CC L) run k xw ⟨fr,hp,wr⟩=some (.normal,⟨fr',hp',wr'⟩)∧fr'.length=52∧nth fr' 20=aP a∧nth fr' 21 = .sc (.int .i64 (a.length:Int))
   ∧ nth fr' 22 = .sc (.int .i64 ((i+1:Nat):Int))∧nth fr' 1=aP b∧nth fr' 6 = .sc (.int .u32 ((s / 1000000000:Nat):Int))∧dM 0 hp' (out++[s % 1000000000]) (nth fr' 5):=by
 have hda:=eM a i hi
 have hax:=ha.get hi
 rw[dc hi] at hs
 generalize a[i]=x at *
 have e1:aP a = .imm a.length false (a.map dg):=rfl
 have e2:aP b = .imm b.length false (b.map dg):=rfl
 have hdx:dg x = .sc (.int .u32 (x:Int)):=rfl
 rw[e1] at h20 ⊢;rw[e2] at h1 ⊢;rw[hdx] at hda
 obtain⟨s1,hs1⟩:∃ s1,s1=x+c:=⟨_,rfl⟩
 have hw1:bA .u32 ((x:Int)+(c:Int))=(s1:Int):=dm .u32 x c s1 hs1 (iX (by omega))
 have hwi:=bD i (by omega)
 have hb9:=cn hb i
 obtain⟨q,hq⟩:∃ q,q=s / 1000000000:=⟨_,rfl⟩
 obtain⟨r,hr⟩:∃ r,r=s % 1000000000:=⟨_,rfl⟩
 have hw3:bA .u32 ((s:Int) / 1000000000)=(q:Int):=jO .u32 s q hq (iX (by omega))
 obtain⟨p',hp',fp,h7,h8,h9⟩:=hO.app r (ho ▸ Nat.lt_trans hi (Nat.lt_trans hl (by decide)))
 rw[← hq,← hr]
 by_cases hib:i<b.length
 ·have hdb:=eM b i hib
  rw[dc hib] at hs hb9
  generalize b[i]=y at *
  have hdy:dg y = .sc (.int .u32 (y:Int)):=rfl
  rw[hdy] at hdb
  have hw2:bA .u32 ((s1:Int)+(y:Int))=(s:Int):=dm .u32 s1 y s (by omega) (iX (by omega))
  have hw4:((s:Int).tmod 1000000000)=(r:Int):=lQ s r hr
  simp[xw,f160,aA,bd,bn,aa,af,ab,bc,and_assoc,cP,bg,dq,h52,h20,h21,h22,h1,h6,uD,s32,b32,z32,a32,hi,hib,hda,hdb,hw1,hw2,hw3,hw4,hwi,gU r,oq,nU,jU,ch,h7,h8]
 ·rw[jq (Nat.le_of_not_lt hib)] at hs
  have:s1=s:=by omega
  subst this
  have hw4:((s1:Int).tmod 1000000000)=(r:Int):=lQ s1 r hr
  simp[xw,f160,aA,bd,bn,aa,af,ab,bc,and_assoc,cP,bg,dq,h52,h20,h21,h22,h1,h6,uD,s32,b32,z32,a32,hi,hib,hda,hw1,hw3,hw4,hwi,gU r,oq,nU,jU,ch,h7,h8]
theorem OG {va vb vo x c y P s q r:Nat}(h:vo+c*P=va+vb)(hs:s=x+c+y)(hq:q=s / 1000000000)(hr:r=s % 1000000000) :
  vo+P*r+q*(P*1000000000)=va+x*P+(vb+y*P):=by
 have e:s=r+1000000000*q:=by omega
 have e2:s*P=(r+1000000000*q)*P:=by rw[e]
 subst hs
 simp only[Nat.add_mul] at e2 ⊢
 have e3:1000000000*q*P=q*(P*1000000000):=by grind
 have e4:r*P=P*r:=Nat.mul_comm _ _
 omega
theorem Ay (L:Lst)(run:aw)(k:Nat)(a b:Ω)(ha:Dok a)(hb:Dok b)(hl:a.length<1000000):∀ (n i:Nat) (fr:Ψ) (hp:Θ) (wr:Ω) (out:Ω) (c:Nat),i+n=a.length →
  fr.length=52→nth fr 20=aP a→nth fr 21 = .sc (.int .i64 (a.length:Int))→nth fr 22 = .sc (.int .i64 (i:Int))→nth fr 1=aP b→nth fr 6 = .sc (.int .u32 (c:Int))→dM 0 hp out (nth fr 5)→out.length=i →
  Dok out→c≤1→val out+c*1000000000 ^ i=val (a.take i)+val (b.take i) →
  ∃ (fr':Ψ) (hp':Θ) (wr':Ω) (out':Ω) (c':Nat),cb (ae (CC L) run k xw) (n+1) ⟨fr,hp,wr⟩=some (.exit 0,⟨fr',hp',wr'⟩)∧fr'.length=52∧nth fr' 6 = .sc (.int .u32 (c':Int))∧dM 0 hp' out' (nth fr' 5)∧out'.length=a.length
   ∧ Dok out'∧c'≤1∧val out'+c'*1000000000 ^ a.length=val a+val (b.take a.length)
 | 0,i,fr,hp,wr,out,c,hi,h52,h20,h21,h22,h1,h6,hO,ho,hd,hc,hv=>by
  have:i=a.length:=by omega
  subst this
  obtain⟨fr',g1,g2,g3,g4⟩:=UB L run k fr hp wr a.length h52 h21 h22
  exact⟨fr',hp,wr,out,c,bu g1,g2,by rw[g4,h6],by rw[g3];exact hO,ho,hd,hc,by rw[hv,take_length]⟩
 | n+1,i,fr,hp,wr,out,c,hi,h52,h20,h21,h22,h1,h6,hO,ho,hd,hc,hv=>by
  obtain⟨fr1,hp1,wr1,g1,g2,g3,g4,g5,g6,g7,g8⟩:=Iv L run k fr hp wr a b out i c _ ha hb hc (by omega) hl h52 h20 h21 h22 h1 h6 hO ho rfl
  obtain⟨fr',hp',wr',out',c',q1,q2⟩:=Ay L run k a b ha hb hl n (i+1) fr1 hp1 wr1 _ _ (by omega) g2 g3 g4 g5 g6 g7 g8 (by simp[ho]) (hd.append (Dok.nil.cons (Nat.mod_lt _ (by omega))))
   (by have:=cn ha i;have:=cn hb i;omega)
   (by
    rw[cu,cu,dF,ho,Nat.pow_succ]
    exact OG hv rfl rfl rfl)
  exact⟨fr',hp',wr',out',c',by rw[bT g1];exact q1,q2⟩
def UC:Code:=seq1 (seq1 (ai 4 kX))
theorem Iu:ai 4 kX = .seq (.seq UC (.block 0 (.loop xw))) (ai 5 kX):=rfl
theorem OJ (L:Lst)(run:aw)(k:Nat)(a b:Ω)(a' b':Ω)(hab:(b.length≤a.length∧a'=a∧b'=b)∨(a.length<b.length∧a'=b∧b'=a)) :
  ∃ fr wr,bh (CC L) run k 2 kX ⟨entry 52 [aP a,aP b],[],[]⟩=some ⟨fr,[],wr⟩∧fr.length=52∧nth fr 0=aP a'∧nth fr 1=aP b':=by
 obtain⟨e1,e2,e3⟩:=cl 50 (aP a) (aP b)
 generalize entry 52 [aP a,aP b]=fr0 at *
 rcases hab with ⟨h,rfl,rfl⟩| ⟨h,rfl,rfl⟩
 ·have hn : ¬ (a'.length<b'.length):=by omega
  simp[kX,f160,bh,e1,e2,e3,aa,af,ab,bc,and_assoc,cm,uD,hn]
 ·simp[kX,f160,bh,e1,e2,e3,aa,af,ab,bc,and_assoc,cm,uD,h]
theorem OI (L:Lst)(run:aw)(k:Nat)(a:Ω)(fr0:Ψ)(wr0:Ω)(hl:a.length<1000000)(e1:fr0.length=52)(e2:nth fr0 0=aP a) :
  ∃ fr hp wr,bh (CC L) run k 2 (ai 2 kX) ⟨fr0,[],wr0⟩=some ⟨fr,hp,wr⟩∧fr.length=52∧nth fr 0=aP a∧nth fr 1=nth fr0 1∧nth fr 6 = .sc (.int .u32 (0:Nat))∧dM 0 hp [] (nth fr 5):=by
 have hO:∀ n,dM 0 [⟨.live,rep n [dg 0]⟩] [] (.own 0 1 0 0 false):=fun n=>⟨Nat.zero_le _,.inr ⟨0,List.replicate n 0,Nat.le_refl _,by simp,rfl,by rw[sT];rfl⟩⟩
 have hw:=bD a.length (by omega)
 have h1:a.length+1≤cS:=Nat.le_trans (show a.length+1≤1000000 by assumption) (by decide)
 simp[kX,ai,f160,bh,e1,e2,j9,jr,aa,af,ab,bc,and_assoc,cm,uD,hw,s32,b32,z32,ch,h1,aO,hO]
theorem af1 (L:Lst)(run:aw)(k:Nat)(fr:Ψ)(hp:Θ)(wr:Ω)(a:Ω)(h52:fr.length=52)(h0:nth fr 0=aP a) :
  ∃ fr',ae (CC L) run k UC ⟨fr,hp,wr⟩=some (.normal,⟨fr',hp,wr⟩)∧fr'.length=52∧nth fr' 20=aP a∧nth fr' 21 = .sc (.int .i64 (a.length:Int))∧nth fr' 22 = .sc (.int .i64 (0:Nat))
   ∧ nth fr' 1=nth fr 1∧nth fr' 6=nth fr 6∧nth fr' 5=nth fr 5:=by
 simp[UC,kX,ai,seq1,f160,aa,af,ab,bc,cm,uD,h52,h0]
theorem OK (L:Lst)(run:aw)(k:Nat)(fr:Ψ)(hp:Θ)(wr:Ω)(out:Ω)(c:Nat)(hl:out.length<1000000)(h52:fr.length=52)(h6:nth fr 6 = .sc (.int .u32 (c:Int)))(hO:dM 0 hp out (nth fr 5)) :
  ∃ st p',ae (CC L) run k (ai 5 kX) ⟨fr,hp,wr⟩=some (.ret,st)∧aX TT st.fr st.hp f160.results.toList=some [p']∧dM 0 st.hp (out++[c]) p':=by
 obtain⟨p',hp',fp,h7,h8,h9⟩:=hO.app c (by omega)
 simp[kX,ai,f160,aa,af,ab,bc,bg,dq,uD,h52,h6,s32,b32,z32,gU c,oq,nU,jU,ch,h7,h8]
def EC:Ψ→Option Ψ
 | [p,q]=>match ia p,ia q with
  | some a,some b=>some [aP (cZ (Nat.max a.length b.length+1) (val a+val b))]
  | _,_=>none
 | _=>none
theorem OH:Ab.Spec base.P 160 EC:=Ab.Spec.bS (C:=CC []) (cR trivial) fun args rs h=>by
 unfold EC at h
 split at h
 ·split at h
  ·rename_i a b ea eb
   obtain⟨rfl,ha,hla⟩:=dx ea
   obtain⟨rfl,hb,hlb⟩:=dx eb
   simp only[OiE] at h
   subst h
   obtain⟨a',b',hab,hsum,hmax,ha',hb',hla',hle⟩:∃ a' b',((b.length≤a.length∧a'=a∧b'=b)∨(a.length<b.length∧a'=b∧b'=a))∧val a'+val b'=val a+val b∧a'.length=Nat.max a.length b.length∧Dok a'∧Dok b'∧a'.length<1000000∧b'.length≤a'.length:=by
    by_cases hx:b.length≤a.length
    ·exact⟨a,b,.inl ⟨hx,rfl,rfl⟩,rfl,(Nat.max_eq_left hx).symm,ha,hb,hla,hx⟩
    ·exact⟨b,a,.inr ⟨by omega,rfl,rfl⟩,Nat.add_comm _ _,(Nat.max_eq_right (by omega)).symm,hb,ha,hlb,by omega⟩
   obtain⟨fr0,wr0,h01,h02,h03,h04⟩:=OJ [] (runK (CC []) (a'.length+1)) (a'.length+1) a b a' b' hab
   obtain⟨fr1,hp1,wr1,h1,h2,h3,h4,h5,h6⟩:=OI [] (runK (CC []) (a'.length+1)) (a'.length+1) a' fr0 wr0 hla' h02 h03
   obtain⟨fr2,g1,g2,g3,g4,g5,g6,g7,g8⟩:=af1 [] (runK (CC []) (a'.length+1)) (a'.length+1) fr1 hp1 wr1 a' h2 h3
   obtain⟨fr3,hp3,wr3,out,c,q1,q2,q3,q4,q5,q6,q7,q8⟩:=Ay [] (runK (CC []) (a'.length+1)) (a'.length+1) a' b' ha' hb' hla' a'.length 0 fr2 hp1 wr1 [] 0 (by simp) g2 g3 g4 g5 (by rw[g6,h4,h04]) (by rw[g7,h5]) (by rw[g8];exact h6) rfl Dok.nil (by omega) (by simp[val])
   obtain⟨st,p',e1,e2,e3⟩:=OK [] (runK (CC []) (a'.length+1)) (a'.length+1) fr3 hp3 wr3 out c (by omega) q2 q3 q4
   have hx:ae (CC []) (runK (CC []) (a'.length+1)) (a'.length+1) kX ⟨entry 52 [aP a,aP b],[],[]⟩=some (.ret,st):=by
    rw[aY 2 h01,aY 2 h1,show ai 2 (ai 2 kX)=ai 4 kX from rfl,Iu,ar ((ar g1).trans (bE q1))]
    exact e1
   have hout:out++[c]=cZ (Nat.max a.length b.length+1) (val a+val b):=by
    refine (q6.append (Dok.nil.cons (by omega))).qj (by simp[q5,hmax]) ?_
    rw[dF,q5,← hsum,Nat.mul_comm,q8,cD _ _ hle]
   obtain⟨rs2,ids,r1,r2⟩:=e3.IG
   rw[hout] at r2
   exact⟨a'.length+2,_,_,_,rs2,ids,ba QX rfl hx e2,r1,r2⟩
  ·cases h
 ·cases h
def mQ:Code:=((f161.body).bind aA).getD .skip
def mP:Code:=f161.body.getD .skip
theorem O6 (L:Lst)(run:aw)(k:Nat)(fr:Ψ)(hp:Θ)(wr:Ω)(n:Nat)(h44:fr.length=44)
  (h14:nth fr 14 = .sc (.int .i64 (n:Int))) (h15:nth fr 15 = .sc (.int .i64 (n:Int))) :
  ∃ fr',ae (CC L) run k mQ ⟨fr,hp,wr⟩=some (.exit 0,⟨fr',hp,wr⟩)∧fr'.length=44∧nth fr' 5=nth fr 5:=by
 simp[mQ,f161,aA,aa,af,ab,h44,h14,h15]
set_option maxHeartbeats 2000000 in
theorem E5 (L:Lst)(run:aw)(k:Nat)(fr:Ψ)(hp:Θ)(wr:Ω)(a b out:Ω)(i c c' d:Nat)(ha:Dok a)(hb:Dok b)(hc:c≤1)(hi:i<a.length)(hl:a.length<1000000)
  (h44:fr.length=44) (h13:nth fr 13=aP a) (h14:nth fr 14 = .sc (.int .i64 (a.length:Int))) (h15:nth fr 15 = .sc (.int .i64 (i:Int))) (h1:nth fr 1=aP b)
  (h6:nth fr 6 = .sc (.int .u32 (c:Int))) (hO:dM 0 hp out (nth fr 5)) (ho:out.length=i) (hs:(at0 a i<c+at0 b i∧c'=1∧d=at0 a i+1000000000 - (c+at0 b i))∨(c+at0 b i≤at0 a i∧c'=0∧d=at0 a i - (c+at0 b i))) :
  ∃ fr' hp' wr',ae (CC L) run k mQ ⟨fr,hp,wr⟩=some (.normal,⟨fr',hp',wr'⟩)∧fr'.length=44∧nth fr' 13=aP a∧nth fr' 14 = .sc (.int .i64 (a.length:Int))
   ∧ nth fr' 15 = .sc (.int .i64 ((i+1:Nat):Int))∧nth fr' 1=aP b∧nth fr' 6 = .sc (.int .u32 (c':Int))∧dM 0 hp' (out++[d]) (nth fr' 5):=by
 have hda:=eM a i hi
 have hax:=ha.get hi
 rw[dc hi] at hs
 generalize a[i]=x at *
 have e1:aP a = .imm a.length false (a.map dg):=rfl
 have e2:aP b = .imm b.length false (b.map dg):=rfl
 have hdx:dg x = .sc (.int .u32 (x:Int)):=rfl
 rw[e1] at h13 ⊢;rw[e2] at h1 ⊢;rw[hdx] at hda
 have hwi:=bD i (by omega)
 obtain⟨p',hp',fp,h7,h8,h9⟩:=hO.app d (ho ▸ Nat.lt_trans hi (Nat.lt_trans hl (by decide)))
 have hwx:bA .u32 ((x:Int)+1000000000)=((x+1000000000:Nat):Int):=dk .u32 (x+1000000000) (iX (by omega))
 have hb9:=cn hb i
 obtain⟨x2,hx2⟩:∃ x2,x2=x+1000000000:=⟨_,rfl⟩
 rw[← hx2] at hwx hs
 by_cases hib:i<b.length
 ·have hdb:=eM b i hib
  rw[dc hib] at hs hb9
  generalize b[i]=y at *
  have hdy:dg y = .sc (.int .u32 (y:Int)):=rfl
  rw[hdy] at hdb
  obtain⟨s,hs1⟩:∃ s,s=c+y:=⟨_,rfl⟩
  have hw2:bA .u32 ((c:Int)+(y:Int))=(s:Int):=dm .u32 c y s hs1 (iX (by omega))
  rw[← hs1] at hs
  rcases hs with ⟨hlt,rfl,rfl⟩| ⟨hge,rfl,rfl⟩
  ·have hw4:bA .u32 ((x2:Int) - (s:Int))=((x2 - s:Nat):Int):=jx .u32 x2 s (x2 - s) (by omega) (iX (by omega))
   generalize x2 - s=d at *
   simp[mQ,f161,aA,bd,bn,aa,af,ab,bc,and_assoc,cP,bg,dq,h44,h13,h14,h15,h1,h6,uD,s32,b32,z32,a32,hi,hib,hda,hdb,hw2,hlt,hwx,hw4,hwi,gU d,oq,nU,jU,ch,h7,h8]
  ·have hw4:bA .u32 ((x:Int) - (s:Int))=((x - s:Nat):Int):=jx .u32 x s (x - s) (by omega) (iX (by omega))
   have hnl : ¬ (x<s):=by omega
   generalize x - s=d at *
   simp[mQ,f161,aA,bd,bn,aa,af,ab,bc,and_assoc,cP,bg,dq,h44,h13,h14,h15,h1,h6,uD,s32,b32,z32,a32,hi,hib,hda,hdb,hw2,hnl,hw4,hwi,gU d,oq,nU,jU,ch,h7,h8]
 ·rw[jq (Nat.le_of_not_lt hib)] at hs
  simp only[Nat.add_zero] at hs
  rcases hs with ⟨hlt,rfl,rfl⟩| ⟨hge,rfl,rfl⟩
  ·have hw4:bA .u32 ((x2:Int) - (c:Int))=((x2 - c:Nat):Int):=jx .u32 x2 c (x2 - c) (by omega) (iX (by omega))
   generalize x2 - c=d at *
   simp[mQ,f161,aA,bd,bn,aa,af,ab,bc,and_assoc,cP,bg,dq,h44,h13,h14,h15,h1,h6,uD,s32,b32,z32,a32,hi,hib,hda,hlt,hwx,hw4,hwi,gU d,oq,nU,jU,ch,h7,h8]
  ·have hw4:bA .u32 ((x:Int) - (c:Int))=((x - c:Nat):Int):=jx .u32 x c (x - c) (by omega) (iX (by omega))
   have hnl : ¬ (x<c):=by omega
   generalize x - c=d at *
   simp[mQ,f161,aA,bd,bn,aa,af,ab,bc,and_assoc,cP,bg,dq,h44,h13,h14,h15,h1,h6,uD,s32,b32,z32,a32,hi,hib,hda,hnl,hw4,hwi,gU d,oq,nU,jU,ch,h7,h8]
theorem IT {va vb vo x c c' y d P:Nat}(h:va+c*P=vo+vb)(hs:(x<c+y∧c'=1∧d=x+1000000000 - (c+y))∨(c+y≤x∧c'=0∧d=x - (c+y)))(hc:c+y≤x+1000000000) :
  va+x*P+c'*(P*1000000000)=vo+P*d+(vb+y*P):=by
 have e:x+c'*1000000000=d+c+y:=by omega
 have e2:(x+c'*1000000000)*P=(d+c+y)*P:=by rw[e]
 simp only[Nat.add_mul] at e2
 have e3:c'*1000000000*P=c'*(P*1000000000):=by grind
 have e4:d*P=P*d:=Nat.mul_comm _ _
 omega
theorem xK (L:Lst)(run:aw)(k:Nat)(a b:Ω)(ha:Dok a)(hb:Dok b)(hl:a.length<1000000):∀ (n i:Nat) (fr:Ψ) (hp:Θ) (wr:Ω) (out:Ω) (c:Nat),i+n=a.length →
  fr.length=44→nth fr 13=aP a→nth fr 14 = .sc (.int .i64 (a.length:Int))→nth fr 15 = .sc (.int .i64 (i:Int))→nth fr 1=aP b→nth fr 6 = .sc (.int .u32 (c:Int))→dM 0 hp out (nth fr 5)→out.length=i →
  Dok out→c≤1→val (a.take i)+c*1000000000 ^ i=val out+val (b.take i) →
  ∃ (fr':Ψ) (hp':Θ) (wr':Ω) (out':Ω) (c':Nat),cb (ae (CC L) run k mQ) (n+1) ⟨fr,hp,wr⟩=some (.exit 0,⟨fr',hp',wr'⟩)∧fr'.length=44∧dM 0 hp' out' (nth fr' 5)∧out'.length=a.length
   ∧ Dok out'∧c'≤1∧val a+c'*1000000000 ^ a.length=val out'+val (b.take a.length)
 | 0,i,fr,hp,wr,out,c,hi,h44,h13,h14,h15,h1,h6,hO,ho,hd,hc,hv=>by
  have:i=a.length:=by omega
  subst this
  obtain⟨fr',g1,g2,g3⟩:=O6 L run k fr hp wr a.length h44 h14 h15
  exact⟨fr',hp,wr,out,c,bu g1,g2,by rw[g3];exact hO,ho,hd,hc,by rw[← hv,take_length]⟩
 | n+1,i,fr,hp,wr,out,c,hi,h44,h13,h14,h15,h1,h6,hO,ho,hd,hc,hv=>by
  have hx:=cn ha i
  have hy:=cn hb i
  obtain⟨c',d,hs,hc',hdd⟩:∃ c' d,((at0 a i<c+at0 b i∧c'=1∧d=at0 a i+1000000000 - (c+at0 b i))∨(c+at0 b i≤at0 a i∧c'=0∧d=at0 a i - (c+at0 b i)))∧c'≤1∧d<1000000000:=by
   by_cases h:at0 a i<c+at0 b i
   ·exact⟨1,_,.inl ⟨h,rfl,rfl⟩,by omega,by omega⟩
   ·exact⟨0,_,.inr ⟨by omega,rfl,rfl⟩,by omega,by omega⟩
  obtain⟨fr1,hp1,wr1,g1,g2,g3,g4,g5,g6,g7,g8⟩:=E5 L run k fr hp wr a b out i c c' d ha hb hc (by omega) hl h44 h13 h14 h15 h1 h6 hO ho hs
  obtain⟨fr',hp',wr',out',c2,q1,q2⟩:=xK L run k a b ha hb hl n (i+1) fr1 hp1 wr1 _ _ (by omega) g2 g3 g4 g5 g6 g7 g8 (by simp[ho]) (hd.append (Dok.nil.cons hdd)) hc'
   (by
    rw[cu,cu,dF,ho,Nat.pow_succ]
    exact IT hv hs (by omega))
  exact⟨fr',hp',wr',out',c2,by rw[bT g1];exact q1,q2⟩
def IW:Code:=seq1 (seq1 (ai 3 mP))
theorem E0:ai 3 mP = .seq (.seq IW (.block 0 (.loop mQ))) (ai 4 mP):=rfl
theorem O5 (L:Lst)(run:aw)(k:Nat)(a b:Ω)(hl:a.length<1000000)(hne:a≠[]) :
  ∃ fr hp wr,bh (CC L) run k 3 mP ⟨entry 44 [aP a,aP b],[],[]⟩=some ⟨fr,hp,wr⟩∧fr.length=44∧nth fr 0=aP a∧nth fr 1=aP b∧nth fr 6 = .sc (.int .u32 (0:Nat))∧dM 0 hp [] (nth fr 5):=by
 obtain⟨e1,e2,e3⟩:=cl 42 (aP a) (aP b)
 generalize entry 44 [aP a,aP b]=fr0 at *
 have hO:∀ n,dM 0 [⟨.live,rep n [dg 0]⟩] [] (.own 0 1 0 0 false):=fun n=>⟨Nat.zero_le _,.inr ⟨0,List.replicate n 0,Nat.le_refl _,by simp,rfl,by rw[sT];rfl⟩⟩
 have h1:a.length≤cS:=Nat.le_trans (Nat.le_of_lt hl) (by decide)
 have h2:(0 == a.length)=false:=by
  have:=length_pos_iff.2 hne
  simp;omega
 simp[mP,f161,bh,e1,e2,e3,bn,j9,aa,af,ab,bc,and_assoc,cm,uD,s32,b32,z32,ch,h1,h2,aO,hO]
theorem acv (L:Lst)(run:aw)(k:Nat)(fr:Ψ)(hp:Θ)(wr:Ω)(a:Ω)(h44:fr.length=44)(h0:nth fr 0=aP a) :
  ∃ fr',ae (CC L) run k IW ⟨fr,hp,wr⟩=some (.normal,⟨fr',hp,wr⟩)∧fr'.length=44∧nth fr' 13=aP a∧nth fr' 14 = .sc (.int .i64 (a.length:Int))∧nth fr' 15 = .sc (.int .i64 (0:Nat))
   ∧ nth fr' 1=nth fr 1∧nth fr' 6=nth fr 6∧nth fr' 5=nth fr 5:=by
 simp[IW,mP,ai,seq1,f161,aa,af,ab,bc,cm,uD,h44,h0]
theorem IV (L:Lst)(run:aw)(k:Nat)(fr:Ψ)(hp:Θ)(wr:Ω)(h44:fr.length=44) :
  ∃ st,ae (CC L) run k (ai 4 mP) ⟨fr,hp,wr⟩=some (.ret,st)∧aX TT st.fr st.hp f161.results.toList=some [nth fr 5]∧st.hp=hp:=by
 simp[mP,ai,f161,aa,ab,h44]
def xL:Ψ→Option Ψ
 | [p,q]=>match ia p,ia q with
  | some a,some b=>bif Nat.ble (val b) (val a) && Nat.ble b.length a.length && !(a.length.beq 0) then some [aP (cZ a.length (val a - val b))] else none
  | _,_=>none
 | _=>none
theorem IU:Ab.Spec base.P 161 xL:=Ab.Spec.bS (C:=CC []) (cR trivial) fun args rs h=>by
 unfold xL at h
 split at h
 ·split at h
  ·rename_i a b ea eb
   obtain⟨rfl,ha,hla⟩:=dx ea
   obtain⟨rfl,hb,hlb⟩:=dx eb
   cases hc:Nat.ble (val b) (val a) && Nat.ble b.length a.length && !(a.length.beq 0) with
   | false=>rw[hc] at h;cases h
   | true =>
    rw[hc] at h
    simp only[cond_true,OiE] at h
    subst h
    simp only[Bool.and_eq_true,Nat.ble_eq,Bool.not_eq_true'] at hc
    obtain⟨⟨hle,hlen⟩,hne⟩:=hc
    have hne':a≠[]:=by intro e;subst e;simp at hne
    obtain⟨fr1,hp1,wr1,h1,h2,h3,h4,h5,h6⟩:=O5 [] (runK (CC []) (a.length+1)) (a.length+1) a b hla hne'
    obtain⟨fr2,g1,g2,g3,g4,g5,g6,g7,g8⟩:=acv [] (runK (CC []) (a.length+1)) (a.length+1) fr1 hp1 wr1 a h2 h3
    obtain⟨fr3,hp3,wr3,out,c,q1,q2,q3,q4,q5,q6,q7⟩:=xK [] (runK (CC []) (a.length+1)) (a.length+1) a b ha hb hla a.length 0 fr2 hp1 wr1 [] 0 (by simp) g2 g3 g4 g5 (by rw[g6,h4]) (by rw[g7,h5]) (by rw[g8];exact h6) rfl Dok.nil (by omega) (by simp[val])
    obtain⟨st,e1,e2,e3⟩:=IV [] (runK (CC []) (a.length+1)) (a.length+1) fr3 hp3 wr3 q2
    have hx:ae (CC []) (runK (CC []) (a.length+1)) (a.length+1) mP ⟨entry 44 [aP a,aP b],[],[]⟩=some (.ret,st):=by
     rw[aY 3 h1,E0,ar ((ar g1).trans (bE q1))]
     exact e1
    have hout:out=cZ a.length (val a - val b):=by
     refine q5.qj q4 ?_
     rw[cD _ _ hlen] at q7
     have hb1:=eW q5
     rw[q4] at hb1
     have:c=0∨c=1:=by omega
     rcases this with rfl | rfl <;> omega
    obtain⟨rs2,ids,r1,r2⟩:=q3.IG
    rw[hout] at r2
    rw[← e3] at r1
    exact⟨a.length+2,_,_,_,rs2,ids,ba KE rfl hx e2,r1,r2⟩
  ·cases h
 ·cases h
theorem bt {L:Lst}{g:Nat}{f:Ψ→Option Ψ}(hs:base.shared g=false)(ho:bx L g=fun a=>f (aK a))(run:aw)(dr:Bool)(hp:Θ)(args rs:Ψ)
  (h1:bw (snap hp bq) args=some (args,[])) (h2:aK args=args) (h3:f args=some rs):bP (CC L) run dr hp g args=some (jm rs,hp,⟨[],[],false,false⟩):=by
 have h4:(CC L).orc g args=some rs:=by
  show bx L g args=_
  rw[ho];show f (aK args)=_;rw[h2,h3]
 by_cases h:rs.all eh=true
 ·exact pA hs h1 h4 h
 ·exact eJ hs h1 h4 (by simpa using h)
theorem nm (hp:Θ)(a b:Ω):bw (snap hp bq) [aP a,aP b]=some ([aP a,aP b],[]):=rfl
theorem MM (hp:Θ)(n:Bool)(a:Ω):bw (snap hp bq) [.sc (.bool n),aP a]=some ([.sc (.bool n),aP a],[]):=rfl
theorem nk (hp:Θ)(a:Int):bw (snap hp bq) [br a]=some ([br a],[]):=rfl
theorem gI (hp:Θ)(a b:Int):bw (snap hp bq) [br a,br b]=some ([br a,br b],[]):=rfl
theorem kF (a b:Ω):aK [aP a,aP b]=[aP a,aP b]:=by simp only[aK,fJ]
theorem F6 (n:Bool)(a:Ω):aK [.sc (.bool n),aP a]=[.sc (.bool n),aP a]:=by simp only[aK,fJ,canon]
theorem j6 (a:Int):aK [br a]=[br a]:=by simp only[aK,yz]
theorem ft (a b:Int):aK [br a,br b]=[br a,br b]:=by simp only[aK,yz]
def Sm (z:Int):Prop:=(aJ z.natAbs).length<400000
theorem Sm.lt {z:Int}(h:Sm z):(aJ z.natAbs).length<1000000:=Nat.lt_trans h (by decide)
theorem dY {p:PV}{z:Int}(h:fQ p=some z):p=br z∧Sm z:=JA h
theorem cK {z:Int}(h:Sm z):fQ (br z)=some z:=PT z h
theorem No (L:Lst)(run:aw)(k:Nat)(z:Int) :
  ∃ st,ae (CC L) run k (f101.body.getD .skip) ⟨entry 11 [br z],[],[]⟩=some (.ret,st)∧aX TT st.fr st.hp f101.results.toList=some [Ab.bN z.sign]:=by
 obtain⟨e1,e2⟩:=cO 10 (br z)
 generalize entry 11 [br z]=fr0 at *
 cases z with
 | ofNat n =>
  cases n with
  | zero =>
   have e3:br (Int.ofNat 0) = .agg [.sc (.bool false),aP []]:=rfl
   rw[e3] at e2
   simp[f101,e1,e2,bM,aa,af,ab,bc,cm,bm,uD,uW,sD,aD,wf0,wf1,aO,aL,bp,Ab.bN]
  | succ n =>
   have h0:=cT.2 (Nat.succ_ne_zero n)
   have e3:br (Int.ofNat (n+1)) = .agg [.sc (.bool false),aP (aJ (n+1))]:=rfl
   rw[e3] at e2
   have e4:(Int.ofNat (n+1)).sign=1:=rfl
   rw[e4]
   generalize aJ (n+1)=l at *
   have h1:((l.length:Int) == 0)=false:=by simp;intro h;subst h;simp at h0
   have h2:l≠[]:=by intro h;subst h;simp at h0
   simp[f101,e1,e2,bM,aa,af,ab,bc,cm,bm,uD,uW,sD,sB,aD,aB,wf0,wf1,aO,aL,bp,Ab.bN,h1]
 | negSucc n =>
   have h0:=cT.2 (Nat.succ_ne_zero n)
   have e3:br (Int.negSucc n) = .agg [.sc (.bool true),aP (aJ (n+1))]:=rfl
   rw[e3] at e2
   have e4:(Int.negSucc n).sign = -1:=rfl
   rw[e4]
   generalize aJ (n+1)=l at *
   have h1:((l.length:Int) == 0)=false:=by simp;intro h;subst h;simp at h0
   have h2:l≠[]:=by intro h;subst h;simp at h0
   simp[f101,e1,e2,bM,aa,af,ab,bc,cm,bm,uD,uW,sD,sB,aD,aB,wf0,wf1,aO,aL,bp,Ab.bN,h1]
def jC:Ψ→Option Ψ
 | [p]=>match fQ p with
  | some z=>some [Ab.bN z.sign]
  | none=>none
 | _=>none
theorem kf:Ab.Spec base.P 101 jC:=Ab.Spec.bS (C:=CC []) (cR trivial) fun args rs h=>by
 unfold jC at h
 split at h
 ·split at h
  ·rename_i z hz
   obtain⟨rfl,-⟩:=dY hz
   simp only[OiE] at h
   subst h
   obtain⟨st,e1,e2⟩:=No [] (runK (CC []) 1) 1 z
   exact⟨2,_,_,_,_,_,ba Q7 rfl e1 e2,eD _ _,Wk.refl rfl,trivial⟩
  ·cases h
 ·cases h
def L1:Lst:=[(167,jy),(152,fA),(160,EC),(161,xL),(146,tQ)]
theorem MQ:dE base.P L1:=⟨jj,jB,OH,IU,zN,trivial⟩
theorem O0:bx L1 152=fun a=>fA (aK a):=rfl
theorem ab9:bx L1 160=fun a=>EC (aK a):=rfl
theorem Vr:bx L1 161=fun a=>xL (aK a):=rfl
theorem ab8:bx L1 146=fun a=>tQ (aK a):=rfl
theorem lj (run:aw)(dr:Bool)(hp:Θ)(n:Bool)(l:Ω)(hd:Dok l)(hl:l.length<1000000) :
  bP (CC L1) run dr hp 152 [.sc (.bool n),aP l]=some (br (sgn n (val l)),hp,⟨[],[],false,false⟩) :=
 bt oU O0 run dr hp _ [br (sgn n (val l))] (MM hp n l) (F6 n l) (by simp only[fA,cW hd hl])
theorem QA (run:aw)(dr:Bool)(hp:Θ)(a b:Ω)(ha:Dok a)(hla:a.length<1000000)(hb:Dok b)(hlb:b.length<1000000) :
  bP (CC L1) run dr hp 160 [aP a,aP b]=some (aP (cZ (Nat.max a.length b.length+1) (val a+val b)),hp,⟨[],[],false,false⟩) :=
 bt aah ab9 run dr hp _ [aP (cZ (Nat.max a.length b.length+1) (val a+val b))] (nm hp a b) (kF a b) (by simp only[EC,cW ha hla,cW hb hlb])
theorem yC (run:aw)(dr:Bool)(hp:Θ)(a b:Ω)(ha:Dok a)(hla:a.length<1000000)(hb:Dok b)(hlb:b.length<1000000)(h:val b≤val a)(h':b.length≤a.length)(h0:a.length≠0) :
  bP (CC L1) run dr hp 161 [aP a,aP b]=some (aP (cZ a.length (val a - val b)),hp,⟨[],[],false,false⟩) :=
 bt Sw Vr run dr hp _ [aP (cZ a.length (val a - val b))] (nm hp a b) (kF a b) (by
  have h1:Nat.ble (val b) (val a)=true:=by rw[Nat.ble_eq];exact h
  have h2:Nat.ble b.length a.length=true:=by rw[Nat.ble_eq];exact h'
  have h3:a.length.beq 0=false:=by
   cases e:a.length with
   | zero=>exact absurd e h0
   | succ n=>rfl
  simp[xL,cW ha hla,cW hb hlb,h1,h2,h3])
theorem py (run:aw)(dr:Bool)(hp:Θ)(a b:Ω)(ha:Dok a)(hla:a.length<1000000)(hb:Dok b)(hlb:b.length<1000000) :
  bP (CC L1) run dr hp 146 [aP a,aP b]=some (Ab.bN (pH a b),hp,⟨[],[],false,false⟩) :=
 bt Ld ab8 run dr hp _ [Ab.bN (pH a b)] (nm hp a b) (kF a b) (by simp only[tQ,cW ha hla,cW hb hlb])
theorem VA (run:aw)(k:Nat)(n:Bool)(l:Ω)(hd:Dok l)(hl:l.length<1000000) :
  ∃ st,ae (CC L1) run k (f149.body.getD .skip) ⟨entry 9 [wh n l],[],[]⟩=some (.ret,st)∧aX TT st.fr st.hp f149.results.toList=some [br (sgn (!n) (val l))]:=by
 have hc:=fun hp dr=>lj run dr hp (!n) l hd hl
 obtain⟨e1,e2⟩:=cO 8 (wh n l)
 generalize entry 9 [wh n l]=fr0 at *
 have e3:wh n l = .agg [.sc (.bool n),aP l]:=rfl
 have e4:br (sgn (!n) (val l)) = .agg [.sc (.bool (bz (sgn (!n) (val l)))),aP (aJ (sgn (!n) (val l)).natAbs)]:=rfl
 rw[e3] at e2
 rw[e4] at hc ⊢
 generalize aJ (sgn (!n) (val l)).natAbs=m at *
 generalize bz (sgn (!n) (val l))=nn at *
 simp[f149,e1,e2,aM,bM,unP,aa,af,ab,bc,bm,bZ,bG,bg,hc,uW,sD,sB,sW,aD,aB,aW,zW,wf0,wf1,aO,aL,cg,ca,bF,bp]
theorem afv (z:Int):sgn (bz z) z.natAbs=z:=by
 cases z with
 | ofNat n=>rfl
 | negSucc n=>rfl
theorem aay (z:Int):sgn (!bz z) z.natAbs = -z:=by
 cases z with
 | ofNat n=>show Int.negOfNat n = -(Int.ofNat n);cases n <;> rfl
 | negSucc n=>rfl
def tj:Ψ→Option Ψ
 | [p]=>match fQ p with
  | some z=>some [br (-z)]
  | none=>none
 | _=>none
theorem oe:Ab.Spec base.P 149 tj:=Ab.Spec.bS (C:=CC L1) (cR MQ) fun args rs h=>by
 unfold tj at h
 split at h
 ·split at h
  ·rename_i z hz
   obtain⟨rfl,hs⟩:=dY hz
   simp only[OiE] at h
   subst h
   obtain⟨st,e1,e2⟩:=VA (runK (CC L1) 1) 1 (bz z) (aJ z.natAbs) (bU _) hs.lt
   rw[bX,aay] at e2
   exact⟨2,_,_,_,_,_,ba ZA rfl e1 e2,jF _ _,Wk.refl rfl,trivial⟩
  ·cases h
 ·cases h
def JU:Code:=f139.body.getD .skip
theorem whW (z:Int):br z = .agg [.sc (.bool (bz z)),aP (aJ z.natAbs)]:=rfl
set_option maxHeartbeats 1000000 in
theorem QS (run:aw)(k:Nat)(n:Bool)(a b:Ω)(ha:Dok a)(hla:a.length<400000)(hb:Dok b)(hlb:b.length<400000) :
  ∃ st,ae (CC L1) run k JU ⟨entry 42 [wh n a,wh n b],[],[]⟩=some (.ret,st)∧aX TT st.fr st.hp f139.results.toList=some [br (sgn n (val a+val b))]:=by
 have hm:Nat.max a.length b.length≤400000:=Nat.max_le.2 ⟨by omega,by omega⟩
 have hv:val (cZ (Nat.max a.length b.length+1) (val a+val b))=val a+val b:=fo _ _ (by
  have h1:=eW ha
  have h2:=eW hb
  have h3:=Nat.pow_le_pow_right (n:=1000000000) (by omega) (Nat.le_max_left a.length b.length)
  have h4:=Nat.pow_le_pow_right (n:=1000000000) (by omega) (Nat.le_max_right a.length b.length)
  have h5:a.length.max b.length=max a.length b.length:=rfl
  rw[h5,Nat.pow_succ];omega)
 have hc:=fun hp dr=>QA run dr hp a b ha (by omega) hb (by omega)
 have hc2:=fun hp dr=>lj run dr hp n (cZ (Nat.max a.length b.length+1) (val a+val b)) (gD _ _) (by rw[dn];omega)
 rw[hv] at hc2
 generalize cZ (Nat.max a.length b.length+1) (val a+val b)=m at *
 obtain⟨e1,e2,e3⟩:=cl 40 (wh n a) (wh n b)
 generalize entry 42 [wh n a,wh n b]=fr0 at *
 have e4:∀ l,wh n l = .agg [.sc (.bool n),aP l]:=fun _=>rfl
 rw[e4] at e2 e3
 simp only[whW] at hc2 ⊢
 generalize aJ (sgn n (val a+val b)).natAbs=r at *
 generalize bz (sgn n (val a+val b))=nn at *
 simp[JU,f139,e1,e2,e3,aM,dK,bM,aa,af,ab,bc,bm,bZ,bG,bg,hc,hc2,uB,uW,sD,sB,sW,aD,aB,aW,zW,wf0,wf1,aO,aL,cg,ca,bF,bp,number,FP.free,cw,FP.apart]
theorem mq (x y:Nat):pH (aJ x) (aJ y)=dS x y:=by
 unfold pH
 by_cases h1:(aJ x).length<(aJ y).length
 ·rw[if_pos h1,dS,if_pos]
  exact Nat.lt_of_not_le fun h=>absurd (cC h) (by omega)
 ·rw[if_neg h1]
  by_cases h2:(aJ y).length<(aJ x).length
  ·have h3:y<x:=Nat.lt_of_not_le fun h=>absurd (cC h) (by omega)
   rw[if_pos h2,dS,if_neg (by omega),if_neg (by omega)]
  ·rw[if_neg h2,bX,bX]
set_option maxHeartbeats 1000000 in
theorem QR (run:aw)(k:Nat)(n:Bool)(x y:Nat)(hla:(aJ x).length<400000)(hlb:(aJ y).length<400000)(hxy:x<y) :
  ∃ st,ae (CC L1) run k JU ⟨entry 42 [wh n (aJ x),wh (!n) (aJ y)],[],[]⟩=some (.ret,st)∧aX TT st.fr st.hp f139.results.toList=some [br (sgn (!n) (y - x))]:=by
 have hv:val (cZ (aJ y).length (y - x))=y - x:=fo _ _ (Nat.lt_of_le_of_lt (Nat.sub_le _ _) (fD y))
 have hy0:(aJ y).length≠0:=by
  have:=(cT (n:=y)).2 (by omega)
  omega
 have hc0:=fun hp dr=>py run dr hp (aJ x) (aJ y) (bU _) (by omega) (bU _) (by omega)
 rw[mq,dS,if_pos hxy] at hc0
 have hc:=fun hp dr=>yC run dr hp (aJ y) (aJ x) (bU _) (by omega) (bU _) (by omega) (by rw[bX,bX];omega) (cC (Nat.le_of_lt hxy)) hy0
 rw[bX,bX] at hc
 have hc2:=fun hp dr=>lj run dr hp (!n) (cZ (aJ y).length (y - x)) (gD _ _) (by rw[dn];omega)
 rw[hv] at hc2
 generalize cZ (aJ y).length (y - x)=m at *
 obtain⟨e1,e2,e3⟩:=cl 40 (wh n (aJ x)) (wh (!n) (aJ y))
 generalize entry 42 [wh n (aJ x),wh (!n) (aJ y)]=fr0 at *
 have e4:∀ n l,wh n l = .agg [.sc (.bool n),aP l]:=fun _ _=>rfl
 rw[e4] at e2 e3
 simp only[whW] at hc2 ⊢
 generalize aJ (sgn (!n) (y - x)).natAbs=r at *
 generalize bz (sgn (!n) (y - x))=nn at *
 have hnn:(n == !n)=false:=by cases n <;> rfl
 simp only[Ab.bN] at hc0
 simp[JU,f139,e1,e2,e3,aM,dK,bM,aa,af,ab,bc,bm,bZ,bG,bg,hc,hc0,hc2,hnn,uB,uW,sD,sB,sW,aD,aB,aW,zW,wf0,wf1,aO,aL,cg,ca,bF,bp,number,FP.free,cw,FP.apart]
set_option maxHeartbeats 1000000 in
theorem QQ (run:aw)(k:Nat)(n:Bool)(x y:Nat)(hla:(aJ x).length<400000)(hlb:(aJ y).length<400000)(hxy:y≤x)(hx:x≠0) :
  ∃ st,ae (CC L1) run k JU ⟨entry 42 [wh n (aJ x),wh (!n) (aJ y)],[],[]⟩=some (.ret,st)∧aX TT st.fr st.hp f139.results.toList=some [br (sgn n (x - y))]:=by
 have hv:val (cZ (aJ x).length (x - y))=x - y:=fo _ _ (Nat.lt_of_le_of_lt (Nat.sub_le _ _) (fD x))
 have hx0:(aJ x).length≠0:=by
  have:=(cT (n:=x)).2 (by omega)
  omega
 have hc0:=fun hp dr=>py run dr hp (aJ x) (aJ y) (bU _) (by omega) (bU _) (by omega)
 have hcz:decide (dS x y<0)=false:=by
  apply decide_eq_false
  unfold dS
  rw[if_neg (by omega)]
  by_cases h:x=y
  ·rw[if_pos h];omega
  ·rw[if_neg h];omega
 have hcz' : ¬ (dS x y<0):=by simpa using hcz
 rw[mq] at hc0
 have hc:=fun hp dr=>yC run dr hp (aJ x) (aJ y) (bU _) (by omega) (bU _) (by omega) (by rw[bX,bX];omega) (cC hxy) hx0
 rw[bX,bX] at hc
 have hc2:=fun hp dr=>lj run dr hp n (cZ (aJ x).length (x - y)) (gD _ _) (by rw[dn];omega)
 rw[hv] at hc2
 generalize cZ (aJ x).length (x - y)=m at *
 obtain⟨e1,e2,e3⟩:=cl 40 (wh n (aJ x)) (wh (!n) (aJ y))
 generalize entry 42 [wh n (aJ x),wh (!n) (aJ y)]=fr0 at *
 have e4:∀ n l,wh n l = .agg [.sc (.bool n),aP l]:=fun _ _=>rfl
 rw[e4] at e2 e3
 simp only[whW] at hc2 ⊢
 generalize aJ (sgn n (x - y)).natAbs=r at *
 generalize bz (sgn n (x - y))=nn at *
 have hnn:(n == !n)=false:=by cases n <;> rfl
 simp only[Ab.bN] at hc0
 generalize dS x y=cc at *
 simp[JU,f139,e1,e2,e3,aM,dK,bM,aa,af,ab,bc,bm,bZ,bG,bg,hc,hc0,hc2,hnn,hcz',uB,uW,sD,sB,sW,aD,aB,aW,zW,wf0,wf1,aO,aL,cg,ca,bF,bp,number,FP.free,cw,FP.apart]
theorem sL (n:Bool)(v:Nat):sgn n v=if n=true then -(v:Int) else (v:Int):=by
 cases n with
 | false=>rfl
 | true =>
  show Int.negOfNat v=_
  cases v <;> rfl
theorem aaA {x y:Int}(h:bz x=bz y):sgn (bz x) (x.natAbs+y.natAbs)=x+y:=by
 rw[sL]
 rw[cL,cL] at h
 rw[cL]
 by_cases hx:x<0 <;> by_cases hy:y<0 <;> simp[hx,hy] at h ⊢ <;> omega
theorem SO {x y:Int}(h : ¬ bz x=bz y)(hl:x.natAbs<y.natAbs):sgn (!bz x) (y.natAbs - x.natAbs)=x+y:=by
 rw[sL]
 rw[cL,cL] at h
 rw[cL]
 by_cases hx:x<0 <;> by_cases hy:y<0 <;> simp[hx,hy] at h ⊢ <;> omega
theorem SN {x y:Int}(h : ¬ bz x=bz y)(hl:y.natAbs≤x.natAbs):sgn (bz x) (x.natAbs - y.natAbs)=x+y:=by
 rw[sL]
 rw[cL,cL] at h
 rw[cL]
 by_cases hx:x<0 <;> by_cases hy:y<0 <;> simp[hx,hy] at h ⊢ <;> omega
theorem YT (run:aw)(k:Nat)(x y:Int)(hx:Sm x)(hy:Sm y) :
  ∃ st,ae (CC L1) run k JU ⟨entry 42 [br x,br y],[],[]⟩=some (.ret,st)∧aX TT st.fr st.hp f139.results.toList=some [br (x+y)]:=by
 by_cases hn:bz x=bz y
 ·have:=QS run k (bz x) (aJ x.natAbs) (aJ y.natAbs) (bU _) hx (bU _) hy
  rw[bX,bX] at this
  rw[aaA hn] at this
  simp only[br]
  rw[← hn];exact this
 ·have hn':bz y = !bz x:=by
   revert hn;cases bz x <;> cases bz y <;> simp
  by_cases hxy:x.natAbs<y.natAbs
  ·have:=QR run k (bz x) x.natAbs y.natAbs hx hy hxy
   rw[SO hn hxy] at this
   simp only[br]
   rw[hn'];exact this
  ·have hx0:x.natAbs≠0:=by
    intro h0
    have:y.natAbs=0:=by omega
    have hx:x=0:=by omega
    have hy:y=0:=by omega
    subst hx;subst hy
    exact hn rfl
   have:=QQ run k (bz x) x.natAbs y.natAbs hx hy (by omega) hx0
   rw[SN hn (by omega)] at this
   simp only[br]
   rw[hn'];exact this
def tE:Ψ→Option Ψ
 | [p,q]=>match fQ p,fQ q with
  | some x,some y=>some [br (x+y)]
  | _,_=>none
 | _=>none
theorem oI:Ab.Spec base.P 139 tE:=Ab.Spec.bS (C:=CC L1) (cR MQ) fun args rs h=>by
 unfold tE at h
 split at h
 ·split at h
  ·rename_i x y ex ey
   obtain⟨rfl,hx⟩:=dY ex
   obtain⟨rfl,hy⟩:=dY ey
   simp only[OiE] at h
   subst h
   obtain⟨st,e1,e2⟩:=YT (runK (CC L1) 1) 1 x y hx hy
   exact⟨2,_,_,_,_,_,ba ZF rfl e1 e2,jF _ _,Wk.refl rfl,trivial⟩
  ·cases h
 ·cases h
def L2:Lst:=[(149,tj),(139,tE)]
theorem akE:dE base.P L2:=⟨oe,oI,trivial⟩
theorem agp:bx L2 149=fun a=>tj (aK a):=rfl
theorem agq:bx L2 139=fun a=>tE (aK a):=rfl
theorem Sm.neg {z:Int}(h:Sm z):Sm (-z):=by unfold Sm at *;rwa [Int.natAbs_neg]
theorem YA (run:aw)(dr:Bool)(hp:Θ)(x:Int)(hx:Sm x):bP (CC L2) run dr hp 149 [br x]=some (br (-x),hp,⟨[],[],false,false⟩) :=
 bt Hl agp run dr hp _ [br (-x)] (nk hp x) (j6 x) (by simp only[tj,cK hx])
theorem YB (run:aw)(dr:Bool)(hp:Θ)(x y:Int)(hx:Sm x)(hy:Sm y):bP (CC L2) run dr hp 139 [br x,br y]=some (br (x+y),hp,⟨[],[],false,false⟩) :=
 bt Ho agq run dr hp _ [br (x+y)] (gI hp x y) (ft x y) (by simp only[tE,cK hx,cK hy])
def aiX:Code:=f168.body.getD .skip
theorem R1 (run:aw)(k:Nat)(x y:Int)(hx:Sm x)(hy:Sm y) :
  ∃ st,ae (CC L2) run k aiX ⟨entry 9 [br x,br y],[],[]⟩=some (.ret,st)∧aX TT st.fr st.hp f168.results.toList=some [br (x - y)]:=by
 have hc1:=fun hp dr=>YA run dr hp y hy
 have hc2:=fun hp dr=>YB run dr hp x (-y) hx hy.neg
 rw[← Int.sub_eq_add_neg] at hc2
 obtain⟨e1,e2,e3⟩:=cl 7 (br x) (br y)
 generalize entry 9 [br x,br y]=fr0 at *
 simp only[whW] at hc1 hc2 e2 e3 ⊢
 generalize aJ (-y).natAbs=ry at *
 generalize bz (-y)=ny at *
 generalize aJ (x - y).natAbs=rz at *
 generalize bz (x - y)=nz at *
 generalize aJ x.natAbs=rx at *
 generalize bz x=nx at *
 generalize aJ y.natAbs=rw at *
 generalize bz y=nw at *
 simp[aiX,f168,e1,e2,e3,aM,aa,af,ab,bc,bm,bZ,bG,bg,hc1,hc2,sW,aW,zW,aO,aL,cg,ca,bF,bp,number,FP.free,cw,FP.apart]
def GW:Ψ→Option Ψ
 | [p,q]=>match fQ p,fQ q with
  | some x,some y=>some [br (x - y)]
  | _,_=>none
 | _=>none
theorem wi:Ab.Spec base.P 168 GW:=Ab.Spec.bS (C:=CC L2) (cR akE) fun args rs h=>by
 unfold GW at h
 split at h
 ·split at h
  ·rename_i x y ex ey
   obtain⟨rfl,hx⟩:=dY ex
   obtain⟨rfl,hy⟩:=dY ey
   simp only[OiE] at h
   subst h
   obtain⟨st,e1,e2⟩:=R1 (runK (CC L2) 1) 1 x y hx hy
   exact⟨2,_,_,_,_,_,ba Zh rfl e1 e2,jF _ _,Wk.refl rfl,trivial⟩
  ·cases h
 ·cases h
def JB:Code:=f96.body.getD .skip
theorem P1 (L:Lst)(run:aw)(k:Nat)(n:Bool)(a b:Ω) :
  ∃ st,ae (CC L) run k JB ⟨entry 26 [wh n a,wh (!n) b],[],[]⟩=some (.ret,st)∧aX TT st.fr st.hp f96.results.toList=some [Ab.bN (bif n then -1 else 1)]:=by
 obtain⟨e1,e2,e3⟩:=cl 24 (wh n a) (wh (!n) b)
 generalize entry 26 [wh n a,wh (!n) b]=fr0 at *
 have e4:∀ n l,wh n l = .agg [.sc (.bool n),aP l]:=fun _ _=>rfl
 rw[e4] at e2 e3
 cases n
 ·simp[JB,f96,e1,e2,e3,dK,bM,aa,af,ab,bc,bm,uB,uW,sB,aB,wf0,wf1,aO,aL,bp,Ab.bN]
 ·simp[JB,f96,e1,e2,e3,dK,bM,aa,af,ab,bc,bm,uB,uW,sB,aB,wf0,wf1,aO,aL,bp,Ab.bN]
theorem P0 (run:aw)(k:Nat)(n:Bool)(x y:Nat)(hla:(aJ x).length<400000)(hlb:(aJ y).length<400000) :
  ∃ st,ae (CC L1) run k JB ⟨entry 26 [wh n (aJ x),wh n (aJ y)],[],[]⟩=some (.ret,st)∧aX TT st.fr st.hp f96.results.toList=some [Ab.bN (bif n then dS y x else dS x y)]:=by
 have hc0:=fun hp dr=>py run dr hp (aJ x) (aJ y) (bU _) (by omega) (bU _) (by omega)
 have hc1:=fun hp dr=>py run dr hp (aJ y) (aJ x) (bU _) (by omega) (bU _) (by omega)
 rw[mq] at hc0 hc1
 obtain⟨e1,e2,e3⟩:=cl 24 (wh n (aJ x)) (wh n (aJ y))
 generalize entry 26 [wh n (aJ x),wh n (aJ y)]=fr0 at *
 have e4:∀ n l,wh n l = .agg [.sc (.bool n),aP l]:=fun _ _=>rfl
 rw[e4] at e2 e3
 simp only[Ab.bN] at hc0 hc1
 generalize dS x y=cc at *
 generalize dS y x=dd at *
 cases n
 ·simp[JB,f96,e1,e2,e3,aM,dK,bM,aa,af,ab,bc,bm,hc0,uB,uW,sD,sB,aD,aB,wf0,wf1,aO,aL,bp,Ab.bN]
 ·simp[JB,f96,e1,e2,e3,aM,dK,bM,aa,af,ab,bc,bm,hc1,uB,uW,sD,sB,aD,aB,wf0,wf1,aO,aL,bp,Ab.bN]
def fI (x y:Int):Int:=if x<y then -1 else if x=y then 0 else 1
theorem X3 (run:aw)(k:Nat)(x y:Int)(hx:Sm x)(hy:Sm y) :
  ∃ st,ae (CC L1) run k JB ⟨entry 26 [br x,br y],[],[]⟩=some (.ret,st)∧aX TT st.fr st.hp f96.results.toList=some [Ab.bN (fI x y)]:=by
 by_cases hn:bz x=bz y
 ·have:=P0 run k (bz x) x.natAbs y.natAbs hx hy
  have e:(bif bz x then dS y.natAbs x.natAbs else dS x.natAbs y.natAbs)=fI x y:=by
   rw[cL,cL] at hn
   rw[cL]
   unfold fI dS
   by_cases hx:x<0 <;> by_cases hy:y<0 <;> simp[hx,hy] at hn ⊢
   ·by_cases h1:x<y
    ·rw[if_pos (by omega),if_pos h1]
    ·rw[if_neg (by omega),if_neg h1]
     by_cases h2:x=y
     ·rw[if_pos (by omega),if_pos h2]
     ·rw[if_neg (by omega),if_neg h2]
   ·by_cases h1:x<y
    ·rw[if_pos (by omega),if_pos h1]
    ·rw[if_neg (by omega),if_neg h1]
     by_cases h2:x=y
     ·rw[if_pos (by omega),if_pos h2]
     ·rw[if_neg (by omega),if_neg h2]
  rw[e] at this
  simp only[br]
  rw[← hn];exact this
 ·have hn':bz y = !bz x:=by
   revert hn;cases bz x <;> cases bz y <;> simp
  have:=P1 L1 run k (bz x) (aJ x.natAbs) (aJ y.natAbs)
  have e:(bif bz x then (-1:Int) else 1)=fI x y:=by
   rw[cL,cL] at hn
   rw[cL]
   unfold fI
   by_cases hx:x<0 <;> by_cases hy:y<0 <;> simp[hx,hy] at hn ⊢
   ·intro h;omega
   ·rw[if_neg (by omega),if_neg (by omega)]
  rw[e] at this
  simp only[br]
  rw[hn'];exact this
def sa:Ψ→Option Ψ
 | [p,q]=>match fQ p,fQ q with
  | some x,some y=>some [Ab.bN (fI x y)]
  | _,_=>none
 | _=>none
theorem oC:Ab.Spec base.P 96 sa:=Ab.Spec.bS (C:=CC L1) (cR MQ) fun args rs h=>by
 unfold sa at h
 split at h
 ·split at h
  ·rename_i x y ex ey
   obtain⟨rfl,hx⟩:=dY ex
   obtain⟨rfl,hy⟩:=dY ey
   simp only[OiE] at h
   subst h
   obtain⟨st,e1,e2⟩:=X3 (runK (CC L1) 1) 1 x y hx hy
   exact⟨2,_,_,_,_,_,ba ZE rfl e1 e2,eD _ _,Wk.refl rfl,trivial⟩
  ·cases h
 ·cases h
end Go.Proofs.YtjdmodeenbdfpaaGreat
end
