/- Contracts of num's integers, part 18; each lemma states its conditions. -/
import Derived.Test.YtjdmodeenbdfpaaGreatU17
import Derived.Test.YtjdmodeenbdfpaaGreatU11
set_option linter.unusedSimpArgs false
set_option linter.unusedVariables false
namespace Go.Proofs.YtjdmodeenbdfpaaGreat
open Go Go.Ab Tryz
noncomputable def TT:Tab:=base.T.get
noncomputable def CC (L:List (Nat × (Ψ→Option Ψ))):Cfg:=base.cfg (bC L)
theorem bf (L:List (Nat × (Ψ→Option Ψ))):(CC L).T=TT:=(rfl)
theorem cP {L:List (Nat × (Ψ→Option Ψ))}(h:dt base.P L):uO (CC L):=agM.cfg (Er h)
theorem aa {fr:Ψ}{d:Nat}{v:PV}(h:d<fr.length):nth (eS fr d v) d=v:=by
 rw[sX,jK];simp[h]
theorem af {fr:Ψ}{d t:Nat}{v:PV}(h:t≠d):nth (eS fr d v) t=nth fr t:=j9 h
theorem ab (fr:Ψ)(d:Nat)(v:PV):(eS fr d v).length=fr.length:=by
 rw[jK];simp
def wf0:Field:={ name := "neg",type:=4,offset:=0,embedded:=false,tag := "",pkgPath := "torus/num",byteOffset:=0 }
def wf1:Field:={ name := "d",type:=68,offset:=1,embedded:=false,tag := "",pkgPath := "torus/num",byteOffset:=8 }
theorem uW:und TT 70=some (.struct #[wf0,wf1]):=by kernel_rfl
theorem uD:und TT 68=some (.slice 171):=by kernel_rfl
theorem u32:und TT 171=some (.int .u32):=by kernel_rfl
theorem u64:und TT 174=some (.int .u64):=by kernel_rfl
theorem uI:und TT 3=some (.int .i64):=by kernel_rfl
theorem uB:und TT 4=some .bool:=by kernel_rfl
theorem sB:dm TT 4=some 1:=by kernel_rfl
theorem sD:dm TT 68=some 1:=by kernel_rfl
theorem sW:dm TT 70=some 2:=by kernel_rfl
theorem s32:dm TT 171=some 1:=by kernel_rfl
theorem b32:iG TT 171=some 4:=by kernel_rfl
theorem z32:ef TT 171=some [dg 0]:=by kernel_rfl
theorem zW:ef TT 70=some [.sc (.bool false),.sc (.slice none 0 0)]:=by kernel_rfl
theorem aW:ia TT 70=some true:=by kernel_rfl
theorem aB:ia TT 4=some false:=by kernel_rfl
theorem aD:ia TT 68=some false:=by kernel_rfl
theorem a32:ia TT 171=some false:=by kernel_rfl
theorem PL:base.F.get 167=some f167:=by kernel_rfl
theorem Ga:base.F.get 152=some f152:=by kernel_rfl
theorem adu:base.F.get 97=some f97:=by kernel_rfl
theorem PU:base.F.get 101=some f101:=by kernel_rfl
theorem X2:base.F.get 149=some f149:=by kernel_rfl
theorem X6:base.F.get 96=some f96:=by kernel_rfl
theorem tw:base.F.get 146=some f146:=by kernel_rfl
theorem PN:base.F.get 160=some f160:=by kernel_rfl
theorem JX:base.F.get 161=some f161:=by kernel_rfl
theorem X7:base.F.get 139=some f139:=by kernel_rfl
theorem X1:base.F.get 168=some f168:=by kernel_rfl
theorem X3:base.F.get 105=some f105:=by kernel_rfl
theorem JK:base.F.get 181=some f181:=by kernel_rfl
theorem qf:base.F.get 166=some f166:=by kernel_rfl
theorem Gs:base.F.get 151=some f151:=by kernel_rfl
theorem Gr:base.F.get 150=some f150:=by kernel_rfl
theorem PK:base.F.get 165=some f165:=by kernel_rfl
theorem JJ:base.F.get 164=some f164:=by kernel_rfl
theorem vg:base.shared 167=false:=by kernel_rfl
theorem oD:base.shared 152=false:=by kernel_rfl
theorem Dq:base.shared 97=false:=by kernel_rfl
theorem vh:base.shared 101=false:=by kernel_rfl
theorem Hd:base.shared 149=false:=by kernel_rfl
theorem RV:base.shared 96=false:=by kernel_rfl
theorem KG:base.shared 146=false:=by kernel_rfl
theorem Y3:base.shared 160=false:=by kernel_rfl
theorem RJ:base.shared 161=false:=by kernel_rfl
theorem Hf:base.shared 139=false:=by kernel_rfl
theorem aew:base.shared 168=false:=by kernel_rfl
theorem aex:base.shared 105=false:=by kernel_rfl
theorem De:base.shared 181=false:=by kernel_rfl
theorem Dp:base.shared 166=false:=by kernel_rfl
theorem M5:base.shared 151=false:=by kernel_rfl
theorem RU:base.shared 150=false:=by kernel_rfl
theorem Y0:base.shared 165=false:=by kernel_rfl
theorem Rx:base.shared 164=false:=by kernel_rfl
noncomputable def ofB:Code:=((f97.body).bind az).getD .skip
set_option maxHeartbeats 1000000 in
theorem Up (L:List (Nat × (Ψ→Option Ψ)))(run:av)(k:Nat)(fr:Ψ)(hp:Θ)(wr:Ω)(u:Nat)(l:Ω)
  (hu:u≠0) (hu2:u<18446744073709551616) (h20:fr.length=26) (h3:nth fr 3 = .sc (.int .u64 (Int.ofNat u))) (hO:dL 1 hp l (nth fr 5)) (hl:l.length<1000) :
  ∃ fr' hp' wr',ae (CC L) run k ofB ⟨fr,hp,wr⟩=some (.normal,⟨fr',hp',wr'⟩)∧fr'.length=26∧nth fr' 3 = .sc (.int .u64 (Int.ofNat (u / 1000000000)))
   ∧ dL 1 hp' (l++[u % 1000000000]) (nth fr' 5)∧nth fr' 2=nth fr 2∧nth fr' 4=nth fr 4∧aX hp' 0=aX hp 0:=by
 have hq:bB .u64 ((u:Int) / 1000000000)=Int.ofNat (u / 1000000000):=dp .u64 (u / 1000000000) (by simp[hiN];omega)
 have hc:bB .u32 ((u:Int).tmod 1000000000)=Int.ofNat (u % 1000000000):=dp .u32 (u % 1000000000) (by simp[hiN];omega)
 generalize u / 1000000000=q at *
 generalize u % 1000000000=r at *
 obtain⟨p',hp',fp,ha,hO',hk⟩:=hO.app r (by omega)
 have hu0:0<u:=by omega
 have hdg:PV.sc (.int .u32 (r:Int))=dg r:=rfl
 have hlit:fP TT 68 1 [(0,dg r)]=some (1,[dg r]):=by
  simp[fP,uD,s32,z32,rep,dJ,fY,b9]
 have hrd:eY hp 1 (.imm 1 true [dg r])=some (1,[dg r],[]):=by simp[eY]
 have hif:bT [dg r]=true:=rfl
 have hk0:=hk 0 (by omega)
 simp[ofB,f97,az,ae,aH,aq,ar,aF,ag,ah,an,aj,aC,aG,FzZ,ba,aw,bg,au,aa,af,ab,bf,and_assoc,bj,du,h20,h3,dF,u32,u64,uD,s32,b32,z32,hq,hc,hu0,hdg,hlit,hrd,hif,bZ,ha,hO',hk0]
theorem aaU (L:List (Nat × (Ψ→Option Ψ)))(run:av)(k:Nat)(fr:Ψ)(hp:Θ)(wr:Ω)
  (h20:fr.length=26) (h3:nth fr 3 = .sc (.int .u64 (Int.ofNat 0))) :
  ∃ fr',ae (CC L) run k ofB ⟨fr,hp,wr⟩=some (.exit 0,⟨fr',hp,wr⟩)∧nth fr' 5=nth fr 5∧nth fr' 2=nth fr 2∧nth fr' 4=nth fr 4∧fr'.length=26:=by
 simp[ofB,f97,az,ae,aH,aq,ar,aF,ag,ah,an,aj,aC,aG,FzZ,ba,aw,bg,au,aa,af,ab,h20,h3]
theorem KY (L:List (Nat × (Ψ→Option Ψ)))(run:av)(k:Nat):∀ (j u:Nat) (l:Ω) (fr:Ψ) (hp:Θ) (wr:Ω),
  u<1000000000 ^ j→l.length+j<1000→u<18446744073709551616→fr.length=26→nth fr 3 = .sc (.int .u64 (Int.ofNat u))→dL 1 hp l (nth fr 5) →
  ∃ fr' hp' wr',cg (ae (CC L) run k ofB) (j+1) ⟨fr,hp,wr⟩=some (.exit 0,⟨fr',hp',wr'⟩)∧fr'.length=26
   ∧ dL 1 hp' (l++aJ u) (nth fr' 5)∧nth fr' 2=nth fr 2∧nth fr' 4=nth fr 4∧aX hp' 0=aX hp 0
 | j,u,l,fr,hp,wr,hu,hl,hu2,h20,h3,hO=>by
  by_cases h0:u=0
  ·subst h0
   obtain⟨fr',h1,h2,h4,h5,h6⟩:=aaU L run k fr hp wr h20 h3
   refine⟨fr',hp,wr,br h1,h6,?_,h4,h5,rfl⟩
   rw[h2,fq,List.append_nil];exact hO
  ·cases j with
   | zero=>simp at hu;omega
   | succ j =>
    obtain⟨fr1,hp1,wr1,h1,h2,h4,h5,h6,h7,h8⟩:=Up L run k fr hp wr u l h0 hu2 h20 h3 hO (by omega)
    obtain⟨fr',hp',wr',g1,g2,g3,g4,g5,g6⟩:=KY L run k j (u / 1000000000) (l++[u % 1000000000]) fr1 hp1 wr1 (by rw[Nat.pow_succ] at hu;omega) (by simp;omega) (by omega) h2 h4 h5
    refine⟨fr',hp',wr',by rw[bU h1];exact g1,g2,?_,by rw[g4,h6],by rw[g5,h7],by rw[g6,h8]⟩
    rw[dW h0]
    simpa using g3
noncomputable def ofC:Code:=f97.body.getD .skip
theorem Uo:ai 4 ofC = .seq (.block 0 (.loop ofB)) (ai 5 ofC):=rfl
theorem afo (L:List (Nat × (Ψ→Option Ψ)))(run:av)(k:Nat)(z:Int)(h1 : -9223372036854775808≤z)(h2:z<9223372036854775808) :
  ∃ fr hp wr,bh (CC L) run k 4 ofC ⟨entry 26 [Ab.bJ z],[],[]⟩=some ⟨fr,hp,wr⟩∧fr.length=26∧nth fr 3 = .sc (.int .u64 (Int.ofNat z.natAbs))∧nth fr 5 = .sc (.slice none 0 0)
   ∧ nth fr 2 = .ptr 0 0∧nth fr 4 = .sc (.bool (bw z))∧hp=[⟨.live,[.sc (.bool false),.sc (.slice none 0 0)]⟩]:=by
 cases z with
 | ofNat n =>
  have hw:bB .u64 (n:Int)=Int.ofNat n:=dp .u64 n (by simp[hiN];simp at h2;omega)
  have hlt:((n:Int)<0)=False:=by simp
  simp[ofC,f97,bh,entry,nth,eS,Ab.bJ,ae,aH,aq,ar,aF,ag,ah,an,aj,aC,aG,FzZ,ba,aw,bg,au,bf,and_assoc,dF,uI,u64,zW,bd,hw,bw,hlt]
 | negSucc n =>
  have hw:bB .u64 (Int.negSucc n)=Int.ofNat (18446744073709551616 - (n+1)):=by
   have:=vM (n:=n+1) (by omega) (by omega)
   rw[← this];rfl
  have hlt:(Int.negSucc n<0)=True:=by simp
  have hw2:bB .u64 (-((18446744073709551616 - (n+1):Nat):Int))=(n:Int)+1:=by
   rw[vM (by omega) (by omega)]
   simp;omega
  simp only[Int.ofNat_eq_natCast] at hw
  generalize 18446744073709551616 - (n+1)=m at *
  simp[ofC,f97,bh,entry,nth,eS,Ab.bJ,ae,aH,aq,ar,aF,ag,ah,an,aj,aC,aG,FzZ,ba,aw,bg,au,unP,bf,and_assoc,dF,uI,u64,zW,bd,hw,hw2,bw,hlt]
theorem aaV (L:List (Nat × (Ψ→Option Ψ)))(run:av)(k:Nat)(fr:Ψ)(hp:Θ)(wr:Ω)(n:Bool)(l:Ω)(p:PV)
  (h20:fr.length=26) (h2:nth fr 2 = .ptr 0 0) (h4:nth fr 4 = .sc (.bool n)) (h5:nth fr 5=p) (hO:dL 1 hp l p) (hb:aX hp 0=some ⟨.live,[.sc (.bool false),.sc (.slice none 0 0)]⟩) :
  ∃ st,ae (CC L) run k (ai 5 ofC) ⟨fr,hp,wr⟩=some (.ret,st)∧aY TT st.fr st.hp f97.results.toList=some [.agg [.sc (.bool n),p]]∧st.hp=cF hp 0 ⟨.live,[.sc (.bool n),p]⟩:=by
 have hc:=hO.cells
 have hk:=hO.okc
 have hokb:∀ b,dZ (PV.sc (.bool b))=true:=fun _=>rfl
 have hcb:∀ b,(PV.sc (.bool b)).cells?=some [.sc (.bool b)]:=fun _=>rfl
 have hca:∀ cs,(PV.agg cs).cells?=some cs:=fun _=>rfl
 have hn:aX (cF hp 0 ⟨.live,[.sc (.bool n),p]⟩) 0=some ⟨.live,[.sc (.bool n),p]⟩:=by rw[cN hb,if_pos rfl]
 simp[ofC,ai,f97,ae,aH,aq,ar,aF,ag,ah,an,aj,aC,aG,FzZ,au,partOf,aa,af,ab,bf,bp,pV,bH,bj,h20,h2,h4,h5,fb,zW,uW,wf0,wf1,sB,sD,sW,aW,dJ,j6,hc,hk,b9,hb,aY,aV,hn,bz,bF]
def ofF:Ψ→Option Ψ
 | [.sc (.int .i64 z)]=>bif decide (-9223372036854775808≤z) && decide (z<9223372036854775808) then some [bt z] else none
 | _=>none
theorem ml:Ab.Spec base.P 97 ofF:=Ab.Spec.bL (C:=CC []) (cP trivial) fun args rs h=>by
 unfold ofF at h
 split at h
 ·rename_i z
  cases hd:decide (-9223372036854775808≤z) && decide (z<9223372036854775808) with
  | false=>rw[hd] at h;cases h
  | true =>
   rw[hd] at h
   simp only[cond_true,OiE] at h
   subst h
   simp only[Bool.and_eq_true,decide_eq_true_eq] at hd
   obtain⟨fr1,hp1,wr1,h1,h20,h3,h5,h2,h4,hhp⟩:=afo [] (runK (CC []) 4) 4 z hd.1 hd.2
   obtain⟨fr2,hp2,wr2,g1,g2,g3,g4,g5,g6⟩:=KY [] (runK (CC []) 4) 4 3 z.natAbs [] fr1 hp1 wr1 (by omega) (by simp) (by omega) h20 h3 (by rw[h5];exact dL.nil (by rw[hhp];simp))
   obtain⟨st,e1,e2,e3⟩:=aaV [] (runK (CC []) 4) 4 fr2 hp2 wr2 (bw z) _ _ g2 (by rw[g4,h2]) (by rw[g5,h4]) rfl g3 (by rw[g6,hhp];rfl)
   have hx:ae (CC []) (runK (CC []) 4) 4 ofC ⟨entry 26 [Ab.bJ z],[],[]⟩=some (.ret,st):=by
    rw[aU 4 h1,Uo,ao (bD g1)]
    exact e1
   obtain⟨rs2,ids,q1,q2⟩:=(g3.set 0 ⟨.live,[.sc (.bool (bw z)),nth fr2 5]⟩ (by omega)).out (bw z)
   rw[← e3] at q1
   exact⟨5,_,_,_,rs2,ids,aZ adu rfl hx e2,q1,q2⟩
 ·cases h
abbrev Lst:=List (Nat × (Ψ→Option Ψ))
noncomputable def tD:Code:=((f167.body).bind az).getD .skip
theorem aeu (l:Ω)(a:Nat)(hp:Θ):dH TT hp 68 (aL (l++[a])) none (some (.sc (.int .i64 (l.length:Int)))) none=some (aL l):=by
 have h:aL (l++[a]) = .imm (l.length+1) false ((l++[a]).map dg):=by simp[aL]
 rw[h]
 simp only[dH,uD,jg,s32,bnd,fG,gI,Option.map]
 simp[gS,bz]
 rw[dk (by simp)]
 simp[aL]
set_option maxHeartbeats 1000000 in
theorem Mr (L:Lst)(run:av)(k:Nat)(fr:Ψ)(hp:Θ)(wr:Ω)(l:Ω)(a:Nat)(hl:l.length<10000000)(ha:a≠0)
  (h21:fr.length=21) (h0:nth fr 0=aL (l++[a])) :
  ∃ fr',ae (CC L) run k tD ⟨fr,hp,wr⟩=some (.exit 0,⟨fr',hp,wr⟩)∧nth fr' 0=nth fr 0∧fr'.length=21:=by
 have hw:bB .i64 ((l.length+1:Nat) - 1:Int)=Int.ofNat l.length:=by
  have:=dp .i64 l.length (by simp[hiN];omega)
  rw[← this];congr 1;omega
 have hw':bB .i64 (l.length:Int)=Int.ofNat l.length:=dp .i64 l.length (by simp[hiN];omega)
 have h:aL (l++[a]) = .imm (l.length+1) false ((l++[a]).map dg):=by simp[aL]
 have hd:(bz ((l++[a]).map dg) l.length).head?=some (.sc (.int .u32 a)):=by
  rw[eJ _ _ (by simp)];simp[dg]
 rw[h] at h0
 have ha':((a:Int) == 0)=false:=by simp;exact ha
 simp[tD,f167,az,ae,aH,aq,ar,aF,ag,ah,an,aj,aC,aG,FzZ,ba,aw,bg,au,bM,bc,bm,partOf,aa,af,ab,bf,cR,h21,h0,uD,s32,a32,hw',hd,ha',aV,-List.map_append]
set_option maxHeartbeats 1000000 in
theorem QU (L:Lst)(run:av)(k:Nat)(fr:Ψ)(hp:Θ)(wr:Ω)(h21:fr.length=21)(h0:nth fr 0=aL []) :
  ∃ fr',ae (CC L) run k tD ⟨fr,hp,wr⟩=some (.exit 0,⟨fr',hp,wr⟩)∧nth fr' 0=nth fr 0∧fr'.length=21:=by
 have h:aL [] = .imm 0 false []:=rfl
 rw[h] at h0
 simp[tD,f167,az,ae,aH,aq,ar,aF,ag,ah,an,aj,aC,aG,FzZ,ba,aw,bg,au,bM,aa,af,ab,bf,cR,h21,h0,uD,-List.map_append]
set_option maxHeartbeats 1000000 in
theorem YO (L:Lst)(run:av)(k:Nat)(fr:Ψ)(hp:Θ)(wr:Ω)(l:Ω)(hl:l.length<10000000)
  (h21:fr.length=21) (h0:nth fr 0=aL (l++[0])) :
  ∃ fr',ae (CC L) run k tD ⟨fr,hp,wr⟩=some (.normal,⟨fr',hp,wr⟩)∧nth fr' 0=aL l∧fr'.length=21:=by
 have hw':bB .i64 (l.length:Int)=Int.ofNat l.length:=dp .i64 l.length (by simp[hiN];omega)
 have h:aL (l++[0]) = .imm (l.length+1) false ((l++[0]).map dg):=by simp[aL]
 have hd:(bz ((l++[0]).map dg) l.length).head?=some (.sc (.int .u32 0)):=by
  rw[eJ _ _ (by simp)];simp[dg]
 have hs:=aeu l 0
 rw[h] at h0 hs
 simp[tD,f167,az,ae,aH,aq,ar,aF,ag,ah,an,aj,aC,aG,FzZ,ba,aw,bg,au,bM,bc,bm,partOf,aa,af,ab,bf,cR,h21,h0,uD,s32,a32,hw',hd,hs,aV,-List.map_append]
theorem zl (L:Lst)(run:av)(k:Nat):∀ (n:Nat) (l:Ω) (fr:Ψ) (hp:Θ) (wr:Ω),l.length=n→n<10000000→fr.length=21→nth fr 0=aL l →
  ∃ fr',cg (ae (CC L) run k tD) (n+1) ⟨fr,hp,wr⟩=some (.exit 0,⟨fr',hp,wr⟩)∧nth fr' 0=aL (ff l)∧fr'.length=21
 | 0,l,fr,hp,wr,hl,hn,h21,h0=>by
  have:l=[]:=List.length_eq_zero_iff.1 hl
  subst this
  obtain⟨fr',h1,h2,h3⟩:=QU L run k fr hp wr h21 h0
  exact⟨fr',br h1,by rw[h2,h0];rfl,h3⟩
 | n+1,l,fr,hp,wr,hl,hn,h21,h0=>by
  obtain⟨l',a,rfl,hl'⟩:=Bp hl
  by_cases ha:a=0
  ·subst ha
   obtain⟨fr1,h1,h2,h3⟩:=YO L run k fr hp wr l' (by omega) h21 h0
   obtain⟨fr',g1,g2,g3⟩:=zl L run k n l' fr1 hp wr hl' (by omega) h3 h2
   exact⟨fr',by rw[bU h1];exact g1,by rw[g2,ez,if_pos rfl],g3⟩
  ·obtain⟨fr',h1,h2,h3⟩:=Mr L run k fr hp wr l' a (by omega) ha h21 h0
   exact⟨fr',br h1,by rw[h2,h0,ez,if_neg ha],h3⟩
noncomputable def vW:Code:=f167.body.getD .skip
theorem GA:ai 1 vW = .seq (.block 0 (.loop tD)) (ai 2 vW):=rfl
theorem QT (L:Lst)(run:av)(k:Nat)(p:PV):∃ fr,bh (CC L) run k 1 vW ⟨entry 21 [p],[],[]⟩=some ⟨fr,[],[]⟩∧fr.length=21∧nth fr 0=p:=by
 simp[vW,f167,bh,entry,nth,eS,ae,aH,aq,ar,aF,ag,ah,an,aj,aC,aG,FzZ,au]
theorem Ms (L:Lst)(run:av)(k:Nat)(fr:Ψ)(hp:Θ)(wr:Ω)(p:PV)(h21:fr.length=21)(h0:nth fr 0=p) :
  ∃ st,ae (CC L) run k (ai 2 vW) ⟨fr,hp,wr⟩=some (.ret,st)∧aY TT st.fr st.hp f167.results.toList=some [p]:=by
 simp[vW,ai,f167,ae,aH,aq,ar,aF,ag,ah,an,aj,aC,aG,FzZ,aa,ab,h21,h0,aY]
def jo:Ψ→Option Ψ
 | [p]=>match gU p with
  | some l=>some [aL (ff l)]
  | none=>none
 | _=>none
theorem Em (hp:Θ)(l:Ω):bu (snap hp bn) [aL l]=some ([aL l],[]):=rfl
theorem jv (hp:Θ)(z:Int):bu (snap hp bn) [bt z]=some ([bt z],[]):=rfl
theorem iV:Ab.Spec base.P 167 jo:=Ab.Spec.bL (C:=CC []) (cP trivial) fun args rs h=>by
 unfold jo at h
 split at h
 ·split at h
  ·rename_i l hl
   obtain⟨rfl,_,hlen⟩:=dy hl
   simp only[OiE] at h
   subst h
   obtain⟨fr1,h1,h20,h0⟩:=QT [] (runK (CC []) (l.length+1)) (l.length+1) (aL l)
   obtain⟨fr2,g1,g2,g3⟩:=zl [] (runK (CC []) (l.length+1)) (l.length+1) l.length l fr1 [] [] rfl (by omega) h20 h0
   obtain⟨st,e1,e2⟩:=Ms [] (runK (CC []) (l.length+1)) (l.length+1) fr2 [] [] _ g3 g2
   have hx:ae (CC []) (runK (CC []) (l.length+1)) (l.length+1) vW ⟨entry 21 [aL l],[],[]⟩=some (.ret,st):=by
    rw[aU 1 h1,GA,ao (bD g1)]
    exact e1
   exact⟨l.length+2,_,_,_,_,_,aZ PL rfl hx e2,Em _ _,Wk.refl rfl,trivial⟩
  ·cases h
 ·cases h
def sgn (n:Bool)(v:Nat):Int:=bif n then Int.negOfNat v else Int.ofNat v
theorem aej {l:Ω}(h:Dok l)(n:Bool):wh (n && decide (0<(ff l).length)) (ff l)=bt (sgn n (val l)):=by
 rw[eA h]
 cases n with
 | false=>rfl
 | true =>
  by_cases h0:val l=0
  ·rw[h0];rfl
  ·rw[sgn,cond_true,Fq h0]
   have:=cT.2 h0
   simp[this]
def fx:Ψ→Option Ψ
 | [.sc (.bool n),p]=>match gU p with
  | some l=>some [bt (sgn n (val l))]
  | none=>none
 | _=>none
def Ba:Lst:=[(167,jo)]
theorem Pq (run:av)(dr:Bool)(hp:Θ)(l:Ω)(hd:Dok l)(hl:l.length<1000000):bS (CC Ba) run dr hp 167 [aL l]=some (aL (ff l),hp,⟨[],[],false,false⟩):=by
 have h3:(CC Ba).orc 167 [aL l]=some [aL (ff l)]:=by
  show jo (aK [aL l])=_
  simp only[aK,fF,jo,cZ hd hl]
 exact eI vg (Em hp l) h3 rfl
noncomputable def KF:Code:=f152.body.getD .skip
theorem Db (neg:Bool)(l:Ω)(hd:Dok l)(hl:l.length<1000000)(run:av)(k:Nat) :
  ∃ st,ae (CC Ba) run k KF ⟨entry 15 [.sc (.bool neg),aL l],[],[]⟩=some (.ret,st)∧aY TT st.fr st.hp f152.results.toList=some [bt (sgn neg (val l))]:=by
 rw[← aej hd]
 have hc:∀ hp dr,bS (CC Ba) run dr hp 167 [aL l]=some (aL (ff l),hp,⟨[],[],false,false⟩):=fun hp dr=>Pq run dr hp l hd hl
 cases neg <;> simp[KF,f152,entry,nth,eS,ae,aH,aq,ar,aF,ag,ah,aM,an,aj,aC,aG,FzZ,ba,aw,bg,au,bM,partOf,bf,cl,yp,bp,pV,cf,bH,bj,hc,zW,bd,uD,fb,uW,wf0,wf1,sB,sD,sW,aW,dJ,j6,b9,aY,aV,aX,cF,bz,bF,wh]
theorem jr:Ab.Spec base.P 152 fx:=Ab.Spec.bL (C:=CC Ba) (cP ⟨iV,trivial⟩) fun args rs h=>by
 unfold fx at h
 split at h
 ·split at h
  ·rename_i n p _ l hl
   obtain⟨rfl,hd,hlen⟩:=dy hl
   simp only[OiE] at h
   subst h
   obtain⟨st,e1,e2⟩:=Db n l hd hlen (runK (CC Ba) 1) 1
   exact⟨2,_,_,_,_,_,aZ Ga rfl e1 e2,jv _ _,Wk.refl rfl,trivial⟩
  ·cases h
 ·cases h
noncomputable def pj:Code:=((f146.body).bind az).getD .skip
noncomputable def lq:Code:=f146.body.getD .skip
set_option maxHeartbeats 1000000 in
theorem Ru (L:Lst)(run:av)(k:Nat)(fr:Ψ)(h41:fr.length=41)(h5:nth fr 5 = .sc (.int .i64 (-1))) :
  ∃ fr',ae (CC L) run k pj ⟨fr,[],[]⟩=some (.exit 0,⟨fr',[],[]⟩)∧fr'.length=41:=by
 simp[pj,f146,az,ae,aH,aq,ar,aF,ag,ah,an,aj,aC,aG,FzZ,ba,aw,bg,au,aa,ab,h41,h5]
set_option maxHeartbeats 1000000 in
theorem size_eq (L:Lst)(run:av)(k:Nat)(fr:Ψ)(a b:Ω)(m:Nat)(hma:m<a.length)(hmb:m<b.length)(hl:a.length<1000000)
  (h41:fr.length=41) (h0:nth fr 0=aL a) (h1:nth fr 1=aL b) (h5:nth fr 5 = .sc (.int .i64 (m:Int))) (h:a[m]=b[m]) :
  ∃ fr',ae (CC L) run k pj ⟨fr,[],[]⟩=some (.normal,⟨fr',[],[]⟩)∧fr'.length=41∧nth fr' 0=aL a∧nth fr' 1=aL b∧nth fr' 5 = .sc (.int .i64 ((m:Int) - 1)):=by
 have hw:bB .i64 ((m:Int) - 1)=(m:Int) - 1:=cM m (by omega)
 have hda:=eJ a m hma
 have hdb:=eJ b m hmb
 rw[h] at hda
 generalize b[m]=y at *
 have e1:aL a = .imm a.length false (a.map dg):=rfl
 have e2:aL b = .imm b.length false (b.map dg):=rfl
 have hdg:dg y = .sc (.int .u32 (y:Int)):=rfl
 rw[e1] at h0 ⊢;rw[e2] at h1 ⊢;rw[hdg] at hda hdb
 simp[pj,f146,az,ae,aH,aq,ar,aF,ag,ah,an,aj,aC,aG,FzZ,ba,aw,bg,au,bc,bm,partOf,aa,af,ab,bf,h41,h0,h1,h5,uD,s32,a32,hma,hmb,hda,hdb,aV,number,FP.free,hw]
set_option maxHeartbeats 1000000 in
theorem YX (L:Lst)(run:av)(k:Nat)(fr:Ψ)(a b:Ω)(m:Nat)(hma:m<a.length)(hmb:m<b.length)(hl:a.length<1000000)
  (h41:fr.length=41) (h0:nth fr 0=aL a) (h1:nth fr 1=aL b) (h5:nth fr 5 = .sc (.int .i64 (m:Int))) (h:a[m]≠b[m]) :
  ∃ fr',ae (CC L) run k pj ⟨fr,[],[]⟩=some (.ret,⟨fr',[],[]⟩)∧fr'.length=41∧nth fr' 4 = .sc (.int .i64 (if a[m]<b[m] then -1 else 1)):=by
 have hda:=eJ a m hma
 have hdb:=eJ b m hmb
 generalize b[m]=y at *
 generalize a[m]=x at *
 have e1:aL a = .imm a.length false (a.map dg):=rfl
 have e2:aL b = .imm b.length false (b.map dg):=rfl
 have hdx:dg x = .sc (.int .u32 (x:Int)):=rfl
 have hdy:dg y = .sc (.int .u32 (y:Int)):=rfl
 rw[e1] at h0;rw[e2] at h1;rw[hdx] at hda;rw[hdy] at hdb
 by_cases hxy:x<y
 ·simp[pj,f146,az,ae,aH,aq,ar,aF,ag,ah,an,aj,aC,aG,FzZ,ba,aw,bg,au,bc,bm,partOf,aa,af,ab,bf,FX,h41,h0,h1,h5,uD,s32,a32,hma,hmb,hda,hdb,aV,number,FP.free,h,hxy]
 ·simp[pj,f146,az,ae,aH,aq,ar,aF,ag,ah,an,aj,aC,aG,FzZ,ba,aw,bg,au,bc,bm,partOf,aa,af,ab,bf,FX,h41,h0,h1,h5,uD,s32,a32,hma,hmb,hda,hdb,aV,number,FP.free,h,hxy]
theorem zw (L:Lst)(run:av)(k:Nat)(a b:Ω)(hab:a.length=b.length)(hl:a.length<1000000)(ha:Dok a)(hb:Dok b):∀ (m:Nat) (fr:Ψ),m≤a.length →
  fr.length=41→nth fr 0=aL a→nth fr 1=aL b→nth fr 5 = .sc (.int .i64 ((m:Int) - 1))→a.drop m=b.drop m →
  (∃ fr',cg (ae (CC L) run k pj) (m+1) ⟨fr,[],[]⟩=some (.exit 0,⟨fr',[],[]⟩)∧fr'.length=41∧dR (val a) (val b)=0) ∨
  (∃ fr',cg (ae (CC L) run k pj) (m+1) ⟨fr,[],[]⟩=some (.ret,⟨fr',[],[]⟩)∧nth fr' 4 = .sc (.int .i64 (dR (val a) (val b))))
 | 0,fr,hm,h41,h0,h1,h5,hd=>by
  obtain⟨fr',g1,g2⟩:=Ru L run k fr h41 h5
  refine .inl ⟨fr',br g1,g2,?_⟩
  simp at hd
  simp[dR,hd]
 | m+1,fr,hm,h41,h0,h1,h5,hd=>by
  have h5':nth fr 5 = .sc (.int .i64 (m:Int)):=by rw[h5];simp
  have hmb:m<b.length:=by omega
  have hma:m<a.length:=by omega
  by_cases h:a[m]=b[m]
  ·obtain⟨fr1,g1,g2,g3,g4,g5⟩:=size_eq L run k fr a b m hma hmb hl h41 h0 h1 h5' h
   have hd':a.drop m=b.drop m:=by rw[List.drop_eq_getElem_cons hma,List.drop_eq_getElem_cons hmb,hd,h]
   rw[bU g1]
   exact zw L run k a b hab hl ha hb m fr1 (by omega) g2 g3 g4 g5 hd'
  ·obtain⟨fr1,g1,g2,g3⟩:=YX L run k fr a b m hma hmb hl h41 h0 h1 h5' h
   refine .inr ⟨fr1,dD g1,?_⟩
   rw[g3]
   by_cases hxy:a[m]<b[m]
   ·have:=lb ha hma hmb hd hxy
    rw[if_pos hxy,dR,if_pos this]
   ·have:=lb hb hmb hma hd.symm (by omega)
    rw[if_neg hxy,dR,if_neg (by omega),if_neg (by omega)]
def pg (a b:Ω):Int:=if a.length<b.length then -1 else if b.length<a.length then 1 else dR (val a) (val b)
theorem MF (L:Lst)(run:av)(k:Nat)(a b:Ω)(h:a.length≠b.length) :
  ∃ st,ae (CC L) run k lq ⟨entry 41 [aL a,aL b],[],[]⟩=some (.ret,st)∧aY TT st.fr st.hp f146.results.toList=some [Ab.bJ (pg a b)]:=by
 by_cases hx:a.length<b.length
 ·simp[lq,f146,entry,nth,eS,ae,aH,aq,ar,aF,ag,ah,an,aj,aC,aG,FzZ,ba,aw,bg,au,bM,bf,cl,FX,uD,h,hx,aY,pg,Ab.bJ]
 ·have:b.length<a.length:=by omega
  simp[lq,f146,entry,nth,eS,ae,aH,aq,ar,aF,ag,ah,an,aj,aC,aG,FzZ,ba,aw,bg,au,bM,bf,cl,FX,uD,h,hx,this,aY,pg,Ab.bJ]
theorem ME (L:Lst)(run:av)(k:Nat)(a b:Ω)(h:a.length=b.length)(hl:a.length<1000000) :
  ∃ fr,bh (CC L) run k 2 lq ⟨entry 41 [aL a,aL b],[],[]⟩=some ⟨fr,[],[]⟩∧fr.length=41∧nth fr 0=aL a∧nth fr 1=aL b:=by
 simp[lq,f146,bh,entry,nth,eS,ae,aH,aq,ar,aF,ag,ah,an,aj,aC,aG,FzZ,ba,aw,bg,au,bM,bf,cl,uD,h]
noncomputable def GV:Code:=seq1 (seq1 (ai 2 lq))
theorem wg:ai 2 lq = .seq (.seq GV (.block 0 (.loop pj))) (ai 3 lq):=rfl
theorem YW (L:Lst)(run:av)(k:Nat)(fr:Ψ)(a b:Ω)(hl:a.length<1000000)(h41:fr.length=41)(h0:nth fr 0=aL a)(h1:nth fr 1=aL b) :
  ∃ fr',ae (CC L) run k GV ⟨fr,[],[]⟩=some (.normal,⟨fr',[],[]⟩)∧fr'.length=41∧nth fr' 0=aL a∧nth fr' 1=aL b∧nth fr' 5 = .sc (.int .i64 ((a.length:Int) - 1)):=by
 have hw:bB .i64 ((a.length:Int) - 1)=(a.length:Int) - 1:=cM _ (by omega)
 simp[GV,lq,ai,seq1,f146,ae,aH,aq,ar,aF,ag,ah,an,aj,aC,aG,FzZ,ba,aw,bg,au,bM,aa,af,ab,bf,cl,uD,h41,h0,h1,hw]
theorem MG (L:Lst)(run:av)(k:Nat)(fr:Ψ)(h41:fr.length=41) :
  ∃ st,ae (CC L) run k (ai 3 lq) ⟨fr,[],[]⟩=some (.ret,st)∧aY TT st.fr st.hp f146.results.toList=some [Ab.bJ 0]:=by
 simp[lq,ai,f146,ae,aH,aq,ar,aF,ag,ah,an,aj,aC,aG,FzZ,au,aa,h41,aY,Ab.bJ]
theorem cL {C:Cfg}{run:av}{k i:Nat}{b:Code}{st st':St}(h:cg (ae C run k b) k st=some (.ret,st')):ae C run k (.block i (.loop b)) st=some (.ret,st'):=by
 simp only[ae,h]
theorem bK {C:Cfg}{run:av}{k:Nat}{a b:Code}{st st':St}(h:ae C run k a st=some (.ret,st')):ae C run k (.seq a b) st=some (.ret,st'):=by
 simp only[ae,h]
def tG:Ψ→Option Ψ
 | [p,q]=>match gU p,gU q with
  | some a,some b=>some [Ab.bJ (pg a b)]
  | _,_=>none
 | _=>none
theorem eB (hp:Θ)(z:Int):bu (snap hp bn) [Ab.bJ z]=some ([Ab.bJ z],[]):=rfl
theorem zv:Ab.Spec base.P 146 tG:=Ab.Spec.bL (C:=CC []) (cP trivial) fun args rs h=>by
 unfold tG at h
 split at h
 ·split at h
  ·rename_i a b ea eb
   obtain⟨rfl,ha,hla⟩:=dy ea
   obtain⟨rfl,hb,hlb⟩:=dy eb
   simp only[OiE] at h
   subst h
   by_cases hab:a.length=b.length
   ·obtain⟨fr1,h1,h2,h3,h4⟩:=ME [] (runK (CC []) (a.length+1)) (a.length+1) a b hab hla
    obtain⟨fr2,g1,g2,g3,g4,g5⟩:=YW [] (runK (CC []) (a.length+1)) (a.length+1) fr1 a b hla h2 h3 h4
    have hs:pg a b=dR (val a) (val b):=by simp[pg,hab]
    rcases zw [] (runK (CC []) (a.length+1)) (a.length+1) a b hab hla ha hb a.length fr2 (Nat.le_refl _) g2 g3 g4 g5 (by simp[hab]) with ⟨fr3,q1,q2,q3⟩| ⟨fr3,q1,q2⟩
    ·obtain⟨st,e1,e2⟩:=MG [] (runK (CC []) (a.length+1)) (a.length+1) fr3 q2
     have hx:ae (CC []) (runK (CC []) (a.length+1)) (a.length+1) lq ⟨entry 41 [aL a,aL b],[],[]⟩=some (.ret,st):=by
      rw[aU 2 h1,wg,ao ((ao g1).trans (bD q1))]
      exact e1
     rw[hs,q3]
     exact⟨a.length+2,_,_,_,_,_,aZ tw rfl hx e2,eB _ _,Wk.refl rfl,trivial⟩
    ·have hx:ae (CC []) (runK (CC []) (a.length+1)) (a.length+1) lq ⟨entry 41 [aL a,aL b],[],[]⟩=some (.ret,⟨fr3,[],[]⟩):=by
      rw[aU 2 h1,wg,bK ((ao g1).trans (cL q1))]
     have e2:aY TT fr3 [] f146.results.toList=some [Ab.bJ (dR (val a) (val b))]:=by
      simp[f146,aY,q2,Ab.bJ]
     rw[hs]
     exact⟨a.length+2,_,_,_,_,_,aZ tw rfl hx e2,eB _ _,Wk.refl rfl,trivial⟩
   ·obtain⟨st,e1,e2⟩:=MF [] (runK (CC []) 1) 1 a b hab
    exact⟨2,_,_,_,_,_,aZ tw rfl e1 e2,eB _ _,Wk.refl rfl,trivial⟩
  ·cases h
 ·cases h
theorem nS (n:Nat):fP TT 68 1 [(0,dg n)]=some (1,[dg n]):=Vq uD s32 z32 n
noncomputable def xk:Code:=((f160.body).bind az).getD .skip
noncomputable def kC:Code:=f160.body.getD .skip
theorem TR (L:Lst)(run:av)(k:Nat)(fr:Ψ)(hp:Θ)(wr:Ω)(n:Nat)(h52:fr.length=52)
  (h21:nth fr 21 = .sc (.int .i64 (n:Int))) (h22:nth fr 22 = .sc (.int .i64 (n:Int))) :
  ∃ fr',ae (CC L) run k xk ⟨fr,hp,wr⟩=some (.exit 0,⟨fr',hp,wr⟩)∧fr'.length=52∧nth fr' 5=nth fr 5∧nth fr' 6=nth fr 6:=by
 simp[xk,f160,az,ae,aH,aq,ar,aF,ag,ah,an,aj,aC,aG,FzZ,ba,aw,bg,aa,af,ab,h52,h21,h22]
set_option maxHeartbeats 2000000 in
theorem Im (L:Lst)(run:av)(k:Nat)(fr:Ψ)(hp:Θ)(wr:Ω)(a b out:Ω)(i c s:Nat)(ha:Dok a)(hb:Dok b)(hc:c≤1)(hi:i<a.length)(hl:a.length<1000000)
  (h52:fr.length=52) (h20:nth fr 20=aL a) (h21:nth fr 21 = .sc (.int .i64 (a.length:Int))) (h22:nth fr 22 = .sc (.int .i64 (i:Int))) (h1:nth fr 1=aL b)
  (h6:nth fr 6 = .sc (.int .u32 (c:Int))) (hO:dL 0 hp out (nth fr 5)) (ho:out.length=i) (hs:s=at0 a i+c+at0 b i) :
  ∃ fr' hp' wr',ae (CC L) run k xk ⟨fr,hp,wr⟩=some (.normal,⟨fr',hp',wr'⟩)∧fr'.length=52∧nth fr' 20=aL a∧nth fr' 21 = .sc (.int .i64 (a.length:Int))
   ∧ nth fr' 22 = .sc (.int .i64 ((i+1:Nat):Int))∧nth fr' 1=aL b∧nth fr' 6 = .sc (.int .u32 ((s / 1000000000:Nat):Int))∧dL 0 hp' (out++[s % 1000000000]) (nth fr' 5):=by
 have hda:=eJ a i hi
 have hax:=ha.get hi
 rw[de hi] at hs
 generalize a[i]=x at *
 have e1:aL a = .imm a.length false (a.map dg):=rfl
 have e2:aL b = .imm b.length false (b.map dg):=rfl
 have hdx:dg x = .sc (.int .u32 (x:Int)):=rfl
 rw[e1] at h20 ⊢;rw[e2] at h1 ⊢;rw[hdx] at hda
 obtain⟨s1,hs1⟩:∃ s1,s1=x+c:=⟨_,rfl⟩
 have hw1:bB .u32 ((x:Int)+(c:Int))=(s1:Int):=dx .u32 x c s1 hs1 (iC (by omega))
 have hwi:=bE i (by omega)
 have hb9:=cn hb i
 obtain⟨q,hq⟩:∃ q,q=s / 1000000000:=⟨_,rfl⟩
 obtain⟨r,hr⟩:∃ r,r=s % 1000000000:=⟨_,rfl⟩
 have hw3:bB .u32 ((s:Int) / 1000000000)=(q:Int):=jC .u32 s q hq (iC (by omega))
 obtain⟨p',hp',fp,h7,h8,h9⟩:=hO.app r (ho ▸ Nat.lt_trans hi (Nat.lt_trans hl (by decide)))
 rw[← hq,← hr]
 by_cases hib:i<b.length
 ·have hdb:=eJ b i hib
  rw[de hib] at hs hb9
  generalize b[i]=y at *
  have hdy:dg y = .sc (.int .u32 (y:Int)):=rfl
  rw[hdy] at hdb
  have hw2:bB .u32 ((s1:Int)+(y:Int))=(s:Int):=dx .u32 s1 y s (by omega) (iC (by omega))
  have hw4:((s:Int).tmod 1000000000)=(r:Int):=ll s r hr
  simp[xk,f160,az,ae,aH,aq,ar,aF,ag,ah,an,aj,aC,aG,FzZ,ba,aw,bg,au,bM,bc,bm,partOf,aa,af,ab,bf,and_assoc,cR,bj,du,h52,h20,h21,h22,h1,h6,uD,s32,b32,z32,a32,hi,hib,hda,hdb,aV,hw1,hw2,hw3,hw4,hwi,gM r,nS,nA,jF,bZ,h7,h8]
 ·rw[jd (Nat.le_of_not_lt hib)] at hs
  have:s1=s:=by omega
  subst this
  have hw4:((s1:Int).tmod 1000000000)=(r:Int):=ll s1 r hr
  simp[xk,f160,az,ae,aH,aq,ar,aF,ag,ah,an,aj,aC,aG,FzZ,ba,aw,bg,au,bM,bc,bm,partOf,aa,af,ab,bf,and_assoc,cR,bj,du,h52,h20,h21,h22,h1,h6,uD,s32,b32,z32,a32,hi,hib,hda,aV,hw1,hw3,hw4,hwi,gM r,nS,nA,jF,bZ,h7,h8]
theorem N6 {va vb vo x c y P s q r:Nat}(h:vo+c*P=va+vb)(hs:s=x+c+y)(hq:q=s / 1000000000)(hr:r=s % 1000000000) :
  vo+P*r+q*(P*1000000000)=va+x*P+(vb+y*P):=by
 have e:s=r+1000000000*q:=by omega
 have e2:s*P=(r+1000000000*q)*P:=by rw[e]
 subst hs
 simp only[Nat.add_mul] at e2 ⊢
 have e3:1000000000*q*P=q*(P*1000000000):=by grind
 have e4:r*P=P*r:=Nat.mul_comm _ _
 omega
theorem Ai (L:Lst)(run:av)(k:Nat)(a b:Ω)(ha:Dok a)(hb:Dok b)(hl:a.length<1000000):∀ (n i:Nat) (fr:Ψ) (hp:Θ) (wr:Ω) (out:Ω) (c:Nat),i+n=a.length →
  fr.length=52→nth fr 20=aL a→nth fr 21 = .sc (.int .i64 (a.length:Int))→nth fr 22 = .sc (.int .i64 (i:Int))→nth fr 1=aL b→nth fr 6 = .sc (.int .u32 (c:Int))→dL 0 hp out (nth fr 5)→out.length=i →
  Dok out→c≤1→val out+c*1000000000 ^ i=val (a.take i)+val (b.take i) →
  ∃ (fr':Ψ) (hp':Θ) (wr':Ω) (out':Ω) (c':Nat),cg (ae (CC L) run k xk) (n+1) ⟨fr,hp,wr⟩=some (.exit 0,⟨fr',hp',wr'⟩)∧fr'.length=52∧nth fr' 6 = .sc (.int .u32 (c':Int))∧dL 0 hp' out' (nth fr' 5)∧out'.length=a.length
   ∧ Dok out'∧c'≤1∧val out'+c'*1000000000 ^ a.length=val a+val (b.take a.length)
 | 0,i,fr,hp,wr,out,c,hi,h52,h20,h21,h22,h1,h6,hO,ho,hd,hc,hv=>by
  have:i=a.length:=by omega
  subst this
  obtain⟨fr',g1,g2,g3,g4⟩:=TR L run k fr hp wr a.length h52 h21 h22
  exact⟨fr',hp,wr,out,c,br g1,g2,by rw[g4,h6],by rw[g3];exact hO,ho,hd,hc,by rw[hv,List.take_length]⟩
 | n+1,i,fr,hp,wr,out,c,hi,h52,h20,h21,h22,h1,h6,hO,ho,hd,hc,hv=>by
  obtain⟨fr1,hp1,wr1,g1,g2,g3,g4,g5,g6,g7,g8⟩:=Im L run k fr hp wr a b out i c _ ha hb hc (by omega) hl h52 h20 h21 h22 h1 h6 hO ho rfl
  obtain⟨fr',hp',wr',out',c',q1,q2⟩:=Ai L run k a b ha hb hl n (i+1) fr1 hp1 wr1 _ _ (by omega) g2 g3 g4 g5 g6 g7 g8 (by simp[ho]) (hd.append (Dok.nil.cons (Nat.mod_lt _ (by omega))))
   (by have:=cn ha i;have:=cn hb i;omega)
   (by
    rw[cu,cu,dI,ho,Nat.pow_succ]
    exact N6 hv rfl rfl rfl)
  exact⟨fr',hp',wr',out',c',by rw[bU g1];exact q1,q2⟩
noncomputable def TS:Code:=seq1 (seq1 (ai 4 kC))
theorem Il:ai 4 kC = .seq (.seq TS (.block 0 (.loop xk))) (ai 5 kC):=rfl
theorem N9 (L:Lst)(run:av)(k:Nat)(a b:Ω)(a' b':Ω)(hab:(b.length≤a.length∧a'=a∧b'=b)∨(a.length<b.length∧a'=b∧b'=a)) :
  ∃ fr wr,bh (CC L) run k 2 kC ⟨entry 52 [aL a,aL b],[],[]⟩=some ⟨fr,[],wr⟩∧fr.length=52∧nth fr 0=aL a'∧nth fr 1=aL b':=by
 obtain⟨e1,e2,e3⟩:=cb 50 (aL a) (aL b)
 generalize entry 52 [aL a,aL b]=fr0 at *
 rcases hab with ⟨h,rfl,rfl⟩| ⟨h,rfl,rfl⟩
 ·have hn : ¬ (a'.length<b'.length):=by omega
  simp[kC,f160,bh,e1,e2,e3,ae,aH,aq,ar,aF,ag,ah,an,aj,aC,aG,FzZ,ba,aw,bg,au,bM,aa,af,ab,bf,and_assoc,cl,uD,hn]
 ·simp[kC,f160,bh,e1,e2,e3,ae,aH,aq,ar,aF,ag,ah,an,aj,aC,aG,FzZ,ba,aw,bg,au,bM,aa,af,ab,bf,and_assoc,cl,uD,h]
theorem N8 (L:Lst)(run:av)(k:Nat)(a:Ω)(fr0:Ψ)(wr0:Ω)(hl:a.length<1000000)(e1:fr0.length=52)(e2:nth fr0 0=aL a) :
  ∃ fr hp wr,bh (CC L) run k 2 (ai 2 kC) ⟨fr0,[],wr0⟩=some ⟨fr,hp,wr⟩∧fr.length=52∧nth fr 0=aL a∧nth fr 1=nth fr0 1∧nth fr 6 = .sc (.int .u32 (0:Nat))∧dL 0 hp [] (nth fr 5):=by
 have hO:∀ n,dL 0 [⟨.live,rep n [dg 0]⟩] [] (.own 0 1 0 0 false):=fun n=>⟨Nat.zero_le _,.inr ⟨0,List.replicate n 0,Nat.le_refl _,by simp,rfl,by rw[sK];rfl⟩⟩
 have hw:=bE a.length (by omega)
 have h1:a.length+1≤cW:=Nat.le_trans (show a.length+1≤1000000 by assumption) (by decide)
 simp[kC,ai,f160,bh,e1,e2,ae,aH,aq,ar,aF,ag,ah,an,aj,aC,aG,FzZ,ba,aw,bg,au,bM,jQ,je,aa,af,ab,bf,and_assoc,cl,uD,hw,s32,b32,z32,bZ,h1,bd,hO]
theorem afe (L:Lst)(run:av)(k:Nat)(fr:Ψ)(hp:Θ)(wr:Ω)(a:Ω)(h52:fr.length=52)(h0:nth fr 0=aL a) :
  ∃ fr',ae (CC L) run k TS ⟨fr,hp,wr⟩=some (.normal,⟨fr',hp,wr⟩)∧fr'.length=52∧nth fr' 20=aL a∧nth fr' 21 = .sc (.int .i64 (a.length:Int))∧nth fr' 22 = .sc (.int .i64 (0:Nat))
   ∧ nth fr' 1=nth fr 1∧nth fr' 6=nth fr 6∧nth fr' 5=nth fr 5:=by
 simp[TS,kC,ai,seq1,f160,ae,aH,aq,ar,aF,ag,ah,an,aj,aC,aG,FzZ,au,bM,aa,af,ab,bf,cl,uD,h52,h0]
theorem Oa (L:Lst)(run:av)(k:Nat)(fr:Ψ)(hp:Θ)(wr:Ω)(out:Ω)(c:Nat)(hl:out.length<1000000)(h52:fr.length=52)(h6:nth fr 6 = .sc (.int .u32 (c:Int)))(hO:dL 0 hp out (nth fr 5)) :
  ∃ st p',ae (CC L) run k (ai 5 kC) ⟨fr,hp,wr⟩=some (.ret,st)∧aY TT st.fr st.hp f160.results.toList=some [p']∧dL 0 st.hp (out++[c]) p':=by
 obtain⟨p',hp',fp,h7,h8,h9⟩:=hO.app c (by omega)
 simp[kC,ai,f160,ae,aH,aq,ar,aF,ag,ah,an,aj,aC,aG,FzZ,au,aa,af,ab,bf,bj,du,uD,h52,h6,s32,b32,z32,gM c,nS,nA,jF,bZ,h7,h8,aY]
def Eh:Ψ→Option Ψ
 | [p,q]=>match gU p,gU q with
  | some a,some b=>some [aL (db (Nat.max a.length b.length+1) (val a+val b))]
  | _,_=>none
 | _=>none
theorem N7:Ab.Spec base.P 160 Eh:=Ab.Spec.bL (C:=CC []) (cP trivial) fun args rs h=>by
 unfold Eh at h
 split at h
 ·split at h
  ·rename_i a b ea eb
   obtain⟨rfl,ha,hla⟩:=dy ea
   obtain⟨rfl,hb,hlb⟩:=dy eb
   simp only[OiE] at h
   subst h
   obtain⟨a',b',hab,hsum,hmax,ha',hb',hla',hle⟩:∃ a' b',((b.length≤a.length∧a'=a∧b'=b)∨(a.length<b.length∧a'=b∧b'=a))∧val a'+val b'=val a+val b∧a'.length=Nat.max a.length b.length∧Dok a'∧Dok b'∧a'.length<1000000∧b'.length≤a'.length:=by
    by_cases hx:b.length≤a.length
    ·exact⟨a,b,.inl ⟨hx,rfl,rfl⟩,rfl,(Nat.max_eq_left hx).symm,ha,hb,hla,hx⟩
    ·exact⟨b,a,.inr ⟨by omega,rfl,rfl⟩,Nat.add_comm _ _,(Nat.max_eq_right (by omega)).symm,hb,ha,hlb,by omega⟩
   obtain⟨fr0,wr0,h01,h02,h03,h04⟩:=N9 [] (runK (CC []) (a'.length+1)) (a'.length+1) a b a' b' hab
   obtain⟨fr1,hp1,wr1,h1,h2,h3,h4,h5,h6⟩:=N8 [] (runK (CC []) (a'.length+1)) (a'.length+1) a' fr0 wr0 hla' h02 h03
   obtain⟨fr2,g1,g2,g3,g4,g5,g6,g7,g8⟩:=afe [] (runK (CC []) (a'.length+1)) (a'.length+1) fr1 hp1 wr1 a' h2 h3
   obtain⟨fr3,hp3,wr3,out,c,q1,q2,q3,q4,q5,q6,q7,q8⟩:=Ai [] (runK (CC []) (a'.length+1)) (a'.length+1) a' b' ha' hb' hla' a'.length 0 fr2 hp1 wr1 [] 0 (by simp) g2 g3 g4 g5 (by rw[g6,h4,h04]) (by rw[g7,h5]) (by rw[g8];exact h6) rfl Dok.nil (by omega) (by simp[val])
   obtain⟨st,p',e1,e2,e3⟩:=Oa [] (runK (CC []) (a'.length+1)) (a'.length+1) fr3 hp3 wr3 out c (by omega) q2 q3 q4
   have hx:ae (CC []) (runK (CC []) (a'.length+1)) (a'.length+1) kC ⟨entry 52 [aL a,aL b],[],[]⟩=some (.ret,st):=by
    rw[aU 2 h01,aU 2 h1,show ai 2 (ai 2 kC)=ai 4 kC from rfl,Il,ao ((ao g1).trans (bD q1))]
    exact e1
   have hout:out++[c]=db (Nat.max a.length b.length+1) (val a+val b):=by
    refine (q6.append (Dok.nil.cons (by omega))).pQ (by simp[q5,hmax]) ?_
    rw[dI,q5,← hsum,Nat.mul_comm,q8,cB _ _ hle]
   obtain⟨rs2,ids,r1,r2⟩:=e3.Iu
   rw[hout] at r2
   exact⟨a'.length+2,_,_,_,rs2,ids,aZ PN rfl hx e2,r1,r2⟩
  ·cases h
 ·cases h
end Go.Proofs.YtjdmodeenbdfpaaGreat
