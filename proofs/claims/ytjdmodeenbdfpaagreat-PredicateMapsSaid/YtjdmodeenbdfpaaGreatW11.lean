/- Contracts of num's integers, part 11; each lemma states its conditions. -/
import Derived.Test.YtjdmodeenbdfpaaGreatW10
import Derived.Test.YtjdmodeenbdfpaaGreatW07
set_option linter.unusedSimpArgs false
set_option linter.unusedVariables false
noncomputable section
namespace Go.Proofs.YtjdmodeenbdfpaaGreat
open Go Go.Ab List Tryz
attribute [local simp] FzZ aC aF aG aH aX aZ af ah ai aj an ao aq au av bL bg partOf
def TT:Tab:=base.T.get
def CC (L:List (Nat × (Ψ→Option Ψ))):Cfg:=base.cfg (bt L)
theorem bf (L:List (Nat × (Ψ→Option Ψ))):(CC L).T=TT:=(rfl)
theorem cP {L:List (Nat × (Ψ→Option Ψ))}(h:dt base.P L):uK (CC L):=agr.cfg (EE h)
theorem aa {fr:Ψ}{d:Nat}{v:PV}(h:d<fr.length):nth (eY fr d v) d=v:=by
 rw[sQ,jQ];simp[h]
theorem ae {fr:Ψ}{d t:Nat}{v:PV}(h:t≠d):nth (eY fr d v) t=nth fr t:=kq h
theorem ab (fr:Ψ)(d:Nat)(v:PV):(eY fr d v).length=fr.length:=by
 rw[jQ];simp
def wf0:Field:={ name := "neg",type:=4,offset:=0,embedded:=false,tag := "",pkgPath := "torus/num",byteOffset:=0 }
def wf1:Field:={ name := "d",type:=68,offset:=1,embedded:=false,tag := "",pkgPath := "torus/num",byteOffset:=8 }
theorem uW:und TT 70=some (.struct #[wf0,wf1]):=by kernel_rfl
theorem uD:und TT 68=some (.slice 171):=by kernel_rfl
theorem u32:und TT 171=some (.int .u32):=by kernel_rfl
theorem u64:und TT 174=some (.int .u64):=by kernel_rfl
theorem uI:und TT 3=some (.int .i64):=by kernel_rfl
theorem uB:und TT 4=some .bool:=by kernel_rfl
theorem sB:de TT 4=some 1:=by kernel_rfl
theorem sD:de TT 68=some 1:=by kernel_rfl
theorem sW:de TT 70=some 2:=by kernel_rfl
theorem s32:de TT 171=some 1:=by kernel_rfl
theorem b32:fQ TT 171=some 4:=by kernel_rfl
theorem z32:eB TT 171=some [dg 0]:=by kernel_rfl
theorem zW:eB TT 70=some [.sc (.bool false),.sc (.slice none 0 0)]:=by kernel_rfl
theorem aW:fq TT 70=some true:=by kernel_rfl
theorem aB:fq TT 4=some false:=by kernel_rfl
theorem aD:fq TT 68=some false:=by kernel_rfl
theorem a32:fq TT 171=some false:=by kernel_rfl
theorem PI:base.F.get 167=some f167:=by kernel_rfl
theorem F9:base.F.get 152=some f152:=by kernel_rfl
theorem acK:base.F.get 97=some f97:=by kernel_rfl
theorem PQ:base.F.get 101=some f101:=by kernel_rfl
theorem XR:base.F.get 149=some f149:=by kernel_rfl
theorem XV:base.F.get 96=some f96:=by kernel_rfl
theorem tt:base.F.get 146=some f146:=by kernel_rfl
theorem PK:base.F.get 160=some f160:=by kernel_rfl
theorem Ju:base.F.get 161=some f161:=by kernel_rfl
theorem XW:base.F.get 139=some f139:=by kernel_rfl
theorem XQ:base.F.get 168=some f168:=by kernel_rfl
theorem XS:base.F.get 105=some f105:=by kernel_rfl
theorem Ji:base.F.get 181=some f181:=by kernel_rfl
theorem qg:base.F.get 166=some f166:=by kernel_rfl
theorem Gm:base.F.get 151=some f151:=by kernel_rfl
theorem Gl:base.F.get 150=some f150:=by kernel_rfl
theorem PH:base.F.get 165=some f165:=by kernel_rfl
theorem Jh:base.F.get 164=some f164:=by kernel_rfl
theorem vd:base.shared 167=false:=by kernel_rfl
theorem oG:base.shared 152=false:=by kernel_rfl
theorem zu:base.shared 97=false:=by kernel_rfl
theorem ve:base.shared 101=false:=by kernel_rfl
theorem GZ:base.shared 149=false:=by kernel_rfl
theorem G1:base.shared 96=false:=by kernel_rfl
theorem J2:base.shared 146=false:=by kernel_rfl
theorem YK:base.shared 160=false:=by kernel_rfl
theorem Rx:base.shared 161=false:=by kernel_rfl
theorem G2:base.shared 139=false:=by kernel_rfl
theorem adP:base.shared 168=false:=by kernel_rfl
theorem adQ:base.shared 105=false:=by kernel_rfl
theorem Dv:base.shared 181=false:=by kernel_rfl
theorem DC:base.shared 166=false:=by kernel_rfl
theorem ML:base.shared 151=false:=by kernel_rfl
theorem RM:base.shared 150=false:=by kernel_rfl
theorem YH:base.shared 165=false:=by kernel_rfl
theorem Rj:base.shared 164=false:=by kernel_rfl
def ofB:Code:=((f97.body).bind aA).getD .skip
set_option maxHeartbeats 1000000 in
theorem TZ (L:List (Nat × (Ψ→Option Ψ)))(run:aw)(k:Nat)(fr:Ψ)(hp:Θ)(wr:Ω)(u:Nat)(l:Ω)
  (hu:u≠0) (hu2:u<18446744073709551616) (h20:fr.length=26) (h3:nth fr 3 = .sc (.int .u64 (Int.ofNat u))) (hO:dR 1 hp l (nth fr 5)) (hl:l.length<1000) :
  ∃ fr' hp' wr',af (CC L) run k ofB ⟨fr,hp,wr⟩=some (.normal,⟨fr',hp',wr'⟩)∧fr'.length=26∧nth fr' 3 = .sc (.int .u64 (Int.ofNat (u / 1000000000)))
   ∧ dR 1 hp' (l++[u % 1000000000]) (nth fr' 5)∧nth fr' 2=nth fr 2∧nth fr' 4=nth fr 4∧aP hp' 0=aP hp 0:=by
 have hq:bF .u64 ((u:Int) / 1000000000)=Int.ofNat (u / 1000000000):=dx .u64 (u / 1000000000) (by simp[hiN];omega)
 have hc:bF .u32 ((u:Int).tmod 1000000000)=Int.ofNat (u % 1000000000):=dx .u32 (u % 1000000000) (by simp[hiN];omega)
 generalize u / 1000000000=q at *
 generalize u % 1000000000=r at *
 obtain⟨p',hp',fp,ha,hO',hk⟩:=hO.app r (by omega)
 have hu0:0<u:=by omega
 have hdg:PV.sc (.int .u32 (r:Int))=dg r:=rfl
 have hlit:eM TT 68 1 [(0,dg r)]=some (1,[dg r]):=by
  simp[eM,uD,s32,z32,rep,dq,gh,cm]
 have hrd:fk hp 1 (.imm 1 true [dg r])=some (1,[dg r],[]):=by simp[fk]
 have hif:bM [dg r]=true:=rfl
 have hk0:=hk 0 (by omega)
 simp[ofB,f97,aA,soft,eu,aa,ae,ab,bf,and_assoc,bd,du,h20,h3,dI,u32,u64,uD,s32,b32,z32,hq,hc,hu0,hdg,hlit,hrd,hif,bQ,ha,hO',hk0]
theorem Z5 (L:List (Nat × (Ψ→Option Ψ)))(run:aw)(k:Nat)(fr:Ψ)(hp:Θ)(wr:Ω)
  (h20:fr.length=26) (h3:nth fr 3 = .sc (.int .u64 (Int.ofNat 0))) :
  ∃ fr',af (CC L) run k ofB ⟨fr,hp,wr⟩=some (.exit 0,⟨fr',hp,wr⟩)∧nth fr' 5=nth fr 5∧nth fr' 2=nth fr 2∧nth fr' 4=nth fr 4∧fr'.length=26:=by
 simp[ofB,f97,aA,aa,ae,ab,h20,h3]
theorem KJ (L:List (Nat × (Ψ→Option Ψ)))(run:aw)(k:Nat):∀ (j u:Nat) (l:Ω) (fr:Ψ) (hp:Θ) (wr:Ω),
  u<1000000000 ^ j→l.length+j<1000→u<18446744073709551616→fr.length=26→nth fr 3 = .sc (.int .u64 (Int.ofNat u))→dR 1 hp l (nth fr 5) →
  ∃ fr' hp' wr',ch (af (CC L) run k ofB) (j+1) ⟨fr,hp,wr⟩=some (.exit 0,⟨fr',hp',wr'⟩)∧fr'.length=26
   ∧ dR 1 hp' (l++aK u) (nth fr' 5)∧nth fr' 2=nth fr 2∧nth fr' 4=nth fr 4∧aP hp' 0=aP hp 0
 | j,u,l,fr,hp,wr,hu,hl,hu2,h20,h3,hO=>by
  by_cases h0:u=0
  ·subst h0
   obtain⟨fr',h1,h2,h4,h5,h6⟩:=Z5 L run k fr hp wr h20 h3
   refine⟨fr',hp,wr,bE h1,h6,?_,h4,h5,rfl⟩
   rw[h2,ft,append_nil];exact hO
  ·cases j with
   | zero=>simp at hu;omega
   | succ j =>
    obtain⟨fr1,hp1,wr1,h1,h2,h4,h5,h6,h7,h8⟩:=TZ L run k fr hp wr u l h0 hu2 h20 h3 hO (by omega)
    obtain⟨fr',hp',wr',g1,g2,g3,g4,g5,g6⟩:=KJ L run k j (u / 1000000000) (l++[u % 1000000000]) fr1 hp1 wr1 (by rw[Nat.pow_succ] at hu;omega) (by simp;omega) (by omega) h2 h4 h5
    refine⟨fr',hp',wr',by rw[ca h1];exact g1,g2,?_,by rw[g4,h6],by rw[g5,h7],by rw[g6,h8]⟩
    rw[eo h0]
    simpa using g3
def ofC:Code:=f97.body.getD .skip
theorem TY:ag 4 ofC = .seq (.block 0 (.loop ofB)) (ag 5 ofC):=rfl
theorem aew (L:List (Nat × (Ψ→Option Ψ)))(run:aw)(k:Nat)(z:Int)(h1 : -9223372036854775808≤z)(h2:z<9223372036854775808) :
  ∃ fr hp wr,ba (CC L) run k 4 ofC ⟨entry 26 [Ab.bJ z],[],[]⟩=some ⟨fr,hp,wr⟩∧fr.length=26∧nth fr 3 = .sc (.int .u64 (Int.ofNat z.natAbs))∧nth fr 5 = .sc (.slice none 0 0)
   ∧ nth fr 2 = .ptr 0 0∧nth fr 4 = .sc (.bool (bw z))∧hp=[⟨.live,[.sc (.bool false),.sc (.slice none 0 0)]⟩]:=by
 cases z with
 | ofNat n =>
  have hw:bF .u64 (n:Int)=Int.ofNat n:=dx .u64 n (by simp[hiN];simp at h2;omega)
  have hlt:((n:Int)<0)=False:=by simp
  simp[ofC,f97,ba,entry,nth,eY,Ab.bJ,bf,and_assoc,dI,uI,u64,zW,aL,hw,bw,hlt]
 | negSucc n =>
  have hw:bF .u64 (Int.negSucc n)=Int.ofNat (18446744073709551616 - (n+1)):=by
   have:=vD (n:=n+1) (by omega) (by omega)
   rw[← this];rfl
  have hlt:(Int.negSucc n<0)=True:=by simp
  have hw2:bF .u64 (-((18446744073709551616 - (n+1):Nat):Int))=(n:Int)+1:=by
   rw[vD (by omega) (by omega)]
   simp;omega
  simp only[Int.ofNat_eq_natCast] at hw
  generalize 18446744073709551616 - (n+1)=m at *
  simp[ofC,f97,ba,entry,nth,eY,Ab.bJ,unP,bf,and_assoc,dI,uI,u64,zW,aL,hw,hw2,bw,hlt]
theorem Z6 (L:List (Nat × (Ψ→Option Ψ)))(run:aw)(k:Nat)(fr:Ψ)(hp:Θ)(wr:Ω)(n:Bool)(l:Ω)(p:PV)
  (h20:fr.length=26) (h2:nth fr 2 = .ptr 0 0) (h4:nth fr 4 = .sc (.bool n)) (h5:nth fr 5=p) (hO:dR 1 hp l p) (hb:aP hp 0=some ⟨.live,[.sc (.bool false),.sc (.slice none 0 0)]⟩) :
  ∃ st,af (CC L) run k (ag 5 ofC) ⟨fr,hp,wr⟩=some (.ret,st)∧bc TT st.fr st.hp f97.results.toList=some [.agg [.sc (.bool n),p]]∧st.hp=bZ hp 0 ⟨.live,[.sc (.bool n),p]⟩:=by
 have hc:=hO.cells
 have hk:=hO.okc
 have hokb:∀ b,dK (PV.sc (.bool b))=true:=fun _=>rfl
 have hcb:∀ b,(PV.sc (.bool b)).cells?=some [.sc (.bool b)]:=fun _=>rfl
 have hca:∀ cs,(PV.agg cs).cells?=some cs:=fun _=>rfl
 have hn:aP (bZ hp 0 ⟨.live,[.sc (.bool n),p]⟩) 0=some ⟨.live,[.sc (.bool n),p]⟩:=by rw[cI hb,if_pos rfl]
 simp[ofC,ag,f97,aa,ae,ab,bf,bm,kz,bH,bd,h20,h2,h4,h5,fb,zW,uW,wf0,wf1,sB,sD,sW,aW,dq,ko,hc,hk,cm,hb,bc,hn,bq,bD]
def ofF:Ψ→Option Ψ
 | [.sc (.int .i64 z)]=>bif decide (-9223372036854775808≤z) && decide (z<9223372036854775808) then some [br z] else none
 | _=>none
theorem mw:Ab.Spec base.P 97 ofF:=Ab.Spec.bN (C:=CC []) (cP trivial) fun args rs h=>by
 unfold ofF at h
 split at h
 ·rename_i z
  cases hd:decide (-9223372036854775808≤z) && decide (z<9223372036854775808) with
  | false=>rw[hd] at h;cases h
  | true =>
   rw[hd] at h
   simp only[cond_true,OiE] at h
   subst h
   simp only[Bool.and_eq_true,decide_eq_true_eq] at hd
   obtain⟨fr1,hp1,wr1,h1,h20,h3,h5,h2,h4,hhp⟩:=aew [] (runK (CC []) 4) 4 z hd.1 hd.2
   obtain⟨fr2,hp2,wr2,g1,g2,g3,g4,g5,g6⟩:=KJ [] (runK (CC []) 4) 4 3 z.natAbs [] fr1 hp1 wr1 (by omega) (by simp) (by omega) h20 h3 (by rw[h5];exact dR.nil (by rw[hhp];simp))
   obtain⟨st,e1,e2,e3⟩:=Z6 [] (runK (CC []) 4) 4 fr2 hp2 wr2 (bw z) _ _ g2 (by rw[g4,h2]) (by rw[g5,h4]) rfl g3 (by rw[g6,hhp];rfl)
   have hx:af (CC []) (runK (CC []) 4) 4 ofC ⟨entry 26 [Ab.bJ z],[],[]⟩=some (.ret,st):=by
    rw[aQ 4 h1,TY,ar (bK g1)]
    exact e1
   obtain⟨rs2,ids,q1,q2⟩:=(g3.set 0 ⟨.live,[.sc (.bool (bw z)),nth fr2 5]⟩ (by omega)).out (bw z)
   rw[← e3] at q1
   exact⟨5,_,_,_,rs2,ids,aV acK rfl hx e2,q1,q2⟩
 ·cases h
abbrev Lst:=List (Nat × (Ψ→Option Ψ))
def tC:Code:=((f167.body).bind aA).getD .skip
theorem adO (l:Ω)(a:Nat)(hp:Θ):dh TT hp 68 (aO (l++[a])) none (some (.sc (.int .i64 (l.length:Int)))) none=some (aO l):=by
 have h:aO (l++[a]) = .imm (l.length+1) false ((l++[a]).map dg):=by simp[aO]
 rw[h]
 simp only[dh,uD,iy,s32,bnd,eD,gl,Option.map]
 simp[fz,bq]
 rw[dc (by simp)]
 simp[aO]
set_option maxHeartbeats 1000000 in
theorem Md (L:Lst)(run:aw)(k:Nat)(fr:Ψ)(hp:Θ)(wr:Ω)(l:Ω)(a:Nat)(hl:l.length<10000000)(ha:a≠0)
  (h21:fr.length=21) (h0:nth fr 0=aO (l++[a])) :
  ∃ fr',af (CC L) run k tC ⟨fr,hp,wr⟩=some (.exit 0,⟨fr',hp,wr⟩)∧nth fr' 0=nth fr 0∧fr'.length=21:=by
 have hw:bF .i64 ((l.length+1:Nat) - 1:Int)=Int.ofNat l.length:=by
  have:=dx .i64 l.length (by simp[hiN];omega)
  rw[← this];congr 1;omega
 have hw':bF .i64 (l.length:Int)=Int.ofNat l.length:=dx .i64 l.length (by simp[hiN];omega)
 have h:aO (l++[a]) = .imm (l.length+1) false ((l++[a]).map dg):=by simp[aO]
 have hd:(bq ((l++[a]).map dg) l.length).head?=some (.sc (.int .u32 a)):=by
  rw[eQ _ _ (by simp)];simp[dg]
 rw[h] at h0
 have ha':((a:Int) == 0)=false:=by simp;exact ha
 simp[tC,f167,aA,aU,bh,aa,ae,ab,bf,cR,h21,h0,uD,s32,a32,hw',hd,ha',-map_append]
set_option maxHeartbeats 1000000 in
theorem QM (L:Lst)(run:aw)(k:Nat)(fr:Ψ)(hp:Θ)(wr:Ω)(h21:fr.length=21)(h0:nth fr 0=aO []) :
  ∃ fr',af (CC L) run k tC ⟨fr,hp,wr⟩=some (.exit 0,⟨fr',hp,wr⟩)∧nth fr' 0=nth fr 0∧fr'.length=21:=by
 have h:aO [] = .imm 0 false []:=rfl
 rw[h] at h0
 simp[tC,f167,aA,aa,ae,ab,bf,cR,h21,h0,uD,-map_append]
set_option maxHeartbeats 1000000 in
theorem Yx (L:Lst)(run:aw)(k:Nat)(fr:Ψ)(hp:Θ)(wr:Ω)(l:Ω)(hl:l.length<10000000)
  (h21:fr.length=21) (h0:nth fr 0=aO (l++[0])) :
  ∃ fr',af (CC L) run k tC ⟨fr,hp,wr⟩=some (.normal,⟨fr',hp,wr⟩)∧nth fr' 0=aO l∧fr'.length=21:=by
 have hw':bF .i64 (l.length:Int)=Int.ofNat l.length:=dx .i64 l.length (by simp[hiN];omega)
 have h:aO (l++[0]) = .imm (l.length+1) false ((l++[0]).map dg):=by simp[aO]
 have hd:(bq ((l++[0]).map dg) l.length).head?=some (.sc (.int .u32 0)):=by
  rw[eQ _ _ (by simp)];simp[dg]
 have hs:=adO l 0
 rw[h] at h0 hs
 simp[tC,f167,aA,aU,bh,aa,ae,ab,bf,cR,h21,h0,uD,s32,a32,hw',hd,hs,-map_append]
theorem y9 (L:Lst)(run:aw)(k:Nat):∀ (n:Nat) (l:Ω) (fr:Ψ) (hp:Θ) (wr:Ω),l.length=n→n<10000000→fr.length=21→nth fr 0=aO l →
  ∃ fr',ch (af (CC L) run k tC) (n+1) ⟨fr,hp,wr⟩=some (.exit 0,⟨fr',hp,wr⟩)∧nth fr' 0=aO (fj l)∧fr'.length=21
 | 0,l,fr,hp,wr,hl,hn,h21,h0=>by
  have:l=[]:=length_eq_zero_iff.1 hl
  subst this
  obtain⟨fr',h1,h2,h3⟩:=QM L run k fr hp wr h21 h0
  exact⟨fr',bE h1,by rw[h2,h0];rfl,h3⟩
 | n+1,l,fr,hp,wr,hl,hn,h21,h0=>by
  obtain⟨l',a,rfl,hl'⟩:=Bv hl
  by_cases ha:a=0
  ·subst ha
   obtain⟨fr1,h1,h2,h3⟩:=Yx L run k fr hp wr l' (by omega) h21 h0
   obtain⟨fr',g1,g2,g3⟩:=y9 L run k n l' fr1 hp wr hl' (by omega) h3 h2
   exact⟨fr',by rw[ca h1];exact g1,by rw[g2,eI,if_pos rfl],g3⟩
  ·obtain⟨fr',h1,h2,h3⟩:=Md L run k fr hp wr l' a (by omega) ha h21 h0
   exact⟨fr',bE h1,by rw[h2,h0,eI,if_neg ha],h3⟩
def vS:Code:=f167.body.getD .skip
theorem Gu:ag 1 vS = .seq (.block 0 (.loop tC)) (ag 2 vS):=rfl
theorem QL (L:Lst)(run:aw)(k:Nat)(p:PV):∃ fr,ba (CC L) run k 1 vS ⟨entry 21 [p],[],[]⟩=some ⟨fr,[],[]⟩∧fr.length=21∧nth fr 0=p:=by
 simp[vS,f167,ba,entry,nth,eY]
theorem Me (L:Lst)(run:aw)(k:Nat)(fr:Ψ)(hp:Θ)(wr:Ω)(p:PV)(h21:fr.length=21)(h0:nth fr 0=p) :
  ∃ st,af (CC L) run k (ag 2 vS) ⟨fr,hp,wr⟩=some (.ret,st)∧bc TT st.fr st.hp f167.results.toList=some [p]:=by
 simp[vS,ag,f167,aa,ab,h21,h0,bc]
def ju:Ψ→Option Ψ
 | [p]=>match ia p with
  | some l=>some [aO (fj l)]
  | none=>none
 | _=>none
theorem EC (hp:Θ)(l:Ω):bj (snap hp bp) [aO l]=some ([aO l],[]):=rfl
theorem jB (hp:Θ)(z:Int):bj (snap hp bp) [br z]=some ([br z],[]):=rfl
theorem iV:Ab.Spec base.P 167 ju:=Ab.Spec.bN (C:=CC []) (cP trivial) fun args rs h=>by
 unfold ju at h
 split at h
 ·split at h
  ·rename_i l hl
   obtain⟨rfl,_,hlen⟩:=dz hl
   simp only[OiE] at h
   subst h
   obtain⟨fr1,h1,h20,h0⟩:=QL [] (runK (CC []) (l.length+1)) (l.length+1) (aO l)
   obtain⟨fr2,g1,g2,g3⟩:=y9 [] (runK (CC []) (l.length+1)) (l.length+1) l.length l fr1 [] [] rfl (by omega) h20 h0
   obtain⟨st,e1,e2⟩:=Me [] (runK (CC []) (l.length+1)) (l.length+1) fr2 [] [] _ g3 g2
   have hx:af (CC []) (runK (CC []) (l.length+1)) (l.length+1) vS ⟨entry 21 [aO l],[],[]⟩=some (.ret,st):=by
    rw[aQ 1 h1,Gu,ar (bK g1)]
    exact e1
   exact⟨l.length+2,_,_,_,_,_,aV PI rfl hx e2,EC _ _,Wk.refl rfl,trivial⟩
  ·cases h
 ·cases h
def sgn (n:Bool)(v:Nat):Int:=bif n then Int.negOfNat v else Int.ofNat v
theorem adB {l:Ω}(h:Dok l)(n:Bool):wh (n && decide (0<(fj l).length)) (fj l)=br (sgn n (val l)):=by
 rw[eJ h]
 cases n with
 | false=>rfl
 | true =>
  by_cases h0:val l=0
  ·rw[h0];rfl
  ·rw[sgn,cond_true,Fu h0]
   have:=cT.2 h0
   simp[this]
def fB:Ψ→Option Ψ
 | [.sc (.bool n),p]=>match ia p with
  | some l=>some [br (sgn n (val l))]
  | none=>none
 | _=>none
def A4:Lst:=[(167,ju)]
theorem Ph (run:aw)(dr:Bool)(hp:Θ)(l:Ω)(hd:Dok l)(hl:l.length<1000000):bU (CC A4) run dr hp 167 [aO l]=some (aO (fj l),hp,⟨[],[],false,false⟩):=by
 have h3:(CC A4).orc 167 [aO l]=some [aO (fj l)]:=by
  show ju (aJ [aO l])=_
  simp only[aJ,fH,ju,cX hd hl]
 exact et vd (EC hp l) h3 rfl
def J0:Code:=f152.body.getD .skip
theorem Ds (neg:Bool)(l:Ω)(hd:Dok l)(hl:l.length<1000000)(run:aw)(k:Nat) :
  ∃ st,af (CC A4) run k J0 ⟨entry 15 [.sc (.bool neg),aO l],[],[]⟩=some (.ret,st)∧bc TT st.fr st.hp f152.results.toList=some [br (sgn neg (val l))]:=by
 rw[← adB hd]
 have hc:∀ hp dr,bU (CC A4) run dr hp 167 [aO l]=some (aO (fj l),hp,⟨[],[],false,false⟩):=fun hp dr=>Ph run dr hp l hd hl
 cases neg <;> simp[J0,f152,entry,nth,eY,aM,bf,cn,yc,bm,kz,bX,bH,bd,hc,zW,aL,uD,fb,uW,wf0,wf1,sB,sD,sW,aW,dq,ko,cm,bc,aP,bZ,bq,bD,wh]
theorem jw:Ab.Spec base.P 152 fB:=Ab.Spec.bN (C:=CC A4) (cP ⟨iV,trivial⟩) fun args rs h=>by
 unfold fB at h
 split at h
 ·split at h
  ·rename_i n p _ l hl
   obtain⟨rfl,hd,hlen⟩:=dz hl
   simp only[OiE] at h
   subst h
   obtain⟨st,e1,e2⟩:=Ds n l hd hlen (runK (CC A4) 1) 1
   exact⟨2,_,_,_,_,_,aV F9 rfl e1 e2,jB _ _,Wk.refl rfl,trivial⟩
  ·cases h
 ·cases h
def pg:Code:=((f146.body).bind aA).getD .skip
def lJ:Code:=f146.body.getD .skip
set_option maxHeartbeats 1000000 in
theorem Q8 (L:Lst)(run:aw)(k:Nat)(fr:Ψ)(h41:fr.length=41)(h5:nth fr 5 = .sc (.int .i64 (-1))) :
  ∃ fr',af (CC L) run k pg ⟨fr,[],[]⟩=some (.exit 0,⟨fr',[],[]⟩)∧fr'.length=41:=by
 simp[pg,f146,aA,aa,ab,h41,h5]
set_option maxHeartbeats 1000000 in
theorem size_eq (L:Lst)(run:aw)(k:Nat)(fr:Ψ)(a b:Ω)(m:Nat)(hma:m<a.length)(hmb:m<b.length)(hl:a.length<1000000)
  (h41:fr.length=41) (h0:nth fr 0=aO a) (h1:nth fr 1=aO b) (h5:nth fr 5 = .sc (.int .i64 (m:Int))) (h:a[m]=b[m]) :
  ∃ fr',af (CC L) run k pg ⟨fr,[],[]⟩=some (.normal,⟨fr',[],[]⟩)∧fr'.length=41∧nth fr' 0=aO a∧nth fr' 1=aO b∧nth fr' 5 = .sc (.int .i64 ((m:Int) - 1)):=by
 have hw:bF .i64 ((m:Int) - 1)=(m:Int) - 1:=cM m (by omega)
 have hda:=eQ a m hma
 have hdb:=eQ b m hmb
 rw[h] at hda
 generalize b[m]=y at *
 have e1:aO a = .imm a.length false (a.map dg):=rfl
 have e2:aO b = .imm b.length false (b.map dg):=rfl
 have hdg:dg y = .sc (.int .u32 (y:Int)):=rfl
 rw[e1] at h0 ⊢;rw[e2] at h1 ⊢;rw[hdg] at hda hdb
 simp[pg,f146,aA,aU,bh,aa,ae,ab,bf,h41,h0,h1,h5,uD,s32,a32,hma,hmb,hda,hdb,number,FP.free,hw]
set_option maxHeartbeats 1000000 in
theorem YD (L:Lst)(run:aw)(k:Nat)(fr:Ψ)(a b:Ω)(m:Nat)(hma:m<a.length)(hmb:m<b.length)(hl:a.length<1000000)
  (h41:fr.length=41) (h0:nth fr 0=aO a) (h1:nth fr 1=aO b) (h5:nth fr 5 = .sc (.int .i64 (m:Int))) (h:a[m]≠b[m]) :
  ∃ fr',af (CC L) run k pg ⟨fr,[],[]⟩=some (.ret,⟨fr',[],[]⟩)∧fr'.length=41∧nth fr' 4 = .sc (.int .i64 (if a[m]<b[m] then -1 else 1)):=by
 have hda:=eQ a m hma
 have hdb:=eQ b m hmb
 generalize b[m]=y at *
 generalize a[m]=x at *
 have e1:aO a = .imm a.length false (a.map dg):=rfl
 have e2:aO b = .imm b.length false (b.map dg):=rfl
 have hdx:dg x = .sc (.int .u32 (x:Int)):=rfl
 have hdy:dg y = .sc (.int .u32 (y:Int)):=rfl
 rw[e1] at h0;rw[e2] at h1;rw[hdx] at hda;rw[hdy] at hdb
 by_cases hxy:x<y
 ·simp[pg,f146,aA,aU,bh,aa,ae,ab,bf,FW,h41,h0,h1,h5,uD,s32,a32,hma,hmb,hda,hdb,number,FP.free,h,hxy]
 ·simp[pg,f146,aA,aU,bh,aa,ae,ab,bf,FW,h41,h0,h1,h5,uD,s32,a32,hma,hmb,hda,hdb,number,FP.free,h,hxy]
theorem zk (L:Lst)(run:aw)(k:Nat)(a b:Ω)(hab:a.length=b.length)(hl:a.length<1000000)(ha:Dok a)(hb:Dok b):∀ (m:Nat) (fr:Ψ),m≤a.length →
  fr.length=41→nth fr 0=aO a→nth fr 1=aO b→nth fr 5 = .sc (.int .i64 ((m:Int) - 1))→a.drop m=b.drop m →
  (∃ fr',ch (af (CC L) run k pg) (m+1) ⟨fr,[],[]⟩=some (.exit 0,⟨fr',[],[]⟩)∧fr'.length=41∧dZ (val a) (val b)=0) ∨
  (∃ fr',ch (af (CC L) run k pg) (m+1) ⟨fr,[],[]⟩=some (.ret,⟨fr',[],[]⟩)∧nth fr' 4 = .sc (.int .i64 (dZ (val a) (val b))))
 | 0,fr,hm,h41,h0,h1,h5,hd=>by
  obtain⟨fr',g1,g2⟩:=Q8 L run k fr h41 h5
  refine .inl ⟨fr',bE g1,g2,?_⟩
  simp at hd
  simp[dZ,hd]
 | m+1,fr,hm,h41,h0,h1,h5,hd=>by
  have h5':nth fr 5 = .sc (.int .i64 (m:Int)):=by rw[h5];simp
  have hmb:m<b.length:=by omega
  have hma:m<a.length:=by omega
  by_cases h:a[m]=b[m]
  ·obtain⟨fr1,g1,g2,g3,g4,g5⟩:=size_eq L run k fr a b m hma hmb hl h41 h0 h1 h5' h
   have hd':a.drop m=b.drop m:=by rw[drop_eq_getElem_cons hma,drop_eq_getElem_cons hmb,hd,h]
   rw[ca g1]
   exact zk L run k a b hab hl ha hb m fr1 (by omega) g2 g3 g4 g5 hd'
  ·obtain⟨fr1,g1,g2,g3⟩:=YD L run k fr a b m hma hmb hl h41 h0 h1 h5' h
   refine .inr ⟨fr1,ez g1,?_⟩
   rw[g3]
   by_cases hxy:a[m]<b[m]
   ·have:=ly ha hma hmb hd hxy
    rw[if_pos hxy,dZ,if_pos this]
   ·have:=ly hb hmb hma hd.symm (by omega)
    rw[if_neg hxy,dZ,if_neg (by omega),if_neg (by omega)]
def pf (a b:Ω):Int:=if a.length<b.length then -1 else if b.length<a.length then 1 else dZ (val a) (val b)
theorem Mt (L:Lst)(run:aw)(k:Nat)(a b:Ω)(h:a.length≠b.length) :
  ∃ st,af (CC L) run k lJ ⟨entry 41 [aO a,aO b],[],[]⟩=some (.ret,st)∧bc TT st.fr st.hp f146.results.toList=some [Ab.bJ (pf a b)]:=by
 by_cases hx:a.length<b.length
 ·simp[lJ,f146,entry,nth,eY,bf,cn,FW,uD,h,hx,bc,pf,Ab.bJ]
 ·have:b.length<a.length:=by omega
  simp[lJ,f146,entry,nth,eY,bf,cn,FW,uD,h,hx,this,bc,pf,Ab.bJ]
theorem Mr (L:Lst)(run:aw)(k:Nat)(a b:Ω)(h:a.length=b.length)(hl:a.length<1000000) :
  ∃ fr,ba (CC L) run k 2 lJ ⟨entry 41 [aO a,aO b],[],[]⟩=some ⟨fr,[],[]⟩∧fr.length=41∧nth fr 0=aO a∧nth fr 1=aO b:=by
 simp[lJ,f146,ba,entry,nth,eY,bf,cn,uD,h]
def GK:Code:=seq1 (seq1 (ag 2 lJ))
theorem wa:ag 2 lJ = .seq (.seq GK (.block 0 (.loop pg))) (ag 3 lJ):=rfl
theorem YC (L:Lst)(run:aw)(k:Nat)(fr:Ψ)(a b:Ω)(hl:a.length<1000000)(h41:fr.length=41)(h0:nth fr 0=aO a)(h1:nth fr 1=aO b) :
  ∃ fr',af (CC L) run k GK ⟨fr,[],[]⟩=some (.normal,⟨fr',[],[]⟩)∧fr'.length=41∧nth fr' 0=aO a∧nth fr' 1=aO b∧nth fr' 5 = .sc (.int .i64 ((a.length:Int) - 1)):=by
 have hw:bF .i64 ((a.length:Int) - 1)=(a.length:Int) - 1:=cM _ (by omega)
 simp[GK,lJ,ag,seq1,f146,aa,ae,ab,bf,cn,uD,h41,h0,h1,hw]
theorem Mu (L:Lst)(run:aw)(k:Nat)(fr:Ψ)(h41:fr.length=41) :
  ∃ st,af (CC L) run k (ag 3 lJ) ⟨fr,[],[]⟩=some (.ret,st)∧bc TT st.fr st.hp f146.results.toList=some [Ab.bJ 0]:=by
 simp[lJ,ag,f146,aa,h41,bc,Ab.bJ]
theorem da {C:Cfg}{run:aw}{k i:Nat}{b:Code}{st st':St}(h:ch (af C run k b) k st=some (.ret,st')):af C run k (.block i (.loop b)) st=some (.ret,st'):=by
 simp only[af,h]
theorem cj {C:Cfg}{run:aw}{k:Nat}{a b:Code}{st st':St}(h:af C run k a st=some (.ret,st')):af C run k (.seq a b) st=some (.ret,st'):=by
 simp only[af,h]
def tG:Ψ→Option Ψ
 | [p,q]=>match ia p,ia q with
  | some a,some b=>some [Ab.bJ (pf a b)]
  | _,_=>none
 | _=>none
theorem eL (hp:Θ)(z:Int):bj (snap hp bp) [Ab.bJ z]=some ([Ab.bJ z],[]):=rfl
theorem zj:Ab.Spec base.P 146 tG:=Ab.Spec.bN (C:=CC []) (cP trivial) fun args rs h=>by
 unfold tG at h
 split at h
 ·split at h
  ·rename_i a b ea eb
   obtain⟨rfl,ha,hla⟩:=dz ea
   obtain⟨rfl,hb,hlb⟩:=dz eb
   simp only[OiE] at h
   subst h
   by_cases hab:a.length=b.length
   ·obtain⟨fr1,h1,h2,h3,h4⟩:=Mr [] (runK (CC []) (a.length+1)) (a.length+1) a b hab hla
    obtain⟨fr2,g1,g2,g3,g4,g5⟩:=YC [] (runK (CC []) (a.length+1)) (a.length+1) fr1 a b hla h2 h3 h4
    have hs:pf a b=dZ (val a) (val b):=by simp[pf,hab]
    rcases zk [] (runK (CC []) (a.length+1)) (a.length+1) a b hab hla ha hb a.length fr2 (Nat.le_refl _) g2 g3 g4 g5 (by simp[hab]) with ⟨fr3,q1,q2,q3⟩| ⟨fr3,q1,q2⟩
    ·obtain⟨st,e1,e2⟩:=Mu [] (runK (CC []) (a.length+1)) (a.length+1) fr3 q2
     have hx:af (CC []) (runK (CC []) (a.length+1)) (a.length+1) lJ ⟨entry 41 [aO a,aO b],[],[]⟩=some (.ret,st):=by
      rw[aQ 2 h1,wa,ar ((ar g1).trans (bK q1))]
      exact e1
     rw[hs,q3]
     exact⟨a.length+2,_,_,_,_,_,aV tt rfl hx e2,eL _ _,Wk.refl rfl,trivial⟩
    ·have hx:af (CC []) (runK (CC []) (a.length+1)) (a.length+1) lJ ⟨entry 41 [aO a,aO b],[],[]⟩=some (.ret,⟨fr3,[],[]⟩):=by
      rw[aQ 2 h1,wa,cj ((ar g1).trans (da q1))]
     have e2:bc TT fr3 [] f146.results.toList=some [Ab.bJ (dZ (val a) (val b))]:=by
      simp[f146,bc,q2,Ab.bJ]
     rw[hs]
     exact⟨a.length+2,_,_,_,_,_,aV tt rfl hx e2,eL _ _,Wk.refl rfl,trivial⟩
   ·obtain⟨st,e1,e2⟩:=Mt [] (runK (CC []) 1) 1 a b hab
    exact⟨2,_,_,_,_,_,aV tt rfl e1 e2,eL _ _,Wk.refl rfl,trivial⟩
  ·cases h
 ·cases h
theorem nV (n:Nat):eM TT 68 1 [(0,dg n)]=some (1,[dg n]):=Vm uD s32 z32 n
def xe:Code:=((f160.body).bind aA).getD .skip
def kO:Code:=f160.body.getD .skip
theorem TD (L:Lst)(run:aw)(k:Nat)(fr:Ψ)(hp:Θ)(wr:Ω)(n:Nat)(h52:fr.length=52)
  (h21:nth fr 21 = .sc (.int .i64 (n:Int))) (h22:nth fr 22 = .sc (.int .i64 (n:Int))) :
  ∃ fr',af (CC L) run k xe ⟨fr,hp,wr⟩=some (.exit 0,⟨fr',hp,wr⟩)∧fr'.length=52∧nth fr' 5=nth fr 5∧nth fr' 6=nth fr 6:=by
 simp[xe,f160,aA,aa,ae,ab,h52,h21,h22]
set_option maxHeartbeats 2000000 in
theorem HS (L:Lst)(run:aw)(k:Nat)(fr:Ψ)(hp:Θ)(wr:Ω)(a b out:Ω)(i c s:Nat)(ha:Dok a)(hb:Dok b)(hc:c≤1)(hi:i<a.length)(hl:a.length<1000000)
  (h52:fr.length=52) (h20:nth fr 20=aO a) (h21:nth fr 21 = .sc (.int .i64 (a.length:Int))) (h22:nth fr 22 = .sc (.int .i64 (i:Int))) (h1:nth fr 1=aO b)
  (h6:nth fr 6 = .sc (.int .u32 (c:Int))) (hO:dR 0 hp out (nth fr 5)) (ho:out.length=i) (hs:s=at0 a i+c+at0 b i) :
  ∃ fr' hp' wr',af (CC L) run k xe ⟨fr,hp,wr⟩=some (.normal,⟨fr',hp',wr'⟩)∧fr'.length=52∧nth fr' 20=aO a∧nth fr' 21 = .sc (.int .i64 (a.length:Int))
   ∧ nth fr' 22 = .sc (.int .i64 ((i+1:Nat):Int))∧nth fr' 1=aO b∧nth fr' 6 = .sc (.int .u32 ((s / 1000000000:Nat):Int))∧dR 0 hp' (out++[s % 1000000000]) (nth fr' 5):=by
 have hda:=eQ a i hi
 have hax:=ha.get hi
 rw[df hi] at hs
 generalize a[i]=x at *
 have e1:aO a = .imm a.length false (a.map dg):=rfl
 have e2:aO b = .imm b.length false (b.map dg):=rfl
 have hdx:dg x = .sc (.int .u32 (x:Int)):=rfl
 rw[e1] at h20 ⊢;rw[e2] at h1 ⊢;rw[hdx] at hda
 obtain⟨s1,hs1⟩:∃ s1,s1=x+c:=⟨_,rfl⟩
 have hw1:bF .u32 ((x:Int)+(c:Int))=(s1:Int):=dA .u32 x c s1 hs1 (iM (by omega))
 have hwi:=bA i (by omega)
 have hb9:=cu hb i
 obtain⟨q,hq⟩:∃ q,q=s / 1000000000:=⟨_,rfl⟩
 obtain⟨r,hr⟩:∃ r,r=s % 1000000000:=⟨_,rfl⟩
 have hw3:bF .u32 ((s:Int) / 1000000000)=(q:Int):=jK .u32 s q hq (iM (by omega))
 obtain⟨p',hp',fp,h7,h8,h9⟩:=hO.app r (ho ▸ Nat.lt_trans hi (Nat.lt_trans hl (by decide)))
 rw[← hq,← hr]
 by_cases hib:i<b.length
 ·have hdb:=eQ b i hib
  rw[df hib] at hs hb9
  generalize b[i]=y at *
  have hdy:dg y = .sc (.int .u32 (y:Int)):=rfl
  rw[hdy] at hdb
  have hw2:bF .u32 ((s1:Int)+(y:Int))=(s:Int):=dA .u32 s1 y s (by omega) (iM (by omega))
  have hw4:((s:Int).tmod 1000000000)=(r:Int):=lG s r hr
  simp[xe,f160,aA,soft,eu,aU,bh,aa,ae,ab,bf,and_assoc,cR,bd,du,h52,h20,h21,h22,h1,h6,uD,s32,b32,z32,a32,hi,hib,hda,hdb,hw1,hw2,hw3,hw4,hwi,gV r,nV,nB,jN,bQ,h7,h8]
 ·rw[jh (Nat.le_of_not_lt hib)] at hs
  have:s1=s:=by omega
  subst this
  have hw4:((s1:Int).tmod 1000000000)=(r:Int):=lG s1 r hr
  simp[xe,f160,aA,soft,eu,aU,bh,aa,ae,ab,bf,and_assoc,cR,bd,du,h52,h20,h21,h22,h1,h6,uD,s32,b32,z32,a32,hi,hib,hda,hw1,hw3,hw4,hwi,gV r,nV,nB,jN,bQ,h7,h8]
theorem NT {va vb vo x c y P s q r:Nat}(h:vo+c*P=va+vb)(hs:s=x+c+y)(hq:q=s / 1000000000)(hr:r=s % 1000000000) :
  vo+P*r+q*(P*1000000000)=va+x*P+(vb+y*P):=by
 have e:s=r+1000000000*q:=by omega
 have e2:s*P=(r+1000000000*q)*P:=by rw[e]
 subst hs
 simp only[Nat.add_mul] at e2 ⊢
 have e3:1000000000*q*P=q*(P*1000000000):=by grind
 have e4:r*P=P*r:=Nat.mul_comm _ _
 omega
theorem Ah (L:Lst)(run:aw)(k:Nat)(a b:Ω)(ha:Dok a)(hb:Dok b)(hl:a.length<1000000):∀ (n i:Nat) (fr:Ψ) (hp:Θ) (wr:Ω) (out:Ω) (c:Nat),i+n=a.length →
  fr.length=52→nth fr 20=aO a→nth fr 21 = .sc (.int .i64 (a.length:Int))→nth fr 22 = .sc (.int .i64 (i:Int))→nth fr 1=aO b→nth fr 6 = .sc (.int .u32 (c:Int))→dR 0 hp out (nth fr 5)→out.length=i →
  Dok out→c≤1→val out+c*1000000000 ^ i=val (a.take i)+val (b.take i) →
  ∃ (fr':Ψ) (hp':Θ) (wr':Ω) (out':Ω) (c':Nat),ch (af (CC L) run k xe) (n+1) ⟨fr,hp,wr⟩=some (.exit 0,⟨fr',hp',wr'⟩)∧fr'.length=52∧nth fr' 6 = .sc (.int .u32 (c':Int))∧dR 0 hp' out' (nth fr' 5)∧out'.length=a.length
   ∧ Dok out'∧c'≤1∧val out'+c'*1000000000 ^ a.length=val a+val (b.take a.length)
 | 0,i,fr,hp,wr,out,c,hi,h52,h20,h21,h22,h1,h6,hO,ho,hd,hc,hv=>by
  have:i=a.length:=by omega
  subst this
  obtain⟨fr',g1,g2,g3,g4⟩:=TD L run k fr hp wr a.length h52 h21 h22
  exact⟨fr',hp,wr,out,c,bE g1,g2,by rw[g4,h6],by rw[g3];exact hO,ho,hd,hc,by rw[hv,take_length]⟩
 | n+1,i,fr,hp,wr,out,c,hi,h52,h20,h21,h22,h1,h6,hO,ho,hd,hc,hv=>by
  obtain⟨fr1,hp1,wr1,g1,g2,g3,g4,g5,g6,g7,g8⟩:=HS L run k fr hp wr a b out i c _ ha hb hc (by omega) hl h52 h20 h21 h22 h1 h6 hO ho rfl
  obtain⟨fr',hp',wr',out',c',q1,q2⟩:=Ah L run k a b ha hb hl n (i+1) fr1 hp1 wr1 _ _ (by omega) g2 g3 g4 g5 g6 g7 g8 (by simp[ho]) (hd.append (Dok.nil.cons (Nat.mod_lt _ (by omega))))
   (by have:=cu ha i;have:=cu hb i;omega)
   (by
    rw[cB,cB,dL,ho,Nat.pow_succ]
    exact NT hv rfl rfl rfl)
  exact⟨fr',hp',wr',out',c',by rw[ca g1];exact q1,q2⟩
def TE:Code:=seq1 (seq1 (ag 4 kO))
theorem HR:ag 4 kO = .seq (.seq TE (.block 0 (.loop xe))) (ag 5 kO):=rfl
theorem NW (L:Lst)(run:aw)(k:Nat)(a b:Ω)(a' b':Ω)(hab:(b.length≤a.length∧a'=a∧b'=b)∨(a.length<b.length∧a'=b∧b'=a)) :
  ∃ fr wr,ba (CC L) run k 2 kO ⟨entry 52 [aO a,aO b],[],[]⟩=some ⟨fr,[],wr⟩∧fr.length=52∧nth fr 0=aO a'∧nth fr 1=aO b':=by
 obtain⟨e1,e2,e3⟩:=cC 50 (aO a) (aO b)
 generalize entry 52 [aO a,aO b]=fr0 at *
 rcases hab with ⟨h,rfl,rfl⟩| ⟨h,rfl,rfl⟩
 ·have hn : ¬ (a'.length<b'.length):=by omega
  simp[kO,f160,ba,e1,e2,e3,aa,ae,ab,bf,and_assoc,cn,uD,hn]
 ·simp[kO,f160,ba,e1,e2,e3,aa,ae,ab,bf,and_assoc,cn,uD,h]
theorem NV (L:Lst)(run:aw)(k:Nat)(a:Ω)(fr0:Ψ)(wr0:Ω)(hl:a.length<1000000)(e1:fr0.length=52)(e2:nth fr0 0=aO a) :
  ∃ fr hp wr,ba (CC L) run k 2 (ag 2 kO) ⟨fr0,[],wr0⟩=some ⟨fr,hp,wr⟩∧fr.length=52∧nth fr 0=aO a∧nth fr 1=nth fr0 1∧nth fr 6 = .sc (.int .u32 (0:Nat))∧dR 0 hp [] (nth fr 5):=by
 have hO:∀ n,dR 0 [⟨.live,rep n [dg 0]⟩] [] (.own 0 1 0 0 false):=fun n=>⟨Nat.zero_le _,.inr ⟨0,List.replicate n 0,Nat.le_refl _,by simp,rfl,by rw[sA];rfl⟩⟩
 have hw:=bA a.length (by omega)
 have h1:a.length+1≤cN:=Nat.le_trans (show a.length+1≤1000000 by assumption) (by decide)
 simp[kO,ag,f160,ba,e1,e2,jX,ji,aa,ae,ab,bf,and_assoc,cn,uD,hw,s32,b32,z32,bQ,h1,aL,hO]
theorem aem (L:Lst)(run:aw)(k:Nat)(fr:Ψ)(hp:Θ)(wr:Ω)(a:Ω)(h52:fr.length=52)(h0:nth fr 0=aO a) :
  ∃ fr',af (CC L) run k TE ⟨fr,hp,wr⟩=some (.normal,⟨fr',hp,wr⟩)∧fr'.length=52∧nth fr' 20=aO a∧nth fr' 21 = .sc (.int .i64 (a.length:Int))∧nth fr' 22 = .sc (.int .i64 (0:Nat))
   ∧ nth fr' 1=nth fr 1∧nth fr' 6=nth fr 6∧nth fr' 5=nth fr 5:=by
 simp[TE,kO,ag,seq1,f160,aa,ae,ab,bf,cn,uD,h52,h0]
theorem NX (L:Lst)(run:aw)(k:Nat)(fr:Ψ)(hp:Θ)(wr:Ω)(out:Ω)(c:Nat)(hl:out.length<1000000)(h52:fr.length=52)(h6:nth fr 6 = .sc (.int .u32 (c:Int)))(hO:dR 0 hp out (nth fr 5)) :
  ∃ st p',af (CC L) run k (ag 5 kO) ⟨fr,hp,wr⟩=some (.ret,st)∧bc TT st.fr st.hp f160.results.toList=some [p']∧dR 0 st.hp (out++[c]) p':=by
 obtain⟨p',hp',fp,h7,h8,h9⟩:=hO.app c (by omega)
 simp[kO,ag,f160,soft,eu,aa,ae,ab,bf,bd,du,uD,h52,h6,s32,b32,z32,gV c,nV,nB,jN,bQ,h7,h8,bc]
def Ey:Ψ→Option Ψ
 | [p,q]=>match ia p,ia q with
  | some a,some b=>some [aO (db (Nat.max a.length b.length+1) (val a+val b))]
  | _,_=>none
 | _=>none
theorem NU:Ab.Spec base.P 160 Ey:=Ab.Spec.bN (C:=CC []) (cP trivial) fun args rs h=>by
 unfold Ey at h
 split at h
 ·split at h
  ·rename_i a b ea eb
   obtain⟨rfl,ha,hla⟩:=dz ea
   obtain⟨rfl,hb,hlb⟩:=dz eb
   simp only[OiE] at h
   subst h
   obtain⟨a',b',hab,hsum,hmax,ha',hb',hla',hle⟩:∃ a' b',((b.length≤a.length∧a'=a∧b'=b)∨(a.length<b.length∧a'=b∧b'=a))∧val a'+val b'=val a+val b∧a'.length=Nat.max a.length b.length∧Dok a'∧Dok b'∧a'.length<1000000∧b'.length≤a'.length:=by
    by_cases hx:b.length≤a.length
    ·exact⟨a,b,.inl ⟨hx,rfl,rfl⟩,rfl,(Nat.max_eq_left hx).symm,ha,hb,hla,hx⟩
    ·exact⟨b,a,.inr ⟨by omega,rfl,rfl⟩,Nat.add_comm _ _,(Nat.max_eq_right (by omega)).symm,hb,ha,hlb,by omega⟩
   obtain⟨fr0,wr0,h01,h02,h03,h04⟩:=NW [] (runK (CC []) (a'.length+1)) (a'.length+1) a b a' b' hab
   obtain⟨fr1,hp1,wr1,h1,h2,h3,h4,h5,h6⟩:=NV [] (runK (CC []) (a'.length+1)) (a'.length+1) a' fr0 wr0 hla' h02 h03
   obtain⟨fr2,g1,g2,g3,g4,g5,g6,g7,g8⟩:=aem [] (runK (CC []) (a'.length+1)) (a'.length+1) fr1 hp1 wr1 a' h2 h3
   obtain⟨fr3,hp3,wr3,out,c,q1,q2,q3,q4,q5,q6,q7,q8⟩:=Ah [] (runK (CC []) (a'.length+1)) (a'.length+1) a' b' ha' hb' hla' a'.length 0 fr2 hp1 wr1 [] 0 (by simp) g2 g3 g4 g5 (by rw[g6,h4,h04]) (by rw[g7,h5]) (by rw[g8];exact h6) rfl Dok.nil (by omega) (by simp[val])
   obtain⟨st,p',e1,e2,e3⟩:=NX [] (runK (CC []) (a'.length+1)) (a'.length+1) fr3 hp3 wr3 out c (by omega) q2 q3 q4
   have hx:af (CC []) (runK (CC []) (a'.length+1)) (a'.length+1) kO ⟨entry 52 [aO a,aO b],[],[]⟩=some (.ret,st):=by
    rw[aQ 2 h01,aQ 2 h1,show ag 2 (ag 2 kO)=ag 4 kO from rfl,HR,ar ((ar g1).trans (bK q1))]
    exact e1
   have hout:out++[c]=db (Nat.max a.length b.length+1) (val a+val b):=by
    refine (q6.append (Dok.nil.cons (by omega))).pS (by simp[q5,hmax]) ?_
    rw[dL,q5,← hsum,Nat.mul_comm,q8,cH _ _ hle]
   obtain⟨rs2,ids,r1,r2⟩:=e3.HY
   rw[hout] at r2
   exact⟨a'.length+2,_,_,_,rs2,ids,aV PK rfl hx e2,r1,r2⟩
  ·cases h
 ·cases h
def mD:Code:=((f161.body).bind aA).getD .skip
def mB:Code:=f161.body.getD .skip
theorem Ok (L:Lst)(run:aw)(k:Nat)(fr:Ψ)(hp:Θ)(wr:Ω)(n:Nat)(h44:fr.length=44)
  (h14:nth fr 14 = .sc (.int .i64 (n:Int))) (h15:nth fr 15 = .sc (.int .i64 (n:Int))) :
  ∃ fr',af (CC L) run k mD ⟨fr,hp,wr⟩=some (.exit 0,⟨fr',hp,wr⟩)∧fr'.length=44∧nth fr' 5=nth fr 5:=by
 simp[mD,f161,aA,aa,ae,ab,h44,h14,h15]
set_option maxHeartbeats 2000000 in
theorem EV (L:Lst)(run:aw)(k:Nat)(fr:Ψ)(hp:Θ)(wr:Ω)(a b out:Ω)(i c c' d:Nat)(ha:Dok a)(hb:Dok b)(hc:c≤1)(hi:i<a.length)(hl:a.length<1000000)
  (h44:fr.length=44) (h13:nth fr 13=aO a) (h14:nth fr 14 = .sc (.int .i64 (a.length:Int))) (h15:nth fr 15 = .sc (.int .i64 (i:Int))) (h1:nth fr 1=aO b)
  (h6:nth fr 6 = .sc (.int .u32 (c:Int))) (hO:dR 0 hp out (nth fr 5)) (ho:out.length=i) (hs:(at0 a i<c+at0 b i∧c'=1∧d=at0 a i+1000000000 - (c+at0 b i))∨(c+at0 b i≤at0 a i∧c'=0∧d=at0 a i - (c+at0 b i))) :
  ∃ fr' hp' wr',af (CC L) run k mD ⟨fr,hp,wr⟩=some (.normal,⟨fr',hp',wr'⟩)∧fr'.length=44∧nth fr' 13=aO a∧nth fr' 14 = .sc (.int .i64 (a.length:Int))
   ∧ nth fr' 15 = .sc (.int .i64 ((i+1:Nat):Int))∧nth fr' 1=aO b∧nth fr' 6 = .sc (.int .u32 (c':Int))∧dR 0 hp' (out++[d]) (nth fr' 5):=by
 have hda:=eQ a i hi
 have hax:=ha.get hi
 rw[df hi] at hs
 generalize a[i]=x at *
 have e1:aO a = .imm a.length false (a.map dg):=rfl
 have e2:aO b = .imm b.length false (b.map dg):=rfl
 have hdx:dg x = .sc (.int .u32 (x:Int)):=rfl
 rw[e1] at h13 ⊢;rw[e2] at h1 ⊢;rw[hdx] at hda
 have hwi:=bA i (by omega)
 obtain⟨p',hp',fp,h7,h8,h9⟩:=hO.app d (ho ▸ Nat.lt_trans hi (Nat.lt_trans hl (by decide)))
 have hwx:bF .u32 ((x:Int)+1000000000)=((x+1000000000:Nat):Int):=dx .u32 (x+1000000000) (iM (by omega))
 have hb9:=cu hb i
 obtain⟨x2,hx2⟩:∃ x2,x2=x+1000000000:=⟨_,rfl⟩
 rw[← hx2] at hwx hs
 by_cases hib:i<b.length
 ·have hdb:=eQ b i hib
  rw[df hib] at hs hb9
  generalize b[i]=y at *
  have hdy:dg y = .sc (.int .u32 (y:Int)):=rfl
  rw[hdy] at hdb
  obtain⟨s,hs1⟩:∃ s,s=c+y:=⟨_,rfl⟩
  have hw2:bF .u32 ((c:Int)+(y:Int))=(s:Int):=dA .u32 c y s hs1 (iM (by omega))
  rw[← hs1] at hs
  rcases hs with ⟨hlt,rfl,rfl⟩| ⟨hge,rfl,rfl⟩
  ·have hw4:bF .u32 ((x2:Int) - (s:Int))=((x2 - s:Nat):Int):=yX .u32 x2 s (x2 - s) (by omega) (iM (by omega))
   generalize x2 - s=d at *
   simp[mD,f161,aA,soft,eu,aU,bh,aa,ae,ab,bf,and_assoc,cR,bd,du,h44,h13,h14,h15,h1,h6,uD,s32,b32,z32,a32,hi,hib,hda,hdb,hw2,hlt,hwx,hw4,hwi,gV d,nV,nB,jN,bQ,h7,h8]
  ·have hw4:bF .u32 ((x:Int) - (s:Int))=((x - s:Nat):Int):=yX .u32 x s (x - s) (by omega) (iM (by omega))
   have hnl : ¬ (x<s):=by omega
   generalize x - s=d at *
   simp[mD,f161,aA,soft,eu,aU,bh,aa,ae,ab,bf,and_assoc,cR,bd,du,h44,h13,h14,h15,h1,h6,uD,s32,b32,z32,a32,hi,hib,hda,hdb,hw2,hnl,hw4,hwi,gV d,nV,nB,jN,bQ,h7,h8]
 ·rw[jh (Nat.le_of_not_lt hib)] at hs
  simp only[Nat.add_zero] at hs
  rcases hs with ⟨hlt,rfl,rfl⟩| ⟨hge,rfl,rfl⟩
  ·have hw4:bF .u32 ((x2:Int) - (c:Int))=((x2 - c:Nat):Int):=yX .u32 x2 c (x2 - c) (by omega) (iM (by omega))
   generalize x2 - c=d at *
   simp[mD,f161,aA,soft,eu,aU,bh,aa,ae,ab,bf,and_assoc,cR,bd,du,h44,h13,h14,h15,h1,h6,uD,s32,b32,z32,a32,hi,hib,hda,hlt,hwx,hw4,hwi,gV d,nV,nB,jN,bQ,h7,h8]
  ·have hw4:bF .u32 ((x:Int) - (c:Int))=((x - c:Nat):Int):=yX .u32 x c (x - c) (by omega) (iM (by omega))
   have hnl : ¬ (x<c):=by omega
   generalize x - c=d at *
   simp[mD,f161,aA,soft,eu,aU,bh,aa,ae,ab,bf,and_assoc,cR,bd,du,h44,h13,h14,h15,h1,h6,uD,s32,b32,z32,a32,hi,hib,hda,hnl,hw4,hwi,gV d,nV,nB,jN,bQ,h7,h8]
theorem Ia {va vb vo x c c' y d P:Nat}(h:va+c*P=vo+vb)(hs:(x<c+y∧c'=1∧d=x+1000000000 - (c+y))∨(c+y≤x∧c'=0∧d=x - (c+y)))(hc:c+y≤x+1000000000) :
  va+x*P+c'*(P*1000000000)=vo+P*d+(vb+y*P):=by
 have e:x+c'*1000000000=d+c+y:=by omega
 have e2:(x+c'*1000000000)*P=(d+c+y)*P:=by rw[e]
 simp only[Nat.add_mul] at e2
 have e3:c'*1000000000*P=c'*(P*1000000000):=by grind
 have e4:d*P=P*d:=Nat.mul_comm _ _
 omega
theorem xv (L:Lst)(run:aw)(k:Nat)(a b:Ω)(ha:Dok a)(hb:Dok b)(hl:a.length<1000000):∀ (n i:Nat) (fr:Ψ) (hp:Θ) (wr:Ω) (out:Ω) (c:Nat),i+n=a.length →
  fr.length=44→nth fr 13=aO a→nth fr 14 = .sc (.int .i64 (a.length:Int))→nth fr 15 = .sc (.int .i64 (i:Int))→nth fr 1=aO b→nth fr 6 = .sc (.int .u32 (c:Int))→dR 0 hp out (nth fr 5)→out.length=i →
  Dok out→c≤1→val (a.take i)+c*1000000000 ^ i=val out+val (b.take i) →
  ∃ (fr':Ψ) (hp':Θ) (wr':Ω) (out':Ω) (c':Nat),ch (af (CC L) run k mD) (n+1) ⟨fr,hp,wr⟩=some (.exit 0,⟨fr',hp',wr'⟩)∧fr'.length=44∧dR 0 hp' out' (nth fr' 5)∧out'.length=a.length
   ∧ Dok out'∧c'≤1∧val a+c'*1000000000 ^ a.length=val out'+val (b.take a.length)
 | 0,i,fr,hp,wr,out,c,hi,h44,h13,h14,h15,h1,h6,hO,ho,hd,hc,hv=>by
  have:i=a.length:=by omega
  subst this
  obtain⟨fr',g1,g2,g3⟩:=Ok L run k fr hp wr a.length h44 h14 h15
  exact⟨fr',hp,wr,out,c,bE g1,g2,by rw[g3];exact hO,ho,hd,hc,by rw[← hv,take_length]⟩
 | n+1,i,fr,hp,wr,out,c,hi,h44,h13,h14,h15,h1,h6,hO,ho,hd,hc,hv=>by
  have hx:=cu ha i
  have hy:=cu hb i
  obtain⟨c',d,hs,hc',hdd⟩:∃ c' d,((at0 a i<c+at0 b i∧c'=1∧d=at0 a i+1000000000 - (c+at0 b i))∨(c+at0 b i≤at0 a i∧c'=0∧d=at0 a i - (c+at0 b i)))∧c'≤1∧d<1000000000:=by
   by_cases h:at0 a i<c+at0 b i
   ·exact⟨1,_,.inl ⟨h,rfl,rfl⟩,by omega,by omega⟩
   ·exact⟨0,_,.inr ⟨by omega,rfl,rfl⟩,by omega,by omega⟩
  obtain⟨fr1,hp1,wr1,g1,g2,g3,g4,g5,g6,g7,g8⟩:=EV L run k fr hp wr a b out i c c' d ha hb hc (by omega) hl h44 h13 h14 h15 h1 h6 hO ho hs
  obtain⟨fr',hp',wr',out',c2,q1,q2⟩:=xv L run k a b ha hb hl n (i+1) fr1 hp1 wr1 _ _ (by omega) g2 g3 g4 g5 g6 g7 g8 (by simp[ho]) (hd.append (Dok.nil.cons hdd)) hc'
   (by
    rw[cB,cB,dL,ho,Nat.pow_succ]
    exact Ia hv hs (by omega))
  exact⟨fr',hp',wr',out',c2,by rw[ca g1];exact q1,q2⟩
def Ie:Code:=seq1 (seq1 (ag 3 mB))
theorem EU:ag 3 mB = .seq (.seq Ie (.block 0 (.loop mD))) (ag 4 mB):=rfl
theorem Oj (L:Lst)(run:aw)(k:Nat)(a b:Ω)(hl:a.length<1000000)(hne:a≠[]) :
  ∃ fr hp wr,ba (CC L) run k 3 mB ⟨entry 44 [aO a,aO b],[],[]⟩=some ⟨fr,hp,wr⟩∧fr.length=44∧nth fr 0=aO a∧nth fr 1=aO b∧nth fr 6 = .sc (.int .u32 (0:Nat))∧dR 0 hp [] (nth fr 5):=by
 obtain⟨e1,e2,e3⟩:=cC 42 (aO a) (aO b)
 generalize entry 44 [aO a,aO b]=fr0 at *
 have hO:∀ n,dR 0 [⟨.live,rep n [dg 0]⟩] [] (.own 0 1 0 0 false):=fun n=>⟨Nat.zero_le _,.inr ⟨0,List.replicate n 0,Nat.le_refl _,by simp,rfl,by rw[sA];rfl⟩⟩
 have h1:a.length≤cN:=Nat.le_trans (Nat.le_of_lt hl) (by decide)
 have h2:(0 == a.length)=false:=by
  have:=length_pos_iff.2 hne
  simp;omega
 simp[mB,f161,ba,e1,e2,e3,bh,jX,aa,ae,ab,bf,and_assoc,cn,uD,s32,b32,z32,bQ,h1,h2,aL,hO]
theorem aaW (L:Lst)(run:aw)(k:Nat)(fr:Ψ)(hp:Θ)(wr:Ω)(a:Ω)(h44:fr.length=44)(h0:nth fr 0=aO a) :
  ∃ fr',af (CC L) run k Ie ⟨fr,hp,wr⟩=some (.normal,⟨fr',hp,wr⟩)∧fr'.length=44∧nth fr' 13=aO a∧nth fr' 14 = .sc (.int .i64 (a.length:Int))∧nth fr' 15 = .sc (.int .i64 (0:Nat))
   ∧ nth fr' 1=nth fr 1∧nth fr' 6=nth fr 6∧nth fr' 5=nth fr 5:=by
 simp[Ie,mB,ag,seq1,f161,aa,ae,ab,bf,cn,uD,h44,h0]
theorem Ic (L:Lst)(run:aw)(k:Nat)(fr:Ψ)(hp:Θ)(wr:Ω)(h44:fr.length=44) :
  ∃ st,af (CC L) run k (ag 4 mB) ⟨fr,hp,wr⟩=some (.ret,st)∧bc TT st.fr st.hp f161.results.toList=some [nth fr 5]∧st.hp=hp:=by
 simp[mB,ag,f161,aa,ab,h44,bc]
def xw:Ψ→Option Ψ
 | [p,q]=>match ia p,ia q with
  | some a,some b=>bif Nat.ble (val b) (val a) && Nat.ble b.length a.length && !(a.length.beq 0) then some [aO (db a.length (val a - val b))] else none
  | _,_=>none
 | _=>none
theorem Ib:Ab.Spec base.P 161 xw:=Ab.Spec.bN (C:=CC []) (cP trivial) fun args rs h=>by
 unfold xw at h
 split at h
 ·split at h
  ·rename_i a b ea eb
   obtain⟨rfl,ha,hla⟩:=dz ea
   obtain⟨rfl,hb,hlb⟩:=dz eb
   cases hc:Nat.ble (val b) (val a) && Nat.ble b.length a.length && !(a.length.beq 0) with
   | false=>rw[hc] at h;cases h
   | true =>
    rw[hc] at h
    simp only[cond_true,OiE] at h
    subst h
    simp only[Bool.and_eq_true,Nat.ble_eq,Bool.not_eq_true'] at hc
    obtain⟨⟨hle,hlen⟩,hne⟩:=hc
    have hne':a≠[]:=by intro e;subst e;simp at hne
    obtain⟨fr1,hp1,wr1,h1,h2,h3,h4,h5,h6⟩:=Oj [] (runK (CC []) (a.length+1)) (a.length+1) a b hla hne'
    obtain⟨fr2,g1,g2,g3,g4,g5,g6,g7,g8⟩:=aaW [] (runK (CC []) (a.length+1)) (a.length+1) fr1 hp1 wr1 a h2 h3
    obtain⟨fr3,hp3,wr3,out,c,q1,q2,q3,q4,q5,q6,q7⟩:=xv [] (runK (CC []) (a.length+1)) (a.length+1) a b ha hb hla a.length 0 fr2 hp1 wr1 [] 0 (by simp) g2 g3 g4 g5 (by rw[g6,h4]) (by rw[g7,h5]) (by rw[g8];exact h6) rfl Dok.nil (by omega) (by simp[val])
    obtain⟨st,e1,e2,e3⟩:=Ic [] (runK (CC []) (a.length+1)) (a.length+1) fr3 hp3 wr3 q2
    have hx:af (CC []) (runK (CC []) (a.length+1)) (a.length+1) mB ⟨entry 44 [aO a,aO b],[],[]⟩=some (.ret,st):=by
     rw[aQ 3 h1,EU,ar ((ar g1).trans (bK q1))]
     exact e1
    have hout:out=db a.length (val a - val b):=by
     refine q5.pS q4 ?_
     rw[cH _ _ hlen] at q7
     have hb1:=eX q5
     rw[q4] at hb1
     have:c=0∨c=1:=by omega
     rcases this with rfl | rfl <;> omega
    obtain⟨rs2,ids,r1,r2⟩:=q3.HY
    rw[hout] at r2
    rw[← e3] at r1
    exact⟨a.length+2,_,_,_,rs2,ids,aV Ju rfl hx e2,r1,r2⟩
  ·cases h
 ·cases h
theorem bu {L:Lst}{g:Nat}{f:Ψ→Option Ψ}(hs:base.shared g=false)(ho:bt L g=fun a=>f (aJ a))(run:aw)(dr:Bool)(hp:Θ)(args rs:Ψ)
  (h1:bj (snap hp bp) args=some (args,[])) (h2:aJ args=args) (h3:f args=some rs):bU (CC L) run dr hp g args=some (ja rs,hp,⟨[],[],false,false⟩):=by
 have h4:(CC L).orc g args=some rs:=by
  show bt L g args=_
  rw[ho];show f (aJ args)=_;rw[h2,h3]
 by_cases h:rs.all ed=true
 ·exact ke hs h1 h4 h
 ·exact et hs h1 h4 (by simpa using h)
theorem mR (hp:Θ)(a b:Ω):bj (snap hp bp) [aO a,aO b]=some ([aO a,aO b],[]):=rfl
theorem LD (hp:Θ)(n:Bool)(a:Ω):bj (snap hp bp) [.sc (.bool n),aO a]=some ([.sc (.bool n),aO a],[]):=rfl
theorem mQ (hp:Θ)(a:Int):bj (snap hp bp) [br a]=some ([br a],[]):=rfl
theorem gI (hp:Θ)(a b:Int):bj (snap hp bp) [br a,br b]=some ([br a,br b],[]):=rfl
theorem kB (a b:Ω):aJ [aO a,aO b]=[aO a,aO b]:=by simp only[aJ,fH]
theorem FM (n:Bool)(a:Ω):aJ [.sc (.bool n),aO a]=[.sc (.bool n),aO a]:=by simp only[aJ,fH,canon]
theorem jU (a:Int):aJ [br a]=[br a]:=by simp only[aJ,yf]
theorem fv (a b:Int):aJ [br a,br b]=[br a,br b]:=by simp only[aJ,yf]
def Sm (z:Int):Prop:=(aK z.natAbs).length<400000
theorem Sm.lt {z:Int}(h:Sm z):(aK z.natAbs).length<1000000:=Nat.lt_trans h (by decide)
theorem eh {p:PV}{z:Int}(h:fM p=some z):p=br z∧Sm z:=IU h
theorem cJ {z:Int}(h:Sm z):fM (br z)=some z:=O5 z h
theorem Mx (L:Lst)(run:aw)(k:Nat)(z:Int) :
  ∃ st,af (CC L) run k (f101.body.getD .skip) ⟨entry 11 [br z],[],[]⟩=some (.ret,st)∧bc TT st.fr st.hp f101.results.toList=some [Ab.bJ z.sign]:=by
 obtain⟨e1,e2⟩:=cL 10 (br z)
 generalize entry 11 [br z]=fr0 at *
 cases z with
 | ofNat n =>
  cases n with
  | zero =>
   have e3:br (Int.ofNat 0) = .agg [.sc (.bool false),aO []]:=rfl
   rw[e3] at e2
   simp[f101,e1,e2,bP,aa,ae,ab,bf,cn,bm,uD,uW,sD,aD,wf0,wf1,aL,aP,bq,bc,Ab.bJ]
  | succ n =>
   have h0:=cT.2 (Nat.succ_ne_zero n)
   have e3:br (Int.ofNat (n+1)) = .agg [.sc (.bool false),aO (aK (n+1))]:=rfl
   rw[e3] at e2
   have e4:(Int.ofNat (n+1)).sign=1:=rfl
   rw[e4]
   generalize aK (n+1)=l at *
   have h1:((l.length:Int) == 0)=false:=by simp;intro h;subst h;simp at h0
   have h2:l≠[]:=by intro h;subst h;simp at h0
   simp[f101,e1,e2,bP,aa,ae,ab,bf,cn,bm,uD,uW,sD,sB,aD,aB,wf0,wf1,aL,aP,bq,bc,Ab.bJ,h1]
 | negSucc n =>
   have h0:=cT.2 (Nat.succ_ne_zero n)
   have e3:br (Int.negSucc n) = .agg [.sc (.bool true),aO (aK (n+1))]:=rfl
   rw[e3] at e2
   have e4:(Int.negSucc n).sign = -1:=rfl
   rw[e4]
   generalize aK (n+1)=l at *
   have h1:((l.length:Int) == 0)=false:=by simp;intro h;subst h;simp at h0
   have h2:l≠[]:=by intro h;subst h;simp at h0
   simp[f101,e1,e2,bP,aa,ae,ab,bf,cn,bm,uD,uW,sD,sB,aD,aB,wf0,wf1,aL,aP,bq,bc,Ab.bJ,h1]
def jx:Ψ→Option Ψ
 | [p]=>match fM p with
  | some z=>some [Ab.bJ z.sign]
  | none=>none
 | _=>none
theorem kc:Ab.Spec base.P 101 jx:=Ab.Spec.bN (C:=CC []) (cP trivial) fun args rs h=>by
 unfold jx at h
 split at h
 ·split at h
  ·rename_i z hz
   obtain⟨rfl,-⟩:=eh hz
   simp only[OiE] at h
   subst h
   obtain⟨st,e1,e2⟩:=Mx [] (runK (CC []) 1) 1 z
   exact⟨2,_,_,_,_,_,aV PQ rfl e1 e2,eL _ _,Wk.refl rfl,trivial⟩
  ·cases h
 ·cases h
def L1:Lst:=[(167,ju),(152,fB),(160,Ey),(161,xw),(146,tG)]
theorem LO:dt base.P L1:=⟨iV,jw,NU,Ib,zj,trivial⟩
theorem Oa:bt L1 152=fun a=>fB (aJ a):=rfl
theorem aax:bt L1 160=fun a=>Ey (aJ a):=rfl
theorem Uj:bt L1 161=fun a=>xw (aJ a):=rfl
theorem aaw:bt L1 146=fun a=>tG (aJ a):=rfl
theorem kV (run:aw)(dr:Bool)(hp:Θ)(n:Bool)(l:Ω)(hd:Dok l)(hl:l.length<1000000) :
  bU (CC L1) run dr hp 152 [.sc (.bool n),aO l]=some (br (sgn n (val l)),hp,⟨[],[],false,false⟩) :=
 bu oG Oa run dr hp _ [br (sgn n (val l))] (LD hp n l) (FM n l) (by simp only[fB,cX hd hl])
theorem Pk (run:aw)(dr:Bool)(hp:Θ)(a b:Ω)(ha:Dok a)(hla:a.length<1000000)(hb:Dok b)(hlb:b.length<1000000) :
  bU (CC L1) run dr hp 160 [aO a,aO b]=some (aO (db (Nat.max a.length b.length+1) (val a+val b)),hp,⟨[],[],false,false⟩) :=
 bu YK aax run dr hp _ [aO (db (Nat.max a.length b.length+1) (val a+val b))] (mR hp a b) (kB a b) (by simp only[Ey,cX ha hla,cX hb hlb])
theorem yi (run:aw)(dr:Bool)(hp:Θ)(a b:Ω)(ha:Dok a)(hla:a.length<1000000)(hb:Dok b)(hlb:b.length<1000000)(h:val b≤val a)(h':b.length≤a.length)(h0:a.length≠0) :
  bU (CC L1) run dr hp 161 [aO a,aO b]=some (aO (db a.length (val a - val b)),hp,⟨[],[],false,false⟩) :=
 bu Rx Uj run dr hp _ [aO (db a.length (val a - val b))] (mR hp a b) (kB a b) (by
  have h1:Nat.ble (val b) (val a)=true:=by rw[Nat.ble_eq];exact h
  have h2:Nat.ble b.length a.length=true:=by rw[Nat.ble_eq];exact h'
  have h3:a.length.beq 0=false:=by
   cases e:a.length with
   | zero=>exact absurd e h0
   | succ n=>rfl
  simp[xw,cX ha hla,cX hb hlb,h1,h2,h3])
theorem o0 (run:aw)(dr:Bool)(hp:Θ)(a b:Ω)(ha:Dok a)(hla:a.length<1000000)(hb:Dok b)(hlb:b.length<1000000) :
  bU (CC L1) run dr hp 146 [aO a,aO b]=some (Ab.bJ (pf a b),hp,⟨[],[],false,false⟩) :=
 bu J2 aaw run dr hp _ [Ab.bJ (pf a b)] (mR hp a b) (kB a b) (by simp only[tG,cX ha hla,cX hb hlb])
theorem Uu (run:aw)(k:Nat)(n:Bool)(l:Ω)(hd:Dok l)(hl:l.length<1000000) :
  ∃ st,af (CC L1) run k (f149.body.getD .skip) ⟨entry 9 [wh n l],[],[]⟩=some (.ret,st)∧bc TT st.fr st.hp f149.results.toList=some [br (sgn (!n) (val l))]:=by
 have hc:=fun hp dr=>kV run dr hp (!n) l hd hl
 obtain⟨e1,e2⟩:=cL 8 (wh n l)
 generalize entry 9 [wh n l]=fr0 at *
 have e3:wh n l = .agg [.sc (.bool n),aO l]:=rfl
 have e4:br (sgn (!n) (val l)) = .agg [.sc (.bool (bw (sgn (!n) (val l)))),aO (aK (sgn (!n) (val l)).natAbs)]:=rfl
 rw[e3] at e2
 rw[e4] at hc ⊢
 generalize aK (sgn (!n) (val l)).natAbs=m at *
 generalize bw (sgn (!n) (val l))=nn at *
 simp[f149,e1,e2,aM,bP,unP,aa,ae,ab,bf,bm,bX,bH,bd,hc,uW,sD,sB,sW,aD,aB,aW,zW,wf0,wf1,aL,aP,bZ,cm,bD,bq,bc]
theorem adS (z:Int):sgn (bw z) z.natAbs=z:=by
 cases z with
 | ofNat n=>rfl
 | negSucc n=>rfl
theorem YY (z:Int):sgn (!bw z) z.natAbs = -z:=by
 cases z with
 | ofNat n=>show Int.negOfNat n = -(Int.ofNat n);cases n <;> rfl
 | negSucc n=>rfl
def sT:Ψ→Option Ψ
 | [p]=>match fM p with
  | some z=>some [br (-z)]
  | none=>none
 | _=>none
theorem nM:Ab.Spec base.P 149 sT:=Ab.Spec.bN (C:=CC L1) (cP LO) fun args rs h=>by
 unfold sT at h
 split at h
 ·split at h
  ·rename_i z hz
   obtain⟨rfl,hs⟩:=eh hz
   simp only[OiE] at h
   subst h
   obtain⟨st,e1,e2⟩:=Uu (runK (CC L1) 1) 1 (bw z) (aK z.natAbs) (bS _) hs.lt
   rw[bV,YY] at e2
   exact⟨2,_,_,_,_,_,aV XR rfl e1 e2,jB _ _,Wk.refl rfl,trivial⟩
  ·cases h
 ·cases h
def Ja:Code:=f139.body.getD .skip
theorem whW (z:Int):br z = .agg [.sc (.bool (bw z)),aO (aK z.natAbs)]:=rfl
set_option maxHeartbeats 1000000 in
theorem PD (run:aw)(k:Nat)(n:Bool)(a b:Ω)(ha:Dok a)(hla:a.length<400000)(hb:Dok b)(hlb:b.length<400000) :
  ∃ st,af (CC L1) run k Ja ⟨entry 42 [wh n a,wh n b],[],[]⟩=some (.ret,st)∧bc TT st.fr st.hp f139.results.toList=some [br (sgn n (val a+val b))]:=by
 have hm:Nat.max a.length b.length≤400000:=Nat.max_le.2 ⟨by omega,by omega⟩
 have hv:val (db (Nat.max a.length b.length+1) (val a+val b))=val a+val b:=fo _ _ (by
  have h1:=eX ha
  have h2:=eX hb
  have h3:=Nat.pow_le_pow_right (n:=1000000000) (by omega) (Nat.le_max_left a.length b.length)
  have h4:=Nat.pow_le_pow_right (n:=1000000000) (by omega) (Nat.le_max_right a.length b.length)
  have h5:a.length.max b.length=max a.length b.length:=rfl
  rw[h5,Nat.pow_succ];omega)
 have hc:=fun hp dr=>Pk run dr hp a b ha (by omega) hb (by omega)
 have hc2:=fun hp dr=>kV run dr hp n (db (Nat.max a.length b.length+1) (val a+val b)) (gD _ _) (by rw[dp];omega)
 rw[hv] at hc2
 generalize db (Nat.max a.length b.length+1) (val a+val b)=m at *
 obtain⟨e1,e2,e3⟩:=cC 40 (wh n a) (wh n b)
 generalize entry 42 [wh n a,wh n b]=fr0 at *
 have e4:∀ l,wh n l = .agg [.sc (.bool n),aO l]:=fun _=>rfl
 rw[e4] at e2 e3
 simp only[whW] at hc2 ⊢
 generalize aK (sgn n (val a+val b)).natAbs=r at *
 generalize bw (sgn n (val a+val b))=nn at *
 simp[Ja,f139,e1,e2,e3,aM,dP,bP,aa,ae,ab,bf,bm,bX,bH,bd,hc,hc2,uB,uW,sD,sB,sW,aD,aB,aW,zW,wf0,wf1,aL,aP,bZ,cm,bD,bq,bc,number,FP.free,cD,FP.apart]
theorem mc (x y:Nat):pf (aK x) (aK y)=dZ x y:=by
 unfold pf
 by_cases h1:(aK x).length<(aK y).length
 ·rw[if_pos h1,dZ,if_pos]
  exact Nat.lt_of_not_le fun h=>absurd (cG h) (by omega)
 ·rw[if_neg h1]
  by_cases h2:(aK y).length<(aK x).length
  ·have h3:y<x:=Nat.lt_of_not_le fun h=>absurd (cG h) (by omega)
   rw[if_pos h2,dZ,if_neg (by omega),if_neg (by omega)]
  ·rw[if_neg h2,bV,bV]
set_option maxHeartbeats 1000000 in
theorem PC (run:aw)(k:Nat)(n:Bool)(x y:Nat)(hla:(aK x).length<400000)(hlb:(aK y).length<400000)(hxy:x<y) :
  ∃ st,af (CC L1) run k Ja ⟨entry 42 [wh n (aK x),wh (!n) (aK y)],[],[]⟩=some (.ret,st)∧bc TT st.fr st.hp f139.results.toList=some [br (sgn (!n) (y - x))]:=by
 have hv:val (db (aK y).length (y - x))=y - x:=fo _ _ (Nat.lt_of_le_of_lt (Nat.sub_le _ _) (fD y))
 have hy0:(aK y).length≠0:=by
  have:=(cT (n:=y)).2 (by omega)
  omega
 have hc0:=fun hp dr=>o0 run dr hp (aK x) (aK y) (bS _) (by omega) (bS _) (by omega)
 rw[mc,dZ,if_pos hxy] at hc0
 have hc:=fun hp dr=>yi run dr hp (aK y) (aK x) (bS _) (by omega) (bS _) (by omega) (by rw[bV,bV];omega) (cG (Nat.le_of_lt hxy)) hy0
 rw[bV,bV] at hc
 have hc2:=fun hp dr=>kV run dr hp (!n) (db (aK y).length (y - x)) (gD _ _) (by rw[dp];omega)
 rw[hv] at hc2
 generalize db (aK y).length (y - x)=m at *
 obtain⟨e1,e2,e3⟩:=cC 40 (wh n (aK x)) (wh (!n) (aK y))
 generalize entry 42 [wh n (aK x),wh (!n) (aK y)]=fr0 at *
 have e4:∀ n l,wh n l = .agg [.sc (.bool n),aO l]:=fun _ _=>rfl
 rw[e4] at e2 e3
 simp only[whW] at hc2 ⊢
 generalize aK (sgn (!n) (y - x)).natAbs=r at *
 generalize bw (sgn (!n) (y - x))=nn at *
 have hnn:(n == !n)=false:=by cases n <;> rfl
 simp only[Ab.bJ] at hc0
 simp[Ja,f139,e1,e2,e3,aM,dP,bP,aa,ae,ab,bf,bm,bX,bH,bd,hc,hc0,hc2,hnn,uB,uW,sD,sB,sW,aD,aB,aW,zW,wf0,wf1,aL,aP,bZ,cm,bD,bq,bc,number,FP.free,cD,FP.apart]
set_option maxHeartbeats 1000000 in
theorem PB (run:aw)(k:Nat)(n:Bool)(x y:Nat)(hla:(aK x).length<400000)(hlb:(aK y).length<400000)(hxy:y≤x)(hx:x≠0) :
  ∃ st,af (CC L1) run k Ja ⟨entry 42 [wh n (aK x),wh (!n) (aK y)],[],[]⟩=some (.ret,st)∧bc TT st.fr st.hp f139.results.toList=some [br (sgn n (x - y))]:=by
 have hv:val (db (aK x).length (x - y))=x - y:=fo _ _ (Nat.lt_of_le_of_lt (Nat.sub_le _ _) (fD x))
 have hx0:(aK x).length≠0:=by
  have:=(cT (n:=x)).2 (by omega)
  omega
 have hc0:=fun hp dr=>o0 run dr hp (aK x) (aK y) (bS _) (by omega) (bS _) (by omega)
 have hcz:decide (dZ x y<0)=false:=by
  apply decide_eq_false
  unfold dZ
  rw[if_neg (by omega)]
  by_cases h:x=y
  ·rw[if_pos h];omega
  ·rw[if_neg h];omega
 have hcz' : ¬ (dZ x y<0):=by simpa using hcz
 rw[mc] at hc0
 have hc:=fun hp dr=>yi run dr hp (aK x) (aK y) (bS _) (by omega) (bS _) (by omega) (by rw[bV,bV];omega) (cG hxy) hx0
 rw[bV,bV] at hc
 have hc2:=fun hp dr=>kV run dr hp n (db (aK x).length (x - y)) (gD _ _) (by rw[dp];omega)
 rw[hv] at hc2
 generalize db (aK x).length (x - y)=m at *
 obtain⟨e1,e2,e3⟩:=cC 40 (wh n (aK x)) (wh (!n) (aK y))
 generalize entry 42 [wh n (aK x),wh (!n) (aK y)]=fr0 at *
 have e4:∀ n l,wh n l = .agg [.sc (.bool n),aO l]:=fun _ _=>rfl
 rw[e4] at e2 e3
 simp only[whW] at hc2 ⊢
 generalize aK (sgn n (x - y)).natAbs=r at *
 generalize bw (sgn n (x - y))=nn at *
 have hnn:(n == !n)=false:=by cases n <;> rfl
 simp only[Ab.bJ] at hc0
 generalize dZ x y=cc at *
 simp[Ja,f139,e1,e2,e3,aM,dP,bP,aa,ae,ab,bf,bm,bX,bH,bd,hc,hc0,hc2,hnn,hcz',uB,uW,sD,sB,sW,aD,aB,aW,zW,wf0,wf1,aL,aP,bZ,cm,bD,bq,bc,number,FP.free,cD,FP.apart]
theorem ss (n:Bool)(v:Nat):sgn n v=if n=true then -(v:Int) else (v:Int):=by
 cases n with
 | false=>rfl
 | true =>
  show Int.negOfNat v=_
  cases v <;> rfl
theorem Y0 {x y:Int}(h:bw x=bw y):sgn (bw x) (x.natAbs+y.natAbs)=x+y:=by
 rw[ss]
 rw[cK,cK] at h
 rw[cK]
 by_cases hx:x<0 <;> by_cases hy:y<0 <;> simp[hx,hy] at h ⊢ <;> omega
theorem RU {x y:Int}(h : ¬ bw x=bw y)(hl:x.natAbs<y.natAbs):sgn (!bw x) (y.natAbs - x.natAbs)=x+y:=by
 rw[ss]
 rw[cK,cK] at h
 rw[cK]
 by_cases hx:x<0 <;> by_cases hy:y<0 <;> simp[hx,hy] at h ⊢ <;> omega
theorem RT {x y:Int}(h : ¬ bw x=bw y)(hl:y.natAbs≤x.natAbs):sgn (bw x) (x.natAbs - y.natAbs)=x+y:=by
 rw[ss]
 rw[cK,cK] at h
 rw[cK]
 by_cases hx:x<0 <;> by_cases hy:y<0 <;> simp[hx,hy] at h ⊢ <;> omega
theorem Xw (run:aw)(k:Nat)(x y:Int)(hx:Sm x)(hy:Sm y) :
  ∃ st,af (CC L1) run k Ja ⟨entry 42 [br x,br y],[],[]⟩=some (.ret,st)∧bc TT st.fr st.hp f139.results.toList=some [br (x+y)]:=by
 by_cases hn:bw x=bw y
 ·have:=PD run k (bw x) (aK x.natAbs) (aK y.natAbs) (bS _) hx (bS _) hy
  rw[bV,bV] at this
  rw[Y0 hn] at this
  simp only[br]
  rw[← hn];exact this
 ·have hn':bw y = !bw x:=by
   revert hn;cases bw x <;> cases bw y <;> simp
  by_cases hxy:x.natAbs<y.natAbs
  ·have:=PC run k (bw x) x.natAbs y.natAbs hx hy hxy
   rw[RU hn hxy] at this
   simp only[br]
   rw[hn'];exact this
  ·have hx0:x.natAbs≠0:=by
    intro h0
    have:y.natAbs=0:=by omega
    have hx:x=0:=by omega
    have hy:y=0:=by omega
    subst hx;subst hy
    exact hn rfl
   have:=PB run k (bw x) x.natAbs y.natAbs hx hy (by omega) hx0
   rw[RT hn (by omega)] at this
   simp only[br]
   rw[hn'];exact this
def tr:Ψ→Option Ψ
 | [p,q]=>match fM p,fM q with
  | some x,some y=>some [br (x+y)]
  | _,_=>none
 | _=>none
theorem ou:Ab.Spec base.P 139 tr:=Ab.Spec.bN (C:=CC L1) (cP LO) fun args rs h=>by
 unfold tr at h
 split at h
 ·split at h
  ·rename_i x y ex ey
   obtain⟨rfl,hx⟩:=eh ex
   obtain⟨rfl,hy⟩:=eh ey
   simp only[OiE] at h
   subst h
   obtain⟨st,e1,e2⟩:=Xw (runK (CC L1) 1) 1 x y hx hy
   exact⟨2,_,_,_,_,_,aV XW rfl e1 e2,jB _ _,Wk.refl rfl,trivial⟩
  ·cases h
 ·cases h
end Go.Proofs.YtjdmodeenbdfpaaGreat
end
