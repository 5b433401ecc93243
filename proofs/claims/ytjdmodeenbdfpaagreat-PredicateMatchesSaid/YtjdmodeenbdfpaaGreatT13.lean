/- Contracts of num's integers, part 13 of the proof; each lemma states its own conditions. -/
import Derived.Test.YtjdmodeenbdfpaaGreatT12
set_option linter.unusedSimpArgs false
set_option linter.unusedVariables false
namespace Go.Proofs.YtjdmodeenbdfpaaGreat
open Go Go.Ab List Tryz
noncomputable def ofB:Code:=((f97.body).bind aC).getD .skip
set_option maxHeartbeats 1000000 in
theorem TK (L:List (Nat × (List PV→Option (List PV))))(run:ar)(k:Nat)(fr:List PV)(hp:List Blk)(wr:List Nat)(u:Nat)(l:List Nat)
  (hu:u≠0) (hu2:u<18446744073709551616) (h20:fr.length=26) (h3:nth fr 3 = .sc (.int .u64 (Int.ofNat u))) (hO:dU 1 hp l (nth fr 5)) (hl:l.length<1000) :
  ∃ fr' hp' wr',af (CC L) run k ofB ⟨fr,hp,wr⟩=some (.normal,⟨fr',hp',wr'⟩)∧fr'.length=26∧nth fr' 3 = .sc (.int .u64 (Int.ofNat (u / 1000000000)))
   ∧ dU 1 hp' (l++[u % 1000000000]) (nth fr' 5)∧nth fr' 2=nth fr 2∧nth fr' 4=nth fr 4∧aY hp' 0=aY hp 0:=by
 have hq:bE .u64 ((u:Int) / 1000000000)=Int.ofNat (u / 1000000000):=dG .u64 (u / 1000000000) (by simp[hiN];omega)
 have hc:bE .u32 ((u:Int).tmod 1000000000)=Int.ofNat (u % 1000000000):=dG .u32 (u % 1000000000) (by simp[hiN];omega)
 generalize u / 1000000000=q at *
 generalize u % 1000000000=r at *
 obtain⟨p',hp',fp,ha,hO',hk⟩:=hO.app r (by omega)
 have hu0:0<u:=by omega
 have hdg:PV.sc (.int .u32 (r:Int))=dg r:=rfl
 have hlit:eL TT 68 1 [(0,dg r)]=some (1,[dg r]):=by
  simp[eL,uD,s32,z32,rep,dA,gH,cq]
 have hrd:ew hp 1 (.imm 1 true [dg r])=some (1,[dg r],[]):=by simp[ew]
 have hif:bU [dg r]=true:=rfl
 have hk0:=hk 0 (by omega)
 simp[ofB,f97,aC,af,aH,ao,aq,aG,ag,ai,an,aj,aF,aA,FzZ,bc,aw,bj,az,aa,ae,ab,bd,and_assoc,bh,dE,h20,h3,dS,u32,u64,uD,s32,b32,z32,hq,hc,hu0,hdg,hlit,hrd,hif,cg,ha,hO',hk0]
theorem aac (L:List (Nat × (List PV→Option (List PV))))(run:ar)(k:Nat)(fr:List PV)(hp:List Blk)(wr:List Nat)
  (h20:fr.length=26) (h3:nth fr 3 = .sc (.int .u64 (Int.ofNat 0))) :
  ∃ fr',af (CC L) run k ofB ⟨fr,hp,wr⟩=some (.exit 0,⟨fr',hp,wr⟩)∧nth fr' 5=nth fr 5∧nth fr' 2=nth fr 2∧nth fr' 4=nth fr 4∧fr'.length=26:=by
 simp[ofB,f97,aC,af,aH,ao,aq,aG,ag,ai,an,aj,aF,aA,FzZ,bc,aw,bj,az,aa,ae,ab,h20,h3]
theorem KI (L:List (Nat × (List PV→Option (List PV))))(run:ar)(k:Nat):∀ (j u:Nat) (l:List Nat) (fr:List PV) (hp:List Blk) (wr:List Nat),
  u<1000000000 ^ j→l.length+j<1000→u<18446744073709551616→fr.length=26→nth fr 3 = .sc (.int .u64 (Int.ofNat u))→dU 1 hp l (nth fr 5) →
  ∃ fr' hp' wr',cu (af (CC L) run k ofB) (j+1) ⟨fr,hp,wr⟩=some (.exit 0,⟨fr',hp',wr'⟩)∧fr'.length=26
   ∧ dU 1 hp' (l++aK u) (nth fr' 5)∧nth fr' 2=nth fr 2∧nth fr' 4=nth fr 4∧aY hp' 0=aY hp 0
 | j,u,l,fr,hp,wr,hu,hl,hu2,h20,h3,hO=>by
  by_cases h0:u=0
  ·subst h0
   obtain⟨fr',h1,h2,h4,h5,h6⟩:=aac L run k fr hp wr h20 h3
   refine⟨fr',hp,wr,bD h1,h6,?_,h4,h5,rfl⟩
   rw[h2,fB,append_nil];exact hO
  ·cases j with
   | zero=>simp at hu;omega
   | succ j =>
    obtain⟨fr1,hp1,wr1,h1,h2,h4,h5,h6,h7,h8⟩:=TK L run k fr hp wr u l h0 hu2 h20 h3 hO (by omega)
    obtain⟨fr',hp',wr',g1,g2,g3,g4,g5,g6⟩:=KI L run k j (u / 1000000000) (l++[u % 1000000000]) fr1 hp1 wr1 (by rw[Nat.pow_succ] at hu;omega) (by simp;omega) (by omega) h2 h4 h5
    refine⟨fr',hp',wr',by rw[ct h1];exact g1,g2,?_,by rw[g4,h6],by rw[g5,h7],by rw[g6,h8]⟩
    rw[eC h0]
    simpa using g3
noncomputable def ofC:Code:=f97.body.getD .skip
theorem TJ:ah 4 ofC = .seq (.block 0 (.loop ofB)) (ah 5 ofC):=rfl
theorem aeM (L:List (Nat × (List PV→Option (List PV))))(run:ar)(k:Nat)(z:Int)(h1 : -9223372036854775808≤z)(h2:z<9223372036854775808) :
  ∃ fr hp wr,aX (CC L) run k 4 ofC ⟨entry 26 [Ab.bz z],[],[]⟩=some ⟨fr,hp,wr⟩∧fr.length=26∧nth fr 3 = .sc (.int .u64 (Int.ofNat z.natAbs))∧nth fr 5 = .sc (.slice none 0 0)
   ∧ nth fr 2 = .ptr 0 0∧nth fr 4 = .sc (.bool (bA z))∧hp=[⟨.live,[.sc (.bool false),.sc (.slice none 0 0)]⟩]:=by
 cases z with
 | ofNat n =>
  have hw:bE .u64 (n:Int)=Int.ofNat n:=dG .u64 n (by simp[hiN];simp at h2;omega)
  have hlt:((n:Int)<0)=False:=by simp
  simp[ofC,f97,aX,entry,nth,dR,Ab.bz,af,aH,ao,aq,aG,ag,ai,an,aj,aF,aA,FzZ,bc,aw,bj,az,bd,and_assoc,dS,uI,u64,zW,aM,hw,bA,hlt]
 | negSucc n =>
  have hw:bE .u64 (Int.negSucc n)=Int.ofNat (18446744073709551616 - (n+1)):=by
   have:=vQ (n:=n+1) (by omega) (by omega)
   rw[← this];rfl
  have hlt:(Int.negSucc n<0)=True:=by simp
  have hw2:bE .u64 (-((18446744073709551616 - (n+1):Nat):Int))=(n:Int)+1:=by
   rw[vQ (by omega) (by omega)]
   simp;omega
  simp only[Int.ofNat_eq_natCast] at hw
  generalize 18446744073709551616 - (n+1)=m at *
  simp[ofC,f97,aX,entry,nth,dR,Ab.bz,af,aH,ao,aq,aG,ag,ai,an,aj,aF,aA,FzZ,bc,aw,bj,az,unP,bd,and_assoc,dS,uI,u64,zW,aM,hw,hw2,bA,hlt]
theorem aad (L:List (Nat × (List PV→Option (List PV))))(run:ar)(k:Nat)(fr:List PV)(hp:List Blk)(wr:List Nat)(n:Bool)(l:List Nat)(p:PV)
  (h20:fr.length=26) (h2:nth fr 2 = .ptr 0 0) (h4:nth fr 4 = .sc (.bool n)) (h5:nth fr 5=p) (hO:dU 1 hp l p) (hb:aY hp 0=some ⟨.live,[.sc (.bool false),.sc (.slice none 0 0)]⟩) :
  ∃ st,af (CC L) run k (ah 5 ofC) ⟨fr,hp,wr⟩=some (.ret,st)∧aU TT st.fr st.hp f97.results.toList=some [.agg [.sc (.bool n),p]]∧st.hp=bZ hp 0 ⟨.live,[.sc (.bool n),p]⟩:=by
 have hc:=hO.cells
 have hk:=hO.okc
 have hokb:∀ b,dk (PV.sc (.bool b))=true:=fun _=>rfl
 have hcb:∀ b,(PV.sc (.bool b)).cells?=some [.sc (.bool b)]:=fun _=>rfl
 have hca:∀ cs,(PV.agg cs).cells?=some cs:=fun _=>rfl
 have hn:aY (bZ hp 0 ⟨.live,[.sc (.bool n),p]⟩) 0=some ⟨.live,[.sc (.bool n),p]⟩:=by rw[cT hb,if_pos rfl]
 simp[ofC,ah,f97,af,aH,ao,aq,aG,ag,ai,an,aj,aF,aA,FzZ,az,partOf,aa,ae,ab,bd,bp,kJ,bG,bh,h20,h2,h4,h5,fj,zW,uW,wf0,wf1,sB,sD,sW,aW,dA,ky,hc,hk,cq,hb,aU,aV,hn,br,bF]
def ofF:List PV→Option (List PV)
 | [.sc (.int .i64 z)]=>bif decide (-9223372036854775808≤z) && decide (z<9223372036854775808) then some [bt z] else none
 | _=>none
theorem mI:Ab.Spec base.P 97 ofF:=Ab.Spec.bM (C:=CC []) (cP trivial) fun args rs h=>by
 unfold ofF at h
 split at h
 ·rename_i z
  cases hd:decide (-9223372036854775808≤z) && decide (z<9223372036854775808) with
  | false=>rw[hd] at h;cases h
  | true =>
   rw[hd] at h
   simp only[cond_true,OiE] at h
   subst h
   simp only[Bool.and_eq_true,decide_eq_true_eq] at hd
   obtain⟨fr1,hp1,wr1,h1,h20,h3,h5,h2,h4,hhp⟩:=aeM [] (runK (CC []) 4) 4 z hd.1 hd.2
   obtain⟨fr2,hp2,wr2,g1,g2,g3,g4,g5,g6⟩:=KI [] (runK (CC []) 4) 4 3 z.natAbs [] fr1 hp1 wr1 (by omega) (by simp) (by omega) h20 h3 (by rw[h5];exact dU.nil (by rw[hhp];simp))
   obtain⟨st,e1,e2,e3⟩:=aad [] (runK (CC []) 4) 4 fr2 hp2 wr2 (bA z) _ _ g2 (by rw[g4,h2]) (by rw[g5,h4]) rfl g3 (by rw[g6,hhp];rfl)
   have hx:af (CC []) (runK (CC []) 4) 4 ofC ⟨entry 26 [Ab.bz z],[],[]⟩=some (.ret,st):=by
    rw[aO 4 h1,TJ,av (bN g1)]
    exact e1
   obtain⟨rs2,ids,q1,q2⟩:=(g3.set 0 ⟨.live,[.sc (.bool (bA z)),nth fr2 5]⟩ (by omega)).out (bA z)
   rw[← e3] at q1
   exact⟨5,_,_,_,rs2,ids,aP ac3 rfl hx e2,q1,q2⟩
 ·cases h
abbrev Lst:=List (Nat × (List PV→Option (List PV)))
noncomputable def tG:Code:=((f167.body).bind aC).getD .skip
theorem ad4 (l:List Nat)(a:Nat)(hp:List Blk):dq TT hp 68 (aQ (l++[a])) none (some (.sc (.int .i64 (l.length:Int)))) none=some (aQ l):=by
 have h:aQ (l++[a]) = .imm (l.length+1) false ((l++[a]).map dg):=by simp[aQ]
 rw[h]
 simp only[dq,uD,gQ,s32,bnd,fk,gK,Option.map]
 simp[gE,br]
 rw[dh (by simp)]
 simp[aQ]
set_option maxHeartbeats 1000000 in
theorem L0 (L:Lst)(run:ar)(k:Nat)(fr:List PV)(hp:List Blk)(wr:List Nat)(l:List Nat)(a:Nat)(hl:l.length<10000000)(ha:a≠0)
  (h21:fr.length=21) (h0:nth fr 0=aQ (l++[a])) :
  ∃ fr',af (CC L) run k tG ⟨fr,hp,wr⟩=some (.exit 0,⟨fr',hp,wr⟩)∧nth fr' 0=nth fr 0∧fr'.length=21:=by
 have hw:bE .i64 ((l.length+1:Nat) - 1:Int)=Int.ofNat l.length:=by
  have:=dG .i64 l.length (by simp[hiN];omega)
  rw[← this];congr 1;omega
 have hw':bE .i64 (l.length:Int)=Int.ofNat l.length:=dG .i64 l.length (by simp[hiN];omega)
 have h:aQ (l++[a]) = .imm (l.length+1) false ((l++[a]).map dg):=by simp[aQ]
 have hd:(br ((l++[a]).map dg) l.length).head?=some (.sc (.int .u32 a)):=by
  rw[ff _ _ (by simp)];simp[dg]
 rw[h] at h0
 have ha':((a:Int) == 0)=false:=by simp;exact ha
 simp[tG,f167,aC,af,aH,ao,aq,aG,ag,ai,an,aj,aF,aA,FzZ,bc,aw,bj,az,bO,bg,bm,partOf,aa,ae,ab,bd,cX,h21,h0,uD,s32,a32,hw',hd,ha',aV,-map_append]
set_option maxHeartbeats 1000000 in
theorem QE (L:Lst)(run:ar)(k:Nat)(fr:List PV)(hp:List Blk)(wr:List Nat)(h21:fr.length=21)(h0:nth fr 0=aQ []) :
  ∃ fr',af (CC L) run k tG ⟨fr,hp,wr⟩=some (.exit 0,⟨fr',hp,wr⟩)∧nth fr' 0=nth fr 0∧fr'.length=21:=by
 have h:aQ [] = .imm 0 false []:=rfl
 rw[h] at h0
 simp[tG,f167,aC,af,aH,ao,aq,aG,ag,ai,an,aj,aF,aA,FzZ,bc,aw,bj,az,bO,aa,ae,ab,bd,cX,h21,h0,uD,-map_append]
set_option maxHeartbeats 1000000 in
theorem YC (L:Lst)(run:ar)(k:Nat)(fr:List PV)(hp:List Blk)(wr:List Nat)(l:List Nat)(hl:l.length<10000000)
  (h21:fr.length=21) (h0:nth fr 0=aQ (l++[0])) :
  ∃ fr',af (CC L) run k tG ⟨fr,hp,wr⟩=some (.normal,⟨fr',hp,wr⟩)∧nth fr' 0=aQ l∧fr'.length=21:=by
 have hw':bE .i64 (l.length:Int)=Int.ofNat l.length:=dG .i64 l.length (by simp[hiN];omega)
 have h:aQ (l++[0]) = .imm (l.length+1) false ((l++[0]).map dg):=by simp[aQ]
 have hd:(br ((l++[0]).map dg) l.length).head?=some (.sc (.int .u32 0)):=by
  rw[ff _ _ (by simp)];simp[dg]
 have hs:=ad4 l 0
 rw[h] at h0 hs
 simp[tG,f167,aC,af,aH,ao,aq,aG,ag,ai,an,aj,aF,aA,FzZ,bc,aw,bj,az,bO,bg,bm,partOf,aa,ae,ab,bd,cX,h21,h0,uD,s32,a32,hw',hd,hs,aV,-map_append]
theorem zl (L:Lst)(run:ar)(k:Nat):∀ (n:Nat) (l:List Nat) (fr:List PV) (hp:List Blk) (wr:List Nat),l.length=n→n<10000000→fr.length=21→nth fr 0=aQ l →
  ∃ fr',cu (af (CC L) run k tG) (n+1) ⟨fr,hp,wr⟩=some (.exit 0,⟨fr',hp,wr⟩)∧nth fr' 0=aQ (fw l)∧fr'.length=21
 | 0,l,fr,hp,wr,hl,hn,h21,h0=>by
  have:l=[]:=length_eq_zero_iff.1 hl
  subst this
  obtain⟨fr',h1,h2,h3⟩:=QE L run k fr hp wr h21 h0
  exact⟨fr',bD h1,by rw[h2,h0];rfl,h3⟩
 | n+1,l,fr,hp,wr,hl,hn,h21,h0=>by
  obtain⟨l',a,rfl,hl'⟩:=Bg hl
  by_cases ha:a=0
  ·subst ha
   obtain⟨fr1,h1,h2,h3⟩:=YC L run k fr hp wr l' (by omega) h21 h0
   obtain⟨fr',g1,g2,g3⟩:=zl L run k n l' fr1 hp wr hl' (by omega) h3 h2
   exact⟨fr',by rw[ct h1];exact g1,by rw[g2,eW,if_pos rfl],g3⟩
  ·obtain⟨fr',h1,h2,h3⟩:=L0 L run k fr hp wr l' a (by omega) ha h21 h0
   exact⟨fr',bD h1,by rw[h2,h0,eW,if_neg ha],h3⟩
noncomputable def v8:Code:=f167.body.getD .skip
theorem Gh:ah 1 v8 = .seq (.block 0 (.loop tG)) (ah 2 v8):=rfl
theorem QD (L:Lst)(run:ar)(k:Nat)(p:PV):∃ fr,aX (CC L) run k 1 v8 ⟨entry 21 [p],[],[]⟩=some ⟨fr,[],[]⟩∧fr.length=21∧nth fr 0=p:=by
 simp[v8,f167,aX,entry,nth,dR,af,aH,ao,aq,aG,ag,ai,an,aj,aF,aA,FzZ,az]
theorem Md (L:Lst)(run:ar)(k:Nat)(fr:List PV)(hp:List Blk)(wr:List Nat)(p:PV)(h21:fr.length=21)(h0:nth fr 0=p) :
  ∃ st,af (CC L) run k (ah 2 v8) ⟨fr,hp,wr⟩=some (.ret,st)∧aU TT st.fr st.hp f167.results.toList=some [p]:=by
 simp[v8,ah,f167,af,aH,ao,aq,aG,ag,ai,an,aj,aF,aA,FzZ,aa,ab,h21,h0,aU]
def jB:List PV→Option (List PV)
 | [p]=>match iw p with
  | some l=>some [aQ (fw l)]
  | none=>none
 | _=>none
theorem Ea (hp:List Blk)(l:List Nat):bq (snap hp bn) [aQ l]=some ([aQ l],[]):=rfl
theorem jH (hp:List Blk)(z:Int):bq (snap hp bn) [bt z]=some ([bt z],[]):=rfl
theorem jf:Ab.Spec base.P 167 jB:=Ab.Spec.bM (C:=CC []) (cP trivial) fun args rs h=>by
 unfold jB at h
 split at h
 ·split at h
  ·rename_i l hl
   obtain⟨rfl,_,hlen⟩:=dI hl
   simp only[OiE] at h
   subst h
   obtain⟨fr1,h1,h20,h0⟩:=QD [] (runK (CC []) (l.length+1)) (l.length+1) (aQ l)
   obtain⟨fr2,g1,g2,g3⟩:=zl [] (runK (CC []) (l.length+1)) (l.length+1) l.length l fr1 [] [] rfl (by omega) h20 h0
   obtain⟨st,e1,e2⟩:=Md [] (runK (CC []) (l.length+1)) (l.length+1) fr2 [] [] _ g3 g2
   have hx:af (CC []) (runK (CC []) (l.length+1)) (l.length+1) v8 ⟨entry 21 [aQ l],[],[]⟩=some (.ret,st):=by
    rw[aO 1 h1,Gh,av (bN g1)]
    exact e1
   exact⟨l.length+2,_,_,_,_,_,aP PD rfl hx e2,Ea _ _,Wk.refl rfl,trivial⟩
  ·cases h
 ·cases h
def sgn (n:Bool)(v:Nat):Int:=bif n then Int.negOfNat v else Int.ofNat v
theorem adS {l:List Nat}(h:Dok l)(n:Bool):wh (n && decide (0<(fw l).length)) (fw l)=bt (sgn n (val l)):=by
 rw[eX h]
 cases n with
 | false=>rfl
 | true =>
  by_cases h0:val l=0
  ·rw[h0];rfl
  ·rw[sgn,cond_true,E6 h0]
   have:=da.2 h0
   simp[this]
def fJ:List PV→Option (List PV)
 | [.sc (.bool n),p]=>match iw p with
  | some l=>some [bt (sgn n (val l))]
  | none=>none
 | _=>none
def A6:Lst:=[(167,jB)]
theorem Pc (run:ar)(dr:Bool)(hp:List Blk)(l:List Nat)(hd:Dok l)(hl:l.length<1000000):bX (CC A6) run dr hp 167 [aQ l]=some (aQ (fw l),hp,⟨[],[],false,false⟩):=by
 have h3:(CC A6).orc 167 [aQ l]=some [aQ (fw l)]:=by
  show jB (aJ [aQ l])=_
  simp only[aJ,fP,jB,dc hd hl]
 exact eJ vr (Ea hp l) h3 rfl
noncomputable def JZ:Code:=f152.body.getD .skip
theorem C0 (neg:Bool)(l:List Nat)(hd:Dok l)(hl:l.length<1000000)(run:ar)(k:Nat) :
  ∃ st,af (CC A6) run k JZ ⟨entry 15 [.sc (.bool neg),aQ l],[],[]⟩=some (.ret,st)∧aU TT st.fr st.hp f152.results.toList=some [bt (sgn neg (val l))]:=by
 rw[← adS hd]
 have hc:∀ hp dr,bX (CC A6) run dr hp 167 [aQ l]=some (aQ (fw l),hp,⟨[],[],false,false⟩):=fun hp dr=>Pc run dr hp l hd hl
 cases neg <;> simp[JZ,f152,entry,nth,dR,af,aH,ao,aq,aG,ag,ai,aL,an,aj,aF,aA,FzZ,bc,aw,bj,az,bO,partOf,bd,cB,yn,bp,kJ,ch,bG,bh,hc,zW,aM,uD,fj,uW,wf0,wf1,sB,sD,sW,aW,dA,ky,cq,aU,aV,aY,bZ,br,bF,wh]
theorem jD:Ab.Spec base.P 152 fJ:=Ab.Spec.bM (C:=CC A6) (cP ⟨jf,trivial⟩) fun args rs h=>by
 unfold fJ at h
 split at h
 ·split at h
  ·rename_i n p _ l hl
   obtain⟨rfl,hd,hlen⟩:=dI hl
   simp only[OiE] at h
   subst h
   obtain⟨st,e1,e2⟩:=C0 n l hd hlen (runK (CC A6) 1) 1
   exact⟨2,_,_,_,_,_,aP FK rfl e1 e2,jH _ _,Wk.refl rfl,trivial⟩
  ·cases h
 ·cases h
end Go.Proofs.YtjdmodeenbdfpaaGreat
namespace Go.Ab
open Go List
def di:Nat→Nat→List Nat
 | 0,_=>[]
 | n+1,v=>v % 1000000000::di n (v / 1000000000)
theorem dC:∀ n v,(di n v).length=n
 | 0,_=>rfl
 | n+1,v=>by simp[di,dC n]
theorem gU:∀ n v,Dok (di n v)
 | 0,_=>Dok.nil
 | n+1,v=>(gU n _).cons (by omega)
theorem fA:∀ n v,v<1000000000 ^ n→val (di n v)=v
 | 0,v,h=>by simp at h;subst h;rfl
 | n+1,v,h=>by
  rw[di,val,fA n _ (by rw[Nat.pow_succ] at h;omega)]
  omega
theorem nS:∀ {l:List Nat},Dok l→di l.length (val l)=l
 | [],_=>rfl
 | a::l,h=>by
  have ha:=h.head
  rw[length_cons,di,val,Nat.add_mul_mod_self_left,Nat.mod_eq_of_lt ha,Nat.add_mul_div_left _ _ (by omega),Nat.div_eq_of_lt ha,Nat.zero_add,nS h.tail]
theorem Dok.pZ {l:List Nat}{n v:Nat}(h:Dok l)(hl:l.length=n)(hv:val l=v):l=di n v:=by
 subst hl;subst hv;exact (nS h).symm
def ee (a b:Nat):Int:=if a<b then -1 else if a=b then 0 else 1
theorem lK {a:List Nat}{m:Nat}(hm:m<a.length):val a=val (a.take m)+(a[m]*1000000000 ^ m+1000000000 ^ (m+1)*val (a.drop (m+1))):=by
 rw[lL a (m+1) (by omega),ij a m hm]
 omega
theorem lJ {a b:List Nat}{m:Nat}(ha:Dok a)(hma:m<a.length)(hmb:m<b.length)(hd:a.drop (m+1)=b.drop (m+1))(h:a[m]<b[m]):val a<val b:=by
 rw[lK hma,lK hmb,hd]
 have h1:=fh (ha.take m)
 rw[length_take,Nat.min_eq_left (by omega)] at h1
 have h2:a[m]*1000000000 ^ m+1000000000 ^ m≤b[m]*1000000000 ^ m:=by
  have:=Nat.mul_le_mul_right (1000000000 ^ m) (show a[m]+1≤b[m] from h)
  rw[Nat.add_mul,Nat.one_mul] at this
  exact this
 omega
theorem cL (l:List Nat)(i:Nat)(h:l.length≤i):val (l.take i)=val l:=by
 rw[take_of_length_le h]
theorem dD (k:IntKind)(a b s:Nat)(h:s=a+b)(hs:s≤hiN k):bE k ((a:Int)+(b:Int))=(s:Int):=by
 subst h
 exact (by simpa using dG k (a+b) hs)
theorem wrapM (k:IntKind)(a b s:Nat)(h:s=a*b)(hs:s≤hiN k):bE k ((a:Int)*(b:Int))=(s:Int):=by
 subst h
 exact (by simpa using dG k (a*b) hs)
theorem zf (k:IntKind)(a b s:Nat)(h:a=b+s)(hs:s≤hiN k):bE k ((a:Int) - (b:Int))=(s:Int):=by
 have:=dG k s hs
 rw[show ((a:Int) - (b:Int))=(s:Int) by omega];exact this
theorem ac4 (k:IntKind)(a b s:Nat)(h:s=a / b)(hs:s≤hiN k):bE k ((a:Int) / (b:Int))=(s:Int):=by
 subst h
 exact (by simpa using dG k (a / b) hs)
theorem wa (a b s:Nat)(h:s=a % b):(a:Int).tmod (b:Int)=(s:Int):=by
 subst h;exact (Int.ofNat_tmod a b).symm
def at0 (l:List Nat)(i:Nat):Nat:=l[i]?.getD 0
theorem dm {l:List Nat}{i:Nat}(h:i<l.length):at0 l i=l[i]:=by simp[at0,h]
theorem jq {l:List Nat}{i:Nat}(h:l.length≤i):at0 l i=0:=by simp[at0,h]
theorem cF {l:List Nat}(h:Dok l)(i:Nat):at0 l i<1000000000:=by
 by_cases hi:i<l.length
 ·rw[dm hi];exact h.get hi
 ·rw[jq (by omega)];omega
theorem cI (l:List Nat)(i:Nat):val (l.take (i+1))=val (l.take i)+at0 l i*1000000000 ^ i:=by
 by_cases hi:i<l.length
 ·rw[dm hi,ij l i hi]
 ·rw[jq (by omega),cL l _ (by omega),cL l _ (by omega)];simp
theorem cG (k:IntKind)(s:Nat)(hs:s≤hiN k):bE k (s:Int)=(s:Int):=dG k s hs
theorem U0 {T:Tab}{t e:Nat}(hu:und T t=some (.slice e))(hs:dt T e=some 1)(hz:eK T e=some [dg 0])(n:Nat) :
  eL T t 1 [(0,dg n)]=some (1,[dg n]):=by
 simp[eL,hu,hs,hz,rep,dA,gH,cq]
theorem nM (hp:List Blk)(n:Nat):ew hp 1 (.imm 1 true [dg n])=some (1,[dg n],[]):=by simp[ew]
theorem jV (n:Nat):bU [dg n]=true:=(rfl)
theorem il (n:Nat):PV.sc (.int .u32 (n:Int))=dg n:=(rfl)
theorem WV (s:Nat):((s:Int) / 1000000000)=((s / 1000000000:Nat):Int):=by omega
theorem jQ (k:IntKind)(a s:Nat)(h:s=a / 1000000000)(hs:s≤hiN k):bE k ((a:Int) / 1000000000)=(s:Int):=by
 subst h
 rw[WV];exact dG k _ hs
theorem lO (a s:Nat)(h:s=a % 1000000000):(a:Int).tmod 1000000000=(s:Int):=by
 subst h
 rw[Int.tmod_eq_emod_of_nonneg (by omega)];omega
theorem mf (k:IntKind)(a s:Nat)(h:s=a*1000000000)(hs:s≤hiN k):bE k ((a:Int)*1000000000)=(s:Int):=by
 have e:((a:Int)*1000000000)=(s:Int):=by omega
 rw[e];exact dG k _ hs
theorem cK {x y:Nat}(h:x≤y):(aK x).length≤(aK y).length:=du (Nat.lt_of_le_of_lt h (fL y))
theorem lE {l:List Nat}{m y:Nat}(h:m<l.length):(l.set m y).drop m=y::l.drop (m+1):=by
 rw[drop_eq_getElem_cons (by simpa using h)]
 simp[drop_set]
theorem iM (l:List Nat)(m:Nat)(h:m<l.length):val (l.drop m)=at0 l m+1000000000*val (l.drop (m+1)):=by
 rw[drop_eq_getElem_cons h,val,dm h]
theorem E8 {V V' Q R a b:Nat}(hb:0<b)(hV:V'=a+1000000000*V)(hQ:Q=V / b)(hR:R=V % b) :
  (R*1000000000+a) / b+1000000000*Q=V' / b∧(R*1000000000+a) % b=V' % b:=by
 have e:V'=(R*1000000000+a)+b*(1000000000*Q):=by
  have h:=Nat.div_add_mod V b
  rw[← hQ,← hR] at h
  rw[hV,← h]
  grind
 rw[e,Nat.add_mul_div_left _ _ hb,Nat.add_mul_mod_self_left]
 exact⟨rfl,rfl⟩
end Go.Ab
namespace Go.Proofs.YtjdmodeenbdfpaaGreat
open Go Go.Ab List Tryz
noncomputable def px:Code:=((f146.body).bind aC).getD .skip
noncomputable def lP:Code:=f146.body.getD .skip
set_option maxHeartbeats 1000000 in
theorem QV (L:Lst)(run:ar)(k:Nat)(fr:List PV)(h41:fr.length=41)(h5:nth fr 5 = .sc (.int .i64 (-1))) :
  ∃ fr',af (CC L) run k px ⟨fr,[],[]⟩=some (.exit 0,⟨fr',[],[]⟩)∧fr'.length=41:=by
 simp[px,f146,aC,af,aH,ao,aq,aG,ag,ai,an,aj,aF,aA,FzZ,bc,aw,bj,az,aa,ab,h41,h5]
set_option maxHeartbeats 1000000 in
theorem size_eq (L:Lst)(run:ar)(k:Nat)(fr:List PV)(a b:List Nat)(m:Nat)(hma:m<a.length)(hmb:m<b.length)(hl:a.length<1000000)
  (h41:fr.length=41) (h0:nth fr 0=aQ a) (h1:nth fr 1=aQ b) (h5:nth fr 5 = .sc (.int .i64 (m:Int))) (h:a[m]=b[m]) :
  ∃ fr',af (CC L) run k px ⟨fr,[],[]⟩=some (.normal,⟨fr',[],[]⟩)∧fr'.length=41∧nth fr' 0=aQ a∧nth fr' 1=aQ b∧nth fr' 5 = .sc (.int .i64 ((m:Int) - 1)):=by
 have hw:bE .i64 ((m:Int) - 1)=(m:Int) - 1:=cU m (by omega)
 have hda:=ff a m hma
 have hdb:=ff b m hmb
 rw[h] at hda
 generalize b[m]=y at *
 have e1:aQ a = .imm a.length false (a.map dg):=rfl
 have e2:aQ b = .imm b.length false (b.map dg):=rfl
 have hdg:dg y = .sc (.int .u32 (y:Int)):=rfl
 rw[e1] at h0 ⊢;rw[e2] at h1 ⊢;rw[hdg] at hda hdb
 simp[px,f146,aC,af,aH,ao,aq,aG,ag,ai,an,aj,aF,aA,FzZ,bc,aw,bj,az,bg,bm,partOf,aa,ae,ab,bd,h41,h0,h1,h5,uD,s32,a32,hma,hmb,hda,hdb,aV,number,FP.free,hw]
set_option maxHeartbeats 1000000 in
theorem YL (L:Lst)(run:ar)(k:Nat)(fr:List PV)(a b:List Nat)(m:Nat)(hma:m<a.length)(hmb:m<b.length)(hl:a.length<1000000)
  (h41:fr.length=41) (h0:nth fr 0=aQ a) (h1:nth fr 1=aQ b) (h5:nth fr 5 = .sc (.int .i64 (m:Int))) (h:a[m]≠b[m]) :
  ∃ fr',af (CC L) run k px ⟨fr,[],[]⟩=some (.ret,⟨fr',[],[]⟩)∧fr'.length=41∧nth fr' 4 = .sc (.int .i64 (if a[m]<b[m] then -1 else 1)):=by
 have hda:=ff a m hma
 have hdb:=ff b m hmb
 generalize b[m]=y at *
 generalize a[m]=x at *
 have e1:aQ a = .imm a.length false (a.map dg):=rfl
 have e2:aQ b = .imm b.length false (b.map dg):=rfl
 have hdx:dg x = .sc (.int .u32 (x:Int)):=rfl
 have hdy:dg y = .sc (.int .u32 (y:Int)):=rfl
 rw[e1] at h0;rw[e2] at h1;rw[hdx] at hda;rw[hdy] at hdb
 by_cases hxy:x<y
 ·simp[px,f146,aC,af,aH,ao,aq,aG,ag,ai,an,aj,aF,aA,FzZ,bc,aw,bj,az,bg,bm,partOf,aa,ae,ab,bd,FC,h41,h0,h1,h5,uD,s32,a32,hma,hmb,hda,hdb,aV,number,FP.free,h,hxy]
 ·simp[px,f146,aC,af,aH,ao,aq,aG,ag,ai,an,aj,aF,aA,FzZ,bc,aw,bj,az,bg,bm,partOf,aa,ae,ab,bd,FC,h41,h0,h1,h5,uD,s32,a32,hma,hmb,hda,hdb,aV,number,FP.free,h,hxy]
theorem zy (L:Lst)(run:ar)(k:Nat)(a b:List Nat)(hab:a.length=b.length)(hl:a.length<1000000)(ha:Dok a)(hb:Dok b):∀ (m:Nat) (fr:List PV),m≤a.length →
  fr.length=41→nth fr 0=aQ a→nth fr 1=aQ b→nth fr 5 = .sc (.int .i64 ((m:Int) - 1))→a.drop m=b.drop m →
  (∃ fr',cu (af (CC L) run k px) (m+1) ⟨fr,[],[]⟩=some (.exit 0,⟨fr',[],[]⟩)∧fr'.length=41∧ee (val a) (val b)=0) ∨
  (∃ fr',cu (af (CC L) run k px) (m+1) ⟨fr,[],[]⟩=some (.ret,⟨fr',[],[]⟩)∧nth fr' 4 = .sc (.int .i64 (ee (val a) (val b))))
 | 0,fr,hm,h41,h0,h1,h5,hd=>by
  obtain⟨fr',g1,g2⟩:=QV L run k fr h41 h5
  refine .inl ⟨fr',bD g1,g2,?_⟩
  simp at hd
  simp[ee,hd]
 | m+1,fr,hm,h41,h0,h1,h5,hd=>by
  have h5':nth fr 5 = .sc (.int .i64 (m:Int)):=by rw[h5];simp
  have hmb:m<b.length:=by omega
  have hma:m<a.length:=by omega
  by_cases h:a[m]=b[m]
  ·obtain⟨fr1,g1,g2,g3,g4,g5⟩:=size_eq L run k fr a b m hma hmb hl h41 h0 h1 h5' h
   have hd':a.drop m=b.drop m:=by rw[drop_eq_getElem_cons hma,drop_eq_getElem_cons hmb,hd,h]
   rw[ct g1]
   exact zy L run k a b hab hl ha hb m fr1 (by omega) g2 g3 g4 g5 hd'
  ·obtain⟨fr1,g1,g2,g3⟩:=YL L run k fr a b m hma hmb hl h41 h0 h1 h5' h
   refine .inr ⟨fr1,eM g1,?_⟩
   rw[g3]
   by_cases hxy:a[m]<b[m]
   ·have:=lJ ha hma hmb hd hxy
    rw[if_pos hxy,ee,if_pos this]
   ·have:=lJ hb hmb hma hd.symm (by omega)
    rw[if_neg hxy,ee,if_neg (by omega),if_neg (by omega)]
def pw (a b:List Nat):Int:=if a.length<b.length then -1 else if b.length<a.length then 1 else ee (val a) (val b)
theorem Mp (L:Lst)(run:ar)(k:Nat)(a b:List Nat)(h:a.length≠b.length) :
  ∃ st,af (CC L) run k lP ⟨entry 41 [aQ a,aQ b],[],[]⟩=some (.ret,st)∧aU TT st.fr st.hp f146.results.toList=some [Ab.bz (pw a b)]:=by
 by_cases hx:a.length<b.length
 ·simp[lP,f146,entry,nth,dR,af,aH,ao,aq,aG,ag,ai,an,aj,aF,aA,FzZ,bc,aw,bj,az,bO,bd,cB,FC,uD,h,hx,aU,pw,Ab.bz]
 ·have:b.length<a.length:=by omega
  simp[lP,f146,entry,nth,dR,af,aH,ao,aq,aG,ag,ai,an,aj,aF,aA,FzZ,bc,aw,bj,az,bO,bd,cB,FC,uD,h,hx,this,aU,pw,Ab.bz]
theorem Mo (L:Lst)(run:ar)(k:Nat)(a b:List Nat)(h:a.length=b.length)(hl:a.length<1000000) :
  ∃ fr,aX (CC L) run k 2 lP ⟨entry 41 [aQ a,aQ b],[],[]⟩=some ⟨fr,[],[]⟩∧fr.length=41∧nth fr 0=aQ a∧nth fr 1=aQ b:=by
 simp[lP,f146,aX,entry,nth,dR,af,aH,ao,aq,aG,ag,ai,an,aj,aF,aA,FzZ,bc,aw,bj,az,bO,bd,cB,uD,h]
noncomputable def Gu:Code:=seq1 (seq1 (ah 2 lP))
theorem wv:ah 2 lP = .seq (.seq Gu (.block 0 (.loop px))) (ah 3 lP):=rfl
theorem YK (L:Lst)(run:ar)(k:Nat)(fr:List PV)(a b:List Nat)(hl:a.length<1000000)(h41:fr.length=41)(h0:nth fr 0=aQ a)(h1:nth fr 1=aQ b) :
  ∃ fr',af (CC L) run k Gu ⟨fr,[],[]⟩=some (.normal,⟨fr',[],[]⟩)∧fr'.length=41∧nth fr' 0=aQ a∧nth fr' 1=aQ b∧nth fr' 5 = .sc (.int .i64 ((a.length:Int) - 1)):=by
 have hw:bE .i64 ((a.length:Int) - 1)=(a.length:Int) - 1:=cU _ (by omega)
 simp[Gu,lP,ah,seq1,f146,af,aH,ao,aq,aG,ag,ai,an,aj,aF,aA,FzZ,bc,aw,bj,az,bO,aa,ae,ab,bd,cB,uD,h41,h0,h1,hw]
theorem Mq (L:Lst)(run:ar)(k:Nat)(fr:List PV)(h41:fr.length=41) :
  ∃ st,af (CC L) run k (ah 3 lP) ⟨fr,[],[]⟩=some (.ret,st)∧aU TT st.fr st.hp f146.results.toList=some [Ab.bz 0]:=by
 simp[lP,ah,f146,af,aH,ao,aq,aG,ag,ai,an,aj,aF,aA,FzZ,az,aa,h41,aU,Ab.bz]
theorem df {C:Cfg}{run:ar}{k i:Nat}{b:Code}{st st':St}(h:cu (af C run k b) k st=some (.ret,st')):af C run k (.block i (.loop b)) st=some (.ret,st'):=by
 simp only[af,h]
theorem cC {C:Cfg}{run:ar}{k:Nat}{a b:Code}{st st':St}(h:af C run k a st=some (.ret,st')):af C run k (.seq a b) st=some (.ret,st'):=by
 simp only[af,h]
def tK:List PV→Option (List PV)
 | [p,q]=>match iw p,iw q with
  | some a,some b=>some [Ab.bz (pw a b)]
  | _,_=>none
 | _=>none
theorem eY (hp:List Blk)(z:Int):bq (snap hp bn) [Ab.bz z]=some ([Ab.bz z],[]):=rfl
theorem zw:Ab.Spec base.P 146 tK:=Ab.Spec.bM (C:=CC []) (cP trivial) fun args rs h=>by
 unfold tK at h
 split at h
 ·split at h
  ·rename_i a b ea eb
   obtain⟨rfl,ha,hla⟩:=dI ea
   obtain⟨rfl,hb,hlb⟩:=dI eb
   simp only[OiE] at h
   subst h
   by_cases hab:a.length=b.length
   ·obtain⟨fr1,h1,h2,h3,h4⟩:=Mo [] (runK (CC []) (a.length+1)) (a.length+1) a b hab hla
    obtain⟨fr2,g1,g2,g3,g4,g5⟩:=YK [] (runK (CC []) (a.length+1)) (a.length+1) fr1 a b hla h2 h3 h4
    have hs:pw a b=ee (val a) (val b):=by simp[pw,hab]
    rcases zy [] (runK (CC []) (a.length+1)) (a.length+1) a b hab hla ha hb a.length fr2 (Nat.le_refl _) g2 g3 g4 g5 (by simp[hab]) with ⟨fr3,q1,q2,q3⟩| ⟨fr3,q1,q2⟩
    ·obtain⟨st,e1,e2⟩:=Mq [] (runK (CC []) (a.length+1)) (a.length+1) fr3 q2
     have hx:af (CC []) (runK (CC []) (a.length+1)) (a.length+1) lP ⟨entry 41 [aQ a,aQ b],[],[]⟩=some (.ret,st):=by
      rw[aO 2 h1,wv,av ((av g1).trans (bN q1))]
      exact e1
     rw[hs,q3]
     exact⟨a.length+2,_,_,_,_,_,aP tz rfl hx e2,eY _ _,Wk.refl rfl,trivial⟩
    ·have hx:af (CC []) (runK (CC []) (a.length+1)) (a.length+1) lP ⟨entry 41 [aQ a,aQ b],[],[]⟩=some (.ret,⟨fr3,[],[]⟩):=by
      rw[aO 2 h1,wv,cC ((av g1).trans (df q1))]
     have e2:aU TT fr3 [] f146.results.toList=some [Ab.bz (ee (val a) (val b))]:=by
      simp[f146,aU,q2,Ab.bz]
     rw[hs]
     exact⟨a.length+2,_,_,_,_,_,aP tz rfl hx e2,eY _ _,Wk.refl rfl,trivial⟩
   ·obtain⟨st,e1,e2⟩:=Mp [] (runK (CC []) 1) 1 a b hab
    exact⟨2,_,_,_,_,_,aP tz rfl e1 e2,eY _ _,Wk.refl rfl,trivial⟩
  ·cases h
 ·cases h
theorem oh (n:Nat):eL TT 68 1 [(0,dg n)]=some (1,[dg n]):=U0 uD s32 z32 n
noncomputable def xt:Code:=((f160.body).bind aC).getD .skip
noncomputable def kY:Code:=f160.body.getD .skip
theorem Tq (L:Lst)(run:ar)(k:Nat)(fr:List PV)(hp:List Blk)(wr:List Nat)(n:Nat)(h52:fr.length=52)
  (h21:nth fr 21 = .sc (.int .i64 (n:Int))) (h22:nth fr 22 = .sc (.int .i64 (n:Int))) :
  ∃ fr',af (CC L) run k xt ⟨fr,hp,wr⟩=some (.exit 0,⟨fr',hp,wr⟩)∧fr'.length=52∧nth fr' 5=nth fr 5∧nth fr' 6=nth fr 6:=by
 simp[xt,f160,aC,af,aH,ao,aq,aG,ag,ai,an,aj,aF,aA,FzZ,bc,aw,bj,aa,ae,ab,h52,h21,h22]
set_option maxHeartbeats 2000000 in
theorem HR (L:Lst)(run:ar)(k:Nat)(fr:List PV)(hp:List Blk)(wr:List Nat)(a b out:List Nat)(i c s:Nat)(ha:Dok a)(hb:Dok b)(hc:c≤1)(hi:i<a.length)(hl:a.length<1000000)
  (h52:fr.length=52) (h20:nth fr 20=aQ a) (h21:nth fr 21 = .sc (.int .i64 (a.length:Int))) (h22:nth fr 22 = .sc (.int .i64 (i:Int))) (h1:nth fr 1=aQ b)
  (h6:nth fr 6 = .sc (.int .u32 (c:Int))) (hO:dU 0 hp out (nth fr 5)) (ho:out.length=i) (hs:s=at0 a i+c+at0 b i) :
  ∃ fr' hp' wr',af (CC L) run k xt ⟨fr,hp,wr⟩=some (.normal,⟨fr',hp',wr'⟩)∧fr'.length=52∧nth fr' 20=aQ a∧nth fr' 21 = .sc (.int .i64 (a.length:Int))
   ∧ nth fr' 22 = .sc (.int .i64 ((i+1:Nat):Int))∧nth fr' 1=aQ b∧nth fr' 6 = .sc (.int .u32 ((s / 1000000000:Nat):Int))∧dU 0 hp' (out++[s % 1000000000]) (nth fr' 5):=by
 have hda:=ff a i hi
 have hax:=ha.get hi
 rw[dm hi] at hs
 generalize a[i]=x at *
 have e1:aQ a = .imm a.length false (a.map dg):=rfl
 have e2:aQ b = .imm b.length false (b.map dg):=rfl
 have hdx:dg x = .sc (.int .u32 (x:Int)):=rfl
 rw[e1] at h20 ⊢;rw[e2] at h1 ⊢;rw[hdx] at hda
 obtain⟨s1,hs1⟩:∃ s1,s1=x+c:=⟨_,rfl⟩
 have hw1:bE .u32 ((x:Int)+(c:Int))=(s1:Int):=dD .u32 x c s1 hs1 (iZ (by omega))
 have hwi:=bH i (by omega)
 have hb9:=cF hb i
 obtain⟨q,hq⟩:∃ q,q=s / 1000000000:=⟨_,rfl⟩
 obtain⟨r,hr⟩:∃ r,r=s % 1000000000:=⟨_,rfl⟩
 have hw3:bE .u32 ((s:Int) / 1000000000)=(q:Int):=jQ .u32 s q hq (iZ (by omega))
 obtain⟨p',hp',fp,h7,h8,h9⟩:=hO.app r (ho ▸ Nat.lt_trans hi (Nat.lt_trans hl (by decide)))
 rw[← hq,← hr]
 by_cases hib:i<b.length
 ·have hdb:=ff b i hib
  rw[dm hib] at hs hb9
  generalize b[i]=y at *
  have hdy:dg y = .sc (.int .u32 (y:Int)):=rfl
  rw[hdy] at hdb
  have hw2:bE .u32 ((s1:Int)+(y:Int))=(s:Int):=dD .u32 s1 y s (by omega) (iZ (by omega))
  have hw4:((s:Int).tmod 1000000000)=(r:Int):=lO s r hr
  simp[xt,f160,aC,af,aH,ao,aq,aG,ag,ai,an,aj,aF,aA,FzZ,bc,aw,bj,az,bO,bg,bm,partOf,aa,ae,ab,bd,and_assoc,cX,bh,dE,h52,h20,h21,h22,h1,h6,uD,s32,b32,z32,a32,hi,hib,hda,hdb,aV,hw1,hw2,hw3,hw4,hwi,il r,oh,nM,jV,cg,h7,h8]
 ·rw[jq (Nat.le_of_not_lt hib)] at hs
  have:s1=s:=by omega
  subst this
  have hw4:((s1:Int).tmod 1000000000)=(r:Int):=lO s1 r hr
  simp[xt,f160,aC,af,aH,ao,aq,aG,ag,ai,an,aj,aF,aA,FzZ,bc,aw,bj,az,bO,bg,bm,partOf,aa,ae,ab,bd,and_assoc,cX,bh,dE,h52,h20,h21,h22,h1,h6,uD,s32,b32,z32,a32,hi,hib,hda,aV,hw1,hw3,hw4,hwi,il r,oh,nM,jV,cg,h7,h8]
theorem NY {va vb vo x c y P s q r:Nat}(h:vo+c*P=va+vb)(hs:s=x+c+y)(hq:q=s / 1000000000)(hr:r=s % 1000000000) :
  vo+P*r+q*(P*1000000000)=va+x*P+(vb+y*P):=by
 have e:s=r+1000000000*q:=by omega
 have e2:s*P=(r+1000000000*q)*P:=by rw[e]
 subst hs
 simp only[Nat.add_mul] at e2 ⊢
 have e3:1000000000*q*P=q*(P*1000000000):=by grind
 have e4:r*P=P*r:=Nat.mul_comm _ _
 omega
theorem Aj (L:Lst)(run:ar)(k:Nat)(a b:List Nat)(ha:Dok a)(hb:Dok b)(hl:a.length<1000000):∀ (n i:Nat) (fr:List PV) (hp:List Blk) (wr:List Nat) (out:List Nat) (c:Nat),i+n=a.length →
  fr.length=52→nth fr 20=aQ a→nth fr 21 = .sc (.int .i64 (a.length:Int))→nth fr 22 = .sc (.int .i64 (i:Int))→nth fr 1=aQ b→nth fr 6 = .sc (.int .u32 (c:Int))→dU 0 hp out (nth fr 5)→out.length=i →
  Dok out→c≤1→val out+c*1000000000 ^ i=val (a.take i)+val (b.take i) →
  ∃ (fr':List PV) (hp':List Blk) (wr':List Nat) (out':List Nat) (c':Nat),cu (af (CC L) run k xt) (n+1) ⟨fr,hp,wr⟩=some (.exit 0,⟨fr',hp',wr'⟩)∧fr'.length=52∧nth fr' 6 = .sc (.int .u32 (c':Int))∧dU 0 hp' out' (nth fr' 5)∧out'.length=a.length
   ∧ Dok out'∧c'≤1∧val out'+c'*1000000000 ^ a.length=val a+val (b.take a.length)
 | 0,i,fr,hp,wr,out,c,hi,h52,h20,h21,h22,h1,h6,hO,ho,hd,hc,hv=>by
  have:i=a.length:=by omega
  subst this
  obtain⟨fr',g1,g2,g3,g4⟩:=Tq L run k fr hp wr a.length h52 h21 h22
  exact⟨fr',hp,wr,out,c,bD g1,g2,by rw[g4,h6],by rw[g3];exact hO,ho,hd,hc,by rw[hv,take_length]⟩
 | n+1,i,fr,hp,wr,out,c,hi,h52,h20,h21,h22,h1,h6,hO,ho,hd,hc,hv=>by
  obtain⟨fr1,hp1,wr1,g1,g2,g3,g4,g5,g6,g7,g8⟩:=HR L run k fr hp wr a b out i c _ ha hb hc (by omega) hl h52 h20 h21 h22 h1 h6 hO ho rfl
  obtain⟨fr',hp',wr',out',c',q1,q2⟩:=Aj L run k a b ha hb hl n (i+1) fr1 hp1 wr1 _ _ (by omega) g2 g3 g4 g5 g6 g7 g8 (by simp[ho]) (hd.append (Dok.nil.cons (Nat.mod_lt _ (by omega))))
   (by have:=cF ha i;have:=cF hb i;omega)
   (by
    rw[cI,cI,dP,ho,Nat.pow_succ]
    exact NY hv rfl rfl rfl)
  exact⟨fr',hp',wr',out',c',by rw[ct g1];exact q1,q2⟩
noncomputable def Ts:Code:=seq1 (seq1 (ah 4 kY))
theorem HQ:ah 4 kY = .seq (.seq Ts (.block 0 (.loop xt))) (ah 5 kY):=rfl
theorem N1 (L:Lst)(run:ar)(k:Nat)(a b:List Nat)(a' b':List Nat)(hab:(b.length≤a.length∧a'=a∧b'=b)∨(a.length<b.length∧a'=b∧b'=a)) :
  ∃ fr wr,aX (CC L) run k 2 kY ⟨entry 52 [aQ a,aQ b],[],[]⟩=some ⟨fr,[],wr⟩∧fr.length=52∧nth fr 0=aQ a'∧nth fr 1=aQ b':=by
 obtain⟨e1,e2,e3⟩:=cn 50 (aQ a) (aQ b)
 generalize entry 52 [aQ a,aQ b]=fr0 at *
 rcases hab with ⟨h,rfl,rfl⟩| ⟨h,rfl,rfl⟩
 ·have hn : ¬ (a'.length<b'.length):=by omega
  simp[kY,f160,aX,e1,e2,e3,af,aH,ao,aq,aG,ag,ai,an,aj,aF,aA,FzZ,bc,aw,bj,az,bO,aa,ae,ab,bd,and_assoc,cB,uD,hn]
 ·simp[kY,f160,aX,e1,e2,e3,af,aH,ao,aq,aG,ag,ai,an,aj,aF,aA,FzZ,bc,aw,bj,az,bO,aa,ae,ab,bd,and_assoc,cB,uD,h]
theorem N0 (L:Lst)(run:ar)(k:Nat)(a:List Nat)(fr0:List PV)(wr0:List Nat)(hl:a.length<1000000)(e1:fr0.length=52)(e2:nth fr0 0=aQ a) :
  ∃ fr hp wr,aX (CC L) run k 2 (ah 2 kY) ⟨fr0,[],wr0⟩=some ⟨fr,hp,wr⟩∧fr.length=52∧nth fr 0=aQ a∧nth fr 1=nth fr0 1∧nth fr 6 = .sc (.int .u32 (0:Nat))∧dU 0 hp [] (nth fr 5):=by
 have hO:∀ n,dU 0 [⟨.live,rep n [dg 0]⟩] [] (.own 0 1 0 0 false):=fun n=>⟨Nat.zero_le _,.inr ⟨0,List.replicate n 0,Nat.le_refl _,by simp,rfl,by rw[sF];rfl⟩⟩
 have hw:=bH a.length (by omega)
 have h1:a.length+1≤cS:=Nat.le_trans (show a.length+1≤1000000 by assumption) (by decide)
 simp[kY,ah,f160,aX,e1,e2,af,aH,ao,aq,aG,ag,ai,an,aj,aF,aA,FzZ,bc,aw,bj,az,bO,ke,jr,aa,ae,ab,bd,and_assoc,cB,uD,hw,s32,b32,z32,cg,h1,aM,hO]
theorem aeC (L:Lst)(run:ar)(k:Nat)(fr:List PV)(hp:List Blk)(wr:List Nat)(a:List Nat)(h52:fr.length=52)(h0:nth fr 0=aQ a) :
  ∃ fr',af (CC L) run k Ts ⟨fr,hp,wr⟩=some (.normal,⟨fr',hp,wr⟩)∧fr'.length=52∧nth fr' 20=aQ a∧nth fr' 21 = .sc (.int .i64 (a.length:Int))∧nth fr' 22 = .sc (.int .i64 (0:Nat))
   ∧ nth fr' 1=nth fr 1∧nth fr' 6=nth fr 6∧nth fr' 5=nth fr 5:=by
 simp[Ts,kY,ah,seq1,f160,af,aH,ao,aq,aG,ag,ai,an,aj,aF,aA,FzZ,az,bO,aa,ae,ab,bd,cB,uD,h52,h0]
theorem N2 (L:Lst)(run:ar)(k:Nat)(fr:List PV)(hp:List Blk)(wr:List Nat)(out:List Nat)(c:Nat)(hl:out.length<1000000)(h52:fr.length=52)(h6:nth fr 6 = .sc (.int .u32 (c:Int)))(hO:dU 0 hp out (nth fr 5)) :
  ∃ st p',af (CC L) run k (ah 5 kY) ⟨fr,hp,wr⟩=some (.ret,st)∧aU TT st.fr st.hp f160.results.toList=some [p']∧dU 0 st.hp (out++[c]) p':=by
 obtain⟨p',hp',fp,h7,h8,h9⟩:=hO.app c (by omega)
 simp[kY,ah,f160,af,aH,ao,aq,aG,ag,ai,an,aj,aF,aA,FzZ,az,aa,ae,ab,bd,bh,dE,uD,h52,h6,s32,b32,z32,il c,oh,nM,jV,cg,h7,h8,aU]
def DU:List PV→Option (List PV)
 | [p,q]=>match iw p,iw q with
  | some a,some b=>some [aQ (di (Nat.max a.length b.length+1) (val a+val b))]
  | _,_=>none
 | _=>none
theorem NZ:Ab.Spec base.P 160 DU:=Ab.Spec.bM (C:=CC []) (cP trivial) fun args rs h=>by
 unfold DU at h
 split at h
 ·split at h
  ·rename_i a b ea eb
   obtain⟨rfl,ha,hla⟩:=dI ea
   obtain⟨rfl,hb,hlb⟩:=dI eb
   simp only[OiE] at h
   subst h
   obtain⟨a',b',hab,hsum,hmax,ha',hb',hla',hle⟩:∃ a' b',((b.length≤a.length∧a'=a∧b'=b)∨(a.length<b.length∧a'=b∧b'=a))∧val a'+val b'=val a+val b∧a'.length=Nat.max a.length b.length∧Dok a'∧Dok b'∧a'.length<1000000∧b'.length≤a'.length:=by
    by_cases hx:b.length≤a.length
    ·exact⟨a,b,.inl ⟨hx,rfl,rfl⟩,rfl,(Nat.max_eq_left hx).symm,ha,hb,hla,hx⟩
    ·exact⟨b,a,.inr ⟨by omega,rfl,rfl⟩,Nat.add_comm _ _,(Nat.max_eq_right (by omega)).symm,hb,ha,hlb,by omega⟩
   obtain⟨fr0,wr0,h01,h02,h03,h04⟩:=N1 [] (runK (CC []) (a'.length+1)) (a'.length+1) a b a' b' hab
   obtain⟨fr1,hp1,wr1,h1,h2,h3,h4,h5,h6⟩:=N0 [] (runK (CC []) (a'.length+1)) (a'.length+1) a' fr0 wr0 hla' h02 h03
   obtain⟨fr2,g1,g2,g3,g4,g5,g6,g7,g8⟩:=aeC [] (runK (CC []) (a'.length+1)) (a'.length+1) fr1 hp1 wr1 a' h2 h3
   obtain⟨fr3,hp3,wr3,out,c,q1,q2,q3,q4,q5,q6,q7,q8⟩:=Aj [] (runK (CC []) (a'.length+1)) (a'.length+1) a' b' ha' hb' hla' a'.length 0 fr2 hp1 wr1 [] 0 (by simp) g2 g3 g4 g5 (by rw[g6,h4,h04]) (by rw[g7,h5]) (by rw[g8];exact h6) rfl Dok.nil (by omega) (by simp[val])
   obtain⟨st,p',e1,e2,e3⟩:=N2 [] (runK (CC []) (a'.length+1)) (a'.length+1) fr3 hp3 wr3 out c (by omega) q2 q3 q4
   have hx:af (CC []) (runK (CC []) (a'.length+1)) (a'.length+1) kY ⟨entry 52 [aQ a,aQ b],[],[]⟩=some (.ret,st):=by
    rw[aO 2 h01,aO 2 h1,show ah 2 (ah 2 kY)=ah 4 kY from rfl,HQ,av ((av g1).trans (bN q1))]
    exact e1
   have hout:out++[c]=di (Nat.max a.length b.length+1) (val a+val b):=by
    refine (q6.append (Dok.nil.cons (by omega))).pZ (by simp[q5,hmax]) ?_
    rw[dP,q5,← hsum,Nat.mul_comm,q8,cL _ _ hle]
   obtain⟨rs2,ids,r1,r2⟩:=e3.HW
   rw[hout] at r2
   exact⟨a'.length+2,_,_,_,rs2,ids,aP PG rfl hx e2,r1,r2⟩
  ·cases h
 ·cases h
end Go.Proofs.YtjdmodeenbdfpaaGreat
