/- Contracts of num's integers, part 15 of the proof; each lemma states its own conditions. -/
import Derived.Test.YtjdmodeenbdfpaaGreatR14
set_option linter.unusedSimpArgs false
set_option linter.unusedVariables false
namespace Go.Proofs.YtjdmodeenbdfpaaGreat
open Go Go.Ab
noncomputable def ofB:Code:=((Tryz.f97.body).bind az).getD .skip
set_option maxHeartbeats 1000000 in
theorem Ri (L:List (Nat × (List PV→Option (List PV))))(run:ar)(k:Nat)(fr:List PV)(hp:List Blk)(wr:List Nat)(u:Nat)(l:List Nat)
  (hu:u≠0) (hu2:u<18446744073709551616) (h20:fr.length=26) (h3:nth fr 3 = .sc (.int .u64 (Int.ofNat u))) (hO:dI 1 hp l (nth fr 5)) (hl:l.length<1000) :
  ∃ fr' hp' wr',af (CC L) run k ofB ⟨fr,hp,wr⟩=some (.normal,⟨fr',hp',wr'⟩)∧fr'.length=26∧nth fr' 3 = .sc (.int .u64 (Int.ofNat (u / 1000000000)))
   ∧ dI 1 hp' (l++[u % 1000000000]) (nth fr' 5)∧nth fr' 2=nth fr 2∧nth fr' 4=nth fr 4∧aV hp' 0=aV hp 0:=by
 have hq:bA .u64 ((u:Int) / 1000000000)=Int.ofNat (u / 1000000000):=dy .u64 (u / 1000000000) (by simp[hiN];omega)
 have hc:bA .u32 ((u:Int).tmod 1000000000)=Int.ofNat (u % 1000000000):=dy .u32 (u % 1000000000) (by simp[hiN];omega)
 generalize u / 1000000000=q at *
 generalize u % 1000000000=r at *
 obtain⟨p',hp',fp,ha,hO',hk⟩:=hO.app r (by omega)
 have hu0:0<u:=by omega
 have hdg:PV.sc (.int .u32 (r:Int))=dg r:=rfl
 have hlit:ie TT 68 1 [(0,dg r)]=some (1,[dg r]):=by
  simp[ie,uD,s32,z32,rep,dR,fV,cj]
 have hrd:fO hp 1 (.imm 1 true [dg r])=some (1,[dg r],[]):=by simp[fO]
 have hif:cq [dg r]=true:=rfl
 have hk0:=hk 0 (by omega)
 simp[ofB,Tryz.f97,az,af,aJ,ao,aq,aH,ag,ai,aj,an,aF,aC,FP.none,bd,au,bj,aw,aa,ae,ab,bh,and_assoc,bg,du,h20,h3,dF,u32,u64,uD,s32,b32,z32,hq,hc,hu0,hdg,hlit,hrd,hif,cn,ha,hO',hk0]
theorem Xy (L:List (Nat × (List PV→Option (List PV))))(run:ar)(k:Nat)(fr:List PV)(hp:List Blk)(wr:List Nat)
  (h20:fr.length=26) (h3:nth fr 3 = .sc (.int .u64 (Int.ofNat 0))) :
  ∃ fr',af (CC L) run k ofB ⟨fr,hp,wr⟩=some (.exit 0,⟨fr',hp,wr⟩)∧nth fr' 5=nth fr 5∧nth fr' 2=nth fr 2∧nth fr' 4=nth fr 4∧fr'.length=26:=by
 simp[ofB,Tryz.f97,az,af,aJ,ao,aq,aH,ag,ai,aj,an,aF,aC,FP.none,bd,au,bj,aw,aa,ae,ab,h20,h3]
theorem IG (L:List (Nat × (List PV→Option (List PV))))(run:ar)(k:Nat):∀ (j u:Nat) (l:List Nat) (fr:List PV) (hp:List Blk) (wr:List Nat),
  u<1000000000 ^ j→l.length+j<1000→u<18446744073709551616→fr.length=26→nth fr 3 = .sc (.int .u64 (Int.ofNat u))→dI 1 hp l (nth fr 5) →
  ∃ fr' hp' wr',cl (af (CC L) run k ofB) (j+1) ⟨fr,hp,wr⟩=some (.exit 0,⟨fr',hp',wr'⟩)∧fr'.length=26
   ∧ dI 1 hp' (l++aG u) (nth fr' 5)∧nth fr' 2=nth fr 2∧nth fr' 4=nth fr 4∧aV hp' 0=aV hp 0
 | j,u,l,fr,hp,wr,hu,hl,hu2,h20,h3,hO=>by
  by_cases h0:u=0
  ·subst h0
   obtain⟨fr',h1,h2,h4,h5,h6⟩:=Xy L run k fr hp wr h20 h3
   refine⟨fr',hp,wr,bD h1,h6,?_,h4,h5,rfl⟩
   rw[h2,fj,List.append_nil];exact hO
  ·cases j with
   | zero=>simp at hu;omega
   | succ j =>
    obtain⟨fr1,hp1,wr1,h1,h2,h4,h5,h6,h7,h8⟩:=Ri L run k fr hp wr u l h0 hu2 h20 h3 hO (by omega)
    obtain⟨fr',hp',wr',g1,g2,g3,g4,g5,g6⟩:=IG L run k j (u / 1000000000) (l++[u % 1000000000]) fr1 hp1 wr1 (by rw[Nat.pow_succ] at hu;omega) (by simp;omega) (by omega) h2 h4 h5
    refine⟨fr',hp',wr',by rw[ch h1];exact g1,g2,?_,by rw[g4,h6],by rw[g5,h7],by rw[g6,h8]⟩
    rw[dX h0]
    simpa using g3
noncomputable def ofC:Code:=Tryz.f97.body.getD .skip
theorem Q9:ah 4 ofC = .seq (.block 0 (.loop ofB)) (ah 5 ofC):=rfl
theorem abL (L:List (Nat × (List PV→Option (List PV))))(run:ar)(k:Nat)(z:Int)(h1 : -9223372036854775808≤z)(h2:z<9223372036854775808) :
  ∃ fr hp wr,aY (CC L) run k 4 ofC ⟨entry 26 [Ab.bJ z],[],[]⟩=some ⟨fr,hp,wr⟩∧fr.length=26∧nth fr 3 = .sc (.int .u64 (Int.ofNat z.natAbs))∧nth fr 5 = .sc (.slice none 0 0)
   ∧ nth fr 2 = .ptr 0 0∧nth fr 4 = .sc (.bool (bx z))∧hp=[⟨.live,[.sc (.bool false),.sc (.slice none 0 0)]⟩]:=by
 cases z with
 | ofNat n =>
  have hw:bA .u64 (n:Int)=Int.ofNat n:=dy .u64 n (by simp[hiN];simp at h2;omega)
  have hlt:((n:Int)<0)=False:=by simp
  simp[ofC,Tryz.f97,aY,entry,nth,fm,Ab.bJ,af,aJ,ao,aq,aH,ag,ai,aj,an,aF,aC,FP.none,bd,au,bj,aw,bh,and_assoc,dF,uI,u64,zW,aO,hw,bx,hlt]
 | negSucc n =>
  have hw:bA .u64 (Int.negSucc n)=Int.ofNat (18446744073709551616 - (n+1)):=by
   have:=ud (n:=n+1) (by omega) (by omega)
   rw[← this];rfl
  have hlt:(Int.negSucc n<0)=True:=by simp
  have hw2:bA .u64 (-((18446744073709551616 - (n+1):Nat):Int))=(n:Int)+1:=by
   rw[ud (by omega) (by omega)]
   simp;omega
  simp only[Int.ofNat_eq_natCast] at hw
  generalize 18446744073709551616 - (n+1)=m at *
  simp[ofC,Tryz.f97,aY,entry,nth,fm,Ab.bJ,af,aJ,ao,aq,aH,ag,ai,aj,an,aF,aC,FP.none,bd,au,bj,aw,unP,bh,and_assoc,dF,uI,u64,zW,aO,hw,hw2,bx,hlt]
theorem Xz (L:List (Nat × (List PV→Option (List PV))))(run:ar)(k:Nat)(fr:List PV)(hp:List Blk)(wr:List Nat)(n:Bool)(l:List Nat)(p:PV)
  (h20:fr.length=26) (h2:nth fr 2 = .ptr 0 0) (h4:nth fr 4 = .sc (.bool n)) (h5:nth fr 5=p) (hO:dI 1 hp l p) (hb:aV hp 0=some ⟨.live,[.sc (.bool false),.sc (.slice none 0 0)]⟩) :
  ∃ st,af (CC L) run k (ah 5 ofC) ⟨fr,hp,wr⟩=some (.ret,st)∧aZ TT st.fr st.hp Tryz.f97.results.toList=some [.agg [.sc (.bool n),p]]∧st.hp=bO hp 0 ⟨.live,[.sc (.bool n),p]⟩:=by
 have hc:=hO.cells
 have hk:=hO.okc
 have hokb:∀ b,dw (PV.sc (.bool b))=true:=fun _=>rfl
 have hcb:∀ b,(PV.sc (.bool b)).cells?=some [.sc (.bool b)]:=fun _=>rfl
 have hca:∀ cs,(PV.agg cs).cells?=some cs:=fun _=>rfl
 have hn:aV (bO hp 0 ⟨.live,[.sc (.bool n),p]⟩) 0=some ⟨.live,[.sc (.bool n),p]⟩:=by rw[cQ hb,if_pos rfl]
 simp[ofC,ah,Tryz.f97,af,aJ,ao,aq,aH,ag,ai,aj,an,aF,aC,FP.none,aw,partOf,aa,ae,ab,bh,bn,jT,bC,bg,h20,h2,h4,h5,eN,zW,uW,wf0,wf1,sB,sD,sW,aW,dR,jM,hc,hk,cj,hb,aZ,aU,hn,br,bG]
def ofF:List PV→Option (List PV)
 | [.sc (.int .i64 z)]=>bif decide (-9223372036854775808≤z) && decide (z<9223372036854775808) then some [bq z] else none
 | _=>none
theorem lV:Ab.Spec base.P 97 ofF:=Ab.Spec.bQ (C:=CC []) (cV trivial) fun args rs h=>by
 unfold ofF at h
 split at h
 ·rename_i z
  cases hd:decide (-9223372036854775808≤z) && decide (z<9223372036854775808) with
  | false=>rw[hd] at h;cases h
  | true =>
   rw[hd] at h
   simp only[cond_true,Option.some.injEq] at h
   subst h
   simp only[Bool.and_eq_true,decide_eq_true_eq] at hd
   obtain⟨fr1,hp1,wr1,h1,h20,h3,h5,h2,h4,hhp⟩:=abL [] (runK (CC []) 4) 4 z hd.1 hd.2
   obtain⟨fr2,hp2,wr2,g1,g2,g3,g4,g5,g6⟩:=IG [] (runK (CC []) 4) 4 3 z.natAbs [] fr1 hp1 wr1 (by omega) (by simp) (by omega) h20 h3 (by rw[h5];exact dI.nil (by rw[hhp];simp))
   obtain⟨st,e1,e2,e3⟩:=Xz [] (runK (CC []) 4) 4 fr2 hp2 wr2 (bx z) _ _ g2 (by rw[g4,h2]) (by rw[g5,h4]) rfl g3 (by rw[g6,hhp];rfl)
   have hx:af (CC []) (runK (CC []) 4) 4 ofC ⟨entry 26 [Ab.bJ z],[],[]⟩=some (.ret,st):=by
    rw[aP 4 h1,Q9,av (bH g1)]
    exact e1
   obtain⟨rs2,ids,q1,q2⟩:=(g3.set 0 ⟨.live,[.sc (.bool (bx z)),nth fr2 5]⟩ (by omega)).out (bx z)
   rw[← e3] at q1
   exact⟨5,_,_,_,rs2,ids,aX aak rfl hx e2,q1,q2⟩
 ·cases h
abbrev Lst:=List (Nat × (List PV→Option (List PV)))
noncomputable def sa:Code:=((Tryz.f167.body).bind az).getD .skip
theorem aa4 (l:List Nat)(a:Nat)(hp:List Blk):dt TT hp 68 (aM (l++[a])) none (some (.sc (.int .i64 (l.length:Int)))) none=some (aM l):=by
 have h:aM (l++[a]) = .imm (l.length+1) false ((l++[a]).map dg):=by simp[aM]
 rw[h]
 simp only[dt,uD,im,s32,bnd,fk,fX,Option.map]
 simp[gT,br]
 rw[dM (by simp)]
 simp[aM]
set_option maxHeartbeats 1000000 in
theorem JF (L:Lst)(run:ar)(k:Nat)(fr:List PV)(hp:List Blk)(wr:List Nat)(l:List Nat)(a:Nat)(hl:l.length<10000000)(ha:a≠0)
  (h21:fr.length=21) (h0:nth fr 0=aM (l++[a])) :
  ∃ fr',af (CC L) run k sa ⟨fr,hp,wr⟩=some (.exit 0,⟨fr',hp,wr⟩)∧nth fr' 0=nth fr 0∧fr'.length=21:=by
 have hw:bA .i64 ((l.length+1:Nat) - 1:Int)=Int.ofNat l.length:=by
  have:=dy .i64 l.length (by simp[hiN];omega)
  rw[← this];congr 1;omega
 have hw':bA .i64 (l.length:Int)=Int.ofNat l.length:=dy .i64 l.length (by simp[hiN];omega)
 have h:aM (l++[a]) = .imm (l.length+1) false ((l++[a]).map dg):=by simp[aM]
 have hd:(br ((l++[a]).map dg) l.length).head?=some (.sc (.int .u32 a)):=by
  rw[eJ _ _ (by simp)];simp[dg]
 rw[h] at h0
 have ha':((a:Int) == 0)=false:=by simp;exact ha
 simp[sa,Tryz.f167,az,af,aJ,ao,aq,aH,ag,ai,aj,an,aF,aC,FP.none,bd,au,bj,aw,bM,bc,bm,partOf,aa,ae,ab,bh,cS,h21,h0,uD,s32,a32,hw',hd,ha',aU,-List.map_append]
set_option maxHeartbeats 1000000 in
theorem Oa (L:Lst)(run:ar)(k:Nat)(fr:List PV)(hp:List Blk)(wr:List Nat)(h21:fr.length=21)(h0:nth fr 0=aM []) :
  ∃ fr',af (CC L) run k sa ⟨fr,hp,wr⟩=some (.exit 0,⟨fr',hp,wr⟩)∧nth fr' 0=nth fr 0∧fr'.length=21:=by
 have h:aM [] = .imm 0 false []:=rfl
 rw[h] at h0
 simp[sa,Tryz.f167,az,af,aJ,ao,aq,aH,ag,ai,aj,an,aF,aC,FP.none,bd,au,bj,aw,bM,aa,ae,ab,bh,cS,h21,h0,uD,-List.map_append]
set_option maxHeartbeats 1000000 in
theorem VE (L:Lst)(run:ar)(k:Nat)(fr:List PV)(hp:List Blk)(wr:List Nat)(l:List Nat)(hl:l.length<10000000)
  (h21:fr.length=21) (h0:nth fr 0=aM (l++[0])) :
  ∃ fr',af (CC L) run k sa ⟨fr,hp,wr⟩=some (.normal,⟨fr',hp,wr⟩)∧nth fr' 0=aM l∧fr'.length=21:=by
 have hw':bA .i64 (l.length:Int)=Int.ofNat l.length:=dy .i64 l.length (by simp[hiN];omega)
 have h:aM (l++[0]) = .imm (l.length+1) false ((l++[0]).map dg):=by simp[aM]
 have hd:(br ((l++[0]).map dg) l.length).head?=some (.sc (.int .u32 0)):=by
  rw[eJ _ _ (by simp)];simp[dg]
 have hs:=aa4 l 0
 rw[h] at h0 hs
 simp[sa,Tryz.f167,az,af,aJ,ao,aq,aH,ag,ai,aj,an,aF,aC,FP.none,bd,au,bj,aw,bM,bc,bm,partOf,aa,ae,ab,bh,cS,h21,h0,uD,s32,a32,hw',hd,hs,aU,-List.map_append]
theorem xM (L:Lst)(run:ar)(k:Nat):∀ (n:Nat) (l:List Nat) (fr:List PV) (hp:List Blk) (wr:List Nat),l.length=n→n<10000000→fr.length=21→nth fr 0=aM l →
  ∃ fr',cl (af (CC L) run k sa) (n+1) ⟨fr,hp,wr⟩=some (.exit 0,⟨fr',hp,wr⟩)∧nth fr' 0=aM (fe l)∧fr'.length=21
 | 0,l,fr,hp,wr,hl,hn,h21,h0=>by
  have:l=[]:=List.length_eq_zero_iff.1 hl
  subst this
  obtain⟨fr',h1,h2,h3⟩:=Oa L run k fr hp wr h21 h0
  exact⟨fr',bD h1,by rw[h2,h0];rfl,h3⟩
 | n+1,l,fr,hp,wr,hl,hn,h21,h0=>by
  obtain⟨l',a,rfl,hl'⟩:=zJ hl
  by_cases ha:a=0
  ·subst ha
   obtain⟨fr1,h1,h2,h3⟩:=VE L run k fr hp wr l' (by omega) h21 h0
   obtain⟨fr',g1,g2,g3⟩:=xM L run k n l' fr1 hp wr hl' (by omega) h3 h2
   exact⟨fr',by rw[ch h1];exact g1,by rw[g2,eC,if_pos rfl],g3⟩
  ·obtain⟨fr',h1,h2,h3⟩:=JF L run k fr hp wr l' a (by omega) ha h21 h0
   exact⟨fr',bD h1,by rw[h2,h0,eC,if_neg ha],h3⟩
noncomputable def um:Code:=Tryz.f167.body.getD .skip
theorem Ev:ah 1 um = .seq (.block 0 (.loop sa)) (ah 2 um):=rfl
theorem N9 (L:Lst)(run:ar)(k:Nat)(p:PV):∃ fr,aY (CC L) run k 1 um ⟨entry 21 [p],[],[]⟩=some ⟨fr,[],[]⟩∧fr.length=21∧nth fr 0=p:=by
 simp[um,Tryz.f167,aY,entry,nth,fm,af,aJ,ao,aq,aH,ag,ai,aj,an,aF,aC,FP.none,aw]
theorem JG (L:Lst)(run:ar)(k:Nat)(fr:List PV)(hp:List Blk)(wr:List Nat)(p:PV)(h21:fr.length=21)(h0:nth fr 0=p) :
  ∃ st,af (CC L) run k (ah 2 um) ⟨fr,hp,wr⟩=some (.ret,st)∧aZ TT st.fr st.hp Tryz.f167.results.toList=some [p]:=by
 simp[um,ah,Tryz.f167,af,aJ,ao,aq,aH,ag,ai,aj,an,aF,aC,FP.none,aa,ab,h21,h0,aZ]
def jc:List PV→Option (List PV)
 | [p]=>match gW p with
  | some l=>some [aM (fe l)]
  | none=>none
 | _=>none
theorem Ct (hp:List Blk)(l:List Nat):bt (snap hp bp) [aM l]=some ([aM l],[]):=rfl
theorem ji (hp:List Blk)(z:Int):bt (snap hp bp) [bq z]=some ([bq z],[]):=rfl
theorem iK:Ab.Spec base.P 167 jc:=Ab.Spec.bQ (C:=CC []) (cV trivial) fun args rs h=>by
 unfold jc at h
 split at h
 ·split at h
  ·rename_i l hl
   obtain⟨rfl,_,hlen⟩:=dA hl
   simp only[Option.some.injEq] at h
   subst h
   obtain⟨fr1,h1,h20,h0⟩:=N9 [] (runK (CC []) (l.length+1)) (l.length+1) (aM l)
   obtain⟨fr2,g1,g2,g3⟩:=xM [] (runK (CC []) (l.length+1)) (l.length+1) l.length l fr1 [] [] rfl (by omega) h20 h0
   obtain⟨st,e1,e2⟩:=JG [] (runK (CC []) (l.length+1)) (l.length+1) fr2 [] [] _ g3 g2
   have hx:af (CC []) (runK (CC []) (l.length+1)) (l.length+1) um ⟨entry 21 [aM l],[],[]⟩=some (.ret,st):=by
    rw[aP 1 h1,Ev,av (bH g1)]
    exact e1
   exact⟨l.length+2,_,_,_,_,_,aX Nz rfl hx e2,Ct _ _,Wk.refl rfl,trivial⟩
  ·cases h
 ·cases h
def sgn (n:Bool)(v:Nat):Int:=bif n then Int.negOfNat v else Int.ofNat v
theorem aaX {l:List Nat}(h:Dok l)(n:Bool):wh (n && decide (0<(fe l).length)) (fe l)=bq (sgn n (val l)):=by
 rw[eD h]
 cases n with
 | false=>rfl
 | true =>
  by_cases h0:val l=0
  ·rw[h0];rfl
  ·rw[sgn,cond_true,Dl h0]
   have:=cU.2 h0
   simp[this]
def fv:List PV→Option (List PV)
 | [.sc (.bool n),p]=>match gW p with
  | some l=>some [bq (sgn n (val l))]
  | none=>none
 | _=>none
def zu:Lst:=[(167,jc)]
theorem Nc (run:ar)(dr:Bool)(hp:List Blk)(l:List Nat)(hd:Dok l)(hl:l.length<1000000):cg (CC zu) run dr hp 167 [aM l]=some (aM (fe l),hp,⟨[],[],false,false⟩):=by
 have h3:(CC zu).orc 167 [aM l]=some [aM (fe l)]:=by
  show jc (aK [aM l])=_
  simp only[aK,fA,jc,cX hd hl]
 exact eI tG (Ct hp l) h3 rfl
noncomputable def Ii:Code:=Tryz.f152.body.getD .skip
theorem Bs (neg:Bool)(l:List Nat)(hd:Dok l)(hl:l.length<1000000)(run:ar)(k:Nat) :
  ∃ st,af (CC zu) run k Ii ⟨entry 15 [.sc (.bool neg),aM l],[],[]⟩=some (.ret,st)∧aZ TT st.fr st.hp Tryz.f152.results.toList=some [bq (sgn neg (val l))]:=by
 rw[← aaX hd]
 have hc:∀ hp dr,cg (CC zu) run dr hp 167 [aM l]=some (aM (fe l),hp,⟨[],[],false,false⟩):=fun hp dr=>Nc run dr hp l hd hl
 cases neg <;> simp[Ii,Tryz.f152,entry,nth,fm,af,aJ,ao,aq,aH,ag,ai,aQ,aj,an,aF,aC,FP.none,bd,au,bj,aw,bM,partOf,bh,ct,wO,bn,jT,bX,bC,bg,hc,zW,aO,uD,eN,uW,wf0,wf1,sB,sD,sW,aW,dR,jM,cj,aZ,aU,aV,bO,br,bG,wh]
theorem je:Ab.Spec base.P 152 fv:=Ab.Spec.bQ (C:=CC zu) (cV ⟨iK,trivial⟩) fun args rs h=>by
 unfold fv at h
 split at h
 ·split at h
  ·rename_i n p _ l hl
   obtain⟨rfl,hd,hlen⟩:=dA hl
   simp only[Option.some.injEq] at h
   subst h
   obtain⟨st,e1,e2⟩:=Bs n l hd hlen (runK (CC zu) 1) 1
   exact⟨2,_,_,_,_,_,aX DW rfl e1 e2,ji _ _,Wk.refl rfl,trivial⟩
  ·cases h
 ·cases h
end Go.Proofs.YtjdmodeenbdfpaaGreat
namespace Go.Ab
open Go
def db:Nat→Nat→List Nat
 | 0,_=>[]
 | n+1,v=>v % 1000000000::db n (v / 1000000000)
theorem dn:∀ n v,(db n v).length=n
 | 0,_=>rfl
 | n+1,v=>by simp[db,dn n]
theorem gp:∀ n v,Dok (db n v)
 | 0,_=>Dok.nil
 | n+1,v=>(gp n _).cons (by omega)
theorem fi:∀ n v,v<1000000000 ^ n→val (db n v)=v
 | 0,v,h=>by simp at h;subst h;rfl
 | n+1,v,h=>by
  rw[db,val,fi n _ (by rw[Nat.pow_succ] at h;omega)]
  omega
theorem mU:∀ {l:List Nat},Dok l→db l.length (val l)=l
 | [],_=>rfl
 | a::l,h=>by
  have ha:=h.head
  rw[List.length_cons,db,val,Nat.add_mul_mod_self_left,Nat.mod_eq_of_lt ha,Nat.add_mul_div_left _ _ (by omega),Nat.div_eq_of_lt ha,Nat.zero_add,mU h.tail]
theorem Dok.oS {l:List Nat}{n v:Nat}(h:Dok l)(hl:l.length=n)(hv:val l=v):l=db n v:=by
 subst hl;subst hv;exact (mU h).symm
def dQ (a b:Nat):Int:=if a<b then -1 else if a=b then 0 else 1
theorem kN {a:List Nat}{m:Nat}(hm:m<a.length):val a=val (a.take m)+(a[m]*1000000000 ^ m+1000000000 ^ (m+1)*val (a.drop (m+1))):=by
 rw[kO a (m+1) (by omega),gK a m hm]
 omega
theorem kM {a b:List Nat}{m:Nat}(ha:Dok a)(hma:m<a.length)(hmb:m<b.length)(hd:a.drop (m+1)=b.drop (m+1))(h:a[m]<b[m]):val a<val b:=by
 rw[kN hma,kN hmb,hd]
 have h1:=eL (ha.take m)
 rw[List.length_take,Nat.min_eq_left (by omega)] at h1
 have h2:a[m]*1000000000 ^ m+1000000000 ^ m≤b[m]*1000000000 ^ m:=by
  have:=Nat.mul_le_mul_right (1000000000 ^ m) (show a[m]+1≤b[m] from h)
  rw[Nat.add_mul,Nat.one_mul] at this
  exact this
 omega
theorem cI (l:List Nat)(i:Nat)(h:l.length≤i):val (l.take i)=val l:=by
 rw[List.take_of_length_le h]
theorem dp (k:IntKind)(a b s:Nat)(h:s=a+b)(hs:s≤hiN k):bA k ((a:Int)+(b:Int))=(s:Int):=by
 subst h
 exact (by simpa using dy k (a+b) hs)
theorem wrapM (k:IntKind)(a b s:Nat)(h:s=a*b)(hs:s≤hiN k):bA k ((a:Int)*(b:Int))=(s:Int):=by
 subst h
 exact (by simpa using dy k (a*b) hs)
theorem xG (k:IntKind)(a b s:Nat)(h:a=b+s)(hs:s≤hiN k):bA k ((a:Int) - (b:Int))=(s:Int):=by
 have:=dy k s hs
 rw[show ((a:Int) - (b:Int))=(s:Int) by omega];exact this
theorem aal (k:IntKind)(a b s:Nat)(h:s=a / b)(hs:s≤hiN k):bA k ((a:Int) / (b:Int))=(s:Int):=by
 subst h
 exact (by simpa using dy k (a / b) hs)
theorem H9 (a b s:Nat)(h:s=a % b):(a:Int).tmod (b:Int)=(s:Int):=by
 subst h;exact (Int.ofNat_tmod a b).symm
def at0 (l:List Nat)(i:Nat):Nat:=l[i]?.getD 0
theorem de {l:List Nat}{i:Nat}(h:i<l.length):at0 l i=l[i]:=by simp[at0,h]
theorem iV {l:List Nat}{i:Nat}(h:l.length≤i):at0 l i=0:=by simp[at0,h]
theorem cw {l:List Nat}(h:Dok l)(i:Nat):at0 l i<1000000000:=by
 by_cases hi:i<l.length
 ·rw[de hi];exact h.get hi
 ·rw[iV (by omega)];omega
theorem cD (l:List Nat)(i:Nat):val (l.take (i+1))=val (l.take i)+at0 l i*1000000000 ^ i:=by
 by_cases hi:i<l.length
 ·rw[de hi,gK l i hi]
 ·rw[iV (by omega),cI l _ (by omega),cI l _ (by omega)];simp
theorem cu (k:IntKind)(s:Nat)(hs:s≤hiN k):bA k (s:Int)=(s:Int):=dy k s hs
theorem SA {T:Tab}{t e:Nat}(hu:und T t=some (.slice e))(hs:dc T e=some 1)(hz:eK T e=some [dg 0])(n:Nat) :
  ie T t 1 [(0,dg n)]=some (1,[dg n]):=by
 simp[ie,hu,hs,hz,rep,dR,fV,cj]
theorem mP (hp:List Blk)(n:Nat):fO hp 1 (.imm 1 true [dg n])=some (1,[dg n],[]):=by simp[fO]
theorem jt (n:Nat):cq [dg n]=true:=(rfl)
theorem gN (n:Nat):PV.sc (.int .u32 (n:Int))=dg n:=(rfl)
theorem Um (s:Nat):((s:Int) / 1000000000)=((s / 1000000000:Nat):Int):=by omega
theorem jr (k:IntKind)(a s:Nat)(h:s=a / 1000000000)(hs:s≤hiN k):bA k ((a:Int) / 1000000000)=(s:Int):=by
 subst h
 rw[Um];exact dy k _ hs
theorem kS (a s:Nat)(h:s=a % 1000000000):(a:Int).tmod 1000000000=(s:Int):=by
 subst h
 rw[Int.tmod_eq_emod_of_nonneg (by omega)];omega
theorem ly (k:IntKind)(a s:Nat)(h:s=a*1000000000)(hs:s≤hiN k):bA k ((a:Int)*1000000000)=(s:Int):=by
 have e:((a:Int)*1000000000)=(s:Int):=by omega
 rw[e];exact dy k _ hs
theorem cH {x y:Nat}(h:x≤y):(aG x).length≤(aG y).length:=di (Nat.lt_of_le_of_lt h (fy y))
theorem kG {l:List Nat}{m y:Nat}(h:m<l.length):(l.set m y).drop m=y::l.drop (m+1):=by
 rw[List.drop_eq_getElem_cons (by simpa using h)]
 simp[List.drop_set]
theorem ik (l:List Nat)(m:Nat)(h:m<l.length):val (l.drop m)=at0 l m+1000000000*val (l.drop (m+1)):=by
 rw[List.drop_eq_getElem_cons h,val,de h]
theorem Dm {V V' Q R a b:Nat}(hb:0<b)(hV:V'=a+1000000000*V)(hQ:Q=V / b)(hR:R=V % b) :
  (R*1000000000+a) / b+1000000000*Q=V' / b∧(R*1000000000+a) % b=V' % b:=by
 have e:V'=(R*1000000000+a)+b*(1000000000*Q):=by
  have h:=Nat.div_add_mod V b
  rw[← hQ,← hR] at h
  rw[hV,← h]
  grind
 rw[e,Nat.add_mul_div_left _ _ hb,Nat.add_mul_mod_self_left]
 exact⟨rfl,rfl⟩
end Go.Ab
namespace Go.Proofs.YtjdmodeenbdfpaaGreat
open Go Go.Ab
noncomputable def oz:Code:=((Tryz.f146.body).bind az).getD .skip
noncomputable def kT:Code:=Tryz.f146.body.getD .skip
set_option maxHeartbeats 1000000 in
theorem Oq (L:Lst)(run:ar)(k:Nat)(fr:List PV)(h41:fr.length=41)(h5:nth fr 5 = .sc (.int .i64 (-1))) :
  ∃ fr',af (CC L) run k oz ⟨fr,[],[]⟩=some (.exit 0,⟨fr',[],[]⟩)∧fr'.length=41:=by
 simp[oz,Tryz.f146,az,af,aJ,ao,aq,aH,ag,ai,aj,an,aF,aC,FP.none,bd,au,bj,aw,aa,ab,h41,h5]
set_option maxHeartbeats 1000000 in
theorem size_eq (L:Lst)(run:ar)(k:Nat)(fr:List PV)(a b:List Nat)(m:Nat)(hma:m<a.length)(hmb:m<b.length)(hl:a.length<1000000)
  (h41:fr.length=41) (h0:nth fr 0=aM a) (h1:nth fr 1=aM b) (h5:nth fr 5 = .sc (.int .i64 (m:Int))) (h:a[m]=b[m]) :
  ∃ fr',af (CC L) run k oz ⟨fr,[],[]⟩=some (.normal,⟨fr',[],[]⟩)∧fr'.length=41∧nth fr' 0=aM a∧nth fr' 1=aM b∧nth fr' 5 = .sc (.int .i64 ((m:Int) - 1)):=by
 have hw:bA .i64 ((m:Int) - 1)=(m:Int) - 1:=cR m (by omega)
 have hda:=eJ a m hma
 have hdb:=eJ b m hmb
 rw[h] at hda
 generalize b[m]=y at *
 have e1:aM a = .imm a.length false (a.map dg):=rfl
 have e2:aM b = .imm b.length false (b.map dg):=rfl
 have hdg:dg y = .sc (.int .u32 (y:Int)):=rfl
 rw[e1] at h0 ⊢;rw[e2] at h1 ⊢;rw[hdg] at hda hdb
 simp[oz,Tryz.f146,az,af,aJ,ao,aq,aH,ag,ai,aj,an,aF,aC,FP.none,bd,au,bj,aw,bc,bm,partOf,aa,ae,ab,bh,h41,h0,h1,h5,uD,s32,a32,hma,hmb,hda,hdb,aU,number,FP.free,hw]
set_option maxHeartbeats 1000000 in
theorem VJ (L:Lst)(run:ar)(k:Nat)(fr:List PV)(a b:List Nat)(m:Nat)(hma:m<a.length)(hmb:m<b.length)(hl:a.length<1000000)
  (h41:fr.length=41) (h0:nth fr 0=aM a) (h1:nth fr 1=aM b) (h5:nth fr 5 = .sc (.int .i64 (m:Int))) (h:a[m]≠b[m]) :
  ∃ fr',af (CC L) run k oz ⟨fr,[],[]⟩=some (.ret,⟨fr',[],[]⟩)∧fr'.length=41∧nth fr' 4 = .sc (.int .i64 (if a[m]<b[m] then -1 else 1)):=by
 have hda:=eJ a m hma
 have hdb:=eJ b m hmb
 generalize b[m]=y at *
 generalize a[m]=x at *
 have e1:aM a = .imm a.length false (a.map dg):=rfl
 have e2:aM b = .imm b.length false (b.map dg):=rfl
 have hdx:dg x = .sc (.int .u32 (x:Int)):=rfl
 have hdy:dg y = .sc (.int .u32 (y:Int)):=rfl
 rw[e1] at h0;rw[e2] at h1;rw[hdx] at hda;rw[hdy] at hdb
 by_cases hxy:x<y
 ·simp[oz,Tryz.f146,az,af,aJ,ao,aq,aH,ag,ai,aj,an,aF,aC,FP.none,bd,au,bj,aw,bc,bm,partOf,aa,ae,ab,bh,DN,h41,h0,h1,h5,uD,s32,a32,hma,hmb,hda,hdb,aU,number,FP.free,h,hxy]
 ·simp[oz,Tryz.f146,az,af,aJ,ao,aq,aH,ag,ai,aj,an,aF,aC,FP.none,bd,au,bj,aw,bc,bm,partOf,aa,ae,ab,bh,DN,h41,h0,h1,h5,uD,s32,a32,hma,hmb,hda,hdb,aU,number,FP.free,h,hxy]
theorem xS (L:Lst)(run:ar)(k:Nat)(a b:List Nat)(hab:a.length=b.length)(hl:a.length<1000000)(ha:Dok a)(hb:Dok b):∀ (m:Nat) (fr:List PV),m≤a.length →
  fr.length=41→nth fr 0=aM a→nth fr 1=aM b→nth fr 5 = .sc (.int .i64 ((m:Int) - 1))→a.drop m=b.drop m →
  (∃ fr',cl (af (CC L) run k oz) (m+1) ⟨fr,[],[]⟩=some (.exit 0,⟨fr',[],[]⟩)∧fr'.length=41∧dQ (val a) (val b)=0) ∨
  (∃ fr',cl (af (CC L) run k oz) (m+1) ⟨fr,[],[]⟩=some (.ret,⟨fr',[],[]⟩)∧nth fr' 4 = .sc (.int .i64 (dQ (val a) (val b))))
 | 0,fr,hm,h41,h0,h1,h5,hd=>by
  obtain⟨fr',g1,g2⟩:=Oq L run k fr h41 h5
  refine .inl ⟨fr',bD g1,g2,?_⟩
  simp at hd
  simp[dQ,hd]
 | m+1,fr,hm,h41,h0,h1,h5,hd=>by
  have h5':nth fr 5 = .sc (.int .i64 (m:Int)):=by rw[h5];simp
  have hmb:m<b.length:=by omega
  have hma:m<a.length:=by omega
  by_cases h:a[m]=b[m]
  ·obtain⟨fr1,g1,g2,g3,g4,g5⟩:=size_eq L run k fr a b m hma hmb hl h41 h0 h1 h5' h
   have hd':a.drop m=b.drop m:=by rw[List.drop_eq_getElem_cons hma,List.drop_eq_getElem_cons hmb,hd,h]
   rw[ch g1]
   exact xS L run k a b hab hl ha hb m fr1 (by omega) g2 g3 g4 g5 hd'
  ·obtain⟨fr1,g1,g2,g3⟩:=VJ L run k fr a b m hma hmb hl h41 h0 h1 h5' h
   refine .inr ⟨fr1,eF g1,?_⟩
   rw[g3]
   by_cases hxy:a[m]<b[m]
   ·have:=kM ha hma hmb hd hxy
    rw[if_pos hxy,dQ,if_pos this]
   ·have:=kM hb hmb hma hd.symm (by omega)
    rw[if_neg hxy,dQ,if_neg (by omega),if_neg (by omega)]
def oy (a b:List Nat):Int:=if a.length<b.length then -1 else if b.length<a.length then 1 else dQ (val a) (val b)
theorem JS (L:Lst)(run:ar)(k:Nat)(a b:List Nat)(h:a.length≠b.length) :
  ∃ st,af (CC L) run k kT ⟨entry 41 [aM a,aM b],[],[]⟩=some (.ret,st)∧aZ TT st.fr st.hp Tryz.f146.results.toList=some [Ab.bJ (oy a b)]:=by
 by_cases hx:a.length<b.length
 ·simp[kT,Tryz.f146,entry,nth,fm,af,aJ,ao,aq,aH,ag,ai,aj,an,aF,aC,FP.none,bd,au,bj,aw,bM,bh,ct,DN,uD,h,hx,aZ,oy,Ab.bJ]
 ·have:b.length<a.length:=by omega
  simp[kT,Tryz.f146,entry,nth,fm,af,aJ,ao,aq,aH,ag,ai,aj,an,aF,aC,FP.none,bd,au,bj,aw,bM,bh,ct,DN,uD,h,hx,this,aZ,oy,Ab.bJ]
theorem JR (L:Lst)(run:ar)(k:Nat)(a b:List Nat)(h:a.length=b.length)(hl:a.length<1000000) :
  ∃ fr,aY (CC L) run k 2 kT ⟨entry 41 [aM a,aM b],[],[]⟩=some ⟨fr,[],[]⟩∧fr.length=41∧nth fr 0=aM a∧nth fr 1=aM b:=by
 simp[kT,Tryz.f146,aY,entry,nth,fm,af,aJ,ao,aq,aH,ag,ai,aj,an,aF,aC,FP.none,bd,au,bj,aw,bM,bh,ct,uD,h]
noncomputable def EI:Code:=seq1 (seq1 (ah 2 kT))
theorem uC:ah 2 kT = .seq (.seq EI (.block 0 (.loop oz))) (ah 3 kT):=rfl
theorem VI (L:Lst)(run:ar)(k:Nat)(fr:List PV)(a b:List Nat)(hl:a.length<1000000)(h41:fr.length=41)(h0:nth fr 0=aM a)(h1:nth fr 1=aM b) :
  ∃ fr',af (CC L) run k EI ⟨fr,[],[]⟩=some (.normal,⟨fr',[],[]⟩)∧fr'.length=41∧nth fr' 0=aM a∧nth fr' 1=aM b∧nth fr' 5 = .sc (.int .i64 ((a.length:Int) - 1)):=by
 have hw:bA .i64 ((a.length:Int) - 1)=(a.length:Int) - 1:=cR _ (by omega)
 simp[EI,kT,ah,seq1,Tryz.f146,af,aJ,ao,aq,aH,ag,ai,aj,an,aF,aC,FP.none,bd,au,bj,aw,bM,aa,ae,ab,bh,ct,uD,h41,h0,h1,hw]
theorem JT (L:Lst)(run:ar)(k:Nat)(fr:List PV)(h41:fr.length=41) :
  ∃ st,af (CC L) run k (ah 3 kT) ⟨fr,[],[]⟩=some (.ret,st)∧aZ TT st.fr st.hp Tryz.f146.results.toList=some [Ab.bJ 0]:=by
 simp[kT,ah,Tryz.f146,af,aJ,ao,aq,aH,ag,ai,aj,an,aF,aC,FP.none,aw,aa,h41,aZ,Ab.bJ]
theorem da {C:Cfg}{run:ar}{k i:Nat}{b:Code}{st st':St}(h:cl (af C run k b) k st=some (.ret,st')):af C run k (.block i (.loop b)) st=some (.ret,st'):=by
 simp only[af,h]
theorem cB {C:Cfg}{run:ar}{k:Nat}{a b:Code}{st st':St}(h:af C run k a st=some (.ret,st')):af C run k (.seq a b) st=some (.ret,st'):=by
 simp only[af,h]
def sf:List PV→Option (List PV)
 | [p,q]=>match gW p,gW q with
  | some a,some b=>some [Ab.bJ (oy a b)]
  | _,_=>none
 | _=>none
theorem eE (hp:List Blk)(z:Int):bt (snap hp bp) [Ab.bJ z]=some ([Ab.bJ z],[]):=rfl
theorem xR:Ab.Spec base.P 146 sf:=Ab.Spec.bQ (C:=CC []) (cV trivial) fun args rs h=>by
 unfold sf at h
 split at h
 ·split at h
  ·rename_i a b ea eb
   obtain⟨rfl,ha,hla⟩:=dA ea
   obtain⟨rfl,hb,hlb⟩:=dA eb
   simp only[Option.some.injEq] at h
   subst h
   by_cases hab:a.length=b.length
   ·obtain⟨fr1,h1,h2,h3,h4⟩:=JR [] (runK (CC []) (a.length+1)) (a.length+1) a b hab hla
    obtain⟨fr2,g1,g2,g3,g4,g5⟩:=VI [] (runK (CC []) (a.length+1)) (a.length+1) fr1 a b hla h2 h3 h4
    have hs:oy a b=dQ (val a) (val b):=by simp[oy,hab]
    rcases xS [] (runK (CC []) (a.length+1)) (a.length+1) a b hab hla ha hb a.length fr2 (Nat.le_refl _) g2 g3 g4 g5 (by simp[hab]) with ⟨fr3,q1,q2,q3⟩| ⟨fr3,q1,q2⟩
    ·obtain⟨st,e1,e2⟩:=JT [] (runK (CC []) (a.length+1)) (a.length+1) fr3 q2
     have hx:af (CC []) (runK (CC []) (a.length+1)) (a.length+1) kT ⟨entry 41 [aM a,aM b],[],[]⟩=some (.ret,st):=by
      rw[aP 2 h1,uC,av ((av g1).trans (bH q1))]
      exact e1
     rw[hs,q3]
     exact⟨a.length+2,_,_,_,_,_,aX rU rfl hx e2,eE _ _,Wk.refl rfl,trivial⟩
    ·have hx:af (CC []) (runK (CC []) (a.length+1)) (a.length+1) kT ⟨entry 41 [aM a,aM b],[],[]⟩=some (.ret,⟨fr3,[],[]⟩):=by
      rw[aP 2 h1,uC,cB ((av g1).trans (da q1))]
     have e2:aZ TT fr3 [] Tryz.f146.results.toList=some [Ab.bJ (dQ (val a) (val b))]:=by
      simp[Tryz.f146,aZ,q2,Ab.bJ]
     rw[hs]
     exact⟨a.length+2,_,_,_,_,_,aX rU rfl hx e2,eE _ _,Wk.refl rfl,trivial⟩
   ·obtain⟨st,e1,e2⟩:=JS [] (runK (CC []) 1) 1 a b hab
    exact⟨2,_,_,_,_,_,aX rU rfl e1 e2,eE _ _,Wk.refl rfl,trivial⟩
  ·cases h
 ·cases h
theorem nf (n:Nat):ie TT 68 1 [(0,dg n)]=some (1,[dg n]):=SA uD s32 z32 n
noncomputable def vC:Code:=((Tryz.f160.body).bind az).getD .skip
noncomputable def kf:Code:=Tryz.f160.body.getD .skip
theorem QR (L:Lst)(run:ar)(k:Nat)(fr:List PV)(hp:List Blk)(wr:List Nat)(n:Nat)(h52:fr.length=52)
  (h21:nth fr 21 = .sc (.int .i64 (n:Int))) (h22:nth fr 22 = .sc (.int .i64 (n:Int))) :
  ∃ fr',af (CC L) run k vC ⟨fr,hp,wr⟩=some (.exit 0,⟨fr',hp,wr⟩)∧fr'.length=52∧nth fr' 5=nth fr 5∧nth fr' 6=nth fr 6:=by
 simp[vC,Tryz.f160,az,af,aJ,ao,aq,aH,ag,ai,aj,an,aF,aC,FP.none,bd,au,bj,aa,ae,ab,h52,h21,h22]
set_option maxHeartbeats 2000000 in
theorem Gc (L:Lst)(run:ar)(k:Nat)(fr:List PV)(hp:List Blk)(wr:List Nat)(a b out:List Nat)(i c s:Nat)(ha:Dok a)(hb:Dok b)(hc:c≤1)(hi:i<a.length)(hl:a.length<1000000)
  (h52:fr.length=52) (h20:nth fr 20=aM a) (h21:nth fr 21 = .sc (.int .i64 (a.length:Int))) (h22:nth fr 22 = .sc (.int .i64 (i:Int))) (h1:nth fr 1=aM b)
  (h6:nth fr 6 = .sc (.int .u32 (c:Int))) (hO:dI 0 hp out (nth fr 5)) (ho:out.length=i) (hs:s=at0 a i+c+at0 b i) :
  ∃ fr' hp' wr',af (CC L) run k vC ⟨fr,hp,wr⟩=some (.normal,⟨fr',hp',wr'⟩)∧fr'.length=52∧nth fr' 20=aM a∧nth fr' 21 = .sc (.int .i64 (a.length:Int))
   ∧ nth fr' 22 = .sc (.int .i64 ((i+1:Nat):Int))∧nth fr' 1=aM b∧nth fr' 6 = .sc (.int .u32 ((s / 1000000000:Nat):Int))∧dI 0 hp' (out++[s % 1000000000]) (nth fr' 5):=by
 have hda:=eJ a i hi
 have hax:=ha.get hi
 rw[de hi] at hs
 generalize a[i]=x at *
 have e1:aM a = .imm a.length false (a.map dg):=rfl
 have e2:aM b = .imm b.length false (b.map dg):=rfl
 have hdx:dg x = .sc (.int .u32 (x:Int)):=rfl
 rw[e1] at h20 ⊢;rw[e2] at h1 ⊢;rw[hdx] at hda
 obtain⟨s1,hs1⟩:∃ s1,s1=x+c:=⟨_,rfl⟩
 have hw1:bA .u32 ((x:Int)+(c:Int))=(s1:Int):=dp .u32 x c s1 hs1 (iB (by omega))
 have hwi:=bE i (by omega)
 have hb9:=cw hb i
 obtain⟨q,hq⟩:∃ q,q=s / 1000000000:=⟨_,rfl⟩
 obtain⟨r,hr⟩:∃ r,r=s % 1000000000:=⟨_,rfl⟩
 have hw3:bA .u32 ((s:Int) / 1000000000)=(q:Int):=jr .u32 s q hq (iB (by omega))
 obtain⟨p',hp',fp,h7,h8,h9⟩:=hO.app r (ho ▸ Nat.lt_trans hi (Nat.lt_trans hl (by decide)))
 rw[← hq,← hr]
 by_cases hib:i<b.length
 ·have hdb:=eJ b i hib
  rw[de hib] at hs hb9
  generalize b[i]=y at *
  have hdy:dg y = .sc (.int .u32 (y:Int)):=rfl
  rw[hdy] at hdb
  have hw2:bA .u32 ((s1:Int)+(y:Int))=(s:Int):=dp .u32 s1 y s (by omega) (iB (by omega))
  have hw4:((s:Int).tmod 1000000000)=(r:Int):=kS s r hr
  simp[vC,Tryz.f160,az,af,aJ,ao,aq,aH,ag,ai,aj,an,aF,aC,FP.none,bd,au,bj,aw,bM,bc,bm,partOf,aa,ae,ab,bh,and_assoc,cS,bg,du,h52,h20,h21,h22,h1,h6,uD,s32,b32,z32,a32,hi,hib,hda,hdb,aU,hw1,hw2,hw3,hw4,hwi,gN r,nf,mP,jt,cn,h7,h8]
 ·rw[iV (Nat.le_of_not_lt hib)] at hs
  have:s1=s:=by omega
  subst this
  have hw4:((s1:Int).tmod 1000000000)=(r:Int):=kS s1 r hr
  simp[vC,Tryz.f160,az,af,aJ,ao,aq,aH,ag,ai,aj,an,aF,aC,FP.none,bd,au,bj,aw,bM,bc,bm,partOf,aa,ae,ab,bh,and_assoc,cS,bg,du,h52,h20,h21,h22,h1,h6,uD,s32,b32,z32,a32,hi,hib,hda,aU,hw1,hw3,hw4,hwi,gN r,nf,mP,jt,cn,h7,h8]
theorem LJ {va vb vo x c y P s q r:Nat}(h:vo+c*P=va+vb)(hs:s=x+c+y)(hq:q=s / 1000000000)(hr:r=s % 1000000000) :
  vo+P*r+q*(P*1000000000)=va+x*P+(vb+y*P):=by
 have e:s=r+1000000000*q:=by omega
 have e2:s*P=(r+1000000000*q)*P:=by rw[e]
 subst hs
 simp only[Nat.add_mul] at e2 ⊢
 have e3:1000000000*q*P=q*(P*1000000000):=by grind
 have e4:r*P=P*r:=Nat.mul_comm _ _
 omega
theorem yz (L:Lst)(run:ar)(k:Nat)(a b:List Nat)(ha:Dok a)(hb:Dok b)(hl:a.length<1000000):∀ (n i:Nat) (fr:List PV) (hp:List Blk) (wr:List Nat) (out:List Nat) (c:Nat),i+n=a.length →
  fr.length=52→nth fr 20=aM a→nth fr 21 = .sc (.int .i64 (a.length:Int))→nth fr 22 = .sc (.int .i64 (i:Int))→nth fr 1=aM b→nth fr 6 = .sc (.int .u32 (c:Int))→dI 0 hp out (nth fr 5)→out.length=i →
  Dok out→c≤1→val out+c*1000000000 ^ i=val (a.take i)+val (b.take i) →
  ∃ (fr':List PV) (hp':List Blk) (wr':List Nat) (out':List Nat) (c':Nat),cl (af (CC L) run k vC) (n+1) ⟨fr,hp,wr⟩=some (.exit 0,⟨fr',hp',wr'⟩)∧fr'.length=52∧nth fr' 6 = .sc (.int .u32 (c':Int))∧dI 0 hp' out' (nth fr' 5)∧out'.length=a.length
   ∧ Dok out'∧c'≤1∧val out'+c'*1000000000 ^ a.length=val a+val (b.take a.length)
 | 0,i,fr,hp,wr,out,c,hi,h52,h20,h21,h22,h1,h6,hO,ho,hd,hc,hv=>by
  have:i=a.length:=by omega
  subst this
  obtain⟨fr',g1,g2,g3,g4⟩:=QR L run k fr hp wr a.length h52 h21 h22
  exact⟨fr',hp,wr,out,c,bD g1,g2,by rw[g4,h6],by rw[g3];exact hO,ho,hd,hc,by rw[hv,List.take_length]⟩
 | n+1,i,fr,hp,wr,out,c,hi,h52,h20,h21,h22,h1,h6,hO,ho,hd,hc,hv=>by
  obtain⟨fr1,hp1,wr1,g1,g2,g3,g4,g5,g6,g7,g8⟩:=Gc L run k fr hp wr a b out i c _ ha hb hc (by omega) hl h52 h20 h21 h22 h1 h6 hO ho rfl
  obtain⟨fr',hp',wr',out',c',q1,q2⟩:=yz L run k a b ha hb hl n (i+1) fr1 hp1 wr1 _ _ (by omega) g2 g3 g4 g5 g6 g7 g8 (by simp[ho]) (hd.append (Dok.nil.cons (Nat.mod_lt _ (by omega))))
   (by have:=cw ha i;have:=cw hb i;omega)
   (by
    rw[cD,cD,dG,ho,Nat.pow_succ]
    exact LJ hv rfl rfl rfl)
  exact⟨fr',hp',wr',out',c',by rw[ch g1];exact q1,q2⟩
noncomputable def QS:Code:=seq1 (seq1 (ah 4 kf))
theorem Gb:ah 4 kf = .seq (.seq QS (.block 0 (.loop vC))) (ah 5 kf):=rfl
theorem LN (L:Lst)(run:ar)(k:Nat)(a b:List Nat)(a' b':List Nat)(hab:(b.length≤a.length∧a'=a∧b'=b)∨(a.length<b.length∧a'=b∧b'=a)) :
  ∃ fr wr,aY (CC L) run k 2 kf ⟨entry 52 [aM a,aM b],[],[]⟩=some ⟨fr,[],wr⟩∧fr.length=52∧nth fr 0=aM a'∧nth fr 1=aM b':=by
 obtain⟨e1,e2,e3⟩:=cC 50 (aM a) (aM b)
 generalize entry 52 [aM a,aM b]=fr0 at *
 rcases hab with ⟨h,rfl,rfl⟩| ⟨h,rfl,rfl⟩
 ·have hn : ¬ (a'.length<b'.length):=by omega
  simp[kf,Tryz.f160,aY,e1,e2,e3,af,aJ,ao,aq,aH,ag,ai,aj,an,aF,aC,FP.none,bd,au,bj,aw,bM,aa,ae,ab,bh,and_assoc,ct,uD,hn]
 ·simp[kf,Tryz.f160,aY,e1,e2,e3,af,aJ,ao,aq,aH,ag,ai,aj,an,aF,aC,FP.none,bd,au,bj,aw,bM,aa,ae,ab,bh,and_assoc,ct,uD,h]
theorem LM (L:Lst)(run:ar)(k:Nat)(a:List Nat)(fr0:List PV)(wr0:List Nat)(hl:a.length<1000000)(e1:fr0.length=52)(e2:nth fr0 0=aM a) :
  ∃ fr hp wr,aY (CC L) run k 2 (ah 2 kf) ⟨fr0,[],wr0⟩=some ⟨fr,hp,wr⟩∧fr.length=52∧nth fr 0=aM a∧nth fr 1=nth fr0 1∧nth fr 6 = .sc (.int .u32 (0:Nat))∧dI 0 hp [] (nth fr 5):=by
 have hO:∀ n,dI 0 [⟨.live,rep n [dg 0]⟩] [] (.own 0 1 0 0 false):=fun n=>⟨Nat.zero_le _,.inr ⟨0,List.replicate n 0,Nat.le_refl _,by simp,rfl,by rw[qV];rfl⟩⟩
 have hw:=bE a.length (by omega)
 have h1:a.length+1≤cY:=Nat.le_trans (show a.length+1≤1000000 by assumption) (by decide)
 simp[kf,ah,Tryz.f160,aY,e1,e2,af,aJ,ao,aq,aH,ag,ai,aj,an,aF,aC,FP.none,bd,au,bj,aw,bM,jA,iW,aa,ae,ab,bh,and_assoc,ct,uD,hw,s32,b32,z32,cn,h1,aO,hO]
theorem abB (L:Lst)(run:ar)(k:Nat)(fr:List PV)(hp:List Blk)(wr:List Nat)(a:List Nat)(h52:fr.length=52)(h0:nth fr 0=aM a) :
  ∃ fr',af (CC L) run k QS ⟨fr,hp,wr⟩=some (.normal,⟨fr',hp,wr⟩)∧fr'.length=52∧nth fr' 20=aM a∧nth fr' 21 = .sc (.int .i64 (a.length:Int))∧nth fr' 22 = .sc (.int .i64 (0:Nat))
   ∧ nth fr' 1=nth fr 1∧nth fr' 6=nth fr 6∧nth fr' 5=nth fr 5:=by
 simp[QS,kf,ah,seq1,Tryz.f160,af,aJ,ao,aq,aH,ag,ai,aj,an,aF,aC,FP.none,aw,bM,aa,ae,ab,bh,ct,uD,h52,h0]
theorem LO (L:Lst)(run:ar)(k:Nat)(fr:List PV)(hp:List Blk)(wr:List Nat)(out:List Nat)(c:Nat)(hl:out.length<1000000)(h52:fr.length=52)(h6:nth fr 6 = .sc (.int .u32 (c:Int)))(hO:dI 0 hp out (nth fr 5)) :
  ∃ st p',af (CC L) run k (ah 5 kf) ⟨fr,hp,wr⟩=some (.ret,st)∧aZ TT st.fr st.hp Tryz.f160.results.toList=some [p']∧dI 0 st.hp (out++[c]) p':=by
 obtain⟨p',hp',fp,h7,h8,h9⟩:=hO.app c (by omega)
 simp[kf,ah,Tryz.f160,af,aJ,ao,aq,aH,ag,ai,aj,an,aF,aC,FP.none,aw,aa,ae,ab,bh,bg,du,uD,h52,h6,s32,b32,z32,gN c,nf,mP,jt,cn,h7,h8,aZ]
def Cp:List PV→Option (List PV)
 | [p,q]=>match gW p,gW q with
  | some a,some b=>some [aM (db (Nat.max a.length b.length+1) (val a+val b))]
  | _,_=>none
 | _=>none
theorem LL:Ab.Spec base.P 160 Cp:=Ab.Spec.bQ (C:=CC []) (cV trivial) fun args rs h=>by
 unfold Cp at h
 split at h
 ·split at h
  ·rename_i a b ea eb
   obtain⟨rfl,ha,hla⟩:=dA ea
   obtain⟨rfl,hb,hlb⟩:=dA eb
   simp only[Option.some.injEq] at h
   subst h
   obtain⟨a',b',hab,hsum,hmax,ha',hb',hla',hle⟩:∃ a' b',((b.length≤a.length∧a'=a∧b'=b)∨(a.length<b.length∧a'=b∧b'=a))∧val a'+val b'=val a+val b∧a'.length=Nat.max a.length b.length∧Dok a'∧Dok b'∧a'.length<1000000∧b'.length≤a'.length:=by
    by_cases hx:b.length≤a.length
    ·exact⟨a,b,.inl ⟨hx,rfl,rfl⟩,rfl,(Nat.max_eq_left hx).symm,ha,hb,hla,hx⟩
    ·exact⟨b,a,.inr ⟨by omega,rfl,rfl⟩,Nat.add_comm _ _,(Nat.max_eq_right (by omega)).symm,hb,ha,hlb,by omega⟩
   obtain⟨fr0,wr0,h01,h02,h03,h04⟩:=LN [] (runK (CC []) (a'.length+1)) (a'.length+1) a b a' b' hab
   obtain⟨fr1,hp1,wr1,h1,h2,h3,h4,h5,h6⟩:=LM [] (runK (CC []) (a'.length+1)) (a'.length+1) a' fr0 wr0 hla' h02 h03
   obtain⟨fr2,g1,g2,g3,g4,g5,g6,g7,g8⟩:=abB [] (runK (CC []) (a'.length+1)) (a'.length+1) fr1 hp1 wr1 a' h2 h3
   obtain⟨fr3,hp3,wr3,out,c,q1,q2,q3,q4,q5,q6,q7,q8⟩:=yz [] (runK (CC []) (a'.length+1)) (a'.length+1) a' b' ha' hb' hla' a'.length 0 fr2 hp1 wr1 [] 0 (by simp) g2 g3 g4 g5 (by rw[g6,h4,h04]) (by rw[g7,h5]) (by rw[g8];exact h6) rfl Dok.nil (by omega) (by simp[val])
   obtain⟨st,p',e1,e2,e3⟩:=LO [] (runK (CC []) (a'.length+1)) (a'.length+1) fr3 hp3 wr3 out c (by omega) q2 q3 q4
   have hx:af (CC []) (runK (CC []) (a'.length+1)) (a'.length+1) kf ⟨entry 52 [aM a,aM b],[],[]⟩=some (.ret,st):=by
    rw[aP 2 h01,aP 2 h1,show ah 2 (ah 2 kf)=ah 4 kf from rfl,Gb,av ((av g1).trans (bH q1))]
    exact e1
   have hout:out++[c]=db (Nat.max a.length b.length+1) (val a+val b):=by
    refine (q6.append (Dok.nil.cons (by omega))).oS (by simp[q5,hmax]) ?_
    rw[dG,q5,← hsum,Nat.mul_comm,q8,cI _ _ hle]
   obtain⟨rs2,ids,r1,r2⟩:=e3.Gj
   rw[hout] at r2
   exact⟨a'.length+2,_,_,_,rs2,ids,aX NB rfl hx e2,r1,r2⟩
  ·cases h
 ·cases h
end Go.Proofs.YtjdmodeenbdfpaaGreat
