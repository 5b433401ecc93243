/- An abstract interpreter over the model's code and its soundness, part 17 of the proof; each lemma states its own conditions. -/
import Derived.Test.YtjdmodeenbdfpaaGreatQ16
set_option linter.unusedSimpArgs false
set_option linter.unusedVariables false
namespace Go.Ab
open Go
def ah:Nat→Code→Code
 | 0,c=>c
 | n+1,.seq _ b=>ah n b
 | _+1,c=>c
def aX (C:Cfg)(run:aq)(k:Nat):Nat→Code→St→Option St
 | 0,_,st=>some st
 | n+1,.seq a b,st=>match af C run k a st with
  | some (.normal,st')=>aX C run k n b st'
  | _=>none
 | _+1,_,_=>none
theorem aM {C:Cfg}{run:aq}{k:Nat} : ∀ (n:Nat) {c:Code} {st st':St},aX C run k n c st=some st'→af C run k c st=af C run k (ah n c) st'
 | 0,c,st,st',h=>by simp[aX] at h;subst h;rfl
 | n+1,c,st,st',h=>by
  cases c with
  | seq a b =>
   simp only[aX] at h
   split at h
   ·rename_i st1 e
    simp only[af,e,ah]
    exact aM n h
   ·cases h
  | _=>simp[aX] at h
theorem aw {C:Cfg}{run:aq}{k:Nat}{a b:Code}{st st':St}(h:af C run k a st=some (.normal,st')):af C run k (.seq a b) st=af C run k b st':=by
 simp only[af,h]
theorem bF {C:Cfg}{run:aq}{k i:Nat}{b:Code}{st st':St}(h:ca (af C run k b) k st=some (.exit i,st')):af C run k (.block i (.loop b)) st=some (.normal,st'):=by
 simp only[af,h,if_true]
theorem fA {C:Cfg}{run:aq}{k i:Nat}{b:Code}{st st':St}(h:af C run k b st=some (.normal,st')):af C run k (.block i b) st=some (.normal,st'):=by
 simp only[af,h]
theorem bU {f:St→Option (Ex × St)}{n:Nat}{st st':St}(h:f st=some (.normal,st')):ca f (n+1) st=ca f n st':=by
 simp only[ca,h]
theorem bz {f:St→Option (Ex × St)}{n i:Nat}{st st':St}(h:f st=some (.exit i,st')):ca f (n+1) st=some (.exit i,st'):=by
 simp only[ca,h]
theorem eH {f:St→Option (Ex × St)}{n:Nat}{st st':St}(h:f st=some (.ret,st')):ca f (n+1) st=some (.ret,st'):=by
 simp only[ca,h]
theorem NU {C:Cfg}{run:aq}{k:Nat}{g:FuncId}{args:List PV}{fn:Func}{c:Code}{st:St}{rs:List PV}
  (hF:C.F g=some fn) (hb:fn.body=some c) (hx:af C run k c ⟨entry fn.ntmps args,[],[]⟩=some (.ret,st)) (hr:aV C.T st.fr st.hp fn.results.toList=some rs) :
  m7 C run k g args []=some (rs,st.hp,st.wr):=by
 simp only[m7,hF,hb,hx,hr]
theorem aQ {C:Cfg}{k:Nat}{g:FuncId}{args:List PV}{fn:Func}{c:Code}{st:St}{rs:List PV}
  (hF:C.F g=some fn) (hb:fn.body=some c) (hx:af C (runK C k) k c ⟨entry fn.ntmps args,[],[]⟩=some (.ret,st)) (hr:aV C.T st.fr st.hp fn.results.toList=some rs) (hs:C.sorc g=none:=by rfl) :
  runK C (k+1) g args []=some (rs,st.hp,st.wr):=by
 simp only[runK,hs]
 exact NU hF hb hx hr
theorem gw:∀ (n:Nat) (l:List PV),l.length≤n→(entry n l).length=n
 | 0,l,h=>by simp at h;subst h;rfl
 | n+1,[],_=>by simp[entry,gw n [] (by simp)]
 | n+1,a::l,h=>by simp[entry,gw n l (by simpa using h)]
theorem bT {f:St→Option (Ex × St)}{r:Ex × St} : ∀ {n m:Nat} {st:St},ca f n st=some r→n≤m→ca f m st=some r
 | 0,m,st,h,_=>by simp[ca] at h
 | n+1,0,st,_,h=>by omega
 | n+1,m+1,st,h,hm=>by
  simp only[ca] at h ⊢
  split at h
  ·exact bT h (by omega)
  ·exact h
theorem dE.set {b:Nat}{hp:List Blk}{l:List Nat}{p:PV}(h:dE b hp l p)(i:Nat)(x:Blk)(hi:i<b):dE b (cf hp i x) l p:=by
 obtain⟨hb,h⟩:=h
 refine⟨by rw[bG];exact hb,?_⟩
 rcases h with ⟨rfl,rfl⟩| ⟨id,m,h1,h2,rfl,h⟩
 ·exact .inl ⟨rfl,rfl⟩
 ·refine .inr ⟨id,m,h1,by rw[bG];exact h2,rfl,?_⟩
  rw[fQ,ct,List.getElem?_set_ne (by omega),← ct]
  exact h
theorem dE.out {b:Nat}{hp:List Blk}{l:List Nat}{p:PV}(h:dE b hp l p)(n:Bool) :
  ∃ rs ids,bq (Ab.snap hp bj) [.agg [.sc (.bool n),p]]=some (rs,ids)∧WkL rs [wh n l]:=by
 obtain⟨q,ids,h1,h2,h3⟩:=h.snap 9
 refine⟨[.agg [.sc (.bool n),q]],ids++[]++[],?_,?_⟩
 ·have:Ab.snap hp 12 (.agg [.sc (.bool n),p])=some (.agg [.sc (.bool n),q],ids++[]):=by
   rw[Ab.snap]
   simp only[bq,h1]
   rfl
  simp only[bj,bq,this]
  try simp
 ·exact⟨Wk.agg ⟨Wk.refl rfl,h2,trivial⟩,trivial⟩
theorem dE.G3 {b:Nat}{hp:List Blk}{l:List Nat}{p:PV}(h:dE b hp l p) :
  ∃ rs ids,bq (Ab.snap hp bj) [p]=some (rs,ids)∧WkL rs [aL l]:=by
 obtain⟨q,ids,h1,h2,h3⟩:=h.snap 10
 refine⟨[q],ids++[],?_,h2,trivial⟩
 simp only[bj,bq,h1]
theorem ug {n:Nat}(h:0<n)(h':n<18446744073709551616):bA .u64 (-(n:Int))=Int.ofNat (18446744073709551616 - n):=by
 have h1:decide (loK .u64 ≤ -(n:Int))=false:=by
  apply decide_eq_false
  simp[loK];omega
 unfold bA
 rw[h1]
 simp[IntKind.wrap,IntKind.bits,IntKind.signed]
 omega
theorem cN (n:Nat)(x:Bool)(cs:List PV):dQ (.imm n x cs)=some n:=(rfl)
theorem hD (a b c n:Nat)(x:Bool):dQ (.own a b c n x)=some n:=(rfl)
theorem cg (l:List Nat):dQ (aL l)=some l.length:=(rfl)
theorem xf (l:List Nat):(aL l).cells?=some [aL l]:=(rfl)
theorem bm (cs:List PV):(PV.agg cs).cells?=some cs:=(rfl)
theorem jQ (b:Bool):(PV.sc (.bool b)).cells?=some [.sc (.bool b)]:=(rfl)
theorem NJ (a b c n:Nat)(x:Bool):(PV.own a b c n x).cells?=some [.own a b c n x]:=(rfl)
theorem bS (l:List Nat):eG (aL l)=true:=(rfl)
theorem bD (b:Bool):eG (PV.sc (.bool b))=true:=(rfl)
theorem vZ (a b c n:Nat)(x:Bool):eG (PV.own a b c n x)=true:=(rfl)
theorem fw:eG (PV.sc (.slice none 0 0))=true:=(rfl)
theorem ago (a b:Nat):((a:Int) == (b:Int))=decide (a=b):=by
 by_cases h:a=b
 ·simp[h]
 ·rw[decide_eq_false h,beq_eq_false_iff_ne];omega
theorem EI (a b:Nat):((a:Int) != (b:Int)) = !decide (a=b):=by
 rw[bne,ago]
theorem cK (m:Nat)(h:m<9223372036854775808):bA .i64 ((m:Int) - 1)=(m:Int) - 1:=by
 unfold bA
 have h1:decide (loK .i64≤(m:Int) - 1)=true:=decide_eq_true (by simp only[loK];omega)
 have h2:decide ((m:Int) - 1≤hiK .i64)=true:=decide_eq_true (by simp only[hiK];omega)
 rw[h1,h2];rfl
theorem bJ (m:Nat)(h:m<9223372036854775807):bA .i64 ((m:Int)+1)=(m:Int)+1:=by
 unfold bA
 have h1:decide (loK .i64≤(m:Int)+1)=true:=decide_eq_true (by simp only[loK];omega)
 have h2:decide ((m:Int)+1≤hiK .i64)=true:=decide_eq_true (by simp only[hiK];omega)
 rw[h1,h2];rfl
theorem bk (k:IntKind)(n:Nat):fF (.sc (.int k (n:Int)))=some n:=(rfl)
theorem iG (k:IntKind)(n:Nat):fF (.sc (.int k ((n:Int)+1)))=some (n+1):=(rfl)
theorem jx (k:IntKind):fF (.sc (.int k 0))=some 0:=(rfl)
theorem aaa (k:IntKind):fF (.sc (.int k 1))=some 1:=(rfl)
theorem im {n:Nat}(h:n≤4294967295):n≤hiN .u32:=h
theorem dt {n:Nat}(h:n≤18446744073709551615):n≤hiN .u64:=h
theorem hiI {n:Nat}(h:n≤9223372036854775807):n≤hiN .i64:=h
theorem cQ (n:Nat)(p:PV):(entry (n+1) [p]).length=n+1∧nth (entry (n+1) [p]) 0=p:=⟨gw _ _ (by simp),rfl⟩
theorem cn (n:Nat)(p q:PV):(entry (n+2) [p,q]).length=n+2∧nth (entry (n+2) [p,q]) 0=p∧nth (entry (n+2) [p,q]) 1=q:=⟨gw _ _ (by simp),rfl,rfl⟩
theorem acN (n:Nat):((n:Int)≤2)=(n≤2):=by apply propext;omega
end Go.Ab
namespace Go.Proofs.YtjdmodeenbdfpaaGreat
open Go Go.Ab
noncomputable def ofB:Code:=((Tryz.f97.body).bind aF).getD .skip
set_option maxHeartbeats 1000000 in
theorem R3 (L:List (Nat × (List PV→Option (List PV))))(run:aq)(k:Nat)(fr:List PV)(hp:List Blk)(wr:List Nat)(u:Nat)(l:List Nat)
  (hu:u≠0) (hu2:u<18446744073709551616) (h20:fr.length=26) (h3:nth fr 3 = .sc (.int .u64 (Int.ofNat u))) (hO:dE 1 hp l (nth fr 5)) (hl:l.length<1000) :
  ∃ fr' hp' wr',af (CC L) run k ofB ⟨fr,hp,wr⟩=some (.normal,⟨fr',hp',wr'⟩)∧fr'.length=26∧nth fr' 3 = .sc (.int .u64 (Int.ofNat (u / 1000000000)))
   ∧ dE 1 hp' (l++[u % 1000000000]) (nth fr' 5)∧nth fr' 2=nth fr 2∧nth fr' 4=nth fr 4∧aZ hp' 0=aZ hp 0:=by
 have hq:bA .u64 ((u:Int) / 1000000000)=Int.ofNat (u / 1000000000):=dm .u64 (u / 1000000000) (by simp[hiN];omega)
 have hc:bA .u32 ((u:Int).tmod 1000000000)=Int.ofNat (u % 1000000000):=dm .u32 (u % 1000000000) (by simp[hiN];omega)
 generalize u / 1000000000=q at *
 generalize u % 1000000000=r at *
 obtain⟨p',hp',fp,ha,hO',hk⟩:=hO.app r (by omega)
 have hu0:0<u:=by omega
 have hdg:PV.sc (.int .u32 (r:Int))=dg r:=rfl
 have hlit:eY TT 68 1 [(0,dg r)]=some (1,[dg r]):=by
  simp[eY,uD,s32,z32,rep,dn,fZ,bX]
 have hrd:fi hp 1 (.imm 1 true [dg r])=some (1,[dg r],[]):=by simp[fi]
 have hif:bM [dg r]=true:=rfl
 have hk0:=hk 0 (by omega)
 simp[ofB,Tryz.f97,aF,af,aH,an,ao,aG,ag,ai,aj,ak,aC,az,FP.none,aY,au,bf,av,aa,ae,ab,bh,and_assoc,bc,dj,h20,h3,dy,u32,u64,uD,s32,b32,z32,hq,hc,hu0,hdg,hlit,hrd,hif,bZ,ha,hO',hk0]
theorem XM (L:List (Nat × (List PV→Option (List PV))))(run:aq)(k:Nat)(fr:List PV)(hp:List Blk)(wr:List Nat)
  (h20:fr.length=26) (h3:nth fr 3 = .sc (.int .u64 (Int.ofNat 0))) :
  ∃ fr',af (CC L) run k ofB ⟨fr,hp,wr⟩=some (.exit 0,⟨fr',hp,wr⟩)∧nth fr' 5=nth fr 5∧nth fr' 2=nth fr 2∧nth fr' 4=nth fr 4∧fr'.length=26:=by
 simp[ofB,Tryz.f97,aF,af,aH,an,ao,aG,ag,ai,aj,ak,aC,az,FP.none,aY,au,bf,av,aa,ae,ab,h20,h3]
theorem Jp (L:List (Nat × (List PV→Option (List PV))))(run:aq)(k:Nat):∀ (j u:Nat) (l:List Nat) (fr:List PV) (hp:List Blk) (wr:List Nat),
  u<1000000000 ^ j→l.length+j<1000→u<18446744073709551616→fr.length=26→nth fr 3 = .sc (.int .u64 (Int.ofNat u))→dE 1 hp l (nth fr 5) →
  ∃ fr' hp' wr',ca (af (CC L) run k ofB) (j+1) ⟨fr,hp,wr⟩=some (.exit 0,⟨fr',hp',wr'⟩)∧fr'.length=26
   ∧ dE 1 hp' (l++aA u) (nth fr' 5)∧nth fr' 2=nth fr 2∧nth fr' 4=nth fr 4∧aZ hp' 0=aZ hp 0
 | j,u,l,fr,hp,wr,hu,hl,hu2,h20,h3,hO=>by
  by_cases h0:u=0
  ·subst h0
   obtain⟨fr',h1,h2,h4,h5,h6⟩:=XM L run k fr hp wr h20 h3
   refine⟨fr',hp,wr,bz h1,h6,?_,h4,h5,rfl⟩
   rw[h2,fj,List.append_nil];exact hO
  ·cases j with
   | zero=>simp at hu;omega
   | succ j =>
    obtain⟨fr1,hp1,wr1,h1,h2,h4,h5,h6,h7,h8⟩:=R3 L run k fr hp wr u l h0 hu2 h20 h3 hO (by omega)
    obtain⟨fr',hp',wr',g1,g2,g3,g4,g5,g6⟩:=Jp L run k j (u / 1000000000) (l++[u % 1000000000]) fr1 hp1 wr1 (by rw[Nat.pow_succ] at hu;omega) (by simp;omega) (by omega) h2 h4 h5
    refine⟨fr',hp',wr',by rw[bU h1];exact g1,g2,?_,by rw[g4,h6],by rw[g5,h7],by rw[g6,h8]⟩
    rw[dT h0]
    simpa using g3
noncomputable def ofC:Code:=Tryz.f97.body.getD .skip
theorem R2:ah 4 ofC = .seq (.block 0 (.loop ofB)) (ah 5 ofC):=rfl
theorem acf (L:List (Nat × (List PV→Option (List PV))))(run:aq)(k:Nat)(z:Int)(h1 : -9223372036854775808≤z)(h2:z<9223372036854775808) :
  ∃ fr hp wr,aX (CC L) run k 4 ofC ⟨entry 26 [Ab.bC z],[],[]⟩=some ⟨fr,hp,wr⟩∧fr.length=26∧nth fr 3 = .sc (.int .u64 (Int.ofNat z.natAbs))∧nth fr 5 = .sc (.slice none 0 0)
   ∧ nth fr 2 = .ptr 0 0∧nth fr 4 = .sc (.bool (bt z))∧hp=[⟨.live,[.sc (.bool false),.sc (.slice none 0 0)]⟩]:=by
 cases z with
 | ofNat n =>
  have hw:bA .u64 (n:Int)=Int.ofNat n:=dm .u64 n (by simp[hiN];simp at h2;omega)
  have hlt:((n:Int)<0)=False:=by simp
  simp[ofC,Tryz.f97,aX,entry,nth,js,Ab.bC,af,aH,an,ao,aG,ag,ai,aj,ak,aC,az,FP.none,aY,au,bf,av,bh,and_assoc,dy,uI,u64,zW,aP,hw,bt,hlt]
 | negSucc n =>
  have hw:bA .u64 (Int.negSucc n)=Int.ofNat (18446744073709551616 - (n+1)):=by
   have:=ug (n:=n+1) (by omega) (by omega)
   rw[← this];rfl
  have hlt:(Int.negSucc n<0)=True:=by simp
  have hw2:bA .u64 (-((18446744073709551616 - (n+1):Nat):Int))=(n:Int)+1:=by
   rw[ug (by omega) (by omega)]
   simp;omega
  simp only[Int.ofNat_eq_natCast] at hw
  generalize 18446744073709551616 - (n+1)=m at *
  simp[ofC,Tryz.f97,aX,entry,nth,js,Ab.bC,af,aH,an,ao,aG,ag,ai,aj,ak,aC,az,FP.none,aY,au,bf,av,unP,bh,and_assoc,dy,uI,u64,zW,aP,hw,hw2,bt,hlt]
theorem XO (L:List (Nat × (List PV→Option (List PV))))(run:aq)(k:Nat)(fr:List PV)(hp:List Blk)(wr:List Nat)(n:Bool)(l:List Nat)(p:PV)
  (h20:fr.length=26) (h2:nth fr 2 = .ptr 0 0) (h4:nth fr 4 = .sc (.bool n)) (h5:nth fr 5=p) (hO:dE 1 hp l p) (hb:aZ hp 0=some ⟨.live,[.sc (.bool false),.sc (.slice none 0 0)]⟩) :
  ∃ st,af (CC L) run k (ah 5 ofC) ⟨fr,hp,wr⟩=some (.ret,st)∧aV TT st.fr st.hp Tryz.f97.results.toList=some [.agg [.sc (.bool n),p]]∧st.hp=cf hp 0 ⟨.live,[.sc (.bool n),p]⟩:=by
 have hc:=hO.cells
 have hk:=hO.okc
 have hokb:∀ b,eG (PV.sc (.bool b))=true:=fun _=>rfl
 have hcb:∀ b,(PV.sc (.bool b)).cells?=some [.sc (.bool b)]:=fun _=>rfl
 have hca:∀ cs,(PV.agg cs).cells?=some cs:=fun _=>rfl
 have hn:aZ (cf hp 0 ⟨.live,[.sc (.bool n),p]⟩) 0=some ⟨.live,[.sc (.bool n),p]⟩:=by rw[cJ hb,if_pos rfl]
 simp[ofC,ah,Tryz.f97,af,aH,an,ao,aG,ag,ai,aj,ak,aC,az,FP.none,av,partOf,aa,ae,ab,bh,bm,jQ,bD,bc,h20,h2,h4,h5,eJ,zW,uW,wf0,wf1,sB,sD,sW,aW,dn,jI,hc,hk,bX,hb,aV,aU,hn,br,bE]
def ofF:List PV→Option (List PV)
 | [.sc (.int .i64 z)]=>bif decide (-9223372036854775808≤z) && decide (z<9223372036854775808) then some [bn z] else none
 | _=>none
theorem nI:Ab.Spec base.P 97 ofF:=Ab.Spec.bN (C:=CC []) (cU trivial) fun args rs h=>by
 unfold ofF at h
 split at h
 ·rename_i z
  cases hd:decide (-9223372036854775808≤z) && decide (z<9223372036854775808) with
  | false=>rw[hd] at h;cases h
  | true =>
   rw[hd] at h
   simp only[cond_true,Option.some.injEq] at h
   subst h
   simp only[Bool.and_eq_true,decide_eq_true_eq] at hd
   obtain⟨fr1,hp1,wr1,h1,h20,h3,h5,h2,h4,hhp⟩:=acf [] (runK (CC []) 4) 4 z hd.1 hd.2
   obtain⟨fr2,hp2,wr2,g1,g2,g3,g4,g5,g6⟩:=Jp [] (runK (CC []) 4) 4 3 z.natAbs [] fr1 hp1 wr1 (by omega) (by simp) (by omega) h20 h3 (by rw[h5];exact dE.nil (by rw[hhp];simp))
   obtain⟨st,e1,e2,e3⟩:=XO [] (runK (CC []) 4) 4 fr2 hp2 wr2 (bt z) _ _ g2 (by rw[g4,h2]) (by rw[g5,h4]) rfl g3 (by rw[g6,hhp];rfl)
   have hx:af (CC []) (runK (CC []) 4) 4 ofC ⟨entry 26 [Ab.bC z],[],[]⟩=some (.ret,st):=by
    rw[aM 4 h1,R2,aw (bF g1)]
    exact e1
   obtain⟨rs2,ids,q1,q2⟩:=(g3.set 0 ⟨.live,[.sc (.bool (bt z)),nth fr2 5]⟩ (by omega)).out (bt z)
   rw[← e3] at q1
   exact⟨5,_,_,_,rs2,ids,aQ aaj rfl hx e2,q1,q2⟩
 ·cases h
abbrev Lst:=List (Nat × (List PV→Option (List PV)))
noncomputable def rW:Code:=((Tryz.f167.body).bind aF).getD .skip
theorem abj (l:List Nat)(a:Nat)(hp:List Blk):dC TT hp 68 (aL (l++[a])) none (some (.sc (.int .i64 (l.length:Int)))) none=some (aL l):=by
 have h:aL (l++[a]) = .imm (l.length+1) false ((l++[a]).map dg):=by simp[aL]
 rw[h]
 simp only[dC,uD,iJ,s32,bnd,fN,fF,Option.map]
 simp[gE,br]
 rw[dS (by simp)]
 simp[aL]
set_option maxHeartbeats 1000000 in
theorem KH (L:Lst)(run:aq)(k:Nat)(fr:List PV)(hp:List Blk)(wr:List Nat)(l:List Nat)(a:Nat)(hl:l.length<10000000)(ha:a≠0)
  (h21:fr.length=21) (h0:nth fr 0=aL (l++[a])) :
  ∃ fr',af (CC L) run k rW ⟨fr,hp,wr⟩=some (.exit 0,⟨fr',hp,wr⟩)∧nth fr' 0=nth fr 0∧fr'.length=21:=by
 have hw:bA .i64 ((l.length+1:Nat) - 1:Int)=Int.ofNat l.length:=by
  have:=dm .i64 l.length (by simp[hiN];omega)
  rw[← this];congr 1;omega
 have hw':bA .i64 (l.length:Int)=Int.ofNat l.length:=dm .i64 l.length (by simp[hiN];omega)
 have h:aL (l++[a]) = .imm (l.length+1) false ((l++[a]).map dg):=by simp[aL]
 have hd:(br ((l++[a]).map dg) l.length).head?=some (.sc (.int .u32 a)):=by
  rw[eK _ _ (by simp)];simp[dg]
 rw[h] at h0
 have ha':((a:Int) == 0)=false:=by simp;exact ha
 simp[rW,Tryz.f167,aF,af,aH,an,ao,aG,ag,ai,aj,ak,aC,az,FP.none,aY,au,bf,av,bK,bg,bk,partOf,aa,ae,ab,bh,cN,h21,h0,uD,s32,a32,hw',hd,ha',aU,-List.map_append]
set_option maxHeartbeats 1000000 in
theorem OI (L:Lst)(run:aq)(k:Nat)(fr:List PV)(hp:List Blk)(wr:List Nat)(h21:fr.length=21)(h0:nth fr 0=aL []) :
  ∃ fr',af (CC L) run k rW ⟨fr,hp,wr⟩=some (.exit 0,⟨fr',hp,wr⟩)∧nth fr' 0=nth fr 0∧fr'.length=21:=by
 have h:aL [] = .imm 0 false []:=rfl
 rw[h] at h0
 simp[rW,Tryz.f167,aF,af,aH,an,ao,aG,ag,ai,aj,ak,aC,az,FP.none,aY,au,bf,av,bK,aa,ae,ab,bh,cN,h21,h0,uD,-List.map_append]
set_option maxHeartbeats 1000000 in
theorem VY (L:Lst)(run:aq)(k:Nat)(fr:List PV)(hp:List Blk)(wr:List Nat)(l:List Nat)(hl:l.length<10000000)
  (h21:fr.length=21) (h0:nth fr 0=aL (l++[0])) :
  ∃ fr',af (CC L) run k rW ⟨fr,hp,wr⟩=some (.normal,⟨fr',hp,wr⟩)∧nth fr' 0=aL l∧fr'.length=21:=by
 have hw':bA .i64 (l.length:Int)=Int.ofNat l.length:=dm .i64 l.length (by simp[hiN];omega)
 have h:aL (l++[0]) = .imm (l.length+1) false ((l++[0]).map dg):=by simp[aL]
 have hd:(br ((l++[0]).map dg) l.length).head?=some (.sc (.int .u32 0)):=by
  rw[eK _ _ (by simp)];simp[dg]
 have hs:=abj l 0
 rw[h] at h0 hs
 simp[rW,Tryz.f167,aF,af,aH,an,ao,aG,ag,ai,aj,ak,aC,az,FP.none,aY,au,bf,av,bK,bg,bk,partOf,aa,ae,ab,bh,cN,h21,h0,uD,s32,a32,hw',hd,hs,aU,-List.map_append]
theorem yg (L:Lst)(run:aq)(k:Nat):∀ (n:Nat) (l:List Nat) (fr:List PV) (hp:List Blk) (wr:List Nat),l.length=n→n<10000000→fr.length=21→nth fr 0=aL l →
  ∃ fr',ca (af (CC L) run k rW) (n+1) ⟨fr,hp,wr⟩=some (.exit 0,⟨fr',hp,wr⟩)∧nth fr' 0=aL (ff l)∧fr'.length=21
 | 0,l,fr,hp,wr,hl,hn,h21,h0=>by
  have:l=[]:=List.length_eq_zero_iff.1 hl
  subst this
  obtain⟨fr',h1,h2,h3⟩:=OI L run k fr hp wr h21 h0
  exact⟨fr',bz h1,by rw[h2,h0];rfl,h3⟩
 | n+1,l,fr,hp,wr,hl,hn,h21,h0=>by
  obtain⟨l',a,rfl,hl'⟩:=Ar hl
  by_cases ha:a=0
  ·subst ha
   obtain⟨fr1,h1,h2,h3⟩:=VY L run k fr hp wr l' (by omega) h21 h0
   obtain⟨fr',g1,g2,g3⟩:=yg L run k n l' fr1 hp wr hl' (by omega) h3 h2
   exact⟨fr',by rw[bU h1];exact g1,by rw[g2,eB,if_pos rfl],g3⟩
  ·obtain⟨fr',h1,h2,h3⟩:=KH L run k fr hp wr l' a (by omega) ha h21 h0
   exact⟨fr',bz h1,by rw[h2,h0,eB,if_neg ha],h3⟩
noncomputable def uv:Code:=Tryz.f167.body.getD .skip
theorem Fh:ah 1 uv = .seq (.block 0 (.loop rW)) (ah 2 uv):=rfl
theorem OH (L:Lst)(run:aq)(k:Nat)(p:PV):∃ fr,aX (CC L) run k 1 uv ⟨entry 21 [p],[],[]⟩=some ⟨fr,[],[]⟩∧fr.length=21∧nth fr 0=p:=by
 simp[uv,Tryz.f167,aX,entry,nth,js,af,aH,an,ao,aG,ag,ai,aj,ak,aC,az,FP.none,av]
theorem KI (L:Lst)(run:aq)(k:Nat)(fr:List PV)(hp:List Blk)(wr:List Nat)(p:PV)(h21:fr.length=21)(h0:nth fr 0=p) :
  ∃ st,af (CC L) run k (ah 2 uv) ⟨fr,hp,wr⟩=some (.ret,st)∧aV TT st.fr st.hp Tryz.f167.results.toList=some [p]:=by
 simp[uv,ah,Tryz.f167,af,aH,an,ao,aG,ag,ai,aj,ak,aC,az,FP.none,aa,ab,h21,h0,aV]
def jn:List PV→Option (List PV)
 | [p]=>match gU p with
  | some l=>some [aL (ff l)]
  | none=>none
 | _=>none
theorem Dd (hp:List Blk)(l:List Nat):bq (snap hp bj) [aL l]=some ([aL l],[]):=rfl
theorem iX (hp:List Blk)(z:Int):bq (snap hp bj) [bn z]=some ([bn z],[]):=rfl
theorem jB:Ab.Spec base.P 167 jn:=Ab.Spec.bN (C:=CC []) (cU trivial) fun args rs h=>by
 unfold jn at h
 split at h
 ·split at h
  ·rename_i l hl
   obtain⟨rfl,_,hlen⟩:=dp hl
   simp only[Option.some.injEq] at h
   subst h
   obtain⟨fr1,h1,h20,h0⟩:=OH [] (runK (CC []) (l.length+1)) (l.length+1) (aL l)
   obtain⟨fr2,g1,g2,g3⟩:=yg [] (runK (CC []) (l.length+1)) (l.length+1) l.length l fr1 [] [] rfl (by omega) h20 h0
   obtain⟨st,e1,e2⟩:=KI [] (runK (CC []) (l.length+1)) (l.length+1) fr2 [] [] _ g3 g2
   have hx:af (CC []) (runK (CC []) (l.length+1)) (l.length+1) uv ⟨entry 21 [aL l],[],[]⟩=some (.ret,st):=by
    rw[aM 1 h1,Fh,aw (bF g1)]
    exact e1
   exact⟨l.length+2,_,_,_,_,_,aQ N9 rfl hx e2,Dd _ _,Wk.refl rfl,trivial⟩
  ·cases h
 ·cases h
def sgn (n:Bool)(v:Nat):Int:=bif n then Int.negOfNat v else Int.ofNat v
theorem aa8 {l:List Nat}(h:Dok l)(n:Bool):wh (n && decide (0<(ff l).length)) (ff l)=bn (sgn n (val l)):=by
 rw[eC h]
 cases n with
 | false=>rfl
 | true =>
  by_cases h0:val l=0
  ·rw[h0];rfl
  ·rw[sgn,cond_true,Ed h0]
   have:=cP.2 h0
   simp[this]
def fP:List PV→Option (List PV)
 | [.sc (.bool n),p]=>match gU p with
  | some l=>some [bn (sgn n (val l))]
  | none=>none
 | _=>none
def Af:Lst:=[(167,jn)]
theorem NM (run:aq)(dr:Bool)(hp:List Blk)(l:List Nat)(hd:Dok l)(hl:l.length<1000000):cb (CC Af) run dr hp 167 [aL l]=some (aL (ff l),hp,⟨[],[],false,false⟩):=by
 have h3:(CC Af).orc 167 [aL l]=some [aL (ff l)]:=by
  show jn (aJ [aL l])=_
  simp only[aJ,fE,jn,cS hd hl]
 exact ee tI (Dd hp l) h3 rfl
noncomputable def I1:Code:=Tryz.f152.body.getD .skip
theorem B8 (neg:Bool)(l:List Nat)(hd:Dok l)(hl:l.length<1000000)(run:aq)(k:Nat) :
  ∃ st,af (CC Af) run k I1 ⟨entry 15 [.sc (.bool neg),aL l],[],[]⟩=some (.ret,st)∧aV TT st.fr st.hp Tryz.f152.results.toList=some [bn (sgn neg (val l))]:=by
 rw[← aa8 hd]
 have hc:∀ hp dr,cb (CC Af) run dr hp 167 [aL l]=some (aL (ff l),hp,⟨[],[],false,false⟩):=fun hp dr=>NM run dr hp l hd hl
 cases neg <;> simp[I1,Tryz.f152,entry,nth,js,af,aH,an,ao,aG,ag,ai,aO,aj,ak,aC,az,FP.none,aY,au,bf,av,bK,partOf,bh,cg,xf,bm,jQ,bS,bD,bc,hc,zW,aP,uD,eJ,uW,wf0,wf1,sB,sD,sW,aW,dn,jI,bX,aV,aU,aZ,cf,br,bE,wh]
theorem jX:Ab.Spec base.P 152 fP:=Ab.Spec.bN (C:=CC Af) (cU ⟨jB,trivial⟩) fun args rs h=>by
 unfold fP at h
 split at h
 ·split at h
  ·rename_i n p _ l hl
   obtain⟨rfl,hd,hlen⟩:=dp hl
   simp only[Option.some.injEq] at h
   subst h
   obtain⟨st,e1,e2⟩:=B8 n l hd hlen (runK (CC Af) 1) 1
   exact⟨2,_,_,_,_,_,aQ ER rfl e1 e2,iX _ _,Wk.refl rfl,trivial⟩
  ·cases h
 ·cases h
end Go.Proofs.YtjdmodeenbdfpaaGreat
namespace Go.Ab
open Go
def cX:Nat→Nat→List Nat
 | 0,_=>[]
 | n+1,v=>v % 1000000000::cX n (v / 1000000000)
theorem di:∀ n v,(cX n v).length=n
 | 0,_=>rfl
 | n+1,v=>by simp[cX,di n]
theorem gu:∀ n v,Dok (cX n v)
 | 0,_=>Dok.nil
 | n+1,v=>(gu n _).cons (by omega)
theorem fh:∀ n v,v<1000000000 ^ n→val (cX n v)=v
 | 0,v,h=>by simp at h;subst h;rfl
 | n+1,v,h=>by
  rw[cX,val,fh n _ (by rw[Nat.pow_succ] at h;omega)]
  omega
theorem mE:∀ {l:List Nat},Dok l→cX l.length (val l)=l
 | [],_=>rfl
 | a::l,h=>by
  have ha:=h.head
  rw[List.length_cons,cX,val,Nat.add_mul_mod_self_left,Nat.mod_eq_of_lt ha,Nat.add_mul_div_left _ _ (by omega),Nat.div_eq_of_lt ha,Nat.zero_add,mE h.tail]
theorem Dok.oL {l:List Nat}{n v:Nat}(h:Dok l)(hl:l.length=n)(hv:val l=v):l=cX n v:=by
 subst hl;subst hv;exact (mE h).symm
def dL (a b:Nat):Int:=if a<b then -1 else if a=b then 0 else 1
theorem kG {a:List Nat}{m:Nat}(hm:m<a.length):val a=val (a.take m)+(a[m]*1000000000 ^ m+1000000000 ^ (m+1)*val (a.drop (m+1))):=by
 rw[kH a (m+1) (by omega),gK a m hm]
 omega
theorem kF {a b:List Nat}{m:Nat}(ha:Dok a)(hma:m<a.length)(hmb:m<b.length)(hd:a.drop (m+1)=b.drop (m+1))(h:a[m]<b[m]):val a<val b:=by
 rw[kG hma,kG hmb,hd]
 have h1:=eM (ha.take m)
 rw[List.length_take,Nat.min_eq_left (by omega)] at h1
 have h2:a[m]*1000000000 ^ m+1000000000 ^ m≤b[m]*1000000000 ^ m:=by
  have:=Nat.mul_le_mul_right (1000000000 ^ m) (show a[m]+1≤b[m] from h)
  rw[Nat.add_mul,Nat.one_mul] at this
  exact this
 omega
theorem cA (l:List Nat)(i:Nat)(h:l.length≤i):val (l.take i)=val l:=by
 rw[List.take_of_length_le h]
theorem dq (k:IntKind)(a b s:Nat)(h:s=a+b)(hs:s≤hiN k):bA k ((a:Int)+(b:Int))=(s:Int):=by
 subst h
 exact (by simpa using dm k (a+b) hs)
theorem wrapM (k:IntKind)(a b s:Nat)(h:s=a*b)(hs:s≤hiN k):bA k ((a:Int)*(b:Int))=(s:Int):=by
 subst h
 exact (by simpa using dm k (a*b) hs)
theorem x7 (k:IntKind)(a b s:Nat)(h:a=b+s)(hs:s≤hiN k):bA k ((a:Int) - (b:Int))=(s:Int):=by
 have:=dm k s hs
 rw[show ((a:Int) - (b:Int))=(s:Int) by omega];exact this
theorem aak (k:IntKind)(a b s:Nat)(h:s=a / b)(hs:s≤hiN k):bA k ((a:Int) / (b:Int))=(s:Int):=by
 subst h
 exact (by simpa using dm k (a / b) hs)
theorem yi (a b s:Nat)(h:s=a % b):(a:Int).tmod (b:Int)=(s:Int):=by
 subst h;exact (Int.ofNat_tmod a b).symm
def at0 (l:List Nat)(i:Nat):Nat:=l[i]?.getD 0
theorem cY {l:List Nat}{i:Nat}(h:i<l.length):at0 l i=l[i]:=by simp[at0,h]
theorem iE {l:List Nat}{i:Nat}(h:l.length≤i):at0 l i=0:=by simp[at0,h]
theorem cj {l:List Nat}(h:Dok l)(i:Nat):at0 l i<1000000000:=by
 by_cases hi:i<l.length
 ·rw[cY hi];exact h.get hi
 ·rw[iE (by omega)];omega
theorem cq (l:List Nat)(i:Nat):val (l.take (i+1))=val (l.take i)+at0 l i*1000000000 ^ i:=by
 by_cases hi:i<l.length
 ·rw[cY hi,gK l i hi]
 ·rw[iE (by omega),cA l _ (by omega),cA l _ (by omega)];simp
theorem ch (k:IntKind)(s:Nat)(hs:s≤hiN k):bA k (s:Int)=(s:Int):=dm k s hs
theorem SX {T:Tab}{t e:Nat}(hu:und T t=some (.slice e))(hs:cR T e=some 1)(hz:dV T e=some [dg 0])(n:Nat) :
  eY T t 1 [(0,dg n)]=some (1,[dg n]):=by
 simp[eY,hu,hs,hz,rep,dn,fZ,bX]
theorem mv (hp:List Blk)(n:Nat):fi hp 1 (.imm 1 true [dg n])=some (1,[dg n],[]):=by simp[fi]
theorem jk (n:Nat):bM [dg n]=true:=(rfl)
theorem gM (n:Nat):PV.sc (.int .u32 (n:Int))=dg n:=(rfl)
theorem UI (s:Nat):((s:Int) / 1000000000)=((s / 1000000000:Nat):Int):=by omega
theorem ji (k:IntKind)(a s:Nat)(h:s=a / 1000000000)(hs:s≤hiN k):bA k ((a:Int) / 1000000000)=(s:Int):=by
 subst h
 rw[UI];exact dm k _ hs
theorem kK (a s:Nat)(h:s=a % 1000000000):(a:Int).tmod 1000000000=(s:Int):=by
 subst h
 rw[Int.tmod_eq_emod_of_nonneg (by omega)];omega
theorem lj (k:IntKind)(a s:Nat)(h:s=a*1000000000)(hs:s≤hiN k):bA k ((a:Int)*1000000000)=(s:Int):=by
 have e:((a:Int)*1000000000)=(s:Int):=by omega
 rw[e];exact dm k _ hs
theorem cw {x y:Nat}(h:x≤y):(aA x).length≤(aA y).length:=da (Nat.lt_of_le_of_lt h (fy y))
theorem kz {l:List Nat}{m y:Nat}(h:m<l.length):(l.set m y).drop m=y::l.drop (m+1):=by
 rw[List.drop_eq_getElem_cons (by simpa using h)]
 simp[List.drop_set]
theorem ia (l:List Nat)(m:Nat)(h:m<l.length):val (l.drop m)=at0 l m+1000000000*val (l.drop (m+1)):=by
 rw[List.drop_eq_getElem_cons h,val,cY h]
theorem Ee {V V' Q R a b:Nat}(hb:0<b)(hV:V'=a+1000000000*V)(hQ:Q=V / b)(hR:R=V % b) :
  (R*1000000000+a) / b+1000000000*Q=V' / b∧(R*1000000000+a) % b=V' % b:=by
 have e:V'=(R*1000000000+a)+b*(1000000000*Q):=by
  have h:=Nat.div_add_mod V b
  rw[← hQ,← hR] at h
  rw[hV,← h]
  grind
 rw[e,Nat.add_mul_div_left _ _ hb,Nat.add_mul_mod_self_left]
 exact⟨rfl,rfl⟩
end Go.Ab
namespace Go.Proofs.YtjdmodeenbdfpaaGreat
open Go Go.Ab
noncomputable def oa:Code:=((Tryz.f146.body).bind aF).getD .skip
noncomputable def kL:Code:=Tryz.f146.body.getD .skip
set_option maxHeartbeats 1000000 in
theorem O0 (L:Lst)(run:aq)(k:Nat)(fr:List PV)(h41:fr.length=41)(h5:nth fr 5 = .sc (.int .i64 (-1))) :
  ∃ fr',af (CC L) run k oa ⟨fr,[],[]⟩=some (.exit 0,⟨fr',[],[]⟩)∧fr'.length=41:=by
 simp[oa,Tryz.f146,aF,af,aH,an,ao,aG,ag,ai,aj,ak,aC,az,FP.none,aY,au,bf,av,aa,ab,h41,h5]
set_option maxHeartbeats 1000000 in
theorem size_eq (L:Lst)(run:aq)(k:Nat)(fr:List PV)(a b:List Nat)(m:Nat)(hma:m<a.length)(hmb:m<b.length)(hl:a.length<1000000)
  (h41:fr.length=41) (h0:nth fr 0=aL a) (h1:nth fr 1=aL b) (h5:nth fr 5 = .sc (.int .i64 (m:Int))) (h:a[m]=b[m]) :
  ∃ fr',af (CC L) run k oa ⟨fr,[],[]⟩=some (.normal,⟨fr',[],[]⟩)∧fr'.length=41∧nth fr' 0=aL a∧nth fr' 1=aL b∧nth fr' 5 = .sc (.int .i64 ((m:Int) - 1)):=by
 have hw:bA .i64 ((m:Int) - 1)=(m:Int) - 1:=cK m (by omega)
 have hda:=eK a m hma
 have hdb:=eK b m hmb
 rw[h] at hda
 generalize b[m]=y at *
 have e1:aL a = .imm a.length false (a.map dg):=rfl
 have e2:aL b = .imm b.length false (b.map dg):=rfl
 have hdg:dg y = .sc (.int .u32 (y:Int)):=rfl
 rw[e1] at h0 ⊢;rw[e2] at h1 ⊢;rw[hdg] at hda hdb
 simp[oa,Tryz.f146,aF,af,aH,an,ao,aG,ag,ai,aj,ak,aC,az,FP.none,aY,au,bf,av,bg,bk,partOf,aa,ae,ab,bh,h41,h0,h1,h5,uD,s32,a32,hma,hmb,hda,hdb,aU,number,FP.free,hw]
set_option maxHeartbeats 1000000 in
theorem V8 (L:Lst)(run:aq)(k:Nat)(fr:List PV)(a b:List Nat)(m:Nat)(hma:m<a.length)(hmb:m<b.length)(hl:a.length<1000000)
  (h41:fr.length=41) (h0:nth fr 0=aL a) (h1:nth fr 1=aL b) (h5:nth fr 5 = .sc (.int .i64 (m:Int))) (h:a[m]≠b[m]) :
  ∃ fr',af (CC L) run k oa ⟨fr,[],[]⟩=some (.ret,⟨fr',[],[]⟩)∧fr'.length=41∧nth fr' 4 = .sc (.int .i64 (if a[m]<b[m] then -1 else 1)):=by
 have hda:=eK a m hma
 have hdb:=eK b m hmb
 generalize b[m]=y at *
 generalize a[m]=x at *
 have e1:aL a = .imm a.length false (a.map dg):=rfl
 have e2:aL b = .imm b.length false (b.map dg):=rfl
 have hdx:dg x = .sc (.int .u32 (x:Int)):=rfl
 have hdy:dg y = .sc (.int .u32 (y:Int)):=rfl
 rw[e1] at h0;rw[e2] at h1;rw[hdx] at hda;rw[hdy] at hdb
 by_cases hxy:x<y
 ·simp[oa,Tryz.f146,aF,af,aH,an,ao,aG,ag,ai,aj,ak,aC,az,FP.none,aY,au,bf,av,bg,bk,partOf,aa,ae,ab,bh,EI,h41,h0,h1,h5,uD,s32,a32,hma,hmb,hda,hdb,aU,number,FP.free,h,hxy]
 ·simp[oa,Tryz.f146,aF,af,aH,an,ao,aG,ag,ai,aj,ak,aC,az,FP.none,aY,au,bf,av,bg,bk,partOf,aa,ae,ab,bh,EI,h41,h0,h1,h5,uD,s32,a32,hma,hmb,hda,hdb,aU,number,FP.free,h,hxy]
theorem ym (L:Lst)(run:aq)(k:Nat)(a b:List Nat)(hab:a.length=b.length)(hl:a.length<1000000)(ha:Dok a)(hb:Dok b):∀ (m:Nat) (fr:List PV),m≤a.length →
  fr.length=41→nth fr 0=aL a→nth fr 1=aL b→nth fr 5 = .sc (.int .i64 ((m:Int) - 1))→a.drop m=b.drop m →
  (∃ fr',ca (af (CC L) run k oa) (m+1) ⟨fr,[],[]⟩=some (.exit 0,⟨fr',[],[]⟩)∧fr'.length=41∧dL (val a) (val b)=0) ∨
  (∃ fr',ca (af (CC L) run k oa) (m+1) ⟨fr,[],[]⟩=some (.ret,⟨fr',[],[]⟩)∧nth fr' 4 = .sc (.int .i64 (dL (val a) (val b))))
 | 0,fr,hm,h41,h0,h1,h5,hd=>by
  obtain⟨fr',g1,g2⟩:=O0 L run k fr h41 h5
  refine .inl ⟨fr',bz g1,g2,?_⟩
  simp at hd
  simp[dL,hd]
 | m+1,fr,hm,h41,h0,h1,h5,hd=>by
  have h5':nth fr 5 = .sc (.int .i64 (m:Int)):=by rw[h5];simp
  have hmb:m<b.length:=by omega
  have hma:m<a.length:=by omega
  by_cases h:a[m]=b[m]
  ·obtain⟨fr1,g1,g2,g3,g4,g5⟩:=size_eq L run k fr a b m hma hmb hl h41 h0 h1 h5' h
   have hd':a.drop m=b.drop m:=by rw[List.drop_eq_getElem_cons hma,List.drop_eq_getElem_cons hmb,hd,h]
   rw[bU g1]
   exact ym L run k a b hab hl ha hb m fr1 (by omega) g2 g3 g4 g5 hd'
  ·obtain⟨fr1,g1,g2,g3⟩:=V8 L run k fr a b m hma hmb hl h41 h0 h1 h5' h
   refine .inr ⟨fr1,eH g1,?_⟩
   rw[g3]
   by_cases hxy:a[m]<b[m]
   ·have:=kF ha hma hmb hd hxy
    rw[if_pos hxy,dL,if_pos this]
   ·have:=kF hb hmb hma hd.symm (by omega)
    rw[if_neg hxy,dL,if_neg (by omega),if_neg (by omega)]
def n9 (a b:List Nat):Int:=if a.length<b.length then -1 else if b.length<a.length then 1 else dL (val a) (val b)
theorem KX (L:Lst)(run:aq)(k:Nat)(a b:List Nat)(h:a.length≠b.length) :
  ∃ st,af (CC L) run k kL ⟨entry 41 [aL a,aL b],[],[]⟩=some (.ret,st)∧aV TT st.fr st.hp Tryz.f146.results.toList=some [Ab.bC (n9 a b)]:=by
 by_cases hx:a.length<b.length
 ·simp[kL,Tryz.f146,entry,nth,js,af,aH,an,ao,aG,ag,ai,aj,ak,aC,az,FP.none,aY,au,bf,av,bK,bh,cg,EI,uD,h,hx,aV,n9,Ab.bC]
 ·have:b.length<a.length:=by omega
  simp[kL,Tryz.f146,entry,nth,js,af,aH,an,ao,aG,ag,ai,aj,ak,aC,az,FP.none,aY,au,bf,av,bK,bh,cg,EI,uD,h,hx,this,aV,n9,Ab.bC]
theorem KW (L:Lst)(run:aq)(k:Nat)(a b:List Nat)(h:a.length=b.length)(hl:a.length<1000000) :
  ∃ fr,aX (CC L) run k 2 kL ⟨entry 41 [aL a,aL b],[],[]⟩=some ⟨fr,[],[]⟩∧fr.length=41∧nth fr 0=aL a∧nth fr 1=aL b:=by
 simp[kL,Tryz.f146,aX,entry,nth,js,af,aH,an,ao,aG,ag,ai,aj,ak,aC,az,FP.none,aY,au,bf,av,bK,bh,cg,uD,h]
noncomputable def Fw:Code:=seq1 (seq1 (ah 2 kL))
theorem uK:ah 2 kL = .seq (.seq Fw (.block 0 (.loop oa))) (ah 3 kL):=rfl
theorem V7 (L:Lst)(run:aq)(k:Nat)(fr:List PV)(a b:List Nat)(hl:a.length<1000000)(h41:fr.length=41)(h0:nth fr 0=aL a)(h1:nth fr 1=aL b) :
  ∃ fr',af (CC L) run k Fw ⟨fr,[],[]⟩=some (.normal,⟨fr',[],[]⟩)∧fr'.length=41∧nth fr' 0=aL a∧nth fr' 1=aL b∧nth fr' 5 = .sc (.int .i64 ((a.length:Int) - 1)):=by
 have hw:bA .i64 ((a.length:Int) - 1)=(a.length:Int) - 1:=cK _ (by omega)
 simp[Fw,kL,ah,seq1,Tryz.f146,af,aH,an,ao,aG,ag,ai,aj,ak,aC,az,FP.none,aY,au,bf,av,bK,aa,ae,ab,bh,cg,uD,h41,h0,h1,hw]
theorem KY (L:Lst)(run:aq)(k:Nat)(fr:List PV)(h41:fr.length=41) :
  ∃ st,af (CC L) run k (ah 3 kL) ⟨fr,[],[]⟩=some (.ret,st)∧aV TT st.fr st.hp Tryz.f146.results.toList=some [Ab.bC 0]:=by
 simp[kL,ah,Tryz.f146,af,aH,an,ao,aG,ag,ai,aj,ak,aC,az,FP.none,av,aa,h41,aV,Ab.bC]
theorem cW {C:Cfg}{run:aq}{k i:Nat}{b:Code}{st st':St}(h:ca (af C run k b) k st=some (.ret,st')):af C run k (.block i (.loop b)) st=some (.ret,st'):=by
 simp only[af,h]
theorem cm {C:Cfg}{run:aq}{k:Nat}{a b:Code}{st st':St}(h:af C run k a st=some (.ret,st')):af C run k (.seq a b) st=some (.ret,st'):=by
 simp only[af,h]
def pn:List PV→Option (List PV)
 | [p,q]=>match gU p,gU q with
  | some a,some b=>some [Ab.bC (n9 a b)]
  | _,_=>none
 | _=>none
theorem eF (hp:List Blk)(z:Int):bq (snap hp bj) [Ab.bC z]=some ([Ab.bC z],[]):=rfl
theorem qM:Ab.Spec base.P 146 pn:=Ab.Spec.bN (C:=CC []) (cU trivial) fun args rs h=>by
 unfold pn at h
 split at h
 ·split at h
  ·rename_i a b ea eb
   obtain⟨rfl,ha,hla⟩:=dp ea
   obtain⟨rfl,hb,hlb⟩:=dp eb
   simp only[Option.some.injEq] at h
   subst h
   by_cases hab:a.length=b.length
   ·obtain⟨fr1,h1,h2,h3,h4⟩:=KW [] (runK (CC []) (a.length+1)) (a.length+1) a b hab hla
    obtain⟨fr2,g1,g2,g3,g4,g5⟩:=V7 [] (runK (CC []) (a.length+1)) (a.length+1) fr1 a b hla h2 h3 h4
    have hs:n9 a b=dL (val a) (val b):=by simp[n9,hab]
    rcases ym [] (runK (CC []) (a.length+1)) (a.length+1) a b hab hla ha hb a.length fr2 (Nat.le_refl _) g2 g3 g4 g5 (by simp[hab]) with ⟨fr3,q1,q2,q3⟩| ⟨fr3,q1,q2⟩
    ·obtain⟨st,e1,e2⟩:=KY [] (runK (CC []) (a.length+1)) (a.length+1) fr3 q2
     have hx:af (CC []) (runK (CC []) (a.length+1)) (a.length+1) kL ⟨entry 41 [aL a,aL b],[],[]⟩=some (.ret,st):=by
      rw[aM 2 h1,uK,aw ((aw g1).trans (bF q1))]
      exact e1
     rw[hs,q3]
     exact⟨a.length+2,_,_,_,_,_,aQ rQ rfl hx e2,eF _ _,Wk.refl rfl,trivial⟩
    ·have hx:af (CC []) (runK (CC []) (a.length+1)) (a.length+1) kL ⟨entry 41 [aL a,aL b],[],[]⟩=some (.ret,⟨fr3,[],[]⟩):=by
      rw[aM 2 h1,uK,cm ((aw g1).trans (cW q1))]
     have e2:aV TT fr3 [] Tryz.f146.results.toList=some [Ab.bC (dL (val a) (val b))]:=by
      simp[Tryz.f146,aV,q2,Ab.bC]
     rw[hs]
     exact⟨a.length+2,_,_,_,_,_,aQ rQ rfl hx e2,eF _ _,Wk.refl rfl,trivial⟩
   ·obtain⟨st,e1,e2⟩:=KX [] (runK (CC []) 1) 1 a b hab
    exact⟨2,_,_,_,_,_,aQ rQ rfl e1 e2,eF _ _,Wk.refl rfl,trivial⟩
  ·cases h
 ·cases h
end Go.Proofs.YtjdmodeenbdfpaaGreat
