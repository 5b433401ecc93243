/- An abstract interpreter over the model's code and its soundness, part 17 of the proof; each lemma states its own conditions. -/
import Derived.Test.YtjdmodeenbdfpaaGreatP16
set_option linter.unusedSimpArgs false
set_option linter.unusedVariables false
namespace Go.Ab
open Go
def ah:Nat→Code→Code
 | 0,c=>c
 | n+1,.seq _ b=>ah n b
 | _+1,c=>c
def aY (C:Cfg)(run:aq)(k:Nat):Nat→Code→St→Option St
 | 0,_,st=>some st
 | n+1,.seq a b,st=>match af C run k a st with
  | some (.normal,st')=>aY C run k n b st'
  | _=>none
 | _+1,_,_=>none
theorem aO {C:Cfg}{run:aq}{k:Nat} : ∀ (n:Nat) {c:Code} {st st':St},aY C run k n c st=some st'→af C run k c st=af C run k (ah n c) st'
 | 0,c,st,st',h=>by simp[aY] at h;subst h;rfl
 | n+1,c,st,st',h=>by
  cases c with
  | seq a b =>
   simp only[aY] at h
   split at h
   ·rename_i st1 e
    simp only[af,e,ah]
    exact aO n h
   ·cases h
  | _=>simp[aY] at h
theorem aw {C:Cfg}{run:aq}{k:Nat}{a b:Code}{st st':St}(h:af C run k a st=some (.normal,st')):af C run k (.seq a b) st=af C run k b st':=by
 simp only[af,h]
theorem bE {C:Cfg}{run:aq}{k i:Nat}{b:Code}{st st':St}(h:bX (af C run k b) k st=some (.exit i,st')):af C run k (.block i (.loop b)) st=some (.normal,st'):=by
 simp only[af,h,if_true]
theorem ft {C:Cfg}{run:aq}{k i:Nat}{b:Code}{st st':St}(h:af C run k b st=some (.normal,st')):af C run k (.block i b) st=some (.normal,st'):=by
 simp only[af,h]
theorem bV {f:St→Option (Ex × St)}{n:Nat}{st st':St}(h:f st=some (.normal,st')):bX f (n+1) st=bX f n st':=by
 simp only[bX,h]
theorem bw {f:St→Option (Ex × St)}{n i:Nat}{st st':St}(h:f st=some (.exit i,st')):bX f (n+1) st=some (.exit i,st'):=by
 simp only[bX,h]
theorem eN {f:St→Option (Ex × St)}{n:Nat}{st st':St}(h:f st=some (.ret,st')):bX f (n+1) st=some (.ret,st'):=by
 simp only[bX,h]
theorem Ns {C:Cfg}{run:aq}{k:Nat}{g:FuncId}{args:List PV}{fn:Func}{c:Code}{st:St}{rs:List PV}
  (hF:C.F g=some fn) (hb:fn.body=some c) (hx:af C run k c ⟨entry fn.ntmps args,[],[]⟩=some (.ret,st)) (hr:aZ C.T st.fr st.hp fn.results.toList=some rs) :
  mP C run k g args []=some (rs,st.hp,st.wr):=by
 simp only[mP,hF,hb,hx,hr]
theorem aQ {C:Cfg}{k:Nat}{g:FuncId}{args:List PV}{fn:Func}{c:Code}{st:St}{rs:List PV}
  (hF:C.F g=some fn) (hb:fn.body=some c) (hx:af C (runK C k) k c ⟨entry fn.ntmps args,[],[]⟩=some (.ret,st)) (hr:aZ C.T st.fr st.hp fn.results.toList=some rs) (hs:C.sorc g=none:=by rfl) :
  runK C (k+1) g args []=some (rs,st.hp,st.wr):=by
 simp only[runK,hs]
 exact Ns hF hb hx hr
theorem gh:∀ (n:Nat) (l:List PV),l.length≤n→(entry n l).length=n
 | 0,l,h=>by simp at h;subst h;rfl
 | n+1,[],_=>by simp[entry,gh n [] (by simp)]
 | n+1,a::l,h=>by simp[entry,gh n l (by simpa using h)]
theorem bQ {f:St→Option (Ex × St)}{r:Ex × St} : ∀ {n m:Nat} {st:St},bX f n st=some r→n≤m→bX f m st=some r
 | 0,m,st,h,_=>by simp[bX] at h
 | n+1,0,st,_,h=>by omega
 | n+1,m+1,st,h,hm=>by
  simp only[bX] at h ⊢
  split at h
  ·exact bQ h (by omega)
  ·exact h
theorem dB.set {b:Nat}{hp:List Blk}{l:List Nat}{p:PV}(h:dB b hp l p)(i:Nat)(x:Blk)(hi:i<b):dB b (bP hp i x) l p:=by
 obtain⟨hb,h⟩:=h
 refine⟨by rw[bz];exact hb,?_⟩
 rcases h with ⟨rfl,rfl⟩| ⟨id,m,h1,h2,rfl,h⟩
 ·exact .inl ⟨rfl,rfl⟩
 ·refine .inr ⟨id,m,h1,by rw[bz];exact h2,rfl,?_⟩
  rw[fI,cj,List.getElem?_set_ne (by omega),← cj]
  exact h
theorem dB.out {b:Nat}{hp:List Blk}{l:List Nat}{p:PV}(h:dB b hp l p)(n:Bool) :
  ∃ rs ids,bm (Ab.snap hp bh) [.agg [.sc (.bool n),p]]=some (rs,ids)∧WkL rs [wh n l]:=by
 obtain⟨q,ids,h1,h2,h3⟩:=h.snap 9
 refine⟨[.agg [.sc (.bool n),q]],ids++[]++[],?_,?_⟩
 ·have:Ab.snap hp 12 (.agg [.sc (.bool n),p])=some (.agg [.sc (.bool n),q],ids++[]):=by
   rw[Ab.snap]
   simp only[bm,h1]
   rfl
  simp only[bh,bm,this]
  try simp
 ·exact⟨Wk.agg ⟨Wk.refl rfl,h2,trivial⟩,trivial⟩
theorem dB.GA {b:Nat}{hp:List Blk}{l:List Nat}{p:PV}(h:dB b hp l p) :
  ∃ rs ids,bm (Ab.snap hp bh) [p]=some (rs,ids)∧WkL rs [aL l]:=by
 obtain⟨q,ids,h1,h2,h3⟩:=h.snap 10
 refine⟨[q],ids++[],?_,h2,trivial⟩
 simp only[bh,bm,h1]
theorem tQ {n:Nat}(h:0<n)(h':n<18446744073709551616):bu .u64 (-(n:Int))=Int.ofNat (18446744073709551616 - n):=by
 have h1:decide (loK .u64 ≤ -(n:Int))=false:=by
  apply decide_eq_false
  simp[loK];omega
 unfold bu
 rw[h1]
 simp[IntKind.wrap,IntKind.bits,IntKind.signed]
 omega
theorem cL (n:Nat)(x:Bool)(cs:List PV):eM (.imm n x cs)=some n:=(rfl)
theorem gT (a b c n:Nat)(x:Bool):eM (.own a b c n x)=some n:=(rfl)
theorem ca (l:List Nat):eM (aL l)=some l.length:=(rfl)
theorem wP (l:List Nat):(aL l).cells?=some [aL l]:=(rfl)
theorem bg (cs:List PV):(PV.agg cs).cells?=some cs:=(rfl)
theorem jF (b:Bool):(PV.sc (.bool b)).cells?=some [.sc (.bool b)]:=(rfl)
theorem Ng (a b c n:Nat)(x:Bool):(PV.own a b c n x).cells?=some [.own a b c n x]:=(rfl)
theorem bO (l:List Nat):eC (aL l)=true:=(rfl)
theorem bx (b:Bool):eC (PV.sc (.bool b))=true:=(rfl)
theorem GC (k:IntKind)(n:Int):eC (PV.sc (.int k n))=true:=(rfl)
theorem vJ (a b c n:Nat)(x:Bool):eC (PV.own a b c n x)=true:=(rfl)
theorem fm:eC (PV.sc (.slice none 0 0))=true:=(rfl)
theorem afh (a b:Nat):((a:Int) == (b:Int))=decide (a=b):=by
 by_cases h:a=b
 ·simp[h]
 ·rw[decide_eq_false h,beq_eq_false_iff_ne];omega
theorem Ek (a b:Nat):((a:Int) != (b:Int)) = !decide (a=b):=by
 rw[bne,afh]
theorem cG (m:Nat)(h:m<9223372036854775808):bu .i64 ((m:Int) - 1)=(m:Int) - 1:=by
 unfold bu
 have h1:decide (loK .i64≤(m:Int) - 1)=true:=decide_eq_true (by simp only[loK];omega)
 have h2:decide ((m:Int) - 1≤hiK .i64)=true:=decide_eq_true (by simp only[hiK];omega)
 rw[h1,h2];rfl
theorem bF (m:Nat)(h:m<9223372036854775807):bu .i64 ((m:Int)+1)=(m:Int)+1:=by
 unfold bu
 have h1:decide (loK .i64≤(m:Int)+1)=true:=decide_eq_true (by simp only[loK];omega)
 have h2:decide ((m:Int)+1≤hiK .i64)=true:=decide_eq_true (by simp only[hiK];omega)
 rw[h1,h2];rfl
theorem bj (k:IntKind)(n:Nat):fx (.sc (.int k (n:Int)))=some n:=(rfl)
theorem iw (k:IntKind)(n:Nat):fx (.sc (.int k ((n:Int)+1)))=some (n+1):=(rfl)
theorem jo (k:IntKind):fx (.sc (.int k 0))=some 0:=(rfl)
theorem Zo (k:IntKind):fx (.sc (.int k 1))=some 1:=(rfl)
theorem ib {n:Nat}(h:n≤4294967295):n≤hiN .u32:=h
theorem dp {n:Nat}(h:n≤18446744073709551615):n≤hiN .u64:=h
theorem hiI {n:Nat}(h:n≤9223372036854775807):n≤hiN .i64:=h
theorem cP (n:Nat)(p:PV):(entry (n+1) [p]).length=n+1∧nth (entry (n+1) [p]) 0=p:=⟨gh _ _ (by simp),rfl⟩
theorem cA (n:Nat)(p q:PV):(entry (n+2) [p,q]).length=n+2∧nth (entry (n+2) [p,q]) 0=p∧nth (entry (n+2) [p,q]) 1=q:=⟨gh _ _ (by simp),rfl,rfl⟩
theorem abP (n:Nat):((n:Int)≤2)=(n≤2):=by apply propext;omega
end Go.Ab
namespace Go.Proofs.YtjdmodeenbdfpaaGreat
open Go Go.Ab
noncomputable def ofB:Code:=((Tryz.f97.body).bind aF).getD .skip
set_option maxHeartbeats 1000000 in
theorem Ru (L:List (Nat × (List PV→Option (List PV))))(run:aq)(k:Nat)(fr:List PV)(hp:List Blk)(wr:List Nat)(u:Nat)(l:List Nat)
  (hu:u≠0) (hu2:u<18446744073709551616) (h20:fr.length=26) (h3:nth fr 3 = .sc (.int .u64 (Int.ofNat u))) (hO:dB 1 hp l (nth fr 5)) (hl:l.length<1000) :
  ∃ fr' hp' wr',af (CC L) run k ofB ⟨fr,hp,wr⟩=some (.normal,⟨fr',hp',wr'⟩)∧fr'.length=26∧nth fr' 3 = .sc (.int .u64 (Int.ofNat (u / 1000000000)))
   ∧ dB 1 hp' (l++[u % 1000000000]) (nth fr' 5)∧nth fr' 2=nth fr 2∧nth fr' 4=nth fr 4∧aV hp' 0=aV hp 0:=by
 have hq:bu .u64 ((u:Int) / 1000000000)=Int.ofNat (u / 1000000000):=di .u64 (u / 1000000000) (by simp[hiN];omega)
 have hc:bu .u32 ((u:Int).tmod 1000000000)=Int.ofNat (u % 1000000000):=di .u32 (u % 1000000000) (by simp[hiN];omega)
 generalize u / 1000000000=q at *
 generalize u % 1000000000=r at *
 obtain⟨p',hp',fp,ha,hO',hk⟩:=hO.app r (by omega)
 have hu0:0<u:=by omega
 have hdg:PV.sc (.int .u32 (r:Int))=dg r:=rfl
 have hlit:fZ TT 68 1 [(0,dg r)]=some (1,[dg r]):=by
  simp[fZ,uD,s32,z32,rep,dF,fQ,bZ]
 have hrd:fe hp 1 (.imm 1 true [dg r])=some (1,[dg r],[]):=by simp[fe]
 have hif:bK [dg r]=true:=rfl
 have hk0:=hk 0 (by omega)
 simp[ofB,Tryz.f97,aF,af,aH,an,ao,aG,ag,ai,aj,ak,aC,az,FP.none,bc,ar,bd,au,aa,ae,ab,bf,and_assoc,aX,df,h20,h3,dn,u32,u64,uD,s32,b32,z32,hq,hc,hu0,hdg,hlit,hrd,hif,bS,ha,hO',hk0]
theorem W1 (L:List (Nat × (List PV→Option (List PV))))(run:aq)(k:Nat)(fr:List PV)(hp:List Blk)(wr:List Nat)
  (h20:fr.length=26) (h3:nth fr 3 = .sc (.int .u64 (Int.ofNat 0))) :
  ∃ fr',af (CC L) run k ofB ⟨fr,hp,wr⟩=some (.exit 0,⟨fr',hp,wr⟩)∧nth fr' 5=nth fr 5∧nth fr' 2=nth fr 2∧nth fr' 4=nth fr 4∧fr'.length=26:=by
 simp[ofB,Tryz.f97,aF,af,aH,an,ao,aG,ag,ai,aj,ak,aC,az,FP.none,bc,ar,bd,au,aa,ae,ab,h20,h3]
theorem IY (L:List (Nat × (List PV→Option (List PV))))(run:aq)(k:Nat):∀ (j u:Nat) (l:List Nat) (fr:List PV) (hp:List Blk) (wr:List Nat),
  u<1000000000 ^ j→l.length+j<1000→u<18446744073709551616→fr.length=26→nth fr 3 = .sc (.int .u64 (Int.ofNat u))→dB 1 hp l (nth fr 5) →
  ∃ fr' hp' wr',bX (af (CC L) run k ofB) (j+1) ⟨fr,hp,wr⟩=some (.exit 0,⟨fr',hp',wr'⟩)∧fr'.length=26
   ∧ dB 1 hp' (l++aA u) (nth fr' 5)∧nth fr' 2=nth fr 2∧nth fr' 4=nth fr 4∧aV hp' 0=aV hp 0
 | j,u,l,fr,hp,wr,hu,hl,hu2,h20,h3,hO=>by
  by_cases h0:u=0
  ·subst h0
   obtain⟨fr',h1,h2,h4,h5,h6⟩:=W1 L run k fr hp wr h20 h3
   refine⟨fr',hp,wr,bw h1,h6,?_,h4,h5,rfl⟩
   rw[h2,ff,List.append_nil];exact hO
  ·cases j with
   | zero=>simp at hu;omega
   | succ j =>
    obtain⟨fr1,hp1,wr1,h1,h2,h4,h5,h6,h7,h8⟩:=Ru L run k fr hp wr u l h0 hu2 h20 h3 hO (by omega)
    obtain⟨fr',hp',wr',g1,g2,g3,g4,g5,g6⟩:=IY L run k j (u / 1000000000) (l++[u % 1000000000]) fr1 hp1 wr1 (by rw[Nat.pow_succ] at hu;omega) (by simp;omega) (by omega) h2 h4 h5
    refine⟨fr',hp',wr',by rw[bV h1];exact g1,g2,?_,by rw[g4,h6],by rw[g5,h7],by rw[g6,h8]⟩
    rw[dM h0]
    simpa using g3
noncomputable def ofC:Code:=Tryz.f97.body.getD .skip
theorem Rm:ah 4 ofC = .seq (.block 0 (.loop ofB)) (ah 5 ofC):=rfl
theorem abk (L:List (Nat × (List PV→Option (List PV))))(run:aq)(k:Nat)(z:Int)(h1 : -9223372036854775808≤z)(h2:z<9223372036854775808) :
  ∃ fr hp wr,aY (CC L) run k 4 ofC ⟨entry 26 [Ab.bC z],[],[]⟩=some ⟨fr,hp,wr⟩∧fr.length=26∧nth fr 3 = .sc (.int .u64 (Int.ofNat z.natAbs))∧nth fr 5 = .sc (.slice none 0 0)
   ∧ nth fr 2 = .ptr 0 0∧nth fr 4 = .sc (.bool (bq z))∧hp=[⟨.live,[.sc (.bool false),.sc (.slice none 0 0)]⟩]:=by
 cases z with
 | ofNat n =>
  have hw:bu .u64 (n:Int)=Int.ofNat n:=di .u64 n (by simp[hiN];simp at h2;omega)
  have hlt:((n:Int)<0)=False:=by simp
  simp[ofC,Tryz.f97,aY,entry,nth,jh,Ab.bC,af,aH,an,ao,aG,ag,ai,aj,ak,aC,az,FP.none,bc,ar,bd,au,bf,and_assoc,dn,uI,u64,zW,aM,hw,bq,hlt]
 | negSucc n =>
  have hw:bu .u64 (Int.negSucc n)=Int.ofNat (18446744073709551616 - (n+1)):=by
   have:=tQ (n:=n+1) (by omega) (by omega)
   rw[← this];rfl
  have hlt:(Int.negSucc n<0)=True:=by simp
  have hw2:bu .u64 (-((18446744073709551616 - (n+1):Nat):Int))=(n:Int)+1:=by
   rw[tQ (by omega) (by omega)]
   simp;omega
  simp only[Int.ofNat_eq_natCast] at hw
  generalize 18446744073709551616 - (n+1)=m at *
  simp[ofC,Tryz.f97,aY,entry,nth,jh,Ab.bC,af,aH,an,ao,aG,ag,ai,aj,ak,aC,az,FP.none,bc,ar,bd,au,unP,bf,and_assoc,dn,uI,u64,zW,aM,hw,hw2,bq,hlt]
theorem W2 (L:List (Nat × (List PV→Option (List PV))))(run:aq)(k:Nat)(fr:List PV)(hp:List Blk)(wr:List Nat)(n:Bool)(l:List Nat)(p:PV)
  (h20:fr.length=26) (h2:nth fr 2 = .ptr 0 0) (h4:nth fr 4 = .sc (.bool n)) (h5:nth fr 5=p) (hO:dB 1 hp l p) (hb:aV hp 0=some ⟨.live,[.sc (.bool false),.sc (.slice none 0 0)]⟩) :
  ∃ st,af (CC L) run k (ah 5 ofC) ⟨fr,hp,wr⟩=some (.ret,st)∧aZ TT st.fr st.hp Tryz.f97.results.toList=some [.agg [.sc (.bool n),p]]∧st.hp=bP hp 0 ⟨.live,[.sc (.bool n),p]⟩:=by
 have hc:=hO.cells
 have hk:=hO.okc
 have hokb:∀ b,eC (PV.sc (.bool b))=true:=fun _=>rfl
 have hcb:∀ b,(PV.sc (.bool b)).cells?=some [.sc (.bool b)]:=fun _=>rfl
 have hca:∀ cs,(PV.agg cs).cells?=some cs:=fun _=>rfl
 have hn:aV (bP hp 0 ⟨.live,[.sc (.bool n),p]⟩) 0=some ⟨.live,[.sc (.bool n),p]⟩:=by rw[cD hb,if_pos rfl]
 simp[ofC,ah,Tryz.f97,af,aH,an,ao,aG,ag,ai,aj,ak,aC,az,FP.none,au,partOf,aa,ae,ab,bf,bg,jF,bx,aX,h20,h2,h4,h5,eE,zW,uW,wf0,wf1,sB,sD,sW,aW,dF,jy,hc,hk,bZ,hb,aZ,aU,hn,bn,bA]
def ofF:List PV→Option (List PV)
 | [.sc (.int .i64 z)]=>bif decide (-9223372036854775808≤z) && decide (z<9223372036854775808) then some [bk z] else none
 | _=>none
theorem nk:Ab.Spec base.P 97 ofF:=Ab.Spec.bL (C:=CC []) (cU trivial) fun args rs h=>by
 unfold ofF at h
 split at h
 ·rename_i z
  cases hd:decide (-9223372036854775808≤z) && decide (z<9223372036854775808) with
  | false=>rw[hd] at h;cases h
  | true =>
   rw[hd] at h
   simp only[cond_true,Option.some.injEq] at h
   subst h
   simp only[Bool.and_eq_true,decide_eq_true_eq] at hd
   obtain⟨fr1,hp1,wr1,h1,h20,h3,h5,h2,h4,hhp⟩:=abk [] (runK (CC []) 4) 4 z hd.1 hd.2
   obtain⟨fr2,hp2,wr2,g1,g2,g3,g4,g5,g6⟩:=IY [] (runK (CC []) 4) 4 3 z.natAbs [] fr1 hp1 wr1 (by omega) (by simp) (by omega) h20 h3 (by rw[h5];exact dB.nil (by rw[hhp];simp))
   obtain⟨st,e1,e2,e3⟩:=W2 [] (runK (CC []) 4) 4 fr2 hp2 wr2 (bq z) _ _ g2 (by rw[g4,h2]) (by rw[g5,h4]) rfl g3 (by rw[g6,hhp];rfl)
   have hx:af (CC []) (runK (CC []) 4) 4 ofC ⟨entry 26 [Ab.bC z],[],[]⟩=some (.ret,st):=by
    rw[aO 4 h1,Rm,aw (bE g1)]
    exact e1
   obtain⟨rs2,ids,q1,q2⟩:=(g3.set 0 ⟨.live,[.sc (.bool (bq z)),nth fr2 5]⟩ (by omega)).out (bq z)
   rw[← e3] at q1
   exact⟨5,_,_,_,rs2,ids,aQ Zz rfl hx e2,q1,q2⟩
 ·cases h
abbrev Lst:=List (Nat × (List PV→Option (List PV)))
noncomputable def rJ:Code:=((Tryz.f167.body).bind aF).getD .skip
theorem aaD (l:List Nat)(a:Nat)(hp:List Blk):dA TT hp 68 (aL (l++[a])) none (some (.sc (.int .i64 (l.length:Int)))) none=some (aL l):=by
 have h:aL (l++[a]) = .imm (l.length+1) false ((l++[a]).map dg):=by simp[aL]
 rw[h]
 simp only[dA,uD,iz,s32,bnd,fF,fx,Option.map]
 simp[gl,bn]
 rw[dL (by simp)]
 simp[aL]
set_option maxHeartbeats 1000000 in
theorem JX (L:Lst)(run:aq)(k:Nat)(fr:List PV)(hp:List Blk)(wr:List Nat)(l:List Nat)(a:Nat)(hl:l.length<10000000)(ha:a≠0)
  (h21:fr.length=21) (h0:nth fr 0=aL (l++[a])) :
  ∃ fr',af (CC L) run k rJ ⟨fr,hp,wr⟩=some (.exit 0,⟨fr',hp,wr⟩)∧nth fr' 0=nth fr 0∧fr'.length=21:=by
 have hw:bu .i64 ((l.length+1:Nat) - 1:Int)=Int.ofNat l.length:=by
  have:=di .i64 l.length (by simp[hiN];omega)
  rw[← this];congr 1;omega
 have hw':bu .i64 (l.length:Int)=Int.ofNat l.length:=di .i64 l.length (by simp[hiN];omega)
 have h:aL (l++[a]) = .imm (l.length+1) false ((l++[a]).map dg):=by simp[aL]
 have hd:(bn ((l++[a]).map dg) l.length).head?=some (.sc (.int .u32 a)):=by
  rw[eF _ _ (by simp)];simp[dg]
 rw[h] at h0
 have ha':((a:Int) == 0)=false:=by simp;exact ha
 simp[rJ,Tryz.f167,aF,af,aH,an,ao,aG,ag,ai,aj,ak,aC,az,FP.none,bc,ar,bd,au,bH,ba,bj,partOf,aa,ae,ab,bf,cL,h21,h0,uD,s32,a32,hw',hd,ha',aU,-List.map_append]
set_option maxHeartbeats 1000000 in
theorem Ob (L:Lst)(run:aq)(k:Nat)(fr:List PV)(hp:List Blk)(wr:List Nat)(h21:fr.length=21)(h0:nth fr 0=aL []) :
  ∃ fr',af (CC L) run k rJ ⟨fr,hp,wr⟩=some (.exit 0,⟨fr',hp,wr⟩)∧nth fr' 0=nth fr 0∧fr'.length=21:=by
 have h:aL [] = .imm 0 false []:=rfl
 rw[h] at h0
 simp[rJ,Tryz.f167,aF,af,aH,an,ao,aG,ag,ai,aj,ak,aC,az,FP.none,bc,ar,bd,au,bH,aa,ae,ab,bf,cL,h21,h0,uD,-List.map_append]
set_option maxHeartbeats 1000000 in
theorem Vp (L:Lst)(run:aq)(k:Nat)(fr:List PV)(hp:List Blk)(wr:List Nat)(l:List Nat)(hl:l.length<10000000)
  (h21:fr.length=21) (h0:nth fr 0=aL (l++[0])) :
  ∃ fr',af (CC L) run k rJ ⟨fr,hp,wr⟩=some (.normal,⟨fr',hp,wr⟩)∧nth fr' 0=aL l∧fr'.length=21:=by
 have hw':bu .i64 (l.length:Int)=Int.ofNat l.length:=di .i64 l.length (by simp[hiN];omega)
 have h:aL (l++[0]) = .imm (l.length+1) false ((l++[0]).map dg):=by simp[aL]
 have hd:(bn ((l++[0]).map dg) l.length).head?=some (.sc (.int .u32 0)):=by
  rw[eF _ _ (by simp)];simp[dg]
 have hs:=aaD l 0
 rw[h] at h0 hs
 simp[rJ,Tryz.f167,aF,af,aH,an,ao,aG,ag,ai,aj,ak,aC,az,FP.none,bc,ar,bd,au,bH,ba,bj,partOf,aa,ae,ab,bf,cL,h21,h0,uD,s32,a32,hw',hd,hs,aU,-List.map_append]
theorem xQ (L:Lst)(run:aq)(k:Nat):∀ (n:Nat) (l:List Nat) (fr:List PV) (hp:List Blk) (wr:List Nat),l.length=n→n<10000000→fr.length=21→nth fr 0=aL l →
  ∃ fr',bX (af (CC L) run k rJ) (n+1) ⟨fr,hp,wr⟩=some (.exit 0,⟨fr',hp,wr⟩)∧nth fr' 0=aL (eZ l)∧fr'.length=21
 | 0,l,fr,hp,wr,hl,hn,h21,h0=>by
  have:l=[]:=List.length_eq_zero_iff.1 hl
  subst this
  obtain⟨fr',h1,h2,h3⟩:=Ob L run k fr hp wr h21 h0
  exact⟨fr',bw h1,by rw[h2,h0];rfl,h3⟩
 | n+1,l,fr,hp,wr,hl,hn,h21,h0=>by
  obtain⟨l',a,rfl,hl'⟩:=zZ hl
  by_cases ha:a=0
  ·subst ha
   obtain⟨fr1,h1,h2,h3⟩:=Vp L run k fr hp wr l' (by omega) h21 h0
   obtain⟨fr',g1,g2,g3⟩:=xQ L run k n l' fr1 hp wr hl' (by omega) h3 h2
   exact⟨fr',by rw[bV h1];exact g1,by rw[g2,eu,if_pos rfl],g3⟩
  ·obtain⟨fr',h1,h2,h3⟩:=JX L run k fr hp wr l' a (by omega) ha h21 h0
   exact⟨fr',bw h1,by rw[h2,h0,eu,if_neg ha],h3⟩
noncomputable def ua:Code:=Tryz.f167.body.getD .skip
theorem ER:ah 1 ua = .seq (.block 0 (.loop rJ)) (ah 2 ua):=rfl
theorem Oa (L:Lst)(run:aq)(k:Nat)(p:PV):∃ fr,aY (CC L) run k 1 ua ⟨entry 21 [p],[],[]⟩=some ⟨fr,[],[]⟩∧fr.length=21∧nth fr 0=p:=by
 simp[ua,Tryz.f167,aY,entry,nth,jh,af,aH,an,ao,aG,ag,ai,aj,ak,aC,az,FP.none,au]
theorem JY (L:Lst)(run:aq)(k:Nat)(fr:List PV)(hp:List Blk)(wr:List Nat)(p:PV)(h21:fr.length=21)(h0:nth fr 0=p) :
  ∃ st,af (CC L) run k (ah 2 ua) ⟨fr,hp,wr⟩=some (.ret,st)∧aZ TT st.fr st.hp Tryz.f167.results.toList=some [p]:=by
 simp[ua,ah,Tryz.f167,af,aH,an,ao,aG,ag,ai,aj,ak,aC,az,FP.none,aa,ab,h21,h0,aZ]
def jb:List PV→Option (List PV)
 | [p]=>match gN p with
  | some l=>some [aL (eZ l)]
  | none=>none
 | _=>none
theorem CR (hp:List Blk)(l:List Nat):bm (snap hp bh) [aL l]=some ([aL l],[]):=rfl
theorem iL (hp:List Blk)(z:Int):bm (snap hp bh) [bk z]=some ([bk z],[]):=rfl
theorem jt:Ab.Spec base.P 167 jb:=Ab.Spec.bL (C:=CC []) (cU trivial) fun args rs h=>by
 unfold jb at h
 split at h
 ·split at h
  ·rename_i l hl
   obtain⟨rfl,_,hlen⟩:=dk hl
   simp only[Option.some.injEq] at h
   subst h
   obtain⟨fr1,h1,h20,h0⟩:=Oa [] (runK (CC []) (l.length+1)) (l.length+1) (aL l)
   obtain⟨fr2,g1,g2,g3⟩:=xQ [] (runK (CC []) (l.length+1)) (l.length+1) l.length l fr1 [] [] rfl (by omega) h20 h0
   obtain⟨st,e1,e2⟩:=JY [] (runK (CC []) (l.length+1)) (l.length+1) fr2 [] [] _ g3 g2
   have hx:af (CC []) (runK (CC []) (l.length+1)) (l.length+1) ua ⟨entry 21 [aL l],[],[]⟩=some (.ret,st):=by
    rw[aO 1 h1,ER,aw (bE g1)]
    exact e1
   exact⟨l.length+2,_,_,_,_,_,aQ NI rfl hx e2,CR _ _,Wk.refl rfl,trivial⟩
  ·cases h
 ·cases h
def sgn (n:Bool)(v:Nat):Int:=bif n then Int.negOfNat v else Int.ofNat v
theorem aap {l:List Nat}(h:Dok l)(n:Bool):wh (n && decide (0<(eZ l).length)) (eZ l)=bk (sgn n (val l)):=by
 rw[eA h]
 cases n with
 | false=>rfl
 | true =>
  by_cases h0:val l=0
  ·rw[h0];rfl
  ·rw[sgn,cond_true,DH h0]
   have:=cN.2 h0
   simp[this]
def fH:List PV→Option (List PV)
 | [.sc (.bool n),p]=>match gN p with
  | some l=>some [bk (sgn n (val l))]
  | none=>none
 | _=>none
def zM:Lst:=[(167,jb)]
theorem Nj (run:aq)(dr:Bool)(hp:List Blk)(l:List Nat)(hd:Dok l)(hl:l.length<1000000):bU (CC zM) run dr hp 167 [aL l]=some (aL (eZ l),hp,⟨[],[],false,false⟩):=by
 have h3:(CC zM).orc 167 [aL l]=some [aL (eZ l)]:=by
  show jb (aJ [aL l])=_
  simp only[aJ,fw,jb,cR hd hl]
 exact dW tr (CR hp l) h3 rfl
noncomputable def Iu:Code:=Tryz.f152.body.getD .skip
theorem BK (neg:Bool)(l:List Nat)(hd:Dok l)(hl:l.length<1000000)(run:aq)(k:Nat) :
  ∃ st,af (CC zM) run k Iu ⟨entry 15 [.sc (.bool neg),aL l],[],[]⟩=some (.ret,st)∧aZ TT st.fr st.hp Tryz.f152.results.toList=some [bk (sgn neg (val l))]:=by
 rw[← aap hd]
 have hc:∀ hp dr,bU (CC zM) run dr hp 167 [aL l]=some (aL (eZ l),hp,⟨[],[],false,false⟩):=fun hp dr=>Nj run dr hp l hd hl
 cases neg <;> simp[Iu,Tryz.f152,entry,nth,jh,af,aH,an,ao,aG,ag,ai,aP,aj,ak,aC,az,FP.none,bc,ar,bd,au,bH,partOf,bf,ca,wP,bg,jF,bO,bx,aX,hc,zW,aM,uD,eE,uW,wf0,wf1,sB,sD,sW,aW,dF,jy,bZ,aZ,aU,aV,bP,bn,bA,wh]
theorem jL:Ab.Spec base.P 152 fH:=Ab.Spec.bL (C:=CC zM) (cU ⟨jt,trivial⟩) fun args rs h=>by
 unfold fH at h
 split at h
 ·split at h
  ·rename_i n p _ l hl
   obtain⟨rfl,hd,hlen⟩:=dk hl
   simp only[Option.some.injEq] at h
   subst h
   obtain⟨st,e1,e2⟩:=BK n l hd hlen (runK (CC zM) 1) 1
   exact⟨2,_,_,_,_,_,aQ Ev rfl e1 e2,iL _ _,Wk.refl rfl,trivial⟩
  ·cases h
 ·cases h
end Go.Proofs.YtjdmodeenbdfpaaGreat
namespace Go.Ab
open Go
def cT:Nat→Nat→List Nat
 | 0,_=>[]
 | n+1,v=>v % 1000000000::cT n (v / 1000000000)
theorem de:∀ n v,(cT n v).length=n
 | 0,_=>rfl
 | n+1,v=>by simp[cT,de n]
theorem fY:∀ n v,Dok (cT n v)
 | 0,_=>Dok.nil
 | n+1,v=>(fY n _).cons (by omega)
theorem fc:∀ n v,v<1000000000 ^ n→val (cT n v)=v
 | 0,v,h=>by simp at h;subst h;rfl
 | n+1,v,h=>by
  rw[cT,val,fc n _ (by rw[Nat.pow_succ] at h;omega)]
  omega
theorem mn:∀ {l:List Nat},Dok l→cT l.length (val l)=l
 | [],_=>rfl
 | a::l,h=>by
  have ha:=h.head
  rw[List.length_cons,cT,val,Nat.add_mul_mod_self_left,Nat.mod_eq_of_lt ha,Nat.add_mul_div_left _ _ (by omega),Nat.div_eq_of_lt ha,Nat.zero_add,mn h.tail]
theorem Dok.ov {l:List Nat}{n v:Nat}(h:Dok l)(hl:l.length=n)(hv:val l=v):l=cT n v:=by
 subst hl;subst hv;exact (mn h).symm
def dH (a b:Nat):Int:=if a<b then -1 else if a=b then 0 else 1
theorem ko {a:List Nat}{m:Nat}(hm:m<a.length):val a=val (a.take m)+(a[m]*1000000000 ^ m+1000000000 ^ (m+1)*val (a.drop (m+1))):=by
 rw[kp a (m+1) (by omega),gF a m hm]
 omega
theorem kn {a b:List Nat}{m:Nat}(ha:Dok a)(hma:m<a.length)(hmb:m<b.length)(hd:a.drop (m+1)=b.drop (m+1))(h:a[m]<b[m]):val a<val b:=by
 rw[ko hma,ko hmb,hd]
 have h1:=eG (ha.take m)
 rw[List.length_take,Nat.min_eq_left (by omega)] at h1
 have h2:a[m]*1000000000 ^ m+1000000000 ^ m≤b[m]*1000000000 ^ m:=by
  have:=Nat.mul_le_mul_right (1000000000 ^ m) (show a[m]+1≤b[m] from h)
  rw[Nat.add_mul,Nat.one_mul] at this
  exact this
 omega
theorem cq (l:List Nat)(i:Nat)(h:l.length≤i):val (l.take i)=val l:=by
 rw[List.take_of_length_le h]
theorem dm (k:IntKind)(a b s:Nat)(h:s=a+b)(hs:s≤hiN k):bu k ((a:Int)+(b:Int))=(s:Int):=by
 subst h
 exact (by simpa using di k (a+b) hs)
theorem wrapM (k:IntKind)(a b s:Nat)(h:s=a*b)(hs:s≤hiN k):bu k ((a:Int)*(b:Int))=(s:Int):=by
 subst h
 exact (by simpa using di k (a*b) hs)
theorem xH (k:IntKind)(a b s:Nat)(h:a=b+s)(hs:s≤hiN k):bu k ((a:Int) - (b:Int))=(s:Int):=by
 have:=di k s hs
 rw[show ((a:Int) - (b:Int))=(s:Int) by omega];exact this
theorem ZA (k:IntKind)(a b s:Nat)(h:s=a / b)(hs:s≤hiN k):bu k ((a:Int) / (b:Int))=(s:Int):=by
 subst h
 exact (by simpa using di k (a / b) hs)
theorem ub (a b s:Nat)(h:s=a % b):(a:Int).tmod (b:Int)=(s:Int):=by
 subst h;exact (Int.ofNat_tmod a b).symm
def at0 (l:List Nat)(i:Nat):Nat:=l[i]?.getD 0
theorem cV {l:List Nat}{i:Nat}(h:i<l.length):at0 l i=l[i]:=by simp[at0,h]
theorem iu {l:List Nat}{i:Nat}(h:l.length≤i):at0 l i=0:=by simp[at0,h]
theorem cf {l:List Nat}(h:Dok l)(i:Nat):at0 l i<1000000000:=by
 by_cases hi:i<l.length
 ·rw[cV hi];exact h.get hi
 ·rw[iu (by omega)];omega
theorem ch (l:List Nat)(i:Nat):val (l.take (i+1))=val (l.take i)+at0 l i*1000000000 ^ i:=by
 by_cases hi:i<l.length
 ·rw[cV hi,gF l i hi]
 ·rw[iu (by omega),cq l _ (by omega),cq l _ (by omega)];simp
theorem cb (k:IntKind)(s:Nat)(hs:s≤hiN k):bu k (s:Int)=(s:Int):=di k s hs
theorem So {T:Tab}{t e:Nat}(hu:und T t=some (.slice e))(hs:cQ T e=some 1)(hz:dR T e=some [dg 0])(n:Nat) :
  fZ T t 1 [(0,dg n)]=some (1,[dg n]):=by
 simp[fZ,hu,hs,hz,rep,dF,fQ,bZ]
theorem mh (hp:List Blk)(n:Nat):fe hp 1 (.imm 1 true [dg n])=some (1,[dg n],[]):=by simp[fe]
theorem iZ (n:Nat):bK [dg n]=true:=(rfl)
theorem gH (n:Nat):PV.sc (.int .u32 (n:Int))=dg n:=(rfl)
theorem T0 (s:Nat):((s:Int) / 1000000000)=((s / 1000000000:Nat):Int):=by omega
theorem iX (k:IntKind)(a s:Nat)(h:s=a / 1000000000)(hs:s≤hiN k):bu k ((a:Int) / 1000000000)=(s:Int):=by
 subst h
 rw[T0];exact di k _ hs
theorem ku (a s:Nat)(h:s=a % 1000000000):(a:Int).tmod 1000000000=(s:Int):=by
 subst h
 rw[Int.tmod_eq_emod_of_nonneg (by omega)];omega
theorem kR (k:IntKind)(a s:Nat)(h:s=a*1000000000)(hs:s≤hiN k):bu k ((a:Int)*1000000000)=(s:Int):=by
 have e:((a:Int)*1000000000)=(s:Int):=by omega
 rw[e];exact di k _ hs
theorem cn {x y:Nat}(h:x≤y):(aA x).length≤(aA y).length:=cY (Nat.lt_of_le_of_lt h (fq y))
theorem kf {l:List Nat}{m y:Nat}(h:m<l.length):(l.set m y).drop m=y::l.drop (m+1):=by
 rw[List.drop_eq_getElem_cons (by simpa using h)]
 simp[List.drop_set]
theorem gU (l:List Nat)(m:Nat)(h:m<l.length):val (l.drop m)=at0 l m+1000000000*val (l.drop (m+1)):=by
 rw[List.drop_eq_getElem_cons h,val,cV h]
theorem DI {V V' Q R a b:Nat}(hb:0<b)(hV:V'=a+1000000000*V)(hQ:Q=V / b)(hR:R=V % b) :
  (R*1000000000+a) / b+1000000000*Q=V' / b∧(R*1000000000+a) % b=V' % b:=by
 have e:V'=(R*1000000000+a)+b*(1000000000*Q):=by
  have h:=Nat.div_add_mod V b
  rw[← hQ,← hR] at h
  rw[hV,← h]
  grind
 rw[e,Nat.add_mul_div_left _ _ hb,Nat.add_mul_mod_self_left]
 exact⟨rfl,rfl⟩
end Go.Ab
namespace Go.Proofs.YtjdmodeenbdfpaaGreat
open Go Go.Ab
noncomputable def nR:Code:=((Tryz.f146.body).bind aF).getD .skip
noncomputable def ky:Code:=Tryz.f146.body.getD .skip
set_option maxHeartbeats 1000000 in
theorem Oz (L:Lst)(run:aq)(k:Nat)(fr:List PV)(h41:fr.length=41)(h5:nth fr 5 = .sc (.int .i64 (-1))) :
  ∃ fr',af (CC L) run k nR ⟨fr,[],[]⟩=some (.exit 0,⟨fr',[],[]⟩)∧fr'.length=41:=by
 simp[nR,Tryz.f146,aF,af,aH,an,ao,aG,ag,ai,aj,ak,aC,az,FP.none,bc,ar,bd,au,aa,ab,h41,h5]
set_option maxHeartbeats 1000000 in
theorem size_eq (L:Lst)(run:aq)(k:Nat)(fr:List PV)(a b:List Nat)(m:Nat)(hma:m<a.length)(hmb:m<b.length)(hl:a.length<1000000)
  (h41:fr.length=41) (h0:nth fr 0=aL a) (h1:nth fr 1=aL b) (h5:nth fr 5 = .sc (.int .i64 (m:Int))) (h:a[m]=b[m]) :
  ∃ fr',af (CC L) run k nR ⟨fr,[],[]⟩=some (.normal,⟨fr',[],[]⟩)∧fr'.length=41∧nth fr' 0=aL a∧nth fr' 1=aL b∧nth fr' 5 = .sc (.int .i64 ((m:Int) - 1)):=by
 have hw:bu .i64 ((m:Int) - 1)=(m:Int) - 1:=cG m (by omega)
 have hda:=eF a m hma
 have hdb:=eF b m hmb
 rw[h] at hda
 generalize b[m]=y at *
 have e1:aL a = .imm a.length false (a.map dg):=rfl
 have e2:aL b = .imm b.length false (b.map dg):=rfl
 have hdg:dg y = .sc (.int .u32 (y:Int)):=rfl
 rw[e1] at h0 ⊢;rw[e2] at h1 ⊢;rw[hdg] at hda hdb
 simp[nR,Tryz.f146,aF,af,aH,an,ao,aG,ag,ai,aj,ak,aC,az,FP.none,bc,ar,bd,au,ba,bj,partOf,aa,ae,ab,bf,h41,h0,h1,h5,uD,s32,a32,hma,hmb,hda,hdb,aU,number,FP.free,hw]
set_option maxHeartbeats 1000000 in
theorem VD (L:Lst)(run:aq)(k:Nat)(fr:List PV)(a b:List Nat)(m:Nat)(hma:m<a.length)(hmb:m<b.length)(hl:a.length<1000000)
  (h41:fr.length=41) (h0:nth fr 0=aL a) (h1:nth fr 1=aL b) (h5:nth fr 5 = .sc (.int .i64 (m:Int))) (h:a[m]≠b[m]) :
  ∃ fr',af (CC L) run k nR ⟨fr,[],[]⟩=some (.ret,⟨fr',[],[]⟩)∧fr'.length=41∧nth fr' 4 = .sc (.int .i64 (if a[m]<b[m] then -1 else 1)):=by
 have hda:=eF a m hma
 have hdb:=eF b m hmb
 generalize b[m]=y at *
 generalize a[m]=x at *
 have e1:aL a = .imm a.length false (a.map dg):=rfl
 have e2:aL b = .imm b.length false (b.map dg):=rfl
 have hdx:dg x = .sc (.int .u32 (x:Int)):=rfl
 have hdy:dg y = .sc (.int .u32 (y:Int)):=rfl
 rw[e1] at h0;rw[e2] at h1;rw[hdx] at hda;rw[hdy] at hdb
 by_cases hxy:x<y
 ·simp[nR,Tryz.f146,aF,af,aH,an,ao,aG,ag,ai,aj,ak,aC,az,FP.none,bc,ar,bd,au,ba,bj,partOf,aa,ae,ab,bf,Ek,h41,h0,h1,h5,uD,s32,a32,hma,hmb,hda,hdb,aU,number,FP.free,h,hxy]
 ·simp[nR,Tryz.f146,aF,af,aH,an,ao,aG,ag,ai,aj,ak,aC,az,FP.none,bc,ar,bd,au,ba,bj,partOf,aa,ae,ab,bf,Ek,h41,h0,h1,h5,uD,s32,a32,hma,hmb,hda,hdb,aU,number,FP.free,h,hxy]
theorem xV (L:Lst)(run:aq)(k:Nat)(a b:List Nat)(hab:a.length=b.length)(hl:a.length<1000000)(ha:Dok a)(hb:Dok b):∀ (m:Nat) (fr:List PV),m≤a.length →
  fr.length=41→nth fr 0=aL a→nth fr 1=aL b→nth fr 5 = .sc (.int .i64 ((m:Int) - 1))→a.drop m=b.drop m →
  (∃ fr',bX (af (CC L) run k nR) (m+1) ⟨fr,[],[]⟩=some (.exit 0,⟨fr',[],[]⟩)∧fr'.length=41∧dH (val a) (val b)=0) ∨
  (∃ fr',bX (af (CC L) run k nR) (m+1) ⟨fr,[],[]⟩=some (.ret,⟨fr',[],[]⟩)∧nth fr' 4 = .sc (.int .i64 (dH (val a) (val b))))
 | 0,fr,hm,h41,h0,h1,h5,hd=>by
  obtain⟨fr',g1,g2⟩:=Oz L run k fr h41 h5
  refine .inl ⟨fr',bw g1,g2,?_⟩
  simp at hd
  simp[dH,hd]
 | m+1,fr,hm,h41,h0,h1,h5,hd=>by
  have h5':nth fr 5 = .sc (.int .i64 (m:Int)):=by rw[h5];simp
  have hmb:m<b.length:=by omega
  have hma:m<a.length:=by omega
  by_cases h:a[m]=b[m]
  ·obtain⟨fr1,g1,g2,g3,g4,g5⟩:=size_eq L run k fr a b m hma hmb hl h41 h0 h1 h5' h
   have hd':a.drop m=b.drop m:=by rw[List.drop_eq_getElem_cons hma,List.drop_eq_getElem_cons hmb,hd,h]
   rw[bV g1]
   exact xV L run k a b hab hl ha hb m fr1 (by omega) g2 g3 g4 g5 hd'
  ·obtain⟨fr1,g1,g2,g3⟩:=VD L run k fr a b m hma hmb hl h41 h0 h1 h5' h
   refine .inr ⟨fr1,eN g1,?_⟩
   rw[g3]
   by_cases hxy:a[m]<b[m]
   ·have:=kn ha hma hmb hd hxy
    rw[if_pos hxy,dH,if_pos this]
   ·have:=kn hb hmb hma hd.symm (by omega)
    rw[if_neg hxy,dH,if_neg (by omega),if_neg (by omega)]
def nQ (a b:List Nat):Int:=if a.length<b.length then -1 else if b.length<a.length then 1 else dH (val a) (val b)
theorem Ky (L:Lst)(run:aq)(k:Nat)(a b:List Nat)(h:a.length≠b.length) :
  ∃ st,af (CC L) run k ky ⟨entry 41 [aL a,aL b],[],[]⟩=some (.ret,st)∧aZ TT st.fr st.hp Tryz.f146.results.toList=some [Ab.bC (nQ a b)]:=by
 by_cases hx:a.length<b.length
 ·simp[ky,Tryz.f146,entry,nth,jh,af,aH,an,ao,aG,ag,ai,aj,ak,aC,az,FP.none,bc,ar,bd,au,bH,bf,ca,Ek,uD,h,hx,aZ,nQ,Ab.bC]
 ·have:b.length<a.length:=by omega
  simp[ky,Tryz.f146,entry,nth,jh,af,aH,an,ao,aG,ag,ai,aj,ak,aC,az,FP.none,bc,ar,bd,au,bH,bf,ca,Ek,uD,h,hx,this,aZ,nQ,Ab.bC]
theorem Kx (L:Lst)(run:aq)(k:Nat)(a b:List Nat)(h:a.length=b.length)(hl:a.length<1000000) :
  ∃ fr,aY (CC L) run k 2 ky ⟨entry 41 [aL a,aL b],[],[]⟩=some ⟨fr,[],[]⟩∧fr.length=41∧nth fr 0=aL a∧nth fr 1=aL b:=by
 simp[ky,Tryz.f146,aY,entry,nth,jh,af,aH,an,ao,aG,ag,ai,aj,ak,aC,az,FP.none,bc,ar,bd,au,bH,bf,ca,uD,h]
noncomputable def E7:Code:=seq1 (seq1 (ah 2 ky))
theorem uq:ah 2 ky = .seq (.seq E7 (.block 0 (.loop nR))) (ah 3 ky):=rfl
theorem VC (L:Lst)(run:aq)(k:Nat)(fr:List PV)(a b:List Nat)(hl:a.length<1000000)(h41:fr.length=41)(h0:nth fr 0=aL a)(h1:nth fr 1=aL b) :
  ∃ fr',af (CC L) run k E7 ⟨fr,[],[]⟩=some (.normal,⟨fr',[],[]⟩)∧fr'.length=41∧nth fr' 0=aL a∧nth fr' 1=aL b∧nth fr' 5 = .sc (.int .i64 ((a.length:Int) - 1)):=by
 have hw:bu .i64 ((a.length:Int) - 1)=(a.length:Int) - 1:=cG _ (by omega)
 simp[E7,ky,ah,seq1,Tryz.f146,af,aH,an,ao,aG,ag,ai,aj,ak,aC,az,FP.none,bc,ar,bd,au,bH,aa,ae,ab,bf,ca,uD,h41,h0,h1,hw]
theorem Kz (L:Lst)(run:aq)(k:Nat)(fr:List PV)(h41:fr.length=41) :
  ∃ st,af (CC L) run k (ah 3 ky) ⟨fr,[],[]⟩=some (.ret,st)∧aZ TT st.fr st.hp Tryz.f146.results.toList=some [Ab.bC 0]:=by
 simp[ky,ah,Tryz.f146,af,aH,an,ao,aG,ag,ai,aj,ak,aC,az,FP.none,au,aa,h41,aZ,Ab.bC]
theorem cW {C:Cfg}{run:aq}{k i:Nat}{b:Code}{st st':St}(h:bX (af C run k b) k st=some (.ret,st')):af C run k (.block i (.loop b)) st=some (.ret,st'):=by
 simp only[af,h]
theorem cg {C:Cfg}{run:aq}{k:Nat}{a b:Code}{st st':St}(h:af C run k a st=some (.ret,st')):af C run k (.seq a b) st=some (.ret,st'):=by
 simp only[af,h]
def o9:List PV→Option (List PV)
 | [p,q]=>match gN p,gN q with
  | some a,some b=>some [Ab.bC (nQ a b)]
  | _,_=>none
 | _=>none
theorem eB (hp:List Blk)(z:Int):bm (snap hp bh) [Ab.bC z]=some ([Ab.bC z],[]):=rfl
theorem qo:Ab.Spec base.P 146 o9:=Ab.Spec.bL (C:=CC []) (cU trivial) fun args rs h=>by
 unfold o9 at h
 split at h
 ·split at h
  ·rename_i a b ea eb
   obtain⟨rfl,ha,hla⟩:=dk ea
   obtain⟨rfl,hb,hlb⟩:=dk eb
   simp only[Option.some.injEq] at h
   subst h
   by_cases hab:a.length=b.length
   ·obtain⟨fr1,h1,h2,h3,h4⟩:=Kx [] (runK (CC []) (a.length+1)) (a.length+1) a b hab hla
    obtain⟨fr2,g1,g2,g3,g4,g5⟩:=VC [] (runK (CC []) (a.length+1)) (a.length+1) fr1 a b hla h2 h3 h4
    have hs:nQ a b=dH (val a) (val b):=by simp[nQ,hab]
    rcases xV [] (runK (CC []) (a.length+1)) (a.length+1) a b hab hla ha hb a.length fr2 (Nat.le_refl _) g2 g3 g4 g5 (by simp[hab]) with ⟨fr3,q1,q2,q3⟩| ⟨fr3,q1,q2⟩
    ·obtain⟨st,e1,e2⟩:=Kz [] (runK (CC []) (a.length+1)) (a.length+1) fr3 q2
     have hx:af (CC []) (runK (CC []) (a.length+1)) (a.length+1) ky ⟨entry 41 [aL a,aL b],[],[]⟩=some (.ret,st):=by
      rw[aO 2 h1,uq,aw ((aw g1).trans (bE q1))]
      exact e1
     rw[hs,q3]
     exact⟨a.length+2,_,_,_,_,_,aQ rD rfl hx e2,eB _ _,Wk.refl rfl,trivial⟩
    ·have hx:af (CC []) (runK (CC []) (a.length+1)) (a.length+1) ky ⟨entry 41 [aL a,aL b],[],[]⟩=some (.ret,⟨fr3,[],[]⟩):=by
      rw[aO 2 h1,uq,cg ((aw g1).trans (cW q1))]
     have e2:aZ TT fr3 [] Tryz.f146.results.toList=some [Ab.bC (dH (val a) (val b))]:=by
      simp[Tryz.f146,aZ,q2,Ab.bC]
     rw[hs]
     exact⟨a.length+2,_,_,_,_,_,aQ rD rfl hx e2,eB _ _,Wk.refl rfl,trivial⟩
   ·obtain⟨st,e1,e2⟩:=Ky [] (runK (CC []) 1) 1 a b hab
    exact⟨2,_,_,_,_,_,aQ rD rfl e1 e2,eB _ _,Wk.refl rfl,trivial⟩
  ·cases h
 ·cases h
end Go.Proofs.YtjdmodeenbdfpaaGreat
