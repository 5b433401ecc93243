/- An abstract interpreter over the model's code and its soundness, part 9; each lemma states its conditions. -/
import Derived.Test.YtjdmodeenbdfpaaGreatW08
import Derived.Below
import Derived.Carry
import Derived.OpenShut
import Derived.ChangeArms
import Derived.ChangeSlices
import Derived.DataReads
import Derived.WideShapes
import Derived.SizedLaws
set_option linter.unusedSimpArgs false
set_option linter.unusedVariables false
namespace Go.Ab
open Go List
def rdB (hp:Θ)(i:Nat):Option Ψ:=match aP hp i with
 | some ⟨st,cs⟩=>if st = .dead then none else some cs
 | none=>none
theorem nC {hp hp':Θ}{i:Nat}(h:aP hp' i=aP hp i):rdB hp' i=rdB hp i:=by unfold rdB;rw[h]
theorem qO {hp:Θ}{i:Nat}{cs:Ψ}(h:aP hp i=some ⟨.live,cs⟩):rdB hp i=some cs:=by unfold rdB;rw[h];rfl
theorem Zn (hp:Θ)(ids:Ω)(i:Nat):rdB (roB hp ids) i=rdB hp i:=by
 unfold rdB
 rw[ib]
 by_cases h:i ∈ ids
 ·rw[if_pos h]
  cases e:aP hp i with
  | none=>rfl
  | some b =>
   obtain⟨st,cs⟩:=b
   cases st <;> rfl
 ·rw[if_neg h]
theorem Sx {hp:Θ}{i:Nat}{cs:Ψ}(h:rdB hp i=some cs):i<hp.length:=by
 unfold rdB at h
 cases e:aP hp i with
 | none=>rw[e] at h;cases h
 | some b =>
  rw[cW] at e
  exact (List.getElem?_eq_some_iff.1 e).1
theorem qD {hp:Θ}{d id s off len:Nat}{x:Bool} : snap hp (d+1) (.own id s off len x)=match rdB hp id with
  | some cs=>match bD (bq cs off) (len*s) with
   | some l=>match bj (snap hp d) l with
    | some (l',ids)=>some (.imm len x l',id::ids)
    | none=>none
   | none=>none
  | none=>none:=by
 rw[snap]
 unfold rdB
 cases e:aP hp id with
 | none=>rfl
 | some b =>
  obtain⟨st,cs⟩:=b
  cases st <;> rfl
theorem vZ {hp hp':Θ} : ∀ (d:Nat) (p q:PV) (ids:Ω),snap hp d p=some (q,ids)→(∀ i ∈ ids,rdB hp' i=rdB hp i)→snap hp' d p=some (q,ids)
 | 0,p,q,ids,h,_=>by simp[snap] at h
 | d+1,p,q,ids,h,ha=>by
  have hm:∀ (l l':Ψ) (js:Ω),bj (snap hp d) l=some (l',js)→(∀ i ∈ js,rdB hp' i=rdB hp i)→bj (snap hp' d) l=some (l',js):=by
   intro l
   induction l with
   | nil=>intro l' js h _;exact h
   | cons c cs ih =>
    intro l' js h hj
    simp only[bj] at h ⊢
    cases e1:snap hp d c with
    | none=>rw[e1] at h;cases h
    | some r =>
     obtain⟨c',i1⟩:=r
     rw[e1] at h
     dsimp only at h
     cases e2:bj (snap hp d) cs with
     | none=>rw[e2] at h;cases h
     | some r2 =>
      obtain⟨l2,i2⟩:=r2
      rw[e2] at h
      dsimp only at h
      simp only[OiE,PiE] at h
      obtain⟨rfl,rfl⟩:=h
      rw[vZ d c c' i1 e1 (fun i hi=>hj i (mem_append_left _ hi)),ih l2 i2 e2 (fun i hi=>hj i (mem_append_right _ hi))]
  cases p with
  | own id s off len x =>
   rw[qD] at h ⊢
   cases e1:rdB hp id with
   | none=>rw[e1] at h;cases h
   | some cs =>
    rw[e1] at h
    dsimp only at h
    cases e2:bD (bq cs off) (len*s) with
    | none=>rw[e2] at h;cases h
    | some l =>
     rw[e2] at h
     dsimp only at h
     cases e3:bj (snap hp d) l with
     | none=>rw[e3] at h;cases h
     | some r =>
      obtain⟨l',js⟩:=r
      rw[e3] at h
      dsimp only at h
      simp only[OiE,PiE] at h
      obtain⟨rfl,rfl⟩:=h
      rw[ha id mem_cons_self,e1]
      dsimp only
      rw[e2]
      dsimp only
      rw[hm l l' js e3 (fun i hi=>ha i (mem_cons_of_mem _ hi))]
  | agg cs =>
   rw[snap] at h ⊢
   try dsimp only at h ⊢
   cases e3:bj (snap hp d) cs with
   | none=>rw[e3] at h;cases h
   | some r =>
    obtain⟨l',js⟩:=r
    rw[e3] at h
    dsimp only at h
    simp only[OiE,PiE] at h
    obtain⟨rfl,rfl⟩:=h
    rw[hm cs l' js e3 ha]
  | _=>rw[snap] at h ⊢ <;> first | exact h | (intros;contradiction)
def cU (hp:Θ)(k:Nat)(ps Qs:Ψ)(ids:Ω):Prop:=∃ qs,(∀ d,bj (snap hp (d+k)) ps=some (qs,ids))∧aJ qs=Qs
theorem cU.nil (hp:Θ)(k:Nat):cU hp k [] [] []:=⟨[],fun _=>rfl,rfl⟩
theorem cU.app {hp:Θ}{k:Nat}{ps ps' Qs Qs':Ψ}{ids ids':Ω}(h:cU hp k ps Qs ids)(h':cU hp k ps' Qs' ids'):cU hp k (ps++ps') (Qs++Qs') (ids++ids'):=by
 obtain⟨qs,h1,h2⟩:=h
 obtain⟨qs',h3,h4⟩:=h'
 exact⟨qs++qs',fun d=>gY (h1 d) (h3 d),by rw[jq,h2,h4]⟩
theorem cU.up {hp:Θ}{k:Nat}(j:Nat){ps Qs:Ψ}{ids:Ω}(h:cU hp k ps Qs ids):cU hp (k+j) ps Qs ids:=by
 obtain⟨qs,h1,h2⟩:=h
 exact⟨qs,fun d=>by rw[show d+(k+j)=(d+j)+k by omega];exact h1 _,h2⟩
theorem cU.agree {hp hp':Θ}{k:Nat} : ∀ {ps Qs:Ψ} {ids:Ω},cU hp k ps Qs ids→(∀ i ∈ ids,rdB hp' i=rdB hp i)→cU hp' k ps Qs ids:=by
 intro ps Qs ids ⟨qs,h1,h2⟩ ha
 refine⟨qs,fun d => ?_,h2⟩
 have:=h1 d
 clear h1 h2
 induction ps generalizing qs ids with
 | nil=>exact this
 | cons c cs ih =>
  simp only[bj] at this ⊢
  cases e1:snap hp (d+k) c with
  | none=>rw[e1] at this;cases this
  | some r =>
   obtain⟨c',i1⟩:=r
   rw[e1] at this
   dsimp only at this
   cases e2:bj (snap hp (d+k)) cs with
   | none=>rw[e2] at this;cases this
   | some r2 =>
    obtain⟨l2,i2⟩:=r2
    rw[e2] at this
    dsimp only at this
    simp only[OiE,PiE] at this
    obtain⟨rfl,rfl⟩:=this
    rw[vZ _ c c' i1 e1 (fun i hi=>ha i (mem_append_left _ hi)),ih _ (fun i hi=>ha i (mem_append_right _ hi)) e2]
def LsA (hp:Θ)(ps:Ψ)(p:PV):Prop:=(ps=[]∧p = .sc (.slice none 0 0))∨(ps≠[]∧p = .imm ps.length true ps)∨∃ id,p = .own id 1 0 ps.length false∧aP hp id=some ⟨.live,ps⟩
def cZ:PV→Ω
 | .own id .. => [id]
 | _=>[]
theorem LsA.nil (hp:Θ):LsA hp [] (.sc (.slice none 0 0)):=.inl ⟨rfl,rfl⟩
theorem LsA.len {hp:Θ}{ps:Ψ}{p:PV}(h:LsA hp ps p):dy p=some ps.length:=by
 rcases h with ⟨rfl,rfl⟩| ⟨-,rfl⟩| ⟨id,rfl,-⟩ <;> rfl
theorem LsA.cells {hp:Θ}{ps:Ψ}{p:PV}(h:LsA hp ps p):p.cells?=some [p]:=by
 rcases h with ⟨rfl,rfl⟩| ⟨-,rfl⟩| ⟨id,rfl,-⟩ <;> rfl
theorem LsA.okc {hp:Θ}{ps:Ψ}{p:PV}(h:LsA hp ps p):dK p=true:=by
 rcases h with ⟨rfl,rfl⟩| ⟨-,rfl⟩| ⟨id,rfl,-⟩ <;> rfl
theorem LsA.lt {hp:Θ}{ps:Ψ}{p:PV}(h:LsA hp ps p):∀ i ∈ cZ p,i<hp.length:=by
 rcases h with ⟨rfl,rfl⟩| ⟨-,rfl⟩| ⟨id,rfl,h⟩
 ·intro i hi;cases hi
 ·intro i hi;cases hi
 ·intro i hi
  rw[show i=id by simpa [cZ] using hi]
  exact Sx (qO h)
theorem LsA.agree {hp hp':Θ}{ps:Ψ}{p:PV}(h:LsA hp ps p)(ha:∀ i ∈ cZ p,aP hp' i=aP hp i):LsA hp' ps p:=by
 rcases h with h | h | ⟨id,rfl,h⟩
 ·exact .inl h
 ·exact .inr (.inl h)
 ·exact .inr (.inr ⟨id,rfl,by rw[ha id (by simp[cZ]),h]⟩)
theorem LsA.app {hp:Θ}{ps:Ψ}{p:PV}(h:LsA hp ps p)(v:PV)(h9:ps.length<1000000) :
  ∃ hp' fp,cw hp 1 p 1 [v]=some (.own hp.length 1 0 (ps.length+1) false,hp',fp)∧LsA hp' (ps++[v]) (.own hp.length 1 0 (ps.length+1) false)∧hp'.length=hp.length+1∧∀ i,i<hp.length→i ∉ cZ p→aP hp' i=aP hp i:=by
 have hm:ps.length+1≤cN:=Nat.le_trans (show ps.length+1≤1000001 by omega) (by decide)
 have h1 : ¬ cN<1:=by decide
 rcases h with ⟨rfl,rfl⟩| ⟨hne,rfl⟩| ⟨id,rfl,h⟩
 ·refine⟨aL hp [v],⟨[],[hp.length],true,false⟩,?_,.inr (.inr ⟨hp.length,rfl,?_⟩),by simp[aL],fun i hi _=>by rw[bz,if_neg (by omega)]⟩
  ·simp only[cw]
   rw[if_neg (by omega),if_pos (by omega)];rfl
  ·rw[bz,if_pos rfl];rfl
 ·refine⟨aL hp (ps++[v]),⟨[],[hp.length],true,false⟩,?_,.inr (.inr ⟨hp.length,by simp,?_⟩),by simp[aL],fun i hi _=>by rw[bz,if_neg (by omega)]⟩
  ·simp only[cw]
   rw[if_neg (by omega),if_pos ⟨hm,by omega⟩]
  ·rw[bz,if_pos rfl]
 ·have hid:=Sx (qO h)
  have ht:bD (bq ps 0) (ps.length*1)=some ps:=by
   rw[cA,drop_zero,Nat.mul_one,dc (Nat.le_refl _),take_length]
  refine⟨aL (bZ hp id ⟨.dead,[]⟩) (ps++[v]),⟨[],[id,hp.length],true,false⟩,?_,.inr (.inr ⟨hp.length,by simp,?_⟩),by simp[aL,bC],fun i hi hn => ?_⟩
  ·simp only[cw,h,ht]
   rw[if_neg (by simp),if_pos hm]
  ·rw[bz,bC,if_pos rfl]
  ·rw[bz,bC,if_neg (by omega),cI h,if_neg (by simpa [cZ] using hn)]
theorem LsA.DH {hp:Θ}{ps Qs:Ψ}{p:PV}{k:Nat}{ids:Ω}(h:LsA hp ps p)(hs:cU hp k ps Qs ids)(hi:p ≠ .imm ps.length true ps∨aJ ps=Qs):∃ js,cU hp (k+1) [p] [.imm ps.length false Qs] js∧∀ i ∈ js,i ∈ cZ p∨i ∈ ids:=by
 obtain⟨qs,h1,h2⟩:=hs
 rcases h with ⟨rfl,rfl⟩| ⟨hne,rfl⟩| ⟨id,rfl,h⟩
 ·have:qs=[]∧ids=[]:=by
   have:=h1 0
   simp only[bj,OiE,PiE] at this
   exact⟨this.1.symm,this.2.symm⟩
  obtain⟨rfl,rfl⟩:=this
  subst h2
  exact⟨[],⟨[.sc (.slice none 0 0)],fun d=>rfl,rfl⟩,nofun⟩
 ·rcases hi with hi | hi
  ·exact absurd rfl hi
  ·exact⟨[],⟨[.imm ps.length true ps],fun d=>rfl,by rw[← hi];rfl⟩,nofun⟩
 ·have ht:bD (bq ps 0) (ps.length*1)=some ps:=by
   rw[cA,drop_zero,Nat.mul_one,dc (Nat.le_refl _),take_length]
  refine⟨(id::ids)++[],⟨[.imm ps.length false qs],fun d => ?_,by simp only[aJ,canon,h2]⟩,fun i hi => ?_⟩
  ·have e:snap hp (d+(k+1)) (.own id 1 0 ps.length false)=some (.imm ps.length false qs,id::ids):=by
    rw[show d+(k+1)=(d+k)+1 by omega,qD,qO h]
    dsimp only
    rw[ht]
    dsimp only
    rw[h1 d]
   simp only[bj,e]
  ·simpa [cZ] using hi
theorem cU.own {hp:Θ}{k:Nat}{ps Qs:Ψ}(h:∀ d,bj (snap hp (d+k)) ps=some (ps,[]))(hc:aJ ps=Qs):cU hp k ps Qs []:=⟨ps,h,hc⟩
theorem cU.call {C:Cfg}{hp:Θ}{k:Nat}{args Qs:Ψ}{ids:Ω}{g:FuncId}{f:Ψ→Option Ψ}{rs:Ψ}(h:cU hp k args Qs ids)(hk:k≤12)(hs:C.shared g=false)(ho:∀ a,C.orc g a=f (aJ a))(hf:f Qs=some rs)(run:aw)(dr:Bool) :
  ∃ hp' fp,bU C run dr hp g args=some (ja rs,hp',fp)∧(∀ i,rdB hp' i=rdB hp i)∧hp'.length=hp.length∧(rs.all ed=true→hp'=hp∧fp=⟨ids,[],false,false⟩)∧(∀ i,i ∉ ids→aP hp' i=aP hp i):=by
 obtain⟨qs,h1,h2⟩:=h
 have h3:bj (snap hp bp) args=some (qs,ids):=by
  have:=h1 (12 - k)
  rwa [show 12 - k+k=12 by omega] at this
 have h4:C.orc g qs=some rs:=by rw[ho,h2,hf]
 cases hr:rs.all ed with
 | true=>exact⟨hp,_,ke hs h3 h4 hr,fun _=>rfl,rfl,fun _=>⟨rfl,rfl⟩,fun _ _=>rfl⟩
 | false=>exact⟨roB hp ids,_,et hs h3 h4 hr,fun i=>Zn _ _ _,eK _ _,(nomatch ·),fun i hi=>by rw[ib,if_neg hi]⟩
theorem LsA.out {hp:Θ}{ps Qs:Ψ}{p:PV}{k:Nat}{ids:Ω}(h:LsA hp ps p)(hs:cU hp k ps Qs ids)(hi:p ≠ .imm ps.length true ps∨aJ ps=Qs)(hk:k≤11):∃ rs js,bj (snap hp bp) [p]=some (rs,js)∧WkL rs [.imm ps.length false Qs]:=by
 obtain⟨js,⟨qs,h1,h2⟩,-⟩:=h.DH hs hi
 have h3:bj (snap hp bp) [p]=some (qs,js):=by
  have:=h1 (11 - k)
  rwa [show 11 - k+(k+1)=12 by omega] at this
 refine⟨qs,js,h3,?_⟩
 rw[← h2]
 have h4:=h1 0
 have:∃ q,qs=[q]∧q.cF=true:=by
  rcases h with ⟨rfl,rfl⟩| ⟨-,rfl⟩| ⟨id,rfl,-⟩
  ·simp only[bj,snap,OiE,PiE] at h4
   exact⟨_,h4.1.symm,rfl⟩
  ·simp only[bj,snap,OiE,PiE] at h4
   exact⟨_,h4.1.symm,rfl⟩
  ·simp only[bj,show 0+(k+1)=k+1 by omega,qD] at h4
   cases e1:rdB hp id with
   | none=>rw[e1] at h4;cases h4
   | some cs =>
    rw[e1] at h4
    dsimp only at h4
    cases e2:bD (bq cs 0) (ps.length*1) with
    | none=>rw[e2] at h4;cases h4
    | some l =>
     rw[e2] at h4
     dsimp only at h4
     cases e3:bj (snap hp k) l with
     | none=>rw[e3] at h4;cases h4
     | some r =>
      rw[e3] at h4
      simp only[OiE,PiE] at h4
      exact⟨_,h4.1.symm,rfl⟩
 obtain⟨q,rfl,hq⟩:=this
 exact⟨yd q hq,trivial⟩
theorem IB {C:Cfg}{run:aw}{k:Nat}(a b c:Code)(st:St):af C run k (.seq a (.seq b c)) st=af C run k (.seq (.seq a b) c) st:=by
 rw[af,af]
 rw[af]
 cases af C run k a st with
 | none=>rfl
 | some r =>
  obtain⟨e,st'⟩:=r
  cases e <;> first | rfl | (simp only[af])
theorem Lg {C:Cfg}{run:aw}{k n j0 e e2 i:Nat}{B test body inc:Code}
  (hB:B = .seq test (.seq (.block e2 body) inc)∨∃ a b,test = .seq a b∧B = .seq a (.seq b (.seq (.block e2 body) inc)))
  (htb:ct body i=false) (hti:ct test i=false) (hk:n - j0<k) (hj0:j0≤n) {J:Nat→(Nat→PV)→Θ→Prop} {R:St→Prop} {fr0:Ψ} {hp0:Θ} {wr0:Ω}
  (T:∀ fr hp wr j,dJ (ct B) fr0 fr→nth fr i = .sc (.int .i64 ((j:Nat):Int))→∃ fr',af C run k test ⟨fr,hp,wr⟩=some (bif j.blt n then .normal else .exit e,⟨fr',hp,wr⟩))
  (I:∀ fr hp wr j,dJ (ct B) fr0 fr→nth fr i = .sc (.int .i64 ((j:Nat):Int))→j<n→∃ fr',af C run k inc ⟨fr,hp,wr⟩=some (.normal,⟨fr',hp,wr⟩)∧nth fr' i = .sc (.int .i64 ((j+1:Nat):Int)))
  (hJ:∀ j f g hp,(∀ t,ct test t=false→ct inc t=false→f t=g t)→J j f hp→J j g hp)
  (step:∀ j fr hp wr,j0≤j→j<n→dJ (ct B) fr0 fr→nth fr i = .sc (.int .i64 (j:Int))→J j (nth fr) hp→∃ e st',af C run k (.block e2 body) ⟨fr,hp,wr⟩=some (e,st')∧((e = .normal∧J (j+1) (nth st'.fr) st'.hp)∨(e = .ret∧R st')))
  (hi:nth fr0 i = .sc (.int .i64 (j0:Int))) (hI:J j0 (nth fr0) hp0) :
  ∃ e' st',af C run k (.block e (.loop B)) ⟨fr0,hp0,wr0⟩=some (e',st')∧((e' = .normal∧dJ (ct B) fr0 st'.fr∧J n (nth st'.fr) st'.hp)∨(e' = .ret∧R st')):=by
 have ks:∀ t,ct B t=false→ct test t=false∧ct (.block e2 body) t=false∧ct inc t=false:=fun t ht=>by
  rcases hB with rfl | ⟨a,b,rfl,rfl⟩
  ·simp only[ct,Bool.or_eq_false_iff] at ht ⊢
   exact⟨ht.1,ht.2.1,ht.2.2⟩
  ·simp only[ct,Bool.or_eq_false_iff] at ht ⊢
   exact⟨⟨ht.1,ht.2.1⟩,ht.2.2.1,ht.2.2.2⟩
 have hx:∀ st,af C run k B st=af C run k (.seq test (.seq (.block e2 body) inc)) st:=fun st=>by
  rcases hB with rfl | ⟨a,b,rfl,rfl⟩
  ·rfl
  ·exact IB _ _ _ _
 have kk:∀ {c:Code},(∀ t,ct B t=false→ct c t=false)→∀ {st st':St} {e:Ex},af C run k c st=some (e,st')→dJ (ct B) st.fr st'.fr:=fun hc _ _ _ h=>(bG _ h).mono hc
 have hJ1:∀ {j fr fr' hp},dJ (ct test) fr fr'→J j (nth fr) hp→J j (nth fr') hp:=fun k1 h=>hJ _ _ _ _ (fun t h1 _=>(k1.2 t h1).symm) h
 have round:∀ j fr hp wr,j0≤j→j<n→dJ (ct B) fr0 fr→nth fr i = .sc (.int .i64 (j:Int))→J j (nth fr) hp→∃ e st',af C run k B ⟨fr,hp,wr⟩=some (e,st')∧((e = .normal∧dJ (ct B) fr0 st'.fr∧nth st'.fr i = .sc (.int .i64 ((j+1:Nat):Int))∧J (j+1) (nth st'.fr) st'.hp)∨(e = .ret∧R st')):=by
  intro j fr hp wr hj hjn hK hij hJj
  obtain⟨fr1,a1⟩:=T fr hp wr j hK hij
  have hb:j.blt n=true:=by rw[Nat.blt_eq];exact hjn
  rw[hb,cond_true] at a1
  have k1:=bG _ a1
  have i1:=k1.at hij hti
  have K1:=hK.trans (kk (fun t ht=>(ks t ht).1) a1)
  obtain⟨e,st,b1,b2⟩:=step j fr1 hp wr hj hjn K1 i1 (hJ1 k1 hJj)
  rcases b2 with ⟨rfl,b2⟩| ⟨rfl,b2⟩
  ·obtain⟨fr2,hp2,wr2⟩:=st
   have k2:=bG _ b1
   have K2:=K1.trans (kk (fun t ht=>(ks t ht).2.1) b1)
   obtain⟨fr3,c1,c2⟩:=I fr2 hp2 wr2 j K2 (k2.at i1 htb) hjn
   have k3:=bG _ c1
   refine⟨.normal,⟨fr3,hp2,wr2⟩,?_,.inl ⟨rfl,K2.trans (kk (fun t ht=>(ks t ht).2.2) c1),c2,hJ _ _ _ _ (fun t _ h2=>(k3.2 t h2).symm) b2⟩⟩
   rw[hx,ar a1,ar b1];exact c1
  ·refine⟨.ret,st,?_,.inr ⟨rfl,b2⟩⟩
   rw[hx,ar a1]
   rw[af,b1]
 have loop:∀ (d j:Nat) (fr:Ψ) (hp:Θ) (wr:Ω),j+d=n→j0≤j→dJ (ct B) fr0 fr→nth fr i = .sc (.int .i64 (j:Int))→J j (nth fr) hp→∃ e' st',ch (af C run k B) (d+1) ⟨fr,hp,wr⟩=some (e',st')∧((e' = .exit e∧dJ (ct B) fr0 st'.fr∧J n (nth st'.fr) st'.hp)∨(e' = .ret∧R st')):=by
  intro d
  induction d with
  | zero =>
   intro j fr hp wr hjn hj hK hij hJj
   have e':j=n:=by omega
   subst e'
   obtain⟨fr1,a1⟩:=T fr hp wr j hK hij
   have hb:j.blt j=false:=by cases e:j.blt j with | false=>rfl | true=>rw[Nat.blt_eq] at e;omega
   rw[hb,cond_false] at a1
   have k1:=bG _ a1
   refine⟨.exit e,⟨fr1,hp,wr⟩,bE ?_,.inl ⟨rfl,hK.trans (kk (fun t ht=>(ks t ht).1) a1),hJ1 k1 hJj⟩⟩
   rw[hx,af,a1]
  | succ d ih =>
   intro j fr hp wr hjn hj hK hij hJj
   obtain⟨e,st,a1,a2⟩:=round j fr hp wr hj (by omega) hK hij hJj
   rcases a2 with ⟨rfl,a2,a3,a4⟩| ⟨rfl,a2⟩
   ·obtain⟨e',st',b1,b2⟩:=ih (j+1) st.fr st.hp st.wr (by omega) (by omega) a2 a3 a4
    exact⟨e',st',by rw[ca a1];exact b1,b2⟩
   ·exact⟨.ret,st,ez a1,.inr ⟨rfl,a2⟩⟩
 obtain⟨e',st,a1,a2⟩:=loop (n - j0) j0 fr0 hp0 wr0 (by omega) (Nat.le_refl _) (dJ.refl _ _) hi hI
 have a1':=bT a1 (show n - j0+1≤k by omega)
 rcases a2 with ⟨rfl,a2⟩| ⟨rfl,a2⟩
 ·exact⟨.normal,st,bK a1',.inl ⟨rfl,a2⟩⟩
 ·exact⟨.ret,st,by simp only[af,a1'],.inr ⟨rfl,a2⟩⟩
theorem mI {C:Cfg}{run:aw}{k n j0 e e2 i:Nat}{B test body inc:Code}
  (hB:B = .seq test (.seq (.block e2 body) inc)∨∃ a b,test = .seq a b∧B = .seq a (.seq b (.seq (.block e2 body) inc)))
  (htb:ct body i=false) (hti:ct test i=false) (hk:n - j0<k) (hj0:j0≤n) {J:Nat→(Nat→PV)→Θ→Prop} {fr0:Ψ} {hp0:Θ} {wr0:Ω}
  (T:∀ fr hp wr j,dJ (ct B) fr0 fr→nth fr i = .sc (.int .i64 ((j:Nat):Int))→∃ fr',af C run k test ⟨fr,hp,wr⟩=some (bif j.blt n then .normal else .exit e,⟨fr',hp,wr⟩))
  (I:∀ fr hp wr j,dJ (ct B) fr0 fr→nth fr i = .sc (.int .i64 ((j:Nat):Int))→j<n→∃ fr',af C run k inc ⟨fr,hp,wr⟩=some (.normal,⟨fr',hp,wr⟩)∧nth fr' i = .sc (.int .i64 ((j+1:Nat):Int)))
  (hJ:∀ j f g hp,(∀ t,ct test t=false→ct inc t=false→f t=g t)→J j f hp→J j g hp)
  (step:∀ j fr hp wr,j0≤j→j<n→dJ (ct B) fr0 fr→nth fr i = .sc (.int .i64 (j:Int))→J j (nth fr) hp→∃ fr' hp' wr',af C run k body ⟨fr,hp,wr⟩=some (.normal,⟨fr',hp',wr'⟩)∧J (j+1) (nth fr') hp')
  (hi:nth fr0 i = .sc (.int .i64 (j0:Int))) (hI:J j0 (nth fr0) hp0) :
  ∃ fr' hp' wr',af C run k (.block e (.loop B)) ⟨fr0,hp0,wr0⟩=some (.normal,⟨fr',hp',wr'⟩)∧dJ (ct B) fr0 fr'∧J n (nth fr') hp':=by
 obtain⟨e',st,a1,a2⟩:=Lg (R:=fun _=>False) (wr0:=wr0) hB htb hti hk hj0 T I hJ (fun j fr hp wr a b c d e=>by
  obtain⟨fr',hp',wr',x1,x2⟩:=step j fr hp wr a b c d e
  exact⟨.normal,⟨fr',hp',wr'⟩,by simp only[af,x1],.inl ⟨rfl,x2⟩⟩) hi hI
 rcases a2 with ⟨rfl,a2⟩| ⟨-,a2⟩
 ·exact⟨st.fr,st.hp,st.wr,a1,a2⟩
 ·exact a2.elim
end Go.Ab
namespace Go.Ab
open Go Go.RowKit List
end Go.Ab
namespace Go.Ab
open Go Go.RowKit List
def NoM:Nat→Prop:=fun _=>False
def Rdg {α:Type}(P:Program)(t:TypeId)(e:α→PV)(ok:α→Prop):Prop :=
 ∀ (H:Type) (enc:TypeId × Value→H) (W:World) (fuel:Nat) (cs:List Value) (x:DataW H × List MemPlace),DataW.trod enc P W 0 (fun _=>true) true fuel t cs=some x→(∀ n ∈ DataW.weights P t x.1,n≤reachBytes)→∃ a v,cs=[v]∧ok a∧V W NoM [] NoL (e a) v
theorem wC {P:Program}{t:TypeId}(ht:P.underlying t=some .string):Rdg P t (fun s=>.sc (.string s)) (fun s=>s.size≤reachBytes):=fun H enc W fuel cs x h hw=>by
 obtain⟨s,h1,rfl,-⟩:=DataW.trod_string ht h
 refine⟨s,_,h1,hw s.size ?_,.sc _⟩
 simp only[DataW.weights,mem_singleton]
 rfl
theorem ad5 {P:Program}{t:TypeId}(ht:P.underlying t=some (.int .u8)):Rdg P t u8v (· < 256):=fun H enc W fuel cs x h _=>by
 obtain⟨n,h1,-,h2⟩:=DataW.trod_int ht h
 have hb:=bounds_u8 h2
 refine⟨n.toNat,_,h1,by omega,?_⟩
 have:u8v n.toNat = .sc (.int .u8 n):=by unfold u8v;rw[Int.toNat_of_nonneg hb.1]
 rw[this]
 exact .sc _
theorem Cj {α:Type}(Q:Nat→α→Prop):∀ (n:Nat),(∀ i,i<n→∃ a,Q i a)→∃ l:List α,l.length=n∧∀ i a,l[i]?=some a→Q i a
 | 0,_=>⟨[],rfl,by simp⟩
 | n+1,h=>by
  obtain⟨l,h1,h2⟩:=Cj Q n fun i hi=>h i (by omega)
  obtain⟨a,ha⟩:=h n (by omega)
  refine⟨l++[a],by simp[h1],fun i b hb => ?_⟩
  rcases Nat.lt_or_ge i l.length with hi | hi
  ·rw[getElem?_append_left hi] at hb;exact h2 i b hb
  ·rw[getElem?_append_right hi] at hb
   cases hj:i - l.length with
   | zero =>
    rw[hj] at hb
    cases hb
    have:i=n:=by omega
    rw[this]
    exact ha
   | succ j=>rw[hj] at hb;simp at hb
theorem jt {H:Type}{P:Program}{e:TypeId}{m:Nat} : ∀ {l:List (DataW H)} {i:Nat} {d:DataW H},l[i]?=some d→m ∈ DataW.weights P e d→m ∈ DataW.weightsAll P e l
 | [],i,d,h,_=>by simp at h
 | a::r,0,d,h,hm=>by
  cases h
  rw[DataW.weightsAll]
  exact mem_append_left _ hm
 | a::r,i+1,d,h,hm=>by
  rw[DataW.weightsAll]
  exact mem_append_right _ (jt (by simpa using h) hm)
theorem zF {α:Type}{P:Program}{t te:TypeId}{e:α→PV}{ok:α→Prop}(ht:P.underlying t=some (.slice te))(hs:P.cellsOf te=1)(hb:1≤P.bytesOf te)(hi:∀ a,(e a).cF=true)(h:Rdg P te e ok) :
  Rdg P t (fun l:List α=>.imm l.length false (l.map e)) (fun l=>l.length≤reachBytes∧∀ a ∈ l,ok a):=fun H enc W fuel cs x hx hw=>by
 rcases DataW.trod_slice ht hx with ⟨h1,-⟩| ⟨a,len,cap,elems,rest,n,-,h1,rfl,-,h3,h4,h5,h6,-,-⟩
 ·exact⟨[],_,h1,⟨Nat.zero_le _,by simp⟩,.nil _⟩
 ·have hw1:∀ (i:Nat) (hi:i<elems.length),∀ m ∈ DataW.weights P te (elems[i]).1,m≤reachBytes:=fun i hi m hm=>by
   refine hw m ?_
   simp only[DataW.weights,ht]
   refine mem_cons_of_mem _ (mem_append_left _ (jt (i:=i) (d:=(elems[i]).1) ?_ hm))
   rw[getElem?_map,List.getElem?_eq_getElem hi];rfl
  have hw2:len≤reachBytes:=by
   have:=hw ((elems.length+rest.length)*P.bytesOf te) (by simp only[DataW.weights,ht,length_map];exact mem_cons_self)
   refine Nat.le_trans ?_ this
   exact Nat.le_trans (by omega) (Nat.le_mul_of_pos_right _ hb)
  have hq:∀ i,i<len→∃ y,ok y∧a.spot=none∧∃ v,W.cell? ⟨a.block,a.off+i,none⟩=some v∧V W NoM [] NoL (e y) v:=fun i hil=>by
   have h7:=h6 i hil
   rw[List.getElem?_eq_getElem (by omega),Option.bind_eq_some_iff,hs,Nat.mul_one] at h7
   obtain⟨cs,h8,h9⟩:=h7
   obtain⟨y,v,h10,h11,h12⟩:=h H enc W n cs _ h9 (hw1 i (by omega))
   rw[h10] at h8
   have h13:=ChangeShapes.cell_of_cells?_one h8
   have h14:a.spot=none:=by
    rcases Nat.eq_zero_or_pos len with h0 | h0
    ·omega
    ·have h7:=h6 0 h0
     rw[List.getElem?_eq_getElem (by omega),Option.bind_eq_some_iff,hs,Nat.mul_one] at h7
     obtain⟨cs',h8',h9'⟩:=h7
     obtain⟨y',v',h10',-,-⟩:=h H enc W n cs' _ h9' (hw1 0 (by omega))
     rw[h10'] at h8'
     exact World.cell?_spot (ChangeShapes.cell_of_cells?_one h8')
   refine⟨y,h11,h14,v,?_,h12⟩
   rw[← h13]
   unfold Addr.add
   split
   ·rename_i h0;rw[h0];cases a;simp_all
   ·rfl
  obtain⟨l,hl,hg⟩:=Cj _ len hq
  subst hl
  have hk:∀ (k:Nat) c,(l.map e)[k]?=some c→∃ y,l[k]?=some y∧c=e y:=fun k c hc=>by
   rw[getElem?_map,Option.map_eq_some_iff] at hc
   obtain⟨y,h7,h8⟩:=hc
   exact⟨y,h7,h8.symm⟩
  refine⟨l,_,h1,⟨hw2,fun y hy => ?_⟩,.imm l.length false _ a cap (fun k=>(W.cell? ⟨a.block,a.off+k,none⟩).getD default) h3 nofun (fun k c hc => ?_) (fun k c hc => ?_)⟩
  ·obtain⟨i,hi1,hi2⟩:=mem_iff_getElem.mp hy
   exact (hg i y (by rw[List.getElem?_eq_getElem hi1,hi2])).1
  ·obtain⟨y,h7,rfl⟩:=hk k c hc
   obtain⟨-,h9,v,h10,-⟩:=hg k y h7
   exact⟨h9,hi y,fun hf=>hf,by simp[h10]⟩
  ·obtain⟨y,h7,rfl⟩:=hk k c hc
   obtain⟨-,h9,v,h10,h11⟩:=hg k y h7
   simp only[h10,Option.getD_some]
   exact h11
theorem Nc {α H:Type}{enc:TypeId × Value→H}{P:Program}{W:World}{t te:TypeId}{e:α→PV}{ok:α→Prop}{n fuel:Nat}{cs:Array Value}{x:DataW H × List MemPlace}(ht:P.underlying t=some (.array n te))(hs:P.cellsOf te=1)(hn:P.cellsOf t=n)(h:Rdg P te e ok)
  (hx:DataW.trod enc P W 0 (fun _=>true) true fuel t cs.toList=some x) (hw:∀ n ∈ DataW.weights P t x.1,n≤reachBytes):∃ l:List α,l.length=n∧(∀ a ∈ l,ok a)∧V W NoM [] NoL (.agg (l.map e)) (.agg cs):=by
 obtain⟨xs,m,-,rfl,h2,h3,h4⟩:=DataW.trod_array ht hx
 have hq:∀ i,i<n→∃ y,ok y∧∃ v,cs.toList[i]?=some v∧V W NoM [] NoL (e y) v:=fun i hi=>by
  have h5:=h4 i hi
  rw[List.getElem?_eq_getElem (by omega),hs,Nat.mul_one,drop_eq_getElem_cons (by omega)] at h5
  obtain⟨y,v,h6,h7,h8⟩:=h H enc W m _ _ h5 fun m hm=>hw m (by
   simp only[DataW.weights,ht]
   refine jt (i:=i) (d:=(xs[i]).1) ?_ hm
   rw[getElem?_map,List.getElem?_eq_getElem (by omega)];rfl)
  simp only[take_succ_cons,take_zero,List.cons.injEq,and_true] at h6
  exact⟨y,h7,v,by rw[List.getElem?_eq_getElem (by omega),h6],h8⟩
 obtain⟨l,hl,hg⟩:=Cj _ n hq
 refine⟨l,hl,fun y hy => ?_,.agg _ _ (by rw[length_map];rw[Array.length_toList] at h2;omega) fun k c v hc hv => ?_⟩
 ·obtain⟨i,hi1,hi2⟩:=mem_iff_getElem.mp hy
  exact (hg i y (by rw[List.getElem?_eq_getElem hi1,hi2])).1
 ·rw[getElem?_map,Option.map_eq_some_iff] at hc
  obtain⟨y,h7,rfl⟩:=hc
  obtain⟨-,v',h9,h10⟩:=hg k y h7
  rw[Array.getElem?_toList,hv] at h9
  cases h9
  exact h10
theorem Kq {α H:Type}{enc:TypeId × Value→H}{P:Program}{W:World}{t:TypeId}{e:α→PV}{ok:α→Prop}{v:Value}{d:DataW H}{ps:List MemPlace}(h:Rdg P t e ok)(hv:v.cells.toList=[v])(hx:DataW.Trod enc P W 0 (fun _=>true) true t v d ps)(hw:∀ n ∈ DataW.weights P t d,n≤reachBytes):∃ a,ok a∧V W NoM [] NoL (e a) v:=by
 obtain⟨fuel,hf⟩:=hx
 rw[hv] at hf
 obtain⟨a,u,h1,h2,h3⟩:=h H enc W fuel _ _ hf hw
 cases h1
 exact⟨a,h2,h3⟩
theorem wts {H:Type}{P:Program}{ts:List TypeId}{ds:List (DataW H)}(h:(DataW.weightsEach P ts ds).all (· ≤ reachBytes)=true)(j:Nat){t:TypeId}{d:DataW H}(ht:ts[j]?=some t)(hd:ds[j]?=some d):∀ n ∈ DataW.weights P t d,n≤reachBytes:=fun n hn=>by
 have:=all_eq_true.mp h n (DataW.weights_mem_each ht hd n hn)
 simpa using this
theorem yQ {P:Program}{g:FuncId}(he:∀ (args:Array Value)(w:World),(callFunc g args).run P w = .ok (.enter g args) w){f:Ψ→Option Ψ}(h:Spec P g f){ws:Ψ}(hf:f ws=some [.sc (.bool true)])(hi:bM ws=true){W:World}{vs:List Value}(hv:Vs W NoM [] NoL ws vs) :
  Calls P g vs.toArray W fun e w'=>e = .returned (.bool true)∧Below W.heap.size W w':=by
 obtain⟨-,h2⟩:=h ws _ hf hi
 have h3:=h2 W NoM vs (fun _ hf=>hf.elim) hv
 unfold jk at h3
 rw[he] at h3
 refine h3.mono fun e w' hh => ?_
 obtain⟨v,rfl,us,rfl,hv,ho⟩:=hh
 obtain⟨h4,h5⟩:=hv
 match us,h4 with
 | [u],_ =>
  have e1:=h5 0 _ u rfl rfl
  cases e1
  exact⟨rfl,ho.os,ho.tape,ho.output,ho.size,ho.same⟩
theorem vs4 {W:World}{M:Nat→Prop}{σ:List Addr}{L:Nat→Prop}{a b c d:PV}{v0 v1 v2 v3:Value}(h0:V W M σ L a v0)(h1:V W M σ L b v1)(h2:V W M σ L c v2)(h3:V W M σ L d v3):Vs W M σ L [a,b,c,d] [v0,v1,v2,v3] :=
 ⟨rfl,fun k p v hp hv=>by
  match k,hp,hv with
  | 0,hp,hv=>cases hp;cases hv;exact h0
  | 1,hp,hv=>cases hp;cases hv;exact h1
  | 2,hp,hv=>cases hp;cases hv;exact h2
  | 3,hp,hv=>cases hp;cases hv;exact h3⟩
theorem Hg {α H:Type}{enc:TypeId × Value→H}{P:Program}{W:World}{t te tf:TypeId}{e:α→PV}{ok:α→Prop}{n r fuel:Nat}{cs:Array Value}{x:DataW H × List MemPlace}(ht:P.underlying t=some (.array n te))(hte:P.underlying te=some (.array r tf))(hs:P.cellsOf tf=1)(hsr:P.cellsOf te=r)(hr:0<r)(hcs:cs.size=n*r)(h:Rdg P tf e ok)
  (hx:DataW.trod enc P W 0 (fun _=>true) true fuel t cs.toList=some x) (hw:∀ n ∈ DataW.weights P t x.1,n≤reachBytes):∃ l:List α,l.length=n*r∧(∀ a ∈ l,ok a)∧V W NoM [] NoL (.agg (l.map e)) (.agg cs):=by
 obtain⟨xs,m,-,rfl,h2,h3,h4⟩:=DataW.trod_array ht hx
 have hq:∀ q,q<n*r→∃ y,ok y∧∃ v,cs.toList[q]?=some v∧V W NoM [] NoL (e y) v:=fun q hq=>by
  have hi:q / r<n:=Nat.div_lt_of_lt_mul (by rw[Nat.mul_comm];exact hq)
  have hj:q % r<r:=Nat.mod_lt _ hr
  have hqq:q / r*r+q % r=q:=by rw[Nat.mul_comm];exact Nat.div_add_mod q r
  have h5:=h4 (q / r) hi
  rw[List.getElem?_eq_getElem (by omega),hsr] at h5
  obtain⟨ys,m',-,hd,k2,k3,k4⟩:=DataW.trod_array hte h5
  have h6:=k4 (q % r) hj
  have hl:((cs.toList.drop (q / r*r)).take r).length=r:=by
   rw[length_take,length_drop,Array.length_toList,hcs]
   have:q / r*r+r≤n*r:=by
    have:=Nat.mul_le_mul_right r (Nat.succ_le_of_lt hi)
    rw[Nat.succ_mul] at this;exact this
   omega
  rw[List.getElem?_eq_getElem (by omega),hs,Nat.mul_one,drop_eq_getElem_cons (by omega)] at h6
  obtain⟨y,v,h7,h8,h9⟩:=h H enc W m' _ _ h6 fun m hm=>hw m (by
   simp only[DataW.weights,ht]
   refine jt (i:=q / r) (d:=(xs[q / r]).1) ?_ ?_
   ·rw[getElem?_map,List.getElem?_eq_getElem (by omega)];rfl
   ·rw[hd]
    simp only[DataW.weights,hte]
    refine jt (i:=q % r) (d:=(ys[q % r]).1) ?_ hm
    rw[getElem?_map,List.getElem?_eq_getElem (by omega)];rfl)
  simp only[take_succ_cons,take_zero,List.cons.injEq,and_true] at h7
  refine⟨y,h8,v,?_,h9⟩
  rw[← h7]
  have hql:q<cs.toList.length:=by rw[Array.length_toList,hcs];exact hq
  have e:((cs.toList.drop (q / r*r)).take r)[q % r]?=cs.toList[q]?:=by
   rw[getElem?_take,if_pos hj,getElem?_drop,hqq]
  rw[List.getElem?_eq_getElem (by omega)] at e
  exact e.symm
 obtain⟨l,hl,hg⟩:=Cj _ (n*r) hq
 refine⟨l,hl,fun y hy => ?_,.agg _ _ (by rw[length_map];omega) fun k c v hc hv => ?_⟩
 ·obtain⟨i,hi1,hi2⟩:=mem_iff_getElem.mp hy
  exact (hg i y (by rw[List.getElem?_eq_getElem hi1,hi2])).1
 ·rw[getElem?_map,Option.map_eq_some_iff] at hc
  obtain⟨y,h7,rfl⟩:=hc
  obtain⟨-,v',h9,h10⟩:=hg k y h7
  rw[Array.getElem?_toList,hv] at h9
  cases h9
  exact h10
end Go.Ab
