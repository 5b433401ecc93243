/- An abstract interpreter over the model's code and its soundness, part 15 of the proof; each lemma states its own conditions. -/
import Derived.Test.YtjdmodeenbdfpaaGreatQ14
set_option linter.unusedSimpArgs false
set_option linter.unusedVariables false
namespace Go.Ab
open Go
theorem FT.mO {α:Type}(v:α)(l r:FT α)(k:Nat):(FT.nd v l r).get k=if k=0 then some v else if k % 2=1 then l.get (k / 2) else r.get (k / 2 - 1):=by
 show (Bool.rec (Bool.rec (r.get (k / 2 - 1)) (l.get (k / 2)) (Nat.beq (k % 2) 1)) (some v) (Nat.beq k 0):Option α)=_
 cases h:Nat.beq k 0 with
 | true=>have:=Nat.eq_of_beq_eq_true h;simp[this]
 | false =>
  have hk:=Nat.ne_of_beq_eq_false h
  rw[if_neg hk]
  cases h2:Nat.beq (k % 2) 1 with
  | true=>rw[if_pos (Nat.eq_of_beq_eq_true h2)]
  | false=>rw[if_neg (Nat.ne_of_beq_eq_false h2)]
theorem FT.abO {α β:Type}(a:α)(l r:FT α)(k:Nat)(v:α)(c:FT α→Option β):(FT.nd a l r).put k v c =
  if k=0 then c (.nd v l r) else if k % 2=1 then l.put (k / 2) v (fun l'=>c (.nd a l' r)) else r.put (k / 2 - 1) v (fun r'=>c (.nd a l r')):=by
 show (Bool.rec (Bool.rec (r.put (k / 2 - 1) v (fun r'=>c (.nd a l r'))) (l.put (k / 2) v (fun l'=>c (.nd a l' r))) (Nat.beq (k % 2) 1)) (c (.nd v l r)) (Nat.beq k 0):Option β)=_
 cases h:Nat.beq k 0 with
 | true=>have:=Nat.eq_of_beq_eq_true h;simp[this]
 | false =>
  have hk:=Nat.ne_of_beq_eq_false h
  rw[if_neg hk]
  cases h2:Nat.beq (k % 2) 1 with
  | true=>rw[if_pos (Nat.eq_of_beq_eq_true h2)]
  | false=>rw[if_neg (Nat.ne_of_beq_eq_false h2)]
theorem FT.fH {α β:Type}{b:β} : ∀ (t:FT α) (k:Nat) (v:α) (c:FT α→Option β),t.put k v c=some b→∃ t',c t'=some b∧∀ j,t'.get j=if j=k then some v else t.get j
 | .lf,k,v,c,h=>by
  have h:(Bool.rec .none (c (.nd v .lf .lf)) (Nat.beq k 0):Option β)=some b:=h
  cases e:Nat.beq k 0 with
  | true =>
   rw[e] at h
   have:=Nat.eq_of_beq_eq_true e
   subst this
   refine⟨_,h,fun j => ?_⟩
   rw[FT.mO]
   by_cases hj:j=0
   ·simp[hj]
   ·simp[hj];split <;> rfl
  | false=>rw[e] at h;cases h
 | .nd a l r,k,v,c,h=>by
  rw[FT.abO] at h
  split at h
  ·rename_i hk
   subst hk
   exact⟨_,h,fun j=>by rw[FT.mO,FT.mO];by_cases hj:j=0 <;> simp[hj]⟩
  ·rename_i hk
   split at h
   ·rename_i h2
    obtain⟨t',h3,h4⟩:=FT.fH l _ v _ h
    refine⟨_,h3,fun j => ?_⟩
    rw[FT.mO,FT.mO,h4]
    by_cases hj:j=k
    ·subst hj;simp[hk,h2]
    ·rw[if_neg hj]
     by_cases h0:j=0
     ·simp[h0]
     ·rw[if_neg h0,if_neg h0]
      by_cases hm:j % 2=1
      ·rw[if_pos hm,if_pos hm,if_neg (by omega)]
      ·rw[if_neg hm,if_neg hm]
   ·rename_i h2
    obtain⟨t',h3,h4⟩:=FT.fH r _ v _ h
    refine⟨_,h3,fun j => ?_⟩
    rw[FT.mO,FT.mO,h4]
    by_cases hj:j=k
    ·subst hj;simp[hk,h2]
    ·rw[if_neg hj]
     by_cases h0:j=0
     ·simp[h0]
     ·rw[if_neg h0,if_neg h0]
      by_cases hm:j % 2=1
      ·rw[if_pos hm,if_pos hm]
      ·rw[if_neg hm,if_neg hm,if_neg (by omega)]
theorem FT.wL (u:PV):∀ (d k:Nat),k+1<2 ^ d→(FT.fill u d).get k=some u
 | 0,k,h=>by simp at h
 | d+1,k,h=>by
  show (FT.nd u (FT.fill u d) (FT.fill u d)).get k=_
  rw[FT.mO]
  have hp:2 ^ (d+1)=2*2 ^ d:=by rw[Nat.pow_succ,Nat.mul_comm]
  split
  ·rfl
  ·split
   ·exact FT.wL u d _ (by omega)
   ·exact FT.wL u d _ (by omega)
theorem rJ {β:Type}(n:Nat)(c:Nat→β):fcN n c=c n:=by cases n <;> rfl
theorem ac6 {β:Type}(n:Int)(c:Int→β):fcI n c=c n:=by
 cases n with
 | ofNat n=>exact rJ n fun n=>c (Int.ofNat n)
 | negSucc n=>exact rJ n fun n=>c (Int.negSucc n)
theorem TD {β:Type}(b:Bool)(c:Bool→β):fcB b c=c b:=by cases b <;> rfl
theorem Hu {β:Type}(v:PV)(c:PV→β):fcV v c=c v:=by
 unfold fcV
 split <;> simp only[rJ,ac6,TD]
theorem ky {β:Type} : ∀ (l:List PV) (c:List PV→β),fcL l c=c l
 | [],c=>rfl
 | a::l,c=>by
  show fcV a (fun a=>fcL l fun l=>c (a::l))=_
  rw[Hu,ky l]
theorem wM {β:Type} : ∀ (l:List Nat) (c:List Nat→β),fcW l c=c l
 | [],c=>rfl
 | a::l,c=>by
  show fcN a (fun a=>fcW l fun l=>c (a::l))=_
  rw[rJ,wM l]
theorem U8 {β:Type}(l w:List Nat)(c:List Nat→β):adW l w c=c (az l w):=by
 unfold adW
 split
 ·rfl
 ·rw[wM]
def HR (t:FT Blk)(m:Nat)(hp:List Blk):Prop:=m=hp.length∧∀ i,i<m→t.get i=hp[i]?
def RF (t:FT PV)(n:Nat)(fr:List PV):Prop:=n=fr.length∧∀ i,i<n→t.get i=fr[i]?
theorem HR.rd {t:FT Blk}{m:Nat}{hp:List Blk}(h:HR t m hp):rdT t m=aZ hp:=by
 funext i
 show (Bool.rec .none (t.get i) (Nat.blt i m):Option Blk)=_
 rw[ct]
 cases e:Nat.blt i m with
 | true=>exact h.2 i (fb.1 e)
 | false =>
  have : ¬ i<m:=fun hlt=>by rw[fb.2 hlt] at e;cases e
  rw[List.getElem?_eq_none (by rw[← h.1];omega)]
theorem RF.rf {t:FT PV}{n:Nat}{fr:List PV}(h:RF t n fr):rfT t n=nth fr:=by
 funext i
 show (Bool.rec .any ((t.get i).getD .any) (Nat.blt i n):PV)=_
 rw[rC]
 cases e:Nat.blt i n with
 | true=>rw[← h.2 i (fb.1 e)]
 | false =>
  have : ¬ i<n:=fun hlt=>by rw[fb.2 hlt] at e;cases e
  rw[List.getElem?_eq_none (by rw[← h.1];omega)];rfl
theorem RF.ev {t:FT PV}{n:Nat}{fr:List PV}(h:RF t n fr):evT t n=ak fr:=by
 funext x
 cases x with
 | tmp i=>exact congrFun h.rf i
 | const v=>rfl
 | global g=>rfl
 | func f=>rfl
theorem rm {β:Type}{b:β}{t:FT PV}{n:Nat}{fr:List PV}{dst:Option Tmp}{v:PV}{c:FT PV→Option β}(h:RC t n dst v c=some b)(hr:RF t n fr):∃ t',c t'=some b∧RF t' n (aC fr dst v):=by
 unfold RC at h
 unfold aC
 cases dst with
 | none=>exact⟨t,h,hr⟩
 | some d =>
  simp only[Hu] at h
  dsimp only
  cases e:Nat.blt d n with
  | false =>
   rw[e] at h
   refine⟨t,h,?_⟩
   have : ¬ d<n:=fun hlt=>by rw[fb.2 hlt] at e;cases e
   have hle:fr.length≤d:=hr.1 ▸ Nat.le_of_not_lt this
   rw[jr,List.set_eq_of_length_le hle]
   exact hr
  | true =>
   rw[e] at h
   obtain⟨t',h1,h2⟩:=FT.fH t d v c h
   refine⟨t',h1,?_,fun i hi => ?_⟩
   ·rw[jr,List.length_set];exact hr.1
   ·rw[h2,jr,List.getElem?_set]
    by_cases hid:i=d
    ·subst hid;simp[← hr.1,hi]
    ·rw[if_neg hid,if_neg (Ne.symm hid)];exact hr.2 i hi
def Dlt.on (hp:List Blk):Dlt→List Blk
 | .no=>hp
 | .al cs=>aP hp cs
 | .wr id b=>cf hp id b
 | .wa id b cs=>aP (cf hp id b) cs
 | .am=>hp++[⟨.dead,[.any]⟩]
def Dlt.fit (hp:List Blk):Dlt→Prop
 | .no=>True
 | .al _=>True
 | .wr id _=>id<hp.length
 | .wa id _ _=>id<hp.length
 | .am=>True
theorem HR.alloc {t t':FT Blk}{m:Nat}{hp:List Blk}{cs:List PV}(h:HR t m hp)(h2:∀ j,t'.get j=if j=m then some ⟨.live,cs⟩ else t.get j):HR t' (Nat.succ m) (aP hp cs):=by
 refine⟨by simp[aP,h.1],fun i hi => ?_⟩
 rw[h2,← ct,bO,h.1]
 split
 ·rfl
 ·rename_i hne
  rw[ct];exact h.2 i (by have:=h.1;omega)
theorem HR.set {t t':FT Blk}{m:Nat}{hp:List Blk}{id:Nat}{b:Blk}(h:HR t m hp)(hid:id<hp.length)(h2:∀ j,t'.get j=if j=id then some b else t.get j):HR t' m (cf hp id b):=by
 refine⟨by rw[bG];exact h.1,fun i hi => ?_⟩
 rw[h2,fQ,List.getElem?_set]
 by_cases hid':i=id
 ·subst hid';simp[hid]
 ·rw[if_neg hid',if_neg (Ne.symm hid')];exact h.2 i hi
theorem N2 {β:Type}{b:β}{t:FT Blk}{m:Nat}{hp:List Blk}{d:Dlt}{c:FT Blk→Nat→Option β}(h:adO t m d c=some b)(hr:HR t m hp)(hf:d.fit hp):∃ t' m',c t' m'=some b∧HR t' m' (d.on hp):=by
 unfold adO at h
 cases d with
 | no=>exact⟨t,m,h,hr⟩
 | al cs =>
  simp only[ky] at h
  obtain⟨t',h1,h2⟩:=FT.fH t m _ _ h
  exact⟨t',_,h1,hr.alloc h2⟩
 | wr id bl =>
  obtain⟨st,cs⟩:=bl
  simp only[ky] at h
  obtain⟨t',h1,h2⟩:=FT.fH t id _ _ h
  exact⟨t',_,h1,hr.set hf h2⟩
 | wa id bl cs =>
  simp only[ky] at h
  obtain⟨t',h1,h2⟩:=FT.fH t id _ _ h
  obtain⟨t2,h3,h4⟩:=FT.fH t' m _ _ h1
  have hr1:=hr.set hf h2
  exact⟨t2,_,h3,hr1.alloc h4⟩
 | am =>
  obtain⟨t',h1,h2⟩:=FT.fH t m _ _ h
  refine⟨t',_,h1,by simp[Dlt.on,hr.1],fun i hi => ?_⟩
  rw[h2]
  show _=(hp++[⟨.dead,[.any]⟩])[i]?
  rw[List.getElem?_append]
  by_cases hi':i=m
  ·subst hi';simp[hr.1]
  ·rw[if_neg hi',if_pos (by have:=hr.1;omega)];exact hr.2 i (by omega)
theorem Ae {β:Type}{b:β} : ∀ (l:List Blk) (t:FT Blk) (m:Nat) (hp:List Blk) (c:FT Blk→Nat→Option β),adQ t m l c=some b→HR t m hp→∃ t' m',c t' m'=some b∧HR t' m' (hp++l)
 | [],t,m,hp,c,h,hr=>⟨t,m,h,by simpa using hr⟩
 | bl::l,t,m,hp,c,h,hr=>by
  have h:(fcL bl.cs fun cs=>t.put m ⟨bl.st,cs⟩ fun t=>adQ t (Nat.succ m) l c)=some b:=h
  rw[ky] at h
  obtain⟨t',h1,h2⟩:=FT.fH t m _ _ h
  have hr1:HR t' (Nat.succ m) (hp++[bl]):=by
   refine⟨by simp[hr.1],fun i hi => ?_⟩
   rw[h2,List.getElem?_append]
   by_cases hi':i=m
   ·subst hi';simp[hr.1]
   ·rw[if_neg hi',if_pos (by have:=hr.1;omega)];exact hr.2 i (by omega)
  obtain⟨t2,m2,h3,h4⟩:=Ae l t' _ (hp++[bl]) c h1 hr1
  exact⟨t2,m2,h3,by simpa using h4⟩
theorem pr {β:Type}{b:β} : ∀ (l:List Nat) (t:FT Blk) (m:Nat) (hp:List Blk) (c:FT Blk→Option β),roT t m l c=some b→HR t m hp→∃ t',c t'=some b∧HR t' m (roB hp l)
 | [],t,m,hp,c,h,hr=>⟨t,h,hr⟩
 | i::l,t,m,hp,c,h,hr=>by
  have h:(match rdT t m i with | some ⟨.live,cs⟩=>t.put i ⟨.ro,cs⟩ fun t=>roT t m l c | _=>roT t m l c)=some b:=h
  rw[hr.rd] at h
  unfold roB
  split at h
  ·rename_i cs e
   obtain⟨t',h1,h2⟩:=FT.fH t i _ _ h
   have hid:i<hp.length:=cu ((ct hp i).symm.trans e)
   obtain⟨t2,h3,h4⟩:=pr l t' m _ c h1 (hr.set hid h2)
   exact⟨t2,h3,by simp only[e];exact h4⟩
  ·rename_i hn
   obtain⟨t2,h3,h4⟩:=pr l t m hp c h hr
   refine⟨t2,h3,?_⟩
   split
   ·rename_i cs e;exact absurd e (hn cs)
   ·exact h4
theorem CI (hp:List Blk)(s:Nat)(x:PV):Jd (aZ hp) s x=fi hp s x:=rfl
theorem Ut (T:Tab)(hp:List Blk)(src dst:TypeId)(x:PV):aaM T (aZ hp) src dst x=dy T hp src dst x:=rfl
theorem H3 (hp:List Blk)(x:PV):Br (aZ hp) x=aU hp x:=rfl
theorem KU (T:Tab)(hp:List Blk)(t:TypeId)(x:PV)(lo hi mx:Option PV):OZ T (aZ hp) t x lo hi mx=dC T hp t x lo hi mx:=rfl
theorem uE (hp:List Blk):∀ (d:Nat),rZ (aZ hp) d=snap hp d
 | 0=>by funext x;rfl
 | d+1=>by
  funext x
  unfold rZ snap
  rw[uE hp d]
  rfl
theorem wK (hp:List Blk):∀ (rs:List PV) (kept:List Blk) (K F:List Nat),nO (aZ hp) kept K F rs=dX hp kept K F rs
 | [],kept,K,F=>rfl
 | r::rs,kept,K,F=>by
  unfold nO dX
  simp only[uE,wK hp rs]
  rfl
theorem AH (T:Tab)(fr:List PV)(hp:List Blk):∀ (l:List ResultVar),F9 T (nth fr) (aZ hp) l=aV T fr hp l
 | []=>rfl
 | .tmp t::l=>by unfold F9 aV;rw[AH T fr hp l];rfl
 | .cell a t::l=>by unfold F9 aV;rw[AH T fr hp l];rfl
theorem rT (hp:List Blk)(n:Nat):∀ (l:List Nat),o0 (aZ hp) n l=fO hp n l
 | []=>rfl
 | i::l=>by unfold o0 fO;rw[rT hp n l];rfl
theorem Eb {a b:IntKind}(h:eqK a b=true):a=b:=by cases a <;> cases b <;> first | rfl | cases h
theorem mf {k:IntKind}{n:Nat}(h:Nat.ble n (hiN k)=true):bA k (Int.ofNat n)=Int.ofNat n:=by
 have h:=Nat.le_of_ble_eq_true h
 have:decide (loK k≤Int.ofNat n)=true∧decide (Int.ofNat n≤hiK k)=true:=by
  constructor <;> apply decide_eq_true <;> cases k <;> simp only[loK,hiK,hiN,Int.ofNat_eq_natCast] at h ⊢ <;> omega
 unfold bA
 rw[this.1,this.2];rfl
theorem afr (a b:Nat):(Int.ofNat a == Int.ofNat b)=Nat.beq a b:=by
 rw[Bool.eq_iff_iff,beq_iff_eq,Nat.beq_eq];exact⟨Int.ofNat.inj,fun h=>congrArg _ h⟩
theorem aeY (a b:Nat):decide (Int.ofNat a<Int.ofNat b)=Nat.blt a b:=by
 rw[Bool.eq_iff_iff,decide_eq_true_iff,fb];exact Int.ofNat_lt
theorem aeZ (a b:Nat):decide (Int.ofNat a≤Int.ofNat b)=Nat.ble a b:=by
 rw[Bool.eq_iff_iff,decide_eq_true_iff,Nat.ble_eq];exact Int.ofNat_le
theorem Z2 {op:BinOp}{k:IntKind}{a b:Nat}{v:Value}(h:adK op k a b=some v):bf op k (Int.ofNat a) (Int.ofNat b)=some v:=by
 unfold adK at h
 split at h
 ·unfold afj at h
  cases e:Nat.ble (Nat.add a b) (hiN k) with
  | true =>
   rw[e] at h
   simp only[cond_true,Option.some.injEq] at h
   subst h
   have:=mf e
   simp only[bf]
   rw[show Int.ofNat a+Int.ofNat b=Int.ofNat (Nat.add a b) from rfl,this]
  | false=>rw[e] at h;exact h
 ·unfold ae8 at h
  cases e:(Nat.ble b a && Nat.ble (Nat.sub a b) (hiN k)) with
  | true =>
   rw[e] at h
   simp only[cond_true,Option.some.injEq] at h
   subst h
   simp only[Bool.and_eq_true] at e
   have:=mf e.2
   have hle:=Nat.le_of_ble_eq_true e.1
   simp only[bf]
   rw[show Int.ofNat a - Int.ofNat b=Int.ofNat (Nat.sub a b) from by
    show (a:Int) - (b:Int)=((a - b:Nat):Int);omega,this]
  | false=>rw[e] at h;exact h
 ·unfold afd at h
  cases e:Nat.ble (Nat.mul a b) (hiN k) with
  | true =>
   rw[e] at h
   simp only[cond_true,Option.some.injEq] at h
   subst h
   have:=mf e
   simp only[bf]
   rw[show Int.ofNat a*Int.ofNat b=Int.ofNat (Nat.mul a b) from rfl,this]
  | false=>rw[e] at h;exact h
 ·unfold afb at h
  cases e0:Nat.beq b 0 with
  | true=>rw[e0] at h;cases h
  | false =>
   rw[e0] at h
   simp only[cond_false] at h
   have hb:=Nat.ne_of_beq_eq_false e0
   cases e:Nat.ble (Nat.div a b) (hiN k) with
   | true =>
    rw[e] at h
    simp only[cond_true,Option.some.injEq] at h
    subst h
    have:=mf e
    simp only[bf]
    have hb':Int.ofNat b≠0:=by simpa using hb
    rw[if_neg hb',show (Int.ofNat a).tdiv (Int.ofNat b)=Int.ofNat (Nat.div a b) from rfl,this]
   | false=>rw[e] at h;exact h
 ·unfold afa at h
  cases e0:Nat.beq b 0 with
  | true=>rw[e0] at h;cases h
  | false =>
   rw[e0] at h
   simp only[cond_false,Option.some.injEq] at h
   subst h
   have hb:=Nat.ne_of_beq_eq_false e0
   have hb':Int.ofNat b≠0:=by simpa using hb
   simp only[bf]
   rw[if_neg hb'];rfl
 ·simp only[afi] at h
  simp only[bf,afr];exact h
 ·simp only[afc] at h
  simp only[bf,bne,afr];exact h
 ·simp only[afe] at h
  simp only[bf,aeY];exact h
 ·simp only[aff] at h
  simp only[bf,aeZ];exact h
 ·simp only[afg] at h
  simp only[bf,gt_iff_lt,aeY];exact h
 ·simp only[afh] at h
  simp only[bf,ge_iff_le,aeZ];exact h
 ·exact h
theorem Z4 {P:Program}{T:Tab}{op:BinOp}{t:TypeId}{a b r:PV}(h:Z5 P T op t a b=some r):aY P T op t a b=some r:=by
 unfold Z5 at h
 split at h
 ·rename_i k m k' n
  cases e:eqK k k' with
  | false=>rw[e] at h;exact h
  | true =>
   rw[e] at h
   simp only[cond_true] at h
   split at h
   ·rename_i v hv
    have hk:=Eb e
    subst hk
    have:bf op k m n=some v:=by
     unfold afE at hv
     split at hv
     ·exact Z2 hv
     ·exact hv
    unfold aY au
    simp only[if_true,this]
    exact h
   ·exact h
 ·exact h
theorem Dh {x:Option PV}{v:PV}{d:Dlt}{fp:FP}(h:okV x=some (v,d,fp)):x=some v∧d = .no∧fp=FP.none:=by
 unfold okV at h
 split at h
 ·simp only[Option.some.injEq,Prod.mk.injEq] at h
  obtain⟨rfl,rfl,rfl⟩:=h
  exact⟨rfl,rfl,rfl⟩
 ·cases h
theorem qo {hp:List Blk}{s:Nat}{x:PV}{n:Nat}{new:List PV}{v:PV}{d:Dlt}{fp:FP}(h:ua (aZ hp) hp.length s x n new=some (v,d,fp)) :
  cV hp s x n new=some (v,d.on hp,fp)∧d.fit hp:=by
 unfold ua at h
 unfold cV
 split at h
 ·split at h
  ·rename_i hc
   simp only[Option.some.injEq,Prod.mk.injEq] at h
   obtain⟨rfl,rfl,rfl⟩:=h
   exact⟨by simp only[if_pos hc];rfl,trivial⟩
  ·rename_i hc
   split at h
   ·rename_i hc2
    simp only[Option.some.injEq,Prod.mk.injEq] at h
    obtain⟨rfl,rfl,rfl⟩:=h
    exact⟨by simp only[if_neg hc,if_pos hc2];rfl,trivial⟩
   ·cases h
 ·split at h
  ·rename_i hc
   simp only[Option.some.injEq,Prod.mk.injEq] at h
   obtain⟨rfl,rfl,rfl⟩:=h
   exact⟨by simp only[if_pos hc];rfl,trivial⟩
  ·rename_i hc
   split at h
   ·rename_i hc2
    simp only[Option.some.injEq,Prod.mk.injEq] at h
    obtain⟨rfl,rfl,rfl⟩:=h
    exact⟨by simp only[if_neg hc,if_pos hc2];rfl,trivial⟩
   ·cases h
 ·split at h
  ·cases h
  ·rename_i hs
   split at h
   ·rename_i hc
    simp only[Option.some.injEq,Prod.mk.injEq] at h
    obtain⟨rfl,rfl,rfl⟩:=h
    exact⟨by simp only[if_neg hs,if_pos hc];rfl,trivial⟩
   ·rename_i hc
    split at h
    ·rename_i st cs e
     split at h
     ·cases h
     ·rename_i hd
      split at h
      ·rename_i l hl
       split at h
       ·rename_i hm
        simp only[Option.some.injEq,Prod.mk.injEq] at h
        obtain⟨rfl,rfl,rfl⟩:=h
        exact⟨by simp only[if_neg hs,if_neg hc,e,if_neg hd,hl,if_pos hm];rfl,trivial⟩
       ·cases h
      ·cases h
    ·cases h
 ·split at h
  ·cases h
  ·rename_i hs
   split at h
   ·rename_i cs e
    split at h
    ·rename_i l hl
     split at h
     ·rename_i hm
      simp only[Option.some.injEq,Prod.mk.injEq] at h
      obtain⟨rfl,rfl,rfl⟩:=h
      exact⟨by simp only[if_neg hs,e,hl,if_pos hm];rfl,cu ((ct hp _).symm.trans e)⟩
     ·cases h
    ·cases h
   ·cases h
 ·cases h
theorem SH (T:Tab)(hp:List Blk)(t:TypeId)(m k:PV)(ok:Bool):aaF T (aZ hp) t m k ok=wi T hp t m k ok:=rfl
theorem YU (T:Tab)(hp:List Blk)(t:TypeId)(m:PV):ae0 T (aZ hp) t m=Hp T hp t m:=rfl
theorem yd {T:Tab}{hp:List Blk}{t:TypeId}{m k x:PV}{b:Blk}{id:Nat}(h:aa9 T (aZ hp) t m k x=some (b,id)):uq T hp t m k x=some (cf hp id b,id)∧id<hp.length:=by
 unfold aa9 at h
 unfold uq
 split at h
 ·rename_i kt e i e1
  simp only[e1]
  split at h
  ·rename_i hk
   rw[if_pos hk]
   split at h
   ·rename_i kvs e2
    split at h
    ·rename_i l e3
     simp only[Option.some.injEq,Prod.mk.injEq] at h
     obtain⟨rfl,rfl⟩:=h
     exact⟨by simp only[e2,e3],cu ((ct hp _).symm.trans e2)⟩
    ·cases h
   ·cases h
  ·cases h
 ·cases h
theorem Nz {T:Tab}{hp:List Blk}{t:TypeId}{m k:PV}{b:Blk}{id:Nat}(h:ady T (aZ hp) t m k=some (b,id)):xQ T hp t m k=some (cf hp id b,id)∧id<hp.length:=by
 unfold ady at h
 unfold xQ
 split at h
 ·rename_i kt e i e1
  simp only[e1]
  split at h
  ·rename_i hk
   rw[if_pos hk]
   split at h
   ·rename_i kvs e2
    split at h
    ·rename_i l e3
     simp only[Option.some.injEq,Prod.mk.injEq] at h
     obtain⟨rfl,rfl⟩:=h
     exact⟨by simp only[e2,e3],cu ((ct hp _).symm.trans e2)⟩
    ·cases h
   ·cases h
  ·cases h
 ·cases h
theorem Fk {P:Program}{T:Tab}{fr:List PV}{hp:List Blk}{o:Op}{v:PV}{d:Dlt}{fp:FP}(h:ic o P T (ak fr) (aZ hp) hp.length=some (v,d,fp)) :
  aj P T fr hp o=some (v,d.on hp,fp)∧d.fit hp:=by
 have ok:∀ {x:Option PV},okV x=some (v,d,fp)→(match x with | some x=>some (x,hp,FP.none) | none=>none)=some (v,d.on hp,fp)∧d.fit hp:=fun h=>by
  obtain⟨rfl,rfl,rfl⟩:=Dh h
  exact⟨rfl,trivial⟩
 have no:∀ {x:PV} {f:FP},(some (x,Dlt.no,f):Rv)=some (v,d,fp)→(some (x,hp,f):Option (PV × List Blk × FP))=some (v,d.on hp,fp)∧d.fit hp:=fun h=>by
  simp only[Option.some.injEq,Prod.mk.injEq] at h
  obtain⟨rfl,rfl,rfl⟩:=h
  exact⟨rfl,trivial⟩
 unfold aj
 cases o with
 | move x=>exact no h
 | assign x=>exact no h
 | pick c a b =>
  simp only[ic,aas] at h ⊢
  split at h
  ·rename_i e;simp only[e];exact no h
  ·rename_i e;simp only[e];exact no h
  ·cases h
 | alloc e =>
  simp only[ic,PG] at h ⊢
  split at h
  ·rename_i zs ez
   simp only[Option.some.injEq,Prod.mk.injEq] at h
   obtain⟨rfl,rfl,rfl⟩:=h
   simp only[ez];exact⟨rfl,trivial⟩
  ·cases h
 | box t x =>
  simp only[ic,aeD] at h ⊢
  split at h
  ·rename_i zs ez
   simp only[Option.some.injEq,Prod.mk.injEq] at h
   obtain⟨rfl,rfl,rfl⟩:=h
   simp only[ez];exact⟨rfl,trivial⟩
  ·cases h
 | build t ps=>exact ok h
 | buildSlice t n ps =>
  simp only[ic,se] at h ⊢
  split at h
  ·rename_i s cs e
   simp only[e]
   split at h
   ·rename_i hi
    rw[if_pos hi];exact no h
   ·rename_i hi
    simp only[Option.some.injEq,Prod.mk.injEq] at h
    obtain⟨rfl,rfl,rfl⟩:=h
    rw[if_neg hi];exact⟨rfl,trivial⟩
  ·cases h
 | load t a =>
  simp only[ic,aav,H3] at h ⊢
  split at h
  ·rename_i cs ids e
   simp only[e]
   split at h
   ·rename_i x ex
    simp only[ex];exact no h
   ·cases h
  ·cases h
 | store t a x =>
  simp only[ic,PB] at h ⊢
  split at h
  ·rename_i id off cs n e1 e2 e3
   simp only[e1,e2,e3]
   split at h
   ·rename_i hc
    rw[if_pos hc]
    split at h
    ·rename_i old e4
     simp only[e4]
     split at h
     ·rename_i l e5
      simp only[Option.some.injEq,Prod.mk.injEq] at h
      obtain⟨rfl,rfl,rfl⟩:=h
      simp only[e5]
      exact⟨rfl,cu ((ct hp _).symm.trans e4)⟩
     ·cases h
    ·cases h
   ·cases h
  ·cases h
 | nilCheck x =>
  simp only[ic,aeC] at h ⊢
  split at h
  ·rename_i e;simp only[e];exact no h
  ·rename_i e;simp only[e];exact no h
  ·rename_i e;simp only[e];exact no h
  ·rename_i e;simp only[e];exact no h
  ·rename_i e;simp only[e];exact no h
  ·cases h
 | binOp op t x y ty =>
  obtain⟨h1,rfl,rfl⟩:=Dh (x:=Z5 P T op t (ak fr x) (ak fr y)) h
  simp only[Z4 h1]
  exact⟨rfl,trivial⟩
 | unOp op t x=>exact ok h
 | convert src dst x =>
  simp only[ic,aay,Ut] at h ⊢
  split at h
  ·rename_i r ids e
   simp only[e];exact no h
  ·cases h
 | makeFunc f first captured =>
  cases f with
  | func f =>
   simp only[ic,aaw] at h ⊢
   split at h
   ·rename_i hc;rw[if_pos hc];exact no h
   ·rename_i hc
    rw[if_neg hc]
    split at h
    ·rename_i hc2;rw[if_pos hc2];exact no h
    ·cases h
  | _=>cases h
 | makeSlice t l c =>
  simp only[ic,aau] at h ⊢
  split at h
  ·rename_i e1 e2 e3
   simp only[e1,e2,e3]
   split at h
   ·rename_i f1 f2 f3
    simp only[f1,f2,f3]
    split at h
    ·rename_i hc
     simp only[Option.some.injEq,Prod.mk.injEq] at h
     obtain⟨rfl,rfl,rfl⟩:=h
     rw[if_pos hc];exact⟨rfl,trivial⟩
    ·cases h
   ·cases h
  ·cases h
 | slice t x lo hi mx =>
  simp only[ic,PC,KU] at h ⊢
  split at h
  ·rename_i r e
   simp only[e];exact no h
  ·cases h
 | fieldAddr t x i=>exact ok h
 | field t x i=>exact ok h
 | indexAddr t x i=>exact ok h
 | index t x i=>exact ok h
 | extract x i =>
  simp only[ic,Cu] at h ⊢
  split at h
  ·rename_i cs e
   simp only[e]
   split at h
   ·rename_i c ec
    simp only[ec];exact no h
   ·cases h
  ·cases h
 | makeMap t r =>
  simp only[ic,Ct] at h ⊢
  cases r with
  | none =>
   simp only[Option.some.injEq,Prod.mk.injEq] at h
   obtain⟨rfl,rfl,rfl⟩:=h
   exact⟨rfl,trivial⟩
  | some _=>cases h
 | lookup t x k ok =>
  simp only[ic,I8,SH] at h ⊢
  split at h
  ·rename_i r ids e
   simp only[e];exact no h
  ·cases h
 | mapUpdate t m k x =>
  simp only[ic,tL] at h ⊢
  split at h
  ·rename_i b id e
   simp only[Option.some.injEq,Prod.mk.injEq] at h
   obtain⟨rfl,rfl,rfl⟩:=h
   obtain⟨q1,q2⟩:=yd e
   simp only[q1]
   exact⟨rfl,q2⟩
  ·cases h
 | insert t m k x =>
  simp only[ic,tL] at h ⊢
  split at h
  ·rename_i b id e
   simp only[Option.some.injEq,Prod.mk.injEq] at h
   obtain⟨rfl,rfl,rfl⟩:=h
   obtain⟨q1,q2⟩:=yd e
   simp only[q1]
   exact⟨rfl,q2⟩
  ·cases h
 | call c =>
  obtain⟨callee,args,argTypes⟩:=c
  cases callee with
  | value f=>cases h
  | invoke r m=>cases h
  | builtin b =>
   simp only[ic,aaz] at h
   cases b <;> simp only[Cv] at h <;> try (cases h;done)
   case len =>
    simp only[sLen] at h
    split at h
    ·rename_i x t e1 e2
     simp only[e1,e2]
     split at h
     ·rename_i r el
      simp only[el];exact no h
     ·rename_i el
      simp only[el]
      rw[YU] at h
      split at h
      ·rename_i r ids em
       simp only[em];exact no h
      ·cases h
    ·cases h
   case delete =>
    simp only[I9] at h
    split at h
    ·rename_i mm kk t tk e1 e2
     simp only[e1,e2]
     split at h
     ·rename_i b id e3
      simp only[Option.some.injEq,Prod.mk.injEq] at h
      obtain⟨rfl,rfl,rfl⟩:=h
      obtain⟨q1,q2⟩:=Nz e3
      simp only[q1]
      exact⟨rfl,q2⟩
     ·cases h
    ·cases h
   case max=>simp only[WG] at h;exact ok h
   case min=>simp only[WG] at h;exact ok h
   case append =>
    simp only[Ja] at h
    split at h
    ·rename_i x y t t' e1 e2
     simp only[e1,e2]
     split at h
     ·rename_i e e' g1 g2
      simp only[g1,g2]
      split at h
      ·rename_i s by_ zs q1 q2 q3
       simp only[q1,q2,q3]
       split at h
       ·rename_i hc
        rw[if_pos hc]
        rw[CI] at h
        split at h
        ·rename_i n new ids e3
         simp only[e3]
         split at h
         ·rename_i hok
          rw[if_pos hok]
          split at h
          ·rename_i r dl fp0 e4
           simp only[Option.some.injEq,Prod.mk.injEq] at h
           obtain⟨rfl,rfl,rfl⟩:=h
           obtain⟨k1,k2⟩:=qo e4
           simp only[k1];exact⟨trivial,k2⟩
          ·cases h
         ·cases h
        ·cases h
       ·cases h
      ·cases h
     ·rename_i e g1 g2
      simp only[g1,g2]
      split at h
      ·rename_i str
       split at h
       ·rename_i q1 q2 q3 q4
        simp only[q1,q2,q3,q4]
        split at h
        ·rename_i r dl fp0 e4
         simp only[Option.some.injEq,Prod.mk.injEq] at h
         obtain⟨rfl,rfl,rfl⟩:=h
         obtain⟨k1,k2⟩:=qo e4
         simp only[k1];exact⟨trivial,k2⟩
        ·cases h
       ·cases h
      ·cases h
     ·cases h
    ·cases h
   case copy =>
    simp only[aax] at h
    split at h
    ·rename_i x y t t' e1 e2
     simp only[e1,e2]
     split at h
     ·rename_i e id s' off len x0 g1
      simp only[g1]
      split at h
      ·rename_i s q1
       simp only[q1]
       split at h
       ·rename_i hc
        rw[if_pos hc]
        rw[CI] at h
        split at h
        ·rename_i n src ids e3
         simp only[e3]
         split at h
         ·rename_i old e4
          simp only[e4]
          split at h
          ·rename_i new e5
           simp only[e5]
           split at h
           ·cases h
           ·rename_i hok
            rw[if_neg hok]
            split at h
            ·rename_i l e6
             simp only[Option.some.injEq,Prod.mk.injEq] at h
             obtain⟨rfl,rfl,rfl⟩:=h
             simp only[e6]
             exact⟨rfl,cu ((ct hp _).symm.trans e4)⟩
            ·cases h
          ·cases h
         ·cases h
        ·cases h
       ·cases h
      ·cases h
     ·cases h
    ·cases h
   case clear =>
    simp only[PE] at h
    split at h
    ·rename_i x t e1 e2
     simp only[e1,e2]
     split at h
     ·rename_i e id s' off len x0 g1
      simp only[g1]
      split at h
      ·rename_i s zs q1 q2
       simp only[q1,q2]
       split at h
       ·rename_i hc
        rw[if_pos hc]
        split at h
        ·rename_i old e4
         simp only[e4]
         split at h
         ·rename_i l e6
          simp only[Option.some.injEq,Prod.mk.injEq] at h
          obtain⟨rfl,rfl,rfl⟩:=h
          simp only[e6]
          exact⟨rfl,cu ((ct hp _).symm.trans e4)⟩
         ·cases h
        ·cases h
       ·cases h
      ·cases h
     ·cases h
    ·cases h
 | _=>cases h
def lX (runT:mb)(run:aq):Prop:=∀ g args t m rs t' m' w,runT g args t m=some (rs,t',m',w)→∀ hp,HR t m hp→∃ hp',run g args hp=some (rs,hp',w)∧HR t' m' hp'
section
variable {C:Cfg} {runT':mb} {run:aq}
theorem Y4 {t:FT Blk}{m m':Nat}{hp hp':List Blk}(h:HR t m' hp')(hm:m=hp.length)(hl:hp.length≤hp'.length):HR t m (pf hp.length hp'):=by
 rw[mh]
 refine⟨by simp[hm,hl],fun i hi => ?_⟩
 rw[List.getElem?_take,if_pos (by omega)]
 exact h.2 i (by have:=h.1;omega)
theorem HN {β:Type}{b:β}(hr:lX runT' run)(hE:eh run){dr:Bool}{t:FT Blk}{m:Nat}{hp:List Blk}{g:FuncId}{args:List PV}{c:PV→FT Blk→Nat→FP→Option β}(h:UR C runT' t m g args c=some b)(hh:HR t m hp) :
  ∃ v hp' fp t' m',cb C run dr hp g args=some (v,hp',fp)∧HR t' m' hp'∧c v t' m' fp=some b:=by
 unfold UR at h
 rw[ky] at h
 unfold cb
 split at h
 ·rename_i hs
  rw[if_pos hs]
  split at h
  ·rename_i rs t' m' w e
   obtain⟨hp',h1,h2⟩:=hr _ _ _ _ _ _ _ _ e hp hh
   obtain⟨l1,_⟩:=hE _ _ _ _ _ _ h1
   rw[h2.rd,rT,hh.1] at h
   rw[h1]
   dsimp only
   cases hb:(bM rs && fO hp' hp.length (ju hp.length w)) with
   | true =>
    rw[hb] at h
    simp only[cond_true,wM] at h ⊢
    exact⟨_,_,_,_,_,rfl,Y4 h2 rfl l1,h⟩
   | false =>
    rw[hb] at h
    simp only[cond_false,wM,h2.1] at h ⊢
    refine⟨_,_,_,_,_,rfl,?_,h⟩
    rw[← h2.1];exact h2
  ·cases h
 ·rename_i hs
  rw[if_neg hs]
  rw[hh.rd,uE] at h
  split at h
  ·cases h
  ·rename_i args' ids e
   simp only[e]
   split at h
   ·rename_i rs er
    simp only[er]
    cases hb:rs.all dA with
    | true =>
     rw[hb] at h
     simp only[cond_true] at h ⊢
     exact⟨_,_,_,_,_,rfl,hh,h⟩
    | false =>
     rw[hb] at h
     simp only[cond_false] at h ⊢
     obtain⟨t',h1,h2⟩:=pr _ _ _ _ _ h hh
     exact⟨_,_,_,_,_,rfl,h2,h1⟩
   ·rename_i er
    simp only[er]
    split at h
    ·cases h
    ·rename_i rs t1 m1 w1 e1
     obtain⟨hp1,h1,h2⟩:=hr _ _ _ _ _ _ _ _ e1 [] ⟨rfl,fun i hi=>absurd hi (Nat.not_lt_zero _)⟩
     rw[h2.rd,wK] at h
     simp only[h1]
     split at h
     ·cases h
     ·rename_i rs' kept ek
      simp only[ek]
      cases hb:rs'.all dA with
      | true =>
       rw[hb] at h
       simp only[cond_true] at h ⊢
       exact⟨_,_,_,_,_,rfl,hh,h⟩
      | false =>
       rw[hb] at h
       simp only[cond_false] at h ⊢
       obtain⟨t2,h3,h4⟩:=pr _ _ _ _ _ h hh
       obtain⟨t3,m3,h5,h6⟩:=Ae _ _ _ _ _ h3 h4
       simp only[wM,hh.1] at h5
       exact⟨_,_,_,_,_,rfl,h6,h5⟩
theorem vY {β:Type}{b:β}(hr:lX runT' run)(hE:eh run){dr:Bool}{ops:Array Oper}{o:Oper}{n:Nat}{fr:FT PV}{frl:List PV}{t:FT Blk}{m:Nat}{hp:List Blk}{w:List Nat}{c:FT PV→FT Blk→Nat→List Nat→FP→Option β}
  (h:zf C runT' ops o n fr t m w c=some b) (hh:HR t m hp) (hf:RF fr n frl) :
  ∃ st' fp fr' t' m',ao C run dr ops o ⟨frl,hp,w⟩=some (st',fp)∧HR t' m' st'.hp∧RF fr' n st'.fr∧c fr' t' m' st'.wr fp=some b:=by
 unfold zf at h
 rw[hf.rf,hf.ev] at h
 have hw:IJ ops (nth frl) o=ag ops frl o:=rfl
 rw[hw] at h
 unfold ao aG
 split at h
 ·cases h
 ·rename_i ew
  obtain⟨fr',h1,h2⟩:=rm h hf
  simp only[ew]
  exact⟨_,_,fr',t,m,rfl,hh,h2,h1⟩
 ·rename_i ew
  simp only[ew]
  split at h
  ·rename_i cl ec
   simp only[ec]
   have hc:J3 (ak frl) cl=aO frl cl:=rfl
   rw[hc] at h
   split at h
   ·rename_i g args eg
    simp only[eg]
    obtain⟨v,hp',fp,t',m',h1,h2,h3⟩:=HN (dr:=dr) hr hE h hh
    obtain⟨fr',h4,h5⟩:=rm h3 hf
    rw[U8] at h4
    simp only[h1]
    exact⟨_,_,fr',t',m',rfl,h2,h5,h4⟩
   ·cases h
  ·rename_i ec
   simp only[ec]
   rw[hh.rd,hh.1] at h
   split at h
   ·rename_i v d fp es
    obtain⟨k1,k2⟩:=Fk es
    rw[← hh.1] at h
    obtain⟨t',m',h1,h2⟩:=N2 h hh k2
    obtain⟨fr',h4,h5⟩:=rm h1 hf
    rw[U8] at h4
    simp only[k1]
    exact⟨_,_,fr',t',m',rfl,h2,h5,h4⟩
   ·cases h
theorem DQ {β:Type}{b:β}(hr:lX runT' run)(hE:eh run){dr:Bool}{ops:Array Oper}{n:Nat} : ∀ (l:List Oper) (fr:FT PV) (frl:List PV) (t:FT Blk) (m:Nat) (hp:List Blk) (w:List Nat) (c:FT PV→FT Blk→Nat→List Nat→List FP→Option β),
  goT C runT' ops n l fr t m w c=some b→HR t m hp→RF fr n frl→∃ st' fps fr' t' m',an C run dr ops l ⟨frl,hp,w⟩=some (st',fps)∧HR t' m' st'.hp∧RF fr' n st'.fr∧c fr' t' m' st'.wr fps=some b
 | [],fr,frl,t,m,hp,w,c,h,hh,hf=>⟨_,_,fr,t,m,rfl,hh,hf,h⟩
 | o::l,fr,frl,t,m,hp,w,c,h,hh,hf=>by
  have h:zf C runT' ops o n fr t m w (fun fr t m w fp=>goT C runT' ops n l fr t m w fun fr t m w fps=>c fr t m w (fp::fps))=some b:=h
  obtain⟨st1,fp,fr1,t1,m1,h1,h2,h3,h4⟩:=vY (dr:=dr) hr hE h hh hf
  obtain⟨st2,fps,fr2,t2,m2,h5,h6,h7,h8⟩:=DQ (dr:=dr) hr hE l _ _ _ _ _ _ _ h4 h2 h3
  refine⟨st2,fp::fps,fr2,t2,m2,?_,h6,h7,h8⟩
  unfold an
  rw[h1]
  dsimp only
  rw[h5]
theorem DR (hr:lX runT' run)(hE:eh run){dr:Bool}{ops:Array Oper}{n:Nat}{e:Ex}{fr':FT PV}{t':FT Blk}{m':Nat}{w':List Nat} : ∀ (l:List Oper) (fr:FT PV) (frl:List PV) (t:FT Blk) (m:Nat) (hp:List Blk) (w:List Nat),
  goS C runT' ops n l fr t m w=some (e,fr',t',m',w')→HR t m hp→RF fr n frl→∃ st' fps,e = .normal∧an C run dr ops l ⟨frl,hp,w⟩=some (st',fps)∧HR t' m' st'.hp∧RF fr' n st'.fr∧st'.wr=w'
 | [],fr,frl,t,m,hp,w,h,hh,hf=>by
  have h:some (Ex.normal,fr,t,m,w)=some (e,fr',t',m',w'):=h
  simp only[Option.some.injEq,Prod.mk.injEq] at h
  obtain⟨rfl,rfl,rfl,rfl,rfl⟩:=h
  exact⟨_,_,rfl,rfl,hh,hf,rfl⟩
 | o::l,fr,frl,t,m,hp,w,h,hh,hf=>by
  have h:zf C runT' ops o n fr t m w (fun fr t m w _=>goS C runT' ops n l fr t m w)=some (e,fr',t',m',w'):=h
  obtain⟨st1,fp,fr1,t1,m1,h1,h2,h3,h4⟩:=vY (dr:=dr) hr hE h hh hf
  obtain⟨st2,fps,h5,h6,h7,h8,h9⟩:=DR (dr:=dr) hr hE l _ _ _ _ _ _ h4 h2 h3
  refine⟨st2,fp::fps,h5,?_,h7,h8,h9⟩
  unfold an
  rw[h1]
  dsimp only
  rw[h6]
def qD (n:Nat)(f:FT PV→FT Blk→Nat→List Nat→EM)(f':St→Option (Ex × St)):Prop :=
 ∀ fr t m w e fr' t' m' w',f fr t m w=some (e,fr',t',m',w')→∀ st:St,HR t m st.hp→RF fr n st.fr→st.wr=w→∃ st',f' st=some (e,st')∧HR t' m' st'.hp∧RF fr' n st'.fr∧st'.wr=w'
theorem Lw (hr:lX runT' run)(hE:eh run){dr:Bool}{ops:Array Oper}{n:Nat} : qD n (abE C runT' n ops dr) fun st=>match aH C run ops dr st with | some st'=>some (.normal,st') | none=>none:=by
 rintro fr t m w e fr' t' m' w' h ⟨frl,hp,wr⟩ hh hf rfl
 dsimp only at hh hf h ⊢
 unfold abE at h
 cases dr with
 | false =>
  unfold aH
  simp only[cond_false] at h
  obtain⟨st',fps,rfl,h1,h2,h3,h4⟩:=DR (dr:=false) hr hE _ _ _ _ _ _ _ h hh hf
  rw[h1]
  exact⟨st',rfl,h2,h3,h4⟩
 | true =>
  simp only[cond_true] at h
  obtain⟨st',fps,fr1,t1,m1,h1,h2,h3,h4⟩:=DQ (dr:=true) hr hE _ _ _ _ _ _ _ _ h hh hf
  have fin:some (Ex.normal,fr1,t1,m1,st'.wr)=some (e,fr',t',m',w')→∃ st2,some (Ex.normal,st')=some (e,st2)∧HR t' m' st2.hp∧RF fr' n st2.fr∧st2.wr=w':=fun h=>by
   simp only[Option.some.injEq,Prod.mk.injEq] at h
   obtain⟨rfl,rfl,rfl,rfl,rfl⟩:=h
   exact⟨st',rfl,h2,h3,rfl⟩
  have hin:(match number 0 fps with
   | []=>some st'
   | [_]=>some st'
   | l=>bif cH (Region.before ops) l then some st' else none)=some st'∧some (Ex.normal,fr1,t1,m1,st'.wr)=some (e,fr',t',m',w'):=by
   revert h4
   generalize number 0 fps=l
   match l with
   | []=>intro h4;exact⟨rfl,h4⟩
   | [_]=>intro h4;exact⟨rfl,h4⟩
   | x::y::l =>
    intro h4
    dsimp only at h4 ⊢
    cases hq:cH (Region.before ops) (x::y::l) with
    | true=>rw[hq] at h4;exact⟨rfl,h4⟩
    | false=>rw[hq] at h4;cases h4
  obtain⟨q1,q2⟩:=hin
  have q3:aH C run ops true ⟨frl,hp,wr⟩=some st':=by
   unfold aH
   rw[h1]
   exact q1
  rw[q3]
  exact fin q2
end
end Go.Ab
