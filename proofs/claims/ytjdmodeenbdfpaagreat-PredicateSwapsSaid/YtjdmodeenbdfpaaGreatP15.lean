/- An abstract interpreter over the model's code and its soundness, part 15 of the proof; each lemma states its own conditions. -/
import Derived.Test.YtjdmodeenbdfpaaGreatP14
set_option linter.unusedSimpArgs false
set_option linter.unusedVariables false
namespace Go.Ab
open Go
theorem FT.mB {α:Type}(v:α)(l r:FT α)(k:Nat):(FT.nd v l r).get k=if k=0 then some v else if k % 2=1 then l.get (k / 2) else r.get (k / 2 - 1):=by
 show (Bool.rec (Bool.rec (r.get (k / 2 - 1)) (l.get (k / 2)) (Nat.beq (k % 2) 1)) (some v) (Nat.beq k 0):Option α)=_
 cases h:Nat.beq k 0 with
 | true=>have:=Nat.eq_of_beq_eq_true h;simp[this]
 | false =>
  have hk:=Nat.ne_of_beq_eq_false h
  rw[if_neg hk]
  cases h2:Nat.beq (k % 2) 1 with
  | true=>rw[if_pos (Nat.eq_of_beq_eq_true h2)]
  | false=>rw[if_neg (Nat.ne_of_beq_eq_false h2)]
theorem FT.aa4 {α β:Type}(a:α)(l r:FT α)(k:Nat)(v:α)(c:FT α→Option β):(FT.nd a l r).put k v c =
  if k=0 then c (.nd v l r) else if k % 2=1 then l.put (k / 2) v (fun l'=>c (.nd a l' r)) else r.put (k / 2 - 1) v (fun r'=>c (.nd a l r')):=by
 show (Bool.rec (Bool.rec (r.put (k / 2 - 1) v (fun r'=>c (.nd a l r'))) (l.put (k / 2) v (fun l'=>c (.nd a l' r))) (Nat.beq (k % 2) 1)) (c (.nd v l r)) (Nat.beq k 0):Option β)=_
 cases h:Nat.beq k 0 with
 | true=>have:=Nat.eq_of_beq_eq_true h;simp[this]
 | false =>
  have hk:=Nat.ne_of_beq_eq_false h
  rw[if_neg hk]
  cases h2:Nat.beq (k % 2) 1 with
  | true=>rw[if_pos (Nat.eq_of_beq_eq_true h2)]
  | false=>rw[if_neg (Nat.ne_of_beq_eq_false h2)]
theorem FT.fz {α β:Type}{b:β} : ∀ (t:FT α) (k:Nat) (v:α) (c:FT α→Option β),t.put k v c=some b→∃ t',c t'=some b∧∀ j,t'.get j=if j=k then some v else t.get j
 | .lf,k,v,c,h=>by
  have h:(Bool.rec .none (c (.nd v .lf .lf)) (Nat.beq k 0):Option β)=some b:=h
  cases e:Nat.beq k 0 with
  | true =>
   rw[e] at h
   have:=Nat.eq_of_beq_eq_true e
   subst this
   refine⟨_,h,fun j => ?_⟩
   rw[FT.mB]
   by_cases hj:j=0
   ·simp[hj]
   ·simp[hj];split <;> rfl
  | false=>rw[e] at h;cases h
 | .nd a l r,k,v,c,h=>by
  rw[FT.aa4] at h
  split at h
  ·rename_i hk
   subst hk
   exact⟨_,h,fun j=>by rw[FT.mB,FT.mB];by_cases hj:j=0 <;> simp[hj]⟩
  ·rename_i hk
   split at h
   ·rename_i h2
    obtain⟨t',h3,h4⟩:=FT.fz l _ v _ h
    refine⟨_,h3,fun j => ?_⟩
    rw[FT.mB,FT.mB,h4]
    by_cases hj:j=k
    ·subst hj;simp[hk,h2]
    ·rw[if_neg hj]
     by_cases h0:j=0
     ·simp[h0]
     ·rw[if_neg h0,if_neg h0]
      by_cases hm:j % 2=1
      ·rw[if_pos hm,if_pos hm,if_neg (by omega)]
      ·rw[if_neg hm,if_neg hm]
   ·rename_i h2
    obtain⟨t',h3,h4⟩:=FT.fz r _ v _ h
    refine⟨_,h3,fun j => ?_⟩
    rw[FT.mB,FT.mB,h4]
    by_cases hj:j=k
    ·subst hj;simp[hk,h2]
    ·rw[if_neg hj]
     by_cases h0:j=0
     ·simp[h0]
     ·rw[if_neg h0,if_neg h0]
      by_cases hm:j % 2=1
      ·rw[if_pos hm,if_pos hm]
      ·rw[if_neg hm,if_neg hm,if_neg (by omega)]
theorem FT.wv (u:PV):∀ (d k:Nat),k+1<2 ^ d→(FT.fill u d).get k=some u
 | 0,k,h=>by simp at h
 | d+1,k,h=>by
  show (FT.nd u (FT.fill u d) (FT.fill u d)).get k=_
  rw[FT.mB]
  have hp:2 ^ (d+1)=2*2 ^ d:=by rw[Nat.pow_succ,Nat.mul_comm]
  split
  ·rfl
  ·split
   ·exact FT.wv u d _ (by omega)
   ·exact FT.wv u d _ (by omega)
theorem rb {β:Type}(n:Nat)(c:Nat→β):fcN n c=c n:=by cases n <;> rfl
theorem ab5 {β:Type}(n:Int)(c:Int→β):fcI n c=c n:=by
 cases n with
 | ofNat n=>exact rb n fun n=>c (Int.ofNat n)
 | negSucc n=>exact rb n fun n=>c (Int.negSucc n)
theorem SU {β:Type}(b:Bool)(c:Bool→β):fcB b c=c b:=by cases b <;> rfl
theorem G6 {β:Type}(v:PV)(c:PV→β):fcV v c=c v:=by
 unfold fcV
 split <;> simp only[rb,ab5,SU]
theorem ke {β:Type} : ∀ (l:List PV) (c:List PV→β),fcL l c=c l
 | [],c=>rfl
 | a::l,c=>by
  show fcV a (fun a=>fcL l fun l=>c (a::l))=_
  rw[G6,ke l]
theorem wx {β:Type} : ∀ (l:List Nat) (c:List Nat→β),fcW l c=c l
 | [],c=>rfl
 | a::l,c=>by
  show fcN a (fun a=>fcW l fun l=>c (a::l))=_
  rw[rb,wx l]
theorem Uw {β:Type}(l w:List Nat)(c:List Nat→β):adW l w c=c (az l w):=by
 unfold adW
 split
 ·rfl
 ·rw[wx]
def HR (t:FT Blk)(m:Nat)(hp:List Blk):Prop:=m=hp.length∧∀ i,i<m→t.get i=hp[i]?
def RF (t:FT PV)(n:Nat)(fr:List PV):Prop:=n=fr.length∧∀ i,i<n→t.get i=fr[i]?
theorem HR.rd {t:FT Blk}{m:Nat}{hp:List Blk}(h:HR t m hp):rdT t m=aV hp:=by
 funext i
 show (Bool.rec .none (t.get i) (Nat.blt i m):Option Blk)=_
 rw[cj]
 cases e:Nat.blt i m with
 | true=>exact h.2 i (eQ.1 e)
 | false =>
  have : ¬ i<m:=fun hlt=>by rw[eQ.2 hlt] at e;cases e
  rw[List.getElem?_eq_none (by rw[← h.1];omega)]
theorem RF.rf {t:FT PV}{n:Nat}{fr:List PV}(h:RF t n fr):rfT t n=nth fr:=by
 funext i
 show (Bool.rec .any ((t.get i).getD .any) (Nat.blt i n):PV)=_
 rw[qV]
 cases e:Nat.blt i n with
 | true=>rw[← h.2 i (eQ.1 e)]
 | false =>
  have : ¬ i<n:=fun hlt=>by rw[eQ.2 hlt] at e;cases e
  rw[List.getElem?_eq_none (by rw[← h.1];omega)];rfl
theorem RF.ev {t:FT PV}{n:Nat}{fr:List PV}(h:RF t n fr):evT t n=ak fr:=by
 funext x
 cases x with
 | tmp i=>exact congrFun h.rf i
 | const v=>rfl
 | global g=>rfl
 | func f=>rfl
theorem qR {β:Type}{b:β}{t:FT PV}{n:Nat}{fr:List PV}{dst:Option Tmp}{v:PV}{c:FT PV→Option β}(h:QV t n dst v c=some b)(hr:RF t n fr):∃ t',c t'=some b∧RF t' n (aC fr dst v):=by
 unfold QV at h
 unfold aC
 cases dst with
 | none=>exact⟨t,h,hr⟩
 | some d =>
  simp only[G6] at h
  dsimp only
  cases e:Nat.blt d n with
  | false =>
   rw[e] at h
   refine⟨t,h,?_⟩
   have : ¬ d<n:=fun hlt=>by rw[eQ.2 hlt] at e;cases e
   have hle:fr.length≤d:=hr.1 ▸ Nat.le_of_not_lt this
   rw[jg,List.set_eq_of_length_le hle]
   exact hr
  | true =>
   rw[e] at h
   obtain⟨t',h1,h2⟩:=FT.fz t d v c h
   refine⟨t',h1,?_,fun i hi => ?_⟩
   ·rw[jg,List.length_set];exact hr.1
   ·rw[h2,jg,List.getElem?_set]
    by_cases hid:i=d
    ·subst hid;simp[← hr.1,hi]
    ·rw[if_neg hid,if_neg (Ne.symm hid)];exact hr.2 i hi
def Dlt.on (hp:List Blk):Dlt→List Blk
 | .no=>hp
 | .al cs=>aM hp cs
 | .wr id b=>bP hp id b
 | .wa id b cs=>aM (bP hp id b) cs
 | .am=>hp++[⟨.dead,[.any]⟩]
def Dlt.fit (hp:List Blk):Dlt→Prop
 | .no=>True
 | .al _=>True
 | .wr id _=>id<hp.length
 | .wa id _ _=>id<hp.length
 | .am=>True
theorem HR.alloc {t t':FT Blk}{m:Nat}{hp:List Blk}{cs:List PV}(h:HR t m hp)(h2:∀ j,t'.get j=if j=m then some ⟨.live,cs⟩ else t.get j):HR t' (Nat.succ m) (aM hp cs):=by
 refine⟨by simp[aM,h.1],fun i hi => ?_⟩
 rw[h2,← cj,bJ,h.1]
 split
 ·rfl
 ·rename_i hne
  rw[cj];exact h.2 i (by have:=h.1;omega)
theorem HR.set {t t':FT Blk}{m:Nat}{hp:List Blk}{id:Nat}{b:Blk}(h:HR t m hp)(hid:id<hp.length)(h2:∀ j,t'.get j=if j=id then some b else t.get j):HR t' m (bP hp id b):=by
 refine⟨by rw[bz];exact h.1,fun i hi => ?_⟩
 rw[h2,fI,List.getElem?_set]
 by_cases hid':i=id
 ·subst hid';simp[hid]
 ·rw[if_neg hid',if_neg (Ne.symm hid')];exact h.2 i hi
theorem NA {β:Type}{b:β}{t:FT Blk}{m:Nat}{hp:List Blk}{d:Dlt}{c:FT Blk→Nat→Option β}(h:acR t m d c=some b)(hr:HR t m hp)(hf:d.fit hp):∃ t' m',c t' m'=some b∧HR t' m' (d.on hp):=by
 unfold acR at h
 cases d with
 | no=>exact⟨t,m,h,hr⟩
 | al cs =>
  simp only[ke] at h
  obtain⟨t',h1,h2⟩:=FT.fz t m _ _ h
  exact⟨t',_,h1,hr.alloc h2⟩
 | wr id bl =>
  obtain⟨st,cs⟩:=bl
  simp only[ke] at h
  obtain⟨t',h1,h2⟩:=FT.fz t id _ _ h
  exact⟨t',_,h1,hr.set hf h2⟩
 | wa id bl cs =>
  simp only[ke] at h
  obtain⟨t',h1,h2⟩:=FT.fz t id _ _ h
  obtain⟨t2,h3,h4⟩:=FT.fz t' m _ _ h1
  have hr1:=hr.set hf h2
  exact⟨t2,_,h3,hr1.alloc h4⟩
 | am =>
  obtain⟨t',h1,h2⟩:=FT.fz t m _ _ h
  refine⟨t',_,h1,by simp[Dlt.on,hr.1],fun i hi => ?_⟩
  rw[h2]
  show _=(hp++[⟨.dead,[.any]⟩])[i]?
  rw[List.getElem?_append]
  by_cases hi':i=m
  ·subst hi';simp[hr.1]
  ·rw[if_neg hi',if_pos (by have:=hr.1;omega)];exact hr.2 i (by omega)
theorem zL {β:Type}{b:β} : ∀ (l:List Blk) (t:FT Blk) (m:Nat) (hp:List Blk) (c:FT Blk→Nat→Option β),acT t m l c=some b→HR t m hp→∃ t' m',c t' m'=some b∧HR t' m' (hp++l)
 | [],t,m,hp,c,h,hr=>⟨t,m,h,by simpa using hr⟩
 | bl::l,t,m,hp,c,h,hr=>by
  have h:(fcL bl.cs fun cs=>t.put m ⟨bl.st,cs⟩ fun t=>acT t (Nat.succ m) l c)=some b:=h
  rw[ke] at h
  obtain⟨t',h1,h2⟩:=FT.fz t m _ _ h
  have hr1:HR t' (Nat.succ m) (hp++[bl]):=by
   refine⟨by simp[hr.1],fun i hi => ?_⟩
   rw[h2,List.getElem?_append]
   by_cases hi':i=m
   ·subst hi';simp[hr.1]
   ·rw[if_neg hi',if_pos (by have:=hr.1;omega)];exact hr.2 i (by omega)
  obtain⟨t2,m2,h3,h4⟩:=zL l t' _ (hp++[bl]) c h1 hr1
  exact⟨t2,m2,h3,by simpa using h4⟩
theorem pb {β:Type}{b:β} : ∀ (l:List Nat) (t:FT Blk) (m:Nat) (hp:List Blk) (c:FT Blk→Option β),roT t m l c=some b→HR t m hp→∃ t',c t'=some b∧HR t' m (roB hp l)
 | [],t,m,hp,c,h,hr=>⟨t,h,hr⟩
 | i::l,t,m,hp,c,h,hr=>by
  have h:(match rdT t m i with | some ⟨.live,cs⟩=>t.put i ⟨.ro,cs⟩ fun t=>roT t m l c | _=>roT t m l c)=some b:=h
  rw[hr.rd] at h
  unfold roB
  split at h
  ·rename_i cs e
   obtain⟨t',h1,h2⟩:=FT.fz t i _ _ h
   have hid:i<hp.length:=cm ((cj hp i).symm.trans e)
   obtain⟨t2,h3,h4⟩:=pb l t' m _ c h1 (hr.set hid h2)
   exact⟨t2,h3,by simp only[e];exact h4⟩
  ·rename_i hn
   obtain⟨t2,h3,h4⟩:=pb l t m hp c h hr
   refine⟨t2,h3,?_⟩
   split
   ·rename_i cs e;exact absurd e (hn cs)
   ·exact h4
theorem Cl (hp:List Blk)(s:Nat)(x:PV):IJ (aV hp) s x=fe hp s x:=rfl
theorem TM (T:Tab)(hp:List Blk)(src dst:TypeId)(x:PV):Z3 T (aV hp) src dst x=dn T hp src dst x:=rfl
theorem HC (hp:List Blk)(x:PV):A8 (aV hp) x=aU hp x:=rfl
theorem Kq (T:Tab)(hp:List Blk)(t:TypeId)(x:PV)(lo hi mx:Option PV):Oy T (aV hp) t x lo hi mx=dA T hp t x lo hi mx:=rfl
theorem ui (hp:List Blk):∀ (d:Nat),rM (aV hp) d=snap hp d
 | 0=>by funext x;rfl
 | d+1=>by
  funext x
  unfold rM snap
  rw[ui hp d]
  rfl
theorem wu (hp:List Blk):∀ (rs:List PV) (kept:List Blk) (K F:List Nat),nB (aV hp) kept K F rs=dS hp kept K F rs
 | [],kept,K,F=>rfl
 | r::rs,kept,K,F=>by
  unfold nB dS
  simp only[ui,wu hp rs]
  rfl
theorem Ak (T:Tab)(fr:List PV)(hp:List Blk):∀ (l:List ResultVar),FB T (nth fr) (aV hp) l=aZ T fr hp l
 | []=>rfl
 | .tmp t::l=>by unfold FB aZ;rw[Ak T fr hp l];rfl
 | .cell a t::l=>by unfold FB aZ;rw[Ak T fr hp l];rfl
theorem rH (hp:List Blk)(n:Nat):∀ (l:List Nat),oL (aV hp) n l=fG hp n l
 | []=>rfl
 | i::l=>by unfold oL fG;rw[rH hp n l];rfl
theorem DG {a b:IntKind}(h:eqK a b=true):a=b:=by cases a <;> cases b <;> first | rfl | cases h
theorem lX {k:IntKind}{n:Nat}(h:Nat.ble n (hiN k)=true):bu k (Int.ofNat n)=Int.ofNat n:=by
 have h:=Nat.le_of_ble_eq_true h
 have:decide (loK k≤Int.ofNat n)=true∧decide (Int.ofNat n≤hiK k)=true:=by
  constructor <;> apply decide_eq_true <;> cases k <;> simp only[loK,hiK,hiN,Int.ofNat_eq_natCast] at h ⊢ <;> omega
 unfold bu
 rw[this.1,this.2];rfl
theorem aes (a b:Nat):(Int.ofNat a == Int.ofNat b)=Nat.beq a b:=by
 rw[Bool.eq_iff_iff,beq_iff_eq,Nat.beq_eq];exact⟨Int.ofNat.inj,fun h=>congrArg _ h⟩
theorem ad0 (a b:Nat):decide (Int.ofNat a<Int.ofNat b)=Nat.blt a b:=by
 rw[Bool.eq_iff_iff,decide_eq_true_iff,eQ];exact Int.ofNat_lt
theorem ad1 (a b:Nat):decide (Int.ofNat a≤Int.ofNat b)=Nat.ble a b:=by
 rw[Bool.eq_iff_iff,decide_eq_true_iff,Nat.ble_eq];exact Int.ofNat_le
theorem Zf {op:BinOp}{k:IntKind}{a b:Nat}{v:Value}(h:acN op k a b=some v):bd op k (Int.ofNat a) (Int.ofNat b)=some v:=by
 unfold acN at h
 split at h
 ·unfold aek at h
  cases e:Nat.ble (Nat.add a b) (hiN k) with
  | true =>
   rw[e] at h
   simp only[cond_true,Option.some.injEq] at h
   subst h
   have:=lX e
   simp only[bd]
   rw[show Int.ofNat a+Int.ofNat b=Int.ofNat (Nat.add a b) from rfl,this]
  | false=>rw[e] at h;exact h
 ·unfold ad9 at h
  cases e:(Nat.ble b a && Nat.ble (Nat.sub a b) (hiN k)) with
  | true =>
   rw[e] at h
   simp only[cond_true,Option.some.injEq] at h
   subst h
   simp only[Bool.and_eq_true] at e
   have:=lX e.2
   have hle:=Nat.le_of_ble_eq_true e.1
   simp only[bd]
   rw[show Int.ofNat a - Int.ofNat b=Int.ofNat (Nat.sub a b) from by
    show (a:Int) - (b:Int)=((a - b:Nat):Int);omega,this]
  | false=>rw[e] at h;exact h
 ·unfold aee at h
  cases e:Nat.ble (Nat.mul a b) (hiN k) with
  | true =>
   rw[e] at h
   simp only[cond_true,Option.some.injEq] at h
   subst h
   have:=lX e
   simp only[bd]
   rw[show Int.ofNat a*Int.ofNat b=Int.ofNat (Nat.mul a b) from rfl,this]
  | false=>rw[e] at h;exact h
 ·unfold aec at h
  cases e0:Nat.beq b 0 with
  | true=>rw[e0] at h;cases h
  | false =>
   rw[e0] at h
   simp only[cond_false] at h
   have hb:=Nat.ne_of_beq_eq_false e0
   cases e:Nat.ble (Nat.div a b) (hiN k) with
   | true =>
    rw[e] at h
    simp only[cond_true,Option.some.injEq] at h
    subst h
    have:=lX e
    simp only[bd]
    have hb':Int.ofNat b≠0:=by simpa using hb
    rw[if_neg hb',show (Int.ofNat a).tdiv (Int.ofNat b)=Int.ofNat (Nat.div a b) from rfl,this]
   | false=>rw[e] at h;exact h
 ·unfold aeb at h
  cases e0:Nat.beq b 0 with
  | true=>rw[e0] at h;cases h
  | false =>
   rw[e0] at h
   simp only[cond_false,Option.some.injEq] at h
   subst h
   have hb:=Nat.ne_of_beq_eq_false e0
   have hb':Int.ofNat b≠0:=by simpa using hb
   simp only[bd]
   rw[if_neg hb'];rfl
 ·simp only[aej] at h
  simp only[bd,aes];exact h
 ·simp only[aed] at h
  simp only[bd,bne,aes];exact h
 ·simp only[aef] at h
  simp only[bd,ad0];exact h
 ·simp only[aeg] at h
  simp only[bd,ad1];exact h
 ·simp only[aeh] at h
  simp only[bd,gt_iff_lt,ad0];exact h
 ·simp only[aei] at h
  simp only[bd,ge_iff_le,ad1];exact h
 ·exact h
theorem Zh {P:Program}{T:Tab}{op:BinOp}{t:TypeId}{a b r:PV}(h:Zi P T op t a b=some r):bc P T op t a b=some r:=by
 unfold Zi at h
 split at h
 ·rename_i k m k' n
  cases e:eqK k k' with
  | false=>rw[e] at h;exact h
  | true =>
   rw[e] at h
   simp only[cond_true] at h
   split at h
   ·rename_i v hv
    have hk:=DG e
    subst hk
    have:bd op k m n=some v:=by
     unfold aeF at hv
     split at hv
     ·exact Zf hv
     ·exact hv
    unfold bc ar
    simp only[if_true,this]
    exact h
   ·exact h
 ·exact h
theorem CV {x:Option PV}{v:PV}{d:Dlt}{fp:FP}(h:okV x=some (v,d,fp)):x=some v∧d = .no∧fp=FP.none:=by
 unfold okV at h
 split at h
 ·simp only[Option.some.injEq,Prod.mk.injEq] at h
  obtain⟨rfl,rfl,rfl⟩:=h
  exact⟨rfl,rfl,rfl⟩
 ·cases h
theorem pX {hp:List Blk}{s:Nat}{x:PV}{n:Nat}{new:List PV}{v:PV}{d:Dlt}{fp:FP}(h:tK (aV hp) hp.length s x n new=some (v,d,fp)) :
  cO hp s x n new=some (v,d.on hp,fp)∧d.fit hp:=by
 unfold tK at h
 unfold cO
 split at h
 ·split at h
  ·rename_i hc
   simp only[Option.some.injEq,Prod.mk.injEq] at h
   obtain⟨rfl,rfl,rfl⟩:=h
   exact⟨by simp only[if_pos hc];rfl,trivial⟩
  ·rename_i hc
   split at h
   ·rename_i hc2
    simp only[Option.some.injEq,Prod.mk.injEq] at h
    obtain⟨rfl,rfl,rfl⟩:=h
    exact⟨by simp only[if_neg hc,if_pos hc2];rfl,trivial⟩
   ·cases h
 ·split at h
  ·rename_i hc
   simp only[Option.some.injEq,Prod.mk.injEq] at h
   obtain⟨rfl,rfl,rfl⟩:=h
   exact⟨by simp only[if_pos hc];rfl,trivial⟩
  ·rename_i hc
   split at h
   ·rename_i hc2
    simp only[Option.some.injEq,Prod.mk.injEq] at h
    obtain⟨rfl,rfl,rfl⟩:=h
    exact⟨by simp only[if_neg hc,if_pos hc2];rfl,trivial⟩
   ·cases h
 ·split at h
  ·cases h
  ·rename_i hs
   split at h
   ·rename_i hc
    simp only[Option.some.injEq,Prod.mk.injEq] at h
    obtain⟨rfl,rfl,rfl⟩:=h
    exact⟨by simp only[if_neg hs,if_pos hc];rfl,trivial⟩
   ·rename_i hc
    split at h
    ·rename_i st cs e
     split at h
     ·cases h
     ·rename_i hd
      split at h
      ·rename_i l hl
       split at h
       ·rename_i hm
        simp only[Option.some.injEq,Prod.mk.injEq] at h
        obtain⟨rfl,rfl,rfl⟩:=h
        exact⟨by simp only[if_neg hs,if_neg hc,e,if_neg hd,hl,if_pos hm];rfl,trivial⟩
       ·cases h
      ·cases h
    ·cases h
 ·split at h
  ·cases h
  ·rename_i hs
   split at h
   ·rename_i cs e
    split at h
    ·rename_i l hl
     split at h
     ·rename_i hm
      simp only[Option.some.injEq,Prod.mk.injEq] at h
      obtain⟨rfl,rfl,rfl⟩:=h
      exact⟨by simp only[if_neg hs,e,hl,if_pos hm];rfl,cm ((cj hp _).symm.trans e)⟩
     ·cases h
    ·cases h
   ·cases h
 ·cases h
theorem R8 (T:Tab)(hp:List Blk)(t:TypeId)(m k:PV)(ok:Bool):ZW T (aV hp) t m k ok=vQ T hp t m k ok:=rfl
theorem X7 (T:Tab)(hp:List Blk)(t:TypeId)(m:PV):ad2 T (aV hp) t m=G1 T hp t m:=rfl
theorem xN {T:Tab}{hp:List Blk}{t:TypeId}{m k x:PV}{b:Blk}{id:Nat}(h:aaq T (aV hp) t m k x=some (b,id)):tX T hp t m k x=some (bP hp id b,id)∧id<hp.length:=by
 unfold aaq at h
 unfold tX
 split at h
 ·rename_i kt e i e1
  simp only[e1]
  split at h
  ·rename_i hk
   rw[if_pos hk]
   split at h
   ·rename_i kvs e2
    split at h
    ·rename_i l e3
     simp only[Option.some.injEq,Prod.mk.injEq] at h
     obtain⟨rfl,rfl⟩:=h
     exact⟨by simp only[e2,e3],cm ((cj hp _).symm.trans e2)⟩
    ·cases h
   ·cases h
  ·cases h
 ·cases h
theorem M6 {T:Tab}{hp:List Blk}{t:TypeId}{m k:PV}{b:Blk}{id:Nat}(h:acA T (aV hp) t m k=some (b,id)):xy T hp t m k=some (bP hp id b,id)∧id<hp.length:=by
 unfold acA at h
 unfold xy
 split at h
 ·rename_i kt e i e1
  simp only[e1]
  split at h
  ·rename_i hk
   rw[if_pos hk]
   split at h
   ·rename_i kvs e2
    split at h
    ·rename_i l e3
     simp only[Option.some.injEq,Prod.mk.injEq] at h
     obtain⟨rfl,rfl⟩:=h
     exact⟨by simp only[e2,e3],cm ((cj hp _).symm.trans e2)⟩
    ·cases h
   ·cases h
  ·cases h
 ·cases h
theorem EV {P:Program}{T:Tab}{fr:List PV}{hp:List Blk}{o:Op}{v:PV}{d:Dlt}{fp:FP}(h:gW o P T (ak fr) (aV hp) hp.length=some (v,d,fp)) :
  aj P T fr hp o=some (v,d.on hp,fp)∧d.fit hp:=by
 have ok:∀ {x:Option PV},okV x=some (v,d,fp)→(match x with | some x=>some (x,hp,FP.none) | none=>none)=some (v,d.on hp,fp)∧d.fit hp:=fun h=>by
  obtain⟨rfl,rfl,rfl⟩:=CV h
  exact⟨rfl,trivial⟩
 have no:∀ {x:PV} {f:FP},(some (x,Dlt.no,f):Rv)=some (v,d,fp)→(some (x,hp,f):Option (PV × List Blk × FP))=some (v,d.on hp,fp)∧d.fit hp:=fun h=>by
  simp only[Option.some.injEq,Prod.mk.injEq] at h
  obtain⟨rfl,rfl,rfl⟩:=h
  exact⟨rfl,trivial⟩
 unfold aj
 cases o with
 | move x=>exact no h
 | assign x=>exact no h
 | pick c a b =>
  simp only[gW,ZI] at h ⊢
  split at h
  ·rename_i e;simp only[e];exact no h
  ·rename_i e;simp only[e];exact no h
  ·cases h
 | alloc e =>
  simp only[gW,Pe] at h ⊢
  split at h
  ·rename_i zs ez
   simp only[Option.some.injEq,Prod.mk.injEq] at h
   obtain⟨rfl,rfl,rfl⟩:=h
   simp only[ez];exact⟨rfl,trivial⟩
  ·cases h
 | box t x =>
  simp only[gW,adJ] at h ⊢
  split at h
  ·rename_i zs ez
   simp only[Option.some.injEq,Prod.mk.injEq] at h
   obtain⟨rfl,rfl,rfl⟩:=h
   simp only[ez];exact⟨rfl,trivial⟩
  ·cases h
 | build t ps=>exact ok h
 | buildSlice t n ps =>
  simp only[gW,rQ] at h ⊢
  split at h
  ·rename_i s cs e
   simp only[e]
   split at h
   ·rename_i hi
    rw[if_pos hi];exact no h
   ·rename_i hi
    simp only[Option.some.injEq,Prod.mk.injEq] at h
    obtain⟨rfl,rfl,rfl⟩:=h
    rw[if_neg hi];exact⟨rfl,trivial⟩
  ·cases h
 | load t a =>
  simp only[gW,ZL,HC] at h ⊢
  split at h
  ·rename_i cs ids e
   simp only[e]
   split at h
   ·rename_i x ex
    simp only[ex];exact no h
   ·cases h
  ·cases h
 | store t a x =>
  simp only[gW,Pa] at h ⊢
  split at h
  ·rename_i id off cs n e1 e2 e3
   simp only[e1,e2,e3]
   split at h
   ·rename_i hc
    rw[if_pos hc]
    split at h
    ·rename_i old e4
     simp only[e4]
     split at h
     ·rename_i l e5
      simp only[Option.some.injEq,Prod.mk.injEq] at h
      obtain⟨rfl,rfl,rfl⟩:=h
      simp only[e5]
      exact⟨rfl,cm ((cj hp _).symm.trans e4)⟩
     ·cases h
    ·cases h
   ·cases h
  ·cases h
 | nilCheck x =>
  simp only[gW,adI] at h ⊢
  split at h
  ·rename_i e;simp only[e];exact no h
  ·rename_i e;simp only[e];exact no h
  ·rename_i e;simp only[e];exact no h
  ·rename_i e;simp only[e];exact no h
  ·rename_i e;simp only[e];exact no h
  ·cases h
 | binOp op t x y ty =>
  obtain⟨h1,rfl,rfl⟩:=CV (x:=Zi P T op t (ak fr x) (ak fr y)) h
  simp only[Zh h1]
  exact⟨rfl,trivial⟩
 | unOp op t x=>exact ok h
 | convert src dst x =>
  simp only[gW,ZO,TM] at h ⊢
  split at h
  ·rename_i r ids e
   simp only[e];exact no h
  ·cases h
 | makeFunc f first captured =>
  cases f with
  | func f =>
   simp only[gW,ZM] at h ⊢
   split at h
   ·rename_i hc;rw[if_pos hc];exact no h
   ·rename_i hc
    rw[if_neg hc]
    split at h
    ·rename_i hc2;rw[if_pos hc2];exact no h
    ·cases h
  | _=>cases h
 | makeSlice t l c =>
  simp only[gW,ZK] at h ⊢
  split at h
  ·rename_i e1 e2 e3
   simp only[e1,e2,e3]
   split at h
   ·rename_i f1 f2 f3
    simp only[f1,f2,f3]
    split at h
    ·rename_i hc
     simp only[Option.some.injEq,Prod.mk.injEq] at h
     obtain⟨rfl,rfl,rfl⟩:=h
     rw[if_pos hc];exact⟨rfl,trivial⟩
    ·cases h
   ·cases h
  ·cases h
 | slice t x lo hi mx =>
  simp only[gW,Pb,Kq] at h ⊢
  split at h
  ·rename_i r e
   simp only[e];exact no h
  ·cases h
 | fieldAddr t x i=>exact ok h
 | field t x i=>exact ok h
 | indexAddr t x i=>exact ok h
 | index t x i=>exact ok h
 | extract x i =>
  simp only[gW,B8] at h ⊢
  split at h
  ·rename_i cs e
   simp only[e]
   split at h
   ·rename_i c ec
    simp only[ec];exact no h
   ·cases h
  ·cases h
 | makeMap t r =>
  simp only[gW,B7] at h ⊢
  cases r with
  | none =>
   simp only[Option.some.injEq,Prod.mk.injEq] at h
   obtain⟨rfl,rfl,rfl⟩:=h
   exact⟨rfl,trivial⟩
  | some _=>cases h
 | lookup t x k ok =>
  simp only[gW,IB,R8] at h ⊢
  split at h
  ·rename_i r ids e
   simp only[e];exact no h
  ·cases h
 | mapUpdate t m k x =>
  simp only[gW,tv] at h ⊢
  split at h
  ·rename_i b id e
   simp only[Option.some.injEq,Prod.mk.injEq] at h
   obtain⟨rfl,rfl,rfl⟩:=h
   obtain⟨q1,q2⟩:=xN e
   simp only[q1]
   exact⟨rfl,q2⟩
  ·cases h
 | insert t m k x =>
  simp only[gW,tv] at h ⊢
  split at h
  ·rename_i b id e
   simp only[Option.some.injEq,Prod.mk.injEq] at h
   obtain⟨rfl,rfl,rfl⟩:=h
   obtain⟨q1,q2⟩:=xN e
   simp only[q1]
   exact⟨rfl,q2⟩
  ·cases h
 | call c =>
  obtain⟨callee,args,argTypes⟩:=c
  cases callee with
  | value f=>cases h
  | invoke r m=>cases h
  | builtin b =>
   simp only[gW,ZP] at h
   cases b <;> simp only[B9] at h <;> try (cases h;done)
   case len =>
    simp only[sLen] at h
    split at h
    ·rename_i x t e1 e2
     simp only[e1,e2]
     split at h
     ·rename_i r el
      simp only[el];exact no h
     ·rename_i el
      simp only[el]
      rw[X7] at h
      split at h
      ·rename_i r ids em
       simp only[em];exact no h
      ·cases h
    ·cases h
   case delete =>
    simp only[IC] at h
    split at h
    ·rename_i mm kk t tk e1 e2
     simp only[e1,e2]
     split at h
     ·rename_i b id e3
      simp only[Option.some.injEq,Prod.mk.injEq] at h
      obtain⟨rfl,rfl,rfl⟩:=h
      obtain⟨q1,q2⟩:=M6 e3
      simp only[q1]
      exact⟨rfl,q2⟩
     ·cases h
    ·cases h
   case max=>simp only[V1] at h;exact ok h
   case min=>simp only[V1] at h;exact ok h
   case append =>
    simp only[IE] at h
    split at h
    ·rename_i x y t t' e1 e2
     simp only[e1,e2]
     split at h
     ·rename_i e e' g1 g2
      simp only[g1,g2]
      split at h
      ·rename_i s by_ zs q1 q2 q3
       simp only[q1,q2,q3]
       split at h
       ·rename_i hc
        rw[if_pos hc]
        rw[Cl] at h
        split at h
        ·rename_i n new ids e3
         simp only[e3]
         split at h
         ·rename_i hok
          rw[if_pos hok]
          split at h
          ·rename_i r dl fp0 e4
           simp only[Option.some.injEq,Prod.mk.injEq] at h
           obtain⟨rfl,rfl,rfl⟩:=h
           obtain⟨k1,k2⟩:=pX e4
           simp only[k1];exact⟨trivial,k2⟩
          ·cases h
         ·cases h
        ·cases h
       ·cases h
      ·cases h
     ·rename_i e g1 g2
      simp only[g1,g2]
      split at h
      ·rename_i str
       split at h
       ·rename_i q1 q2 q3 q4
        simp only[q1,q2,q3,q4]
        split at h
        ·rename_i r dl fp0 e4
         simp only[Option.some.injEq,Prod.mk.injEq] at h
         obtain⟨rfl,rfl,rfl⟩:=h
         obtain⟨k1,k2⟩:=pX e4
         simp only[k1];exact⟨trivial,k2⟩
        ·cases h
       ·cases h
      ·cases h
     ·cases h
    ·cases h
   case copy =>
    simp only[ZN] at h
    split at h
    ·rename_i x y t t' e1 e2
     simp only[e1,e2]
     split at h
     ·rename_i e id s' off len x0 g1
      simp only[g1]
      split at h
      ·rename_i s q1
       simp only[q1]
       split at h
       ·rename_i hc
        rw[if_pos hc]
        rw[Cl] at h
        split at h
        ·rename_i n src ids e3
         simp only[e3]
         split at h
         ·rename_i old e4
          simp only[e4]
          split at h
          ·rename_i new e5
           simp only[e5]
           split at h
           ·cases h
           ·rename_i hok
            rw[if_neg hok]
            split at h
            ·rename_i l e6
             simp only[Option.some.injEq,Prod.mk.injEq] at h
             obtain⟨rfl,rfl,rfl⟩:=h
             simp only[e6]
             exact⟨rfl,cm ((cj hp _).symm.trans e4)⟩
            ·cases h
          ·cases h
         ·cases h
        ·cases h
       ·cases h
      ·cases h
     ·cases h
    ·cases h
   case clear =>
    simp only[Pd] at h
    split at h
    ·rename_i x t e1 e2
     simp only[e1,e2]
     split at h
     ·rename_i e id s' off len x0 g1
      simp only[g1]
      split at h
      ·rename_i s zs q1 q2
       simp only[q1,q2]
       split at h
       ·rename_i hc
        rw[if_pos hc]
        split at h
        ·rename_i old e4
         simp only[e4]
         split at h
         ·rename_i l e6
          simp only[Option.some.injEq,Prod.mk.injEq] at h
          obtain⟨rfl,rfl,rfl⟩:=h
          simp only[e6]
          exact⟨rfl,cm ((cj hp _).symm.trans e4)⟩
         ·cases h
        ·cases h
       ·cases h
      ·cases h
     ·cases h
    ·cases h
 | _=>cases h
def lL (runT:lT)(run:aq):Prop:=∀ g args t m rs t' m' w,runT g args t m=some (rs,t',m',w)→∀ hp,HR t m hp→∃ hp',run g args hp=some (rs,hp',w)∧HR t' m' hp'
section
variable {C:Cfg} {runT':lT} {run:aq}
theorem Yh {t:FT Blk}{m m':Nat}{hp hp':List Blk}(h:HR t m' hp')(hm:m=hp.length)(hl:hp.length≤hp'.length):HR t m (oV hp.length hp'):=by
 rw[l5]
 refine⟨by simp[hm,hl],fun i hi => ?_⟩
 rw[List.getElem?_take,if_pos (by omega)]
 exact h.2 i (by have:=h.1;omega)
theorem Hq {β:Type}{b:β}(hr:lL runT' run)(hE:dX run){dr:Bool}{t:FT Blk}{m:Nat}{hp:List Blk}{g:FuncId}{args:List PV}{c:PV→FT Blk→Nat→FP→Option β}(h:Ue C runT' t m g args c=some b)(hh:HR t m hp) :
  ∃ v hp' fp t' m',bU C run dr hp g args=some (v,hp',fp)∧HR t' m' hp'∧c v t' m' fp=some b:=by
 unfold Ue at h
 rw[ke] at h
 unfold bU
 split at h
 ·rename_i hs
  rw[if_pos hs]
  split at h
  ·rename_i rs t' m' w e
   obtain⟨hp',h1,h2⟩:=hr _ _ _ _ _ _ _ _ e hp hh
   obtain⟨l1,_⟩:=hE _ _ _ _ _ _ h1
   rw[h2.rd,rH,hh.1] at h
   rw[h1]
   dsimp only
   cases hb:(bK rs && fG hp' hp.length (jk hp.length w)) with
   | true =>
    rw[hb] at h
    simp only[cond_true,wx] at h ⊢
    exact⟨_,_,_,_,_,rfl,Yh h2 rfl l1,h⟩
   | false =>
    rw[hb] at h
    simp only[cond_false,wx,h2.1] at h ⊢
    refine⟨_,_,_,_,_,rfl,?_,h⟩
    rw[← h2.1];exact h2
  ·cases h
 ·rename_i hs
  rw[if_neg hs]
  rw[hh.rd,ui] at h
  split at h
  ·cases h
  ·rename_i args' ids e
   simp only[e]
   split at h
   ·rename_i rs er
    simp only[er]
    cases hb:rs.all du with
    | true =>
     rw[hb] at h
     simp only[cond_true] at h ⊢
     exact⟨_,_,_,_,_,rfl,hh,h⟩
    | false =>
     rw[hb] at h
     simp only[cond_false] at h ⊢
     obtain⟨t',h1,h2⟩:=pb _ _ _ _ _ h hh
     exact⟨_,_,_,_,_,rfl,h2,h1⟩
   ·rename_i er
    simp only[er]
    split at h
    ·cases h
    ·rename_i rs t1 m1 w1 e1
     obtain⟨hp1,h1,h2⟩:=hr _ _ _ _ _ _ _ _ e1 [] ⟨rfl,fun i hi=>absurd hi (Nat.not_lt_zero _)⟩
     rw[h2.rd,wu] at h
     simp only[h1]
     split at h
     ·cases h
     ·rename_i rs' kept ek
      simp only[ek]
      cases hb:rs'.all du with
      | true =>
       rw[hb] at h
       simp only[cond_true] at h ⊢
       exact⟨_,_,_,_,_,rfl,hh,h⟩
      | false =>
       rw[hb] at h
       simp only[cond_false] at h ⊢
       obtain⟨t2,h3,h4⟩:=pb _ _ _ _ _ h hh
       obtain⟨t3,m3,h5,h6⟩:=zL _ _ _ _ _ h3 h4
       simp only[wx,hh.1] at h5
       exact⟨_,_,_,_,_,rfl,h6,h5⟩
theorem vI {β:Type}{b:β}(hr:lL runT' run)(hE:dX run){dr:Bool}{ops:Array Oper}{o:Oper}{n:Nat}{fr:FT PV}{frl:List PV}{t:FT Blk}{m:Nat}{hp:List Blk}{w:List Nat}{c:FT PV→FT Blk→Nat→List Nat→FP→Option β}
  (h:yR C runT' ops o n fr t m w c=some b) (hh:HR t m hp) (hf:RF fr n frl) :
  ∃ st' fp fr' t' m',ao C run dr ops o ⟨frl,hp,w⟩=some (st',fp)∧HR t' m' st'.hp∧RF fr' n st'.fr∧c fr' t' m' st'.wr fp=some b:=by
 unfold yR at h
 rw[hf.rf,hf.ev] at h
 have hw:Ie ops (nth frl) o=ag ops frl o:=rfl
 rw[hw] at h
 unfold ao aG
 split at h
 ·cases h
 ·rename_i ew
  obtain⟨fr',h1,h2⟩:=qR h hf
  simp only[ew]
  exact⟨_,_,fr',t,m,rfl,hh,h2,h1⟩
 ·rename_i ew
  simp only[ew]
  split at h
  ·rename_i cl ec
   simp only[ec]
   have hc:JE (ak frl) cl=aP frl cl:=rfl
   rw[hc] at h
   split at h
   ·rename_i g args eg
    simp only[eg]
    obtain⟨v,hp',fp,t',m',h1,h2,h3⟩:=Hq (dr:=dr) hr hE h hh
    obtain⟨fr',h4,h5⟩:=qR h3 hf
    rw[Uw] at h4
    simp only[h1]
    exact⟨_,_,fr',t',m',rfl,h2,h5,h4⟩
   ·cases h
  ·rename_i ec
   simp only[ec]
   rw[hh.rd,hh.1] at h
   split at h
   ·rename_i v d fp es
    obtain⟨k1,k2⟩:=EV es
    rw[← hh.1] at h
    obtain⟨t',m',h1,h2⟩:=NA h hh k2
    obtain⟨fr',h4,h5⟩:=qR h1 hf
    rw[Uw] at h4
    simp only[k1]
    exact⟨_,_,fr',t',m',rfl,h2,h5,h4⟩
   ·cases h
theorem Dv {β:Type}{b:β}(hr:lL runT' run)(hE:dX run){dr:Bool}{ops:Array Oper}{n:Nat} : ∀ (l:List Oper) (fr:FT PV) (frl:List PV) (t:FT Blk) (m:Nat) (hp:List Blk) (w:List Nat) (c:FT PV→FT Blk→Nat→List Nat→List FP→Option β),
  goT C runT' ops n l fr t m w c=some b→HR t m hp→RF fr n frl→∃ st' fps fr' t' m',an C run dr ops l ⟨frl,hp,w⟩=some (st',fps)∧HR t' m' st'.hp∧RF fr' n st'.fr∧c fr' t' m' st'.wr fps=some b
 | [],fr,frl,t,m,hp,w,c,h,hh,hf=>⟨_,_,fr,t,m,rfl,hh,hf,h⟩
 | o::l,fr,frl,t,m,hp,w,c,h,hh,hf=>by
  have h:yR C runT' ops o n fr t m w (fun fr t m w fp=>goT C runT' ops n l fr t m w fun fr t m w fps=>c fr t m w (fp::fps))=some b:=h
  obtain⟨st1,fp,fr1,t1,m1,h1,h2,h3,h4⟩:=vI (dr:=dr) hr hE h hh hf
  obtain⟨st2,fps,fr2,t2,m2,h5,h6,h7,h8⟩:=Dv (dr:=dr) hr hE l _ _ _ _ _ _ _ h4 h2 h3
  refine⟨st2,fp::fps,fr2,t2,m2,?_,h6,h7,h8⟩
  unfold an
  rw[h1]
  dsimp only
  rw[h5]
theorem Dw (hr:lL runT' run)(hE:dX run){dr:Bool}{ops:Array Oper}{n:Nat}{e:Ex}{fr':FT PV}{t':FT Blk}{m':Nat}{w':List Nat} : ∀ (l:List Oper) (fr:FT PV) (frl:List PV) (t:FT Blk) (m:Nat) (hp:List Blk) (w:List Nat),
  goS C runT' ops n l fr t m w=some (e,fr',t',m',w')→HR t m hp→RF fr n frl→∃ st' fps,e = .normal∧an C run dr ops l ⟨frl,hp,w⟩=some (st',fps)∧HR t' m' st'.hp∧RF fr' n st'.fr∧st'.wr=w'
 | [],fr,frl,t,m,hp,w,h,hh,hf=>by
  have h:some (Ex.normal,fr,t,m,w)=some (e,fr',t',m',w'):=h
  simp only[Option.some.injEq,Prod.mk.injEq] at h
  obtain⟨rfl,rfl,rfl,rfl,rfl⟩:=h
  exact⟨_,_,rfl,rfl,hh,hf,rfl⟩
 | o::l,fr,frl,t,m,hp,w,h,hh,hf=>by
  have h:yR C runT' ops o n fr t m w (fun fr t m w _=>goS C runT' ops n l fr t m w)=some (e,fr',t',m',w'):=h
  obtain⟨st1,fp,fr1,t1,m1,h1,h2,h3,h4⟩:=vI (dr:=dr) hr hE h hh hf
  obtain⟨st2,fps,h5,h6,h7,h8,h9⟩:=Dw (dr:=dr) hr hE l _ _ _ _ _ _ h4 h2 h3
  refine⟨st2,fp::fps,h5,?_,h7,h8,h9⟩
  unfold an
  rw[h1]
  dsimp only
  rw[h6]
def qh (n:Nat)(f:FT PV→FT Blk→Nat→List Nat→Er)(f':St→Option (Ex × St)):Prop :=
 ∀ fr t m w e fr' t' m' w',f fr t m w=some (e,fr',t',m',w')→∀ st:St,HR t m st.hp→RF fr n st.fr→st.wr=w→∃ st',f' st=some (e,st')∧HR t' m' st'.hp∧RF fr' n st'.fr∧st'.wr=w'
theorem K6 (hr:lL runT' run)(hE:dX run){dr:Bool}{ops:Array Oper}{n:Nat} : qh n (aaW C runT' n ops dr) fun st=>match aH C run ops dr st with | some st'=>some (.normal,st') | none=>none:=by
 rintro fr t m w e fr' t' m' w' h ⟨frl,hp,wr⟩ hh hf rfl
 dsimp only at hh hf h ⊢
 unfold aaW at h
 cases dr with
 | false =>
  unfold aH
  simp only[cond_false] at h
  obtain⟨st',fps,rfl,h1,h2,h3,h4⟩:=Dw (dr:=false) hr hE _ _ _ _ _ _ _ h hh hf
  rw[h1]
  exact⟨st',rfl,h2,h3,h4⟩
 | true =>
  simp only[cond_true] at h
  obtain⟨st',fps,fr1,t1,m1,h1,h2,h3,h4⟩:=Dv (dr:=true) hr hE _ _ _ _ _ _ _ _ h hh hf
  have fin:some (Ex.normal,fr1,t1,m1,st'.wr)=some (e,fr',t',m',w')→∃ st2,some (Ex.normal,st')=some (e,st2)∧HR t' m' st2.hp∧RF fr' n st2.fr∧st2.wr=w':=fun h=>by
   simp only[Option.some.injEq,Prod.mk.injEq] at h
   obtain⟨rfl,rfl,rfl,rfl,rfl⟩:=h
   exact⟨st',rfl,h2,h3,rfl⟩
  have hin:(match number 0 fps with
   | []=>some st'
   | [_]=>some st'
   | l=>bif cB (Region.before ops) l then some st' else none)=some st'∧some (Ex.normal,fr1,t1,m1,st'.wr)=some (e,fr',t',m',w'):=by
   revert h4
   generalize number 0 fps=l
   match l with
   | []=>intro h4;exact⟨rfl,h4⟩
   | [_]=>intro h4;exact⟨rfl,h4⟩
   | x::y::l =>
    intro h4
    dsimp only at h4 ⊢
    cases hq:cB (Region.before ops) (x::y::l) with
    | true=>rw[hq] at h4;exact⟨rfl,h4⟩
    | false=>rw[hq] at h4;cases h4
  obtain⟨q1,q2⟩:=hin
  have q3:aH C run ops true ⟨frl,hp,wr⟩=some st':=by
   unfold aH
   rw[h1]
   exact q1
  rw[q3]
  exact fin q2
end
end Go.Ab
