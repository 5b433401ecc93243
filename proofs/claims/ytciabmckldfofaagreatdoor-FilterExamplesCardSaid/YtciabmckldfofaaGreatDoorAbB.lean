/- The abstract interpreter is sound, the second part: operations and calls; no condition. -/
import Derived.Test.YtciabmckldfofaaGreatDoorAbA
import Derived.Deep.Upon
import Derived.MapKept
import Derived.WideKeyRuns
set_option linter.unusedSimpArgs false
set_option linter.unusedVariables false
namespace Go.Ab
open Go

section
variable {P : Program} {T : Tab} (hT : TabOk P T) {w : World} {H : Nat → Prop} {hp : List Blk} {σ : List Addr}

/-- a live block is seen from another place on: its number goes, a new one comes -/
theorem sim_rebase (S : Sim w H σ hp) {id off : Nat} {a : Addr} {cs l : List PV} (hid : hp[id]? = some ⟨.live, cs⟩) (ha : σ[id]? = some a)
    (hfit : ∃ (c : Array Value) (e : TypeId), w.heap[a.block]? = some (Obj.cells c e (0, 0)) ∧ a.off + off + l.length ≤ c.size)
    (hl : ∀ (k : Nat) c, l[k]? = some c → ∃ v, w.cell? ⟨a.block, a.off + off + k, none⟩ = some v ∧ V w (hot H σ hp) σ (liveAt hp) c v) :
    let σ' := σ ++ [⟨a.block, a.off + off, none⟩]
    let hp' := hp.set id ⟨.dead, []⟩ ++ [⟨.live, l⟩]
    Sim w H σ' hp' ∧ Step w (ownd σ hp) σ (liveAt hp) w (ownd σ' hp') σ' (liveAt hp') := by
  intro σ' hp'
  have hlt : id < hp.length := get_lt hid
  have hlen : (hp.set id ⟨.dead, []⟩).length = σ.length := by simp [S.len]
  have hliveid : liveAt hp id := ⟨cs, hid⟩
  have hhotid : ownd σ hp a.block := ⟨id, a, .inl hliveid, ha, rfl⟩
  have hlv : ∀ {i : Nat}, i < σ.length → liveAt hp' i → liveAt hp i ∧ id ≠ i := by
    rintro i hi ⟨ds, hd⟩
    rw [List.getElem?_append_left (by rw [hlen]; exact hi)] at hd
    by_cases e : id = i
    · subst e; rw [List.getElem?_set_self hlt] at hd; cases hd
    · rw [List.getElem?_set_ne e] at hd; exact ⟨⟨ds, hd⟩, e⟩
  have hget : ∀ {i : Nat} {b : Addr}, σ'[i]? = some b → (i < σ.length ∧ σ[i]? = some b) ∨ (i = σ.length ∧ b = ⟨a.block, a.off + off, none⟩) := fun h => snoc_get h
  have hmp : ∀ {i : Nat} {ds : List PV}, hp'[i]? = some ⟨.dead, .any :: ds⟩ → i < σ.length ∧ hp[i]? = some ⟨.dead, .any :: ds⟩ := by
    intro i ds h
    rcases snoc_get h with ⟨hi, h⟩ | ⟨hi, h⟩
    · rw [hlen] at hi
      by_cases e : id = i
      · subst e; rw [List.getElem?_set_self hlt] at h; cases h
      · rw [List.getElem?_set_ne e] at h; exact ⟨hi, h⟩
    · cases h
  have hhot : ∀ b, ownd σ' hp' b → ownd σ hp b := by
    rintro b ⟨i, a', h1, h2, h3⟩
    rcases hget h2 with ⟨hi, h2⟩ | ⟨hi, h2⟩
    · refine ⟨i, a', ?_, h2, h3⟩
      rcases h1 with h1 | ⟨ds, h1⟩
      · exact .inl (hlv hi h1).1
      · exact .inr ⟨ds, (hmp h1).2⟩
    · subst h2; simp at h3; rw [← h3]; exact hhotid
  have st : Step w (ownd σ hp) σ (liveAt hp) w (ownd σ' hp') σ' (liveAt hp') :=
    ⟨rfl, rfl, rfl, Nat.le_refl _, fun i b h => by
      show (σ ++ [_])[i]? = _
      rw [List.getElem?_append_left (get_lt h)]; exact h, fun _ _ _ => rfl, shape_of fun _ c _ _ h => ⟨c, h, rfl⟩, fun b _ hm => hhot b hm, fun i hi hm => (hlv hi hm).1⟩
  have hblk : ∀ {i : Nat} {s : BSt} {ds : List PV}, hp'[i]? = some ⟨s, ds⟩ → s ≠ .dead → (i < σ.length ∧ id ≠ i ∧ hp[i]? = some ⟨s, ds⟩) ∨ (i = σ.length ∧ s = .live ∧ ds = l) := by
    intro i s ds h hd
    rcases snoc_get h with ⟨hi, h⟩ | ⟨hi, h⟩
    · rw [hlen] at hi
      by_cases e : id = i
      · subst e; rw [List.getElem?_set_self hlt] at h; cases h; exact absurd rfl hd
      · rw [List.getElem?_set_ne e] at h; exact .inl ⟨hi, e, h⟩
    · rw [hlen] at hi; cases h; exact .inr ⟨hi, rfl, rfl⟩
  refine ⟨⟨?_, fun i b h => ?_, S.foreign, fun i s ds b hi hd hb k c hk => ?_, fun i s ds b hi hd hb => ?_, fun i b ds hi hb => ?_, fun i j b1 b2 s ds hi hj hd hne h1 h2 => ?_, fun i ds b hi hb => ?_, fun i j b1 b2 hi hj hne h1 h2 => ?_⟩, st⟩
  · show (σ ++ [_]).length = (hp.set id ⟨.dead, []⟩ ++ [_]).length
    simp [S.len]
  · rcases hget h with ⟨_, h⟩ | ⟨_, h⟩
    · exact S.spot i b h
    · subst h; exact S.spot id a ha
  · rcases hblk hi hd with ⟨h1, h2, h3⟩ | ⟨h1, h2, h3⟩
    · rcases hget hb with ⟨_, hb⟩ | ⟨h4, _⟩
      · obtain ⟨v, g1, g2⟩ := S.cells i s ds b h3 hd hb k c hk
        exact ⟨v, g1, g2.step st⟩
      · omega
    · rcases hget hb with ⟨h4, _⟩ | ⟨_, hb⟩
      · omega
      · subst hb; subst h3
        obtain ⟨v, g1, g2⟩ := hl k c hk
        exact ⟨v, g1, g2.step st⟩
  · rcases hblk hi hd with ⟨h1, h2, h3⟩ | ⟨h1, h2, h3⟩
    · rcases hget hb with ⟨_, hb⟩ | ⟨h4, _⟩
      · exact S.own i s ds b h3 hd hb
      · omega
    · rcases hget hb with ⟨h4, _⟩ | ⟨_, hb⟩
      · omega
      · subst hb
        exact S.own id .live cs a hid (by simp) ha
  · rcases hblk hi (by simp) with ⟨h1, h2, h3⟩ | ⟨h1, h2, h3⟩
    · rcases hget hb with ⟨_, hb⟩ | ⟨h4, _⟩
      · exact S.live i b ds h3 hb
      · omega
    · rcases hget hb with ⟨h4, _⟩ | ⟨_, hb⟩
      · omega
      · subst hb; subst h3
        obtain ⟨c, e, hc, hs⟩ := hfit
        exact ⟨c, e, hc, hs⟩
  · obtain ⟨ds', hi⟩ := hi
    rcases hblk hi (by simp) with ⟨i1, i2, i3⟩ | ⟨i1, i2, i3⟩ <;> rcases hblk hj hd with ⟨j1, j2, j3⟩ | ⟨j1, j2, j3⟩
    · rcases hget h1 with ⟨_, h1⟩ | ⟨h4, _⟩
      · rcases hget h2 with ⟨_, h2⟩ | ⟨h4, _⟩
        · exact S.inj i j b1 b2 s ds ⟨_, i3⟩ j3 hd hne h1 h2
        · omega
      · omega
    · rcases hget h1 with ⟨_, h1⟩ | ⟨h4, _⟩
      · rcases hget h2 with ⟨h4, _⟩ | ⟨_, h2⟩
        · omega
        · subst h2
          exact S.inj i id b1 a .live cs ⟨_, i3⟩ hid (by simp) (Ne.symm i2) h1 ha
      · omega
    · rcases hget h1 with ⟨h4, _⟩ | ⟨_, h1⟩
      · omega
      · subst h1
        rcases hget h2 with ⟨_, h2⟩ | ⟨h4, _⟩
        · exact S.inj id j a b2 s ds hliveid j3 hd j2 ha h2
        · omega
    · omega
  · obtain ⟨hi1, hi2⟩ := hmp hi
    rcases hget hb with ⟨_, hb⟩ | ⟨h4, _⟩
    · obtain ⟨h1, es, ck, h2, h3⟩ := S.maps i ds b hi2 hb
      exact ⟨h1, es, ck, h2, h3.step st⟩
    · omega
  · obtain ⟨ds1, hi⟩ := hi
    obtain ⟨ds2, hj⟩ := hj
    obtain ⟨hi1, hi2⟩ := hmp hi
    obtain ⟨hj1, hj2⟩ := hmp hj
    rcases hget h1 with ⟨_, h1⟩ | ⟨h4, _⟩
    · rcases hget h2 with ⟨_, h2⟩ | ⟨h4, _⟩
      · exact S.injm i j b1 b2 ⟨_, hi2⟩ ⟨_, hj2⟩ hne h1 h2
      · omega
    · omega

theorem run_append_room1 {t tx ty e : TypeId} {i : TypeInfo} (ht : P.underlying t = some (.slice e)) (hi : P.info? e = some i) {a : Addr} {sLen sCap : Nat} {x : Value} {n : Nat} {news : List Value} (hs : Src P i.size tx x n news w)
    (hroom : sLen + n ≤ sCap) {w' : World} (hst : (storeCells (a.add (sLen * i.size)) news).run P w = .ok () w') :
    (Builtin.append_ #[t, tx] ty #[.slice (some a) sLen sCap, x]).run P w = .ok (.slice (some a) (sLen + n) sCap) w' := by
  rcases hs.kind with ⟨e', hk⟩ | hk <;> simp [Builtin.append_, run_underlying ht, run_underlying hk, sizeOf, typeInfo, hi, hs.len, hroom, hs.cells, hst]

end
end Go.Ab
namespace Go.Ab
open Go

section
variable {P : Program} {T : Tab} (hT : TabOk P T) {w : World} {H : Nat → Prop} {hp : List Blk} {σ : List Addr}

theorem At.vals {M : Nat → Prop} {L : Nat → Prop} {a : Addr} {cs : List PV} (h : At w M σ L a cs) : ∃ vs : List Value, cs.length = vs.length ∧ (∀ j v, vs[j]? = some v → w.cell? (a.add j) = some v) ∧
    ∀ (k : Nat) c v, cs[k]? = some c → vs[k]? = some v → V w M σ L c v := by
  obtain ⟨g, hg⟩ := h
  refine ⟨(List.range cs.length).map g, by simp, fun j v hj => ?_, fun k c v hk hv => ?_⟩
  · have hj' := get_lt hj
    simp at hj'
    simp [hj'] at hj
    subst hj
    obtain ⟨h1, h2, _⟩ := hg j _ (List.getElem?_eq_getElem hj')
    rw [addr_add h1]; exact h2
  · have hk' := get_lt hk
    simp [hk'] at hv
    subst hv
    exact (hg k c hk).2.2

/-- the source of an append -/
theorem src_of (S : Sim w H σ hp) {tx e' : TypeId} (hk : P.underlying tx = some (.slice e')) {s : Nat} {p : PV} {v : Value} {n : Nat} {new : List PV} {ids : List Nat} (h : rdSl hp s p = some (n, new, ids))
    (hok : okCells new = true) (hv : V w (hot H σ hp) σ (liveAt hp) p v) :
    ∃ news : List Value, Src P s tx v n news w ∧ new.length = news.length ∧ (∀ (k : Nat) c u, new[k]? = some c → news[k]? = some u → V w (hot H σ hp) σ (liveAt hp) c u) ∧ new.length = n * s := by
  obtain ⟨base, cap, rfl, hlen, hnone, hat⟩ := rdSl_ok S h hv
  cases base with
  | none =>
    obtain ⟨e1, e2, e3⟩ := hnone rfl
    subst e1; subst e2; subst e3
    exact ⟨[], Src.ofNil w hk 0, rfl, fun k c u h1 h2 => by simp at h2, by simp⟩
  | some a =>
    obtain ⟨news, h1, h2, h3⟩ := (hat a rfl).vals
    exact ⟨news, Src.ofSlice w hk a n cap news (by rw [← h1, hlen]) h2 (okCells_vals hok h1 h3), h1, h3, hlen⟩


/-- what appending comes to -/
def Grew (P : Program) (t tx ty : TypeId) (v x : Value) (w : World) (H : Nat → Prop) (σ : List Addr) (hp : List Blk) (r : PV) (hp' : List Blk) : Prop :=
  ∃ u w' σ', (Builtin.append_ #[t, tx] ty #[v, x]).run P w = .ok u w' ∧ V w' (hot H σ' hp') σ' (liveAt hp') r u ∧ Sim w' H σ' hp' ∧ Step w (ownd σ hp) σ (liveAt hp) w' (ownd σ' hp') σ' (liveAt hp')

/-- a new row: what was there, what is appended, zeros -/
theorem grow_row (S : Sim w H σ hp) {t tx ty e : TypeId} {i : TypeInfo} {z : Value} (ht : P.underlying t = some (.slice e)) (hi : P.info? e = some i) (hz : i.zero = some z) (hzs : z.cells.size = i.size) (hby : i.bytes ≤ 128)
    {base : Option Addr} {sLen sCap : Nat} {l new : List PV} {olds news : List Value} (hold : (Builtin.firstCells i.size sLen (.slice base sLen sCap)).run P w.drew = .ok olds.toArray w.drew)
    {x : Value} {n : Nat} (hs : Src P i.size tx x n news w) (hg : sCap < sLen + n) (hmax : sLen + n ≤ 1099511627776)
    (hl : l.length = olds.length ∧ ∀ (k : Nat) c u, l[k]? = some c → olds[k]? = some u → V w (hot H σ hp) σ (liveAt hp) c u) (hln : l.length = sLen * i.size)
    (hn : new.length = news.length ∧ ∀ (k : Nat) c u, new[k]? = some c → news[k]? = some u → V w (hot H σ hp) σ (liveAt hp) c u) (hnn : new.length = n * i.size) :
    Grew P t tx ty (.slice base sLen sCap) x w H σ hp (.own hp.length i.size 0 (sLen + n) false) (hp ++ [⟨.live, l ++ new⟩]) := by
  have hfit : Builtin.nextslicecap (sLen + n) sCap * i.bytes ≤ 281474976710656 := growslice_fits hg (by
    have : (sLen + n) * i.bytes ≤ 1099511627776 * 128 := Nat.mul_le_mul hmax hby
    have e : 1099511627776 * 128 = 140737488355328 := by decide
    omega)
  have hrun := run_append_grow_src (P := P) w t tx ty e i z ht hi hz base sLen sCap olds hold x n news hs hg (by omega) hfit
  have hcap : sLen + n ≤ grownCap w (sLen + n) sCap e := by unfold grownCap Question.cut; exact Nat.le_add_right _ _
  generalize grownCap w (sLen + n) sCap e = cap at hrun hcap
  have S1 : Sim w.drew H σ hp := sim_drawn (w' := w.drew) S rfl rfl rfl rfl
  have st1 : Step w (ownd σ hp) σ (liveAt hp) w.drew (ownd σ hp) σ (liveAt hp) := step_drawn (w := w) (w' := w.drew) rfl rfl rfl rfl _ _ _
  have hzc : (Builtin.zeroCells z.cells (cap - (sLen + n))).size = (cap - (sLen + n)) * i.size := by simp [Builtin.zeroCells, hzs]
  have hsize : ((olds ++ news).toArray ++ Builtin.zeroCells z.cells (cap - (sLen + n))).size = cap * i.size := by
    rw [Array.size_append, hzc, List.size_toArray, List.length_append, ← hl.1, ← hn.1, hln, hnn, ← Nat.add_mul, ← Nat.add_mul]
    congr 1; omega
  obtain ⟨g1, g2, g3⟩ := new_own (e := e) S1 (cs := l ++ new) (vs := (olds ++ news).toArray ++ Builtin.zeroCells z.cells (cap - (sLen + n)))
    (by rw [hsize, List.length_append, hln, hnn, ← Nat.add_mul]; exact Nat.mul_le_mul_right _ hcap) (fun k c u hk hu => by
      have hk' := get_lt hk
      rw [List.length_append] at hk'
      rw [Array.getElem?_append_left (by simp [← hl.1, ← hn.1]; omega)] at hu
      have hu' : (olds ++ news)[k]? = some u := by simpa using hu
      refine V.step st1 ?_
      rcases Nat.lt_or_ge k l.length with h | h
      · rw [List.getElem?_append_left h] at hk
        rw [List.getElem?_append_left (by rw [← hl.1]; exact h)] at hu'
        exact hl.2 k c u hk hu'
      · rw [List.getElem?_append_right h] at hk
        rw [List.getElem?_append_right (by rw [← hl.1]; exact h)] at hu'
        rw [← hl.1] at hu'
        exact hn.2 _ c u hk hu') i.size (sLen + n) cap false hcap (by simp) (by rw [hsize]; exact Nat.le_refl _)
  exact ⟨_, _, _, hrun, g3, g1, st1.trans g2⟩

theorem Src.append_nothing {t tx ty e : TypeId} {i : TypeInfo} (ht : P.underlying t = some (.slice e)) (hi : P.info? e = some i) {base : Option Addr} {sLen sCap : Nat} (hle : sLen ≤ sCap) {x : Value} {news : List Value} (hs : Src P i.size tx x 0 news w) :
    (Builtin.append_ #[t, tx] ty #[.slice base sLen sCap, x]).run P w = .ok (.slice base sLen sCap) w := by
  have : news = [] := by have := hs.newsLen; simpa using this
  subst this
  exact run_append_nothing w t tx ty e i ht hi base sLen sCap hle x hs

theorem own_cells (S : Sim w H σ hp) {id off m : Nat} {a : Addr} {st : BSt} {cs : List PV} (hid : hp[id]? = some ⟨st, cs⟩) (hd : st ≠ .dead) (ha : σ[id]? = some a) :
    At w (hot H σ hp) σ (liveAt hp) ⟨a.block, a.off + off, none⟩ ((cs.drop off).take m) := by
  have hA : At w (hot H σ hp) σ (liveAt hp) ⟨a.block, a.off, none⟩ cs := by
    refine ⟨fun k => (w.cell? ⟨a.block, a.off + k, none⟩).getD undef, fun k c hk => ?_⟩
    obtain ⟨v, h1, h2⟩ := S.cells id st cs a hid hd ha k c hk
    exact ⟨rfl, by simp [h1], by simpa [h1] using h2⟩
  exact (hA.drop off).take m

theorem first_of (P : Program) {a : Addr} {size n len cap : Nat} {olds : List Value} (hl : olds.length = n * size) (h : ∀ j v, olds[j]? = some v → w.cell? (a.add j) = some v) :
    (Builtin.firstCells size n (.slice (some a) len cap)).run P w.drew = .ok olds.toArray w.drew := by
  have := run_loadCells_list (P := P) w.drew a olds (fun j v hj => by simpa using h j v hj)
  rw [hl] at this
  simpa [Builtin.firstCells] using this

theorem over?_of {l vs : List PV} {n : Nat} (h : n + vs.length ≤ l.length) : ∃ r, over? l n vs = some r := by
  induction l generalizing n vs with
  | nil =>
    simp at h
    obtain ⟨rfl, h⟩ := h
    cases vs with
    | nil => exact ⟨[], rfl⟩
    | cons v vs => simp at h
  | cons a l ih =>
    cases n with
    | zero =>
      cases vs with
      | nil => exact ⟨_, rfl⟩
      | cons v vs =>
        obtain ⟨r, hr⟩ := ih (n := 0) (vs := vs) (by simp at h; omega)
        exact ⟨v :: r, by simp [over?, hr]⟩
    | succ n =>
      obtain ⟨r, hr⟩ := ih (n := n) (vs := vs) (by simp at h; omega)
      exact ⟨a :: r, by simp [over?, hr]⟩
theorem over?_end {l new ys : List PV} (h : ys.length = new.length) : over? (l ++ ys) l.length new = some (l ++ new) := by
  obtain ⟨r, hr⟩ := over?_of (l := l ++ ys) (n := l.length) (vs := new) (by simp; omega)
  obtain ⟨h1, h2, h3⟩ := over?_some hr
  rw [hr]; congr 1
  apply List.ext_getElem?
  intro k
  rw [h3]
  rcases Nat.lt_or_ge k l.length with hk | hk
  · rw [if_neg (by omega), List.getElem?_append_left hk, List.getElem?_append_left hk]
  · rw [List.getElem?_append_right (l₂ := new) hk]
    by_cases hk2 : k < l.length + new.length
    · rw [if_pos ⟨hk, hk2⟩]
    · rw [if_neg (by omega), List.getElem?_eq_none (by simp; omega), List.getElem?_eq_none (by omega)]

theorem appendP_ok (S : Sim w H σ hp) {t tx ty e : TypeId} {i : TypeInfo} {z : Value} (ht : P.underlying t = some (.slice e)) (hi : P.info? e = some i) (hz : i.zero = some z) (hzs : z.cells.size = i.size) (hby : i.bytes ≤ 128)
    {p r : PV} {v x : Value} {n : Nat} {new : List PV} {hp' : List Blk} {fp : FP} (h : appendP hp i.size p n new = some (r, hp', fp)) (hv : V w (hot H σ hp) σ (liveAt hp) p v) {news : List Value} (hs : Src P i.size tx x n news w)
    (hok : okCells new = true) (hn : new.length = news.length ∧ ∀ (k : Nat) c u, new[k]? = some c → news[k]? = some u → V w (hot H σ hp) σ (liveAt hp) c u) (hnn : new.length = n * i.size) :
    Grew P t tx ty v x w H σ hp r hp' := by
  have same : ∀ {base : Option Addr} {sLen sCap : Nat}, n = 0 → sLen ≤ sCap → v = .slice base sLen sCap → r = p → hp' = hp → Grew P t tx ty v x w H σ hp r hp' := by
    intro base sLen sCap h0 hle e1 e2 e3
    subst h0; subst e1; subst e2; subst e3
    exact ⟨_, w, σ, Src.append_nothing ht hi hle hs, hv, S, Step.refl _ _ _ _⟩
  unfold appendP at h
  split at h
  · cases hv
    split at h
    · rename_i h0
      simp only [Option.some.injEq, Prod.mk.injEq] at h
      obtain ⟨rfl, rfl, rfl⟩ := h
      exact same h0 (Nat.le_refl 0) rfl rfl rfl
    · rename_i h0
      split at h
      · rename_i hm
        simp only [Option.some.injEq, Prod.mk.injEq] at h
        obtain ⟨rfl, rfl, rfl⟩ := h
        have := grow_row (ty := ty) S ht hi hz hzs hby (base := none) (sLen := 0) (sCap := 0) (l := []) (olds := []) (by simp [Builtin.firstCells]) hs (by omega) (by unfold maxLenA at hm; omega) ⟨rfl, fun k c u h => by simp at h⟩ (by simp) hn hnn
        simpa [allocB] using this
      · cases h
  · rename_i len cs
    split at h
    · rename_i h0
      simp only [Option.some.injEq, Prod.mk.injEq] at h
      obtain ⟨rfl, rfl, rfl⟩ := h
      cases hv with
      | nil => exact same h0 (Nat.le_refl 0) rfl rfl rfl
      | imm _ _ _ a cap g g1 g2 g3 g4 => exact same h0 g1 rfl rfl rfl
    · rename_i h0
      split at h
      · rename_i hm
        simp only [Option.some.injEq, Prod.mk.injEq] at h
        obtain ⟨rfl, rfl, rfl⟩ := h
        cases hv with
        | nil =>
          have := grow_row (ty := ty) S ht hi hz hzs hby (base := none) (sLen := 0) (sCap := 0) (l := []) (olds := []) (by simp [Builtin.firstCells]) hs (by omega) (by unfold maxLenA at hm; omega) ⟨rfl, fun k c u h => by simp at h⟩ (by simp) hn hnn
          simpa [allocB] using this
        | imm _ _ _ a cap g g1 g2 g3 g4 =>
          have hA : At w (hot H σ hp) σ (liveAt hp) a cs := ⟨g, fun k c hk => ⟨(g3 k c hk).1, (g3 k c hk).2.2.2, g4 k c hk⟩⟩
          obtain ⟨olds, e1, e2, e3⟩ := hA.vals
          have hcap : cap = len := g2 rfl
          have := grow_row (ty := ty) S ht hi hz hzs hby (base := some a) (sLen := len) (sCap := cap) (l := cs) (olds := olds) (first_of P (by rw [← e1, hm.2]) e2) hs (by omega) (by have := hm.1; unfold maxLenA at this; omega) ⟨e1, e3⟩ hm.2 hn hnn
          simpa [allocB] using this
      · cases h
  · rename_i id s' off len
    split at h
    · cases h
    · rename_i hss
      have hss : i.size = s' := by simpa using hss
      subst hss
      split at h
      · rename_i h0
        simp only [Option.some.injEq, Prod.mk.injEq] at h
        obtain ⟨rfl, rfl, rfl⟩ := h
        cases hv with
        | own _ _ _ _ _ a b cap g1 g2 g3 g4 g5 => exact same h0 g2 rfl rfl rfl
      · rename_i h0
        cases hb : nthB hp id with
        | none => simp [hb] at h
        | some blk =>
          cases blk with
          | mk st cs =>
            simp only [hb] at h
            split at h
            · cases h
            · rename_i hd
              cases htk : takeN? (dropN cs off) (len * i.size) with
              | none => simp [htk] at h
              | some l =>
                simp only [htk] at h
                split at h
                · rename_i hm
                  simp only [Option.some.injEq, Prod.mk.injEq] at h
                  obtain ⟨rfl, rfl, rfl⟩ := h
                  obtain ⟨hle, rfl⟩ := takeN?_some htk
                  rw [dropN_eq] at *
                  rw [nthB_eq] at hb
                  cases hv with
                  | own _ _ _ _ _ a b cap g1 g2 g3 g4 g5 =>
                    have hcap : cap = len := g3 rfl
                    have hln : ((cs.drop off).take (len * i.size)).length = len * i.size := by rw [List.length_take]; omega
                    obtain ⟨olds, e1, e2, e3⟩ : ∃ olds : List Value, ((cs.drop off).take (len * i.size)).length = olds.length ∧ (∀ j v, olds[j]? = some v → w.cell? (b.add j) = some v) ∧
                        ∀ (k : Nat) c v, ((cs.drop off).take (len * i.size))[k]? = some c → olds[k]? = some v → V w (hot H σ hp) σ (liveAt hp) c v := by
                      by_cases hc : 0 < cap
                      · have := own_cells S (off := off) (m := len * i.size) hb hd g1
                        rw [← g4 hc] at this
                        exact this.vals
                      · have : len = 0 := by omega
                        subst this
                        exact ⟨[], by simp, fun j v h => by simp at h, fun k c v h => by simp at h⟩
                    have := grow_row (ty := ty) S ht hi hz hzs hby (base := some b) (sLen := len) (sCap := cap) (olds := olds) (first_of P (by rw [← e1, hln]) e2) hs (by omega) (by unfold maxLenA at hm; omega) ⟨e1, e3⟩ hln hn hnn
                    simpa [allocB] using this
                · cases h
  · rename_i id s' off len
    split at h
    · cases h
    · rename_i hss
      have hss : i.size = s' := by simpa using hss
      subst hss
      split at h
      · rename_i cs hb
        cases htk : takeN? (dropN cs off) (len * i.size) with
        | none => simp [htk] at h
        | some l =>
          simp only [htk] at h
          split at h
          · rename_i hm
            simp only [Option.some.injEq, Prod.mk.injEq] at h
            obtain ⟨rfl, rfl, rfl⟩ := h
            obtain ⟨hle, rfl⟩ := takeN?_some htk
            rw [dropN_eq] at *
            rw [nthB_eq] at hb
            rw [setB_eq]
            have hln : ((cs.drop off).take (len * i.size)).length = len * i.size := by rw [List.length_take]; omega
            cases hv with
            | own _ _ _ _ _ a b cap g1 g2 g3 g4 g5 =>
              obtain ⟨c0, e0, hc0, hsz0⟩ := g5 ⟨cs, hb⟩
              have hlt : id < hp.length := get_lt hb
              by_cases hroom : len + n ≤ cap
              · -- in place
                have hA := own_cells S (off := off) (m := len * i.size) hb (by simp) g1
                obtain ⟨gA, hgA⟩ := hA
                have hcs : (len + n) * i.size ≤ cap * i.size := Nat.mul_le_mul_right _ hroom
                have hmul : (len + n) * i.size = len * i.size + n * i.size := Nat.add_mul _ _ _
                obtain ⟨r1, r2⟩ := sim_rebase S (off := off) (l := (cs.drop off).take (len * i.size) ++ List.replicate (n * i.size) PV.any) hb g1
                  ⟨c0, e0, hc0, by rw [List.length_append, hln, List.length_replicate]; omega⟩ (fun k c hk => by
                    rcases Nat.lt_or_ge k (len * i.size) with h | h
                    · rw [List.getElem?_append_left (by rw [hln]; exact h)] at hk
                      obtain ⟨q1, q2, q3⟩ := hgA k c hk
                      exact ⟨_, q2, q3⟩
                    · rw [List.getElem?_append_right (by rw [hln]; exact h), List.getElem?_replicate] at hk
                      split at hk
                      · rename_i hk2
                        simp at hk; subst hk
                        rw [hln] at hk2
                        rw [cell?_eq hc0]
                        exact ⟨c0[a.off + off + k]'(by omega), Array.getElem?_eq_getElem _, .any _⟩
                      · cases hk)
                have hnewid : (hp.set id ⟨.dead, []⟩ ++ [(⟨.live, (cs.drop off).take (len * i.size) ++ List.replicate (n * i.size) PV.any⟩ : Blk)])[hp.length]? = some ⟨.live, (cs.drop off).take (len * i.size) ++ List.replicate (n * i.size) PV.any⟩ := by
                  rw [List.getElem?_append_right (by simp)]; simp
                have hnews : (σ ++ [(⟨a.block, a.off + off, none⟩ : Addr)])[hp.length]? = some ⟨a.block, a.off + off, none⟩ := by
                  rw [← S.len]; simp
                have hover : over? ((cs.drop off).take (len * i.size) ++ List.replicate (n * i.size) PV.any) (len * i.size) new = some ((cs.drop off).take (len * i.size) ++ new) := by
                  have := over?_end (l := (cs.drop off).take (len * i.size)) (new := new) (ys := List.replicate (n * i.size) PV.any) (by rw [List.length_replicate, hnn])
                  rwa [hln] at this
                obtain ⟨w', k1, k2, k3⟩ := write_ok (P := P) r1 hnewid hnews hover hn.1 (fun k c u h1 h2 => (hn.2 k c u h1 h2).step r2) hok
                have hset : (hp.set id ⟨.dead, []⟩ ++ [(⟨.live, (cs.drop off).take (len * i.size) ++ List.replicate (n * i.size) PV.any⟩ : Blk)]).set hp.length ⟨.live, (cs.drop off).take (len * i.size) ++ new⟩ = hp.set id ⟨.dead, []⟩ ++ [⟨.live, (cs.drop off).take (len * i.size) ++ new⟩] := by
                  rw [List.set_append_right _ _ (by simp)]; simp
                rw [hset] at k2 k3
                refine ⟨.slice (some b) (len + n) cap, w', _, ?_, ?_, k2, r2.trans k3⟩
                · by_cases hc : 0 < cap
                  · have eb := g4 hc
                    subst eb
                    refine run_append_room1 ht hi hs hroom ?_
                    rw [addr_add rfl]
                    exact k1
                  · have h0 : n = 0 := by omega
                    subst h0
                    have hnil : news = [] := by have := hs.newsLen; simpa using this
                    subst hnil
                    simp [storeCells] at k1
                    subst k1
                    have := Src.append_nothing (ty := ty) ht hi (base := some b) g2 hs
                    simpa using this
                · refine .own _ _ _ _ _ ⟨a.block, a.off + off, none⟩ b cap (by rw [← S.len]; simp) hroom (by simp) (fun hc => by simpa using g4 hc) (fun _ => ?_)
                  obtain ⟨c', hc', hsz'⟩ := k3.shape hp.length ⟨a.block, a.off + off, none⟩ c0 e0 ⟨_, by rw [List.getElem?_append_right (by simp)]; simp; rfl⟩ hnews hc0
                  exact ⟨c', e0, hc', by simp; omega⟩
              · -- a new row
                obtain ⟨olds, e1, e2, e3⟩ : ∃ olds : List Value, ((cs.drop off).take (len * i.size)).length = olds.length ∧ (∀ j v, olds[j]? = some v → w.cell? (b.add j) = some v) ∧
                    ∀ (k : Nat) c v, ((cs.drop off).take (len * i.size))[k]? = some c → olds[k]? = some v → V w (hot H σ hp) σ (liveAt hp) c v := by
                  by_cases hc : 0 < cap
                  · have := own_cells S (off := off) (m := len * i.size) hb (by simp) g1
                    rw [← g4 hc] at this
                    exact this.vals
                  · have : len = 0 := by omega
                    subst this
                    exact ⟨[], by simp, fun j v h => by simp at h, fun k c v h => by simp at h⟩
                obtain ⟨u, w', σ', q1, q2, q3, q4⟩ := grow_row (ty := ty) S ht hi hz hzs hby (base := some b) (sLen := len) (sCap := cap) (olds := olds) (first_of P (by rw [← e1, hln]) e2) hs (by omega) (by unfold maxLenA at hm; omega) ⟨e1, e3⟩ hln hn hnn
                obtain ⟨m1, m2⟩ := sim_mark (id := id) (s := .live) (cs := cs) (st' := .dead) (cs' := []) q3 (by rw [List.getElem?_append_left hlt]; exact hb) (.inl ⟨rfl, rfl⟩)
                have hset : (hp ++ [(⟨.live, (cs.drop off).take (len * i.size) ++ new⟩ : Blk)]).set id ⟨.dead, []⟩ = hp.set id ⟨.dead, []⟩ ++ [⟨.live, (cs.drop off).take (len * i.size) ++ new⟩] := by
                  rw [List.set_append_left _ _ hlt]
                rw [hset] at m1 m2
                exact ⟨u, w', σ', q1, q2.step m2, m1, q4.trans m2⟩
          · cases h
      · cases h
  · cases h

end
end Go.Ab
namespace Go.Ab
open Go

section
variable {P : Program} {T : Tab} (hT : TabOk P T) {w : World} {H : Nat → Prop} {hp : List Blk} {σ : List Addr}

theorem tab_of_zero {e : TypeId} {zs : List PV} (hz : zeroT T e = some zs) : ∃ i z, T e = some i ∧ i.zero = some z ∧ zs = z.cells.toList.map .sc := by
  unfold zeroT at hz
  cases hTi : T e with
  | none => simp [hTi] at hz
  | some i =>
    rw [hTi] at hz
    cases i with
    | mk desc str size bytes hp al fa zero cmp ms =>
      cases zero with
      | none => simp at hz
      | some z => simp at hz; exact ⟨_, z, rfl, rfl, hz.symm⟩

theorem lenOf_slice (P : Program) (a : Option Addr) (n c : Nat) (w : World) : (Builtin.lenOf (.slice a n c)).run P w = .ok n w := rfl

include hT in
theorem copy_ok {t tx ty e : TypeId} (S : Sim w H σ hp) (hu : und T t = some (.slice e)) {s : Nat} (hs : sizeT T e = some s) {id off len n : Nat} {x : Bool} {y : PV} {v u : Value} {src old new l : List PV} {ids : List Nat}
    (hv : V w (hot H σ hp) σ (liveAt hp) (.own id s off len x) v) (hy : V w (hot H σ hp) σ (liveAt hp) y u) (hr : rdSl hp s y = some (n, src, ids)) (hid : hp[id]? = some ⟨.live, old⟩)
    (hn : takeN? src (Nat.min n len * s) = some new) (hok : okCells new = true) (ho : over? old off new = some l) :
    ∃ w', (Builtin.copy_ #[t, tx] ty #[v, u]).run P w = .ok (.int .i64 (Nat.min n len : Nat)) w' ∧ Sim w' H σ (hp.set id ⟨.live, l⟩) ∧
      Step w (ownd σ hp) σ (liveAt hp) w' (ownd σ (hp.set id ⟨.live, l⟩)) σ (liveAt (hp.set id ⟨.live, l⟩)) := by
  cases hv with
  | own _ _ _ _ _ a b cap g1 g2 g3 g4 g5 =>
    obtain ⟨base, c2, rfl, hlen, hnone, hat⟩ := rdSl_ok S hr hy
    obtain ⟨hle, rfl⟩ := takeN?_some hn
    obtain ⟨vs, e1, e2, e3⟩ : ∃ vs : List Value, (src.take (Nat.min n len * s)).length = vs.length ∧ (Builtin.firstCells s (Nat.min n len) (.slice base n c2)).run P w = .ok vs.toArray w ∧
        ∀ (k : Nat) c v, (src.take (Nat.min n len * s))[k]? = some c → vs[k]? = some v → V w (hot H σ hp) σ (liveAt hp) c v := by
      cases base with
      | none =>
        obtain ⟨h1, h2, h3⟩ := hnone rfl
        subst h1
        exact ⟨[], by simp, by simp [Builtin.firstCells], fun k c v h => by simp at h⟩
      | some a2 =>
        obtain ⟨vs, h1, h2, h3⟩ := ((hat a2 rfl).take (Nat.min n len * s)).vals
        refine ⟨vs, h1, ?_, h3⟩
        have := run_loadCells_list (P := P) w a2 vs h2
        rw [← h1, List.length_take, Nat.min_eq_left hle] at this
        simpa [Builtin.firstCells] using this
    by_cases hc : 0 < cap
    · obtain ⟨w', k1, k2, k3⟩ := write_ok (P := P) S hid g1 ho e1 e3 hok
      refine ⟨w', ?_, k2, k3⟩
      have eb := g4 hc
      subst eb
      simp only [Builtin.copy_, List.getElem?_toArray, List.getElem?_cons_zero, List.getElem?_cons_succ, Sem.run_bind, run_und hT hu, Result.andThen_ok, lenOf_slice, run_size hT hs, e2]
      simp [k1, goInt]
    · have hl0 : len = 0 := by omega
      subst hl0
      have hv0 : vs = [] := by
        have : (src.take (Nat.min n 0 * s)).length = 0 := by simp [Nat.min]
        rw [this] at e1
        exact List.length_eq_zero_iff.1 e1.symm
      subst hv0
      obtain ⟨w', k1, k2, k3⟩ := write_ok (P := P) S hid g1 ho e1 e3 hok
      simp [storeCells] at k1
      subst k1
      refine ⟨w, ?_, k2, k3⟩
      simp only [Builtin.copy_, List.getElem?_toArray, List.getElem?_cons_zero, List.getElem?_cons_succ, Sem.run_bind, run_und hT hu, Result.andThen_ok, lenOf_slice, run_size hT hs, e2]
      simp [storeCells, goInt]

include hT in
theorem clear_ok {t ty e : TypeId} (S : Sim w H σ hp) (hu : und T t = some (.slice e)) {s : Nat} {zs : List PV} (hz : zeroT T e = some zs) (hzs : zs.length = s) {id off len : Nat} {x : Bool} {v : Value} {old l : List PV}
    (hv : V w (hot H σ hp) σ (liveAt hp) (.own id s off len x) v) (hid : hp[id]? = some ⟨.live, old⟩) (hok : okCells zs = true) (ho : over? old off (rep len zs) = some l) :
    ∃ w', (Builtin.clear_ #[t] ty #[v]).run P w = .ok (.tuple #[]) w' ∧ Sim w' H σ (hp.set id ⟨.live, l⟩) ∧
      Step w (ownd σ hp) σ (liveAt hp) w' (ownd σ (hp.set id ⟨.live, l⟩)) σ (liveAt (hp.set id ⟨.live, l⟩)) := by
  cases hv with
  | own _ _ _ _ _ a b cap g1 g2 g3 g4 g5 =>
    obtain ⟨z, hz1, hz2⟩ := run_zero hT hz w
    have hzz : z.cells.size = s := by rw [hz2] at hzs; simpa using hzs
    have hrel := rel_rep (w := w) (M := hot H σ hp) (σ := σ) (L := liveAt hp) len z.cells (len * z.cells.size) rfl
    rw [← hz2] at hrel
    have hok' : okCells (rep len zs) = true := by
      have happ : ∀ a b, okCells a = true → okCells b = true → okCells (a ++ b) = true := by
        intro a b ha hb
        induction a with
        | nil => exact hb
        | cons c a ih => simp [okCells] at ha ⊢; exact ⟨ha.1, ih ha.2⟩
      induction len with
      | zero => rfl
      | succ n ih =>
        have : ∀ n, okCells (rep n zs) = true := by
          intro n
          induction n with
          | zero => rfl
          | succ n ih => exact happ _ _ hok ih
        exact this _
    obtain ⟨w', k1, k2, k3⟩ := write_ok (P := P) S hid g1 ho (vs := (Builtin.zeroCells z.cells len).toList) (by have := hrel.1; simpa [Builtin.zeroCells] using this) (fun k c v h1 h2 => hrel.2 k c v h1 (by
      have : (Builtin.zeroCells z.cells len)[k]? = some v := by simpa using h2
      simpa [Builtin.zeroCells] using this)) hok'
    refine ⟨w', ?_, k2, k3⟩
    cases len with
    | zero =>
      have : w' = w := by simp [Builtin.zeroCells, storeCells] at k1; exact k1.symm
      subst this
      simp only [Builtin.clear_, List.getElem?_toArray, List.getElem?_cons_zero, Sem.run_bind, run_und hT hu, Result.andThen_ok]
      rfl
    | succ m =>
      have eb := g4 (by omega)
      subst eb
      simp only [Builtin.clear_, List.getElem?_toArray, List.getElem?_cons_zero, Sem.run_bind, run_und hT hu, Result.andThen_ok, hz1, k1]
      rfl
end
end Go.Ab
namespace Go.Ab
open Go

theorem V.sc_inv' {w : World} {M : Nat → Prop} {σ : List Addr} {L : Nat → Prop} {a v : Value} (h : V w M σ L (.sc a) v) : v = a := by
  cases h; rfl
theorem eqKey_same {d : TypeDesc} {p a : PV} {kv ka : Value} (hk : isKeyP d p = true) (hp : p = .sc kv) (ha : a = .sc ka) {b : Bool} (h : eqKey p a = some b) : Instr.sameNow d kv ka = some b ∧ (b = true → ka = kv) := by
  subst hp; subst ha
  unfold eqKey at h
  split at h
  · rename_i i m j n e1 e2
    cases e1; cases e2
    by_cases hij : i = j
    · rw [if_pos hij] at h
      simp only [Option.some.injEq] at h
      subst hij
      cases d <;> simp [isKeyP] at hk
      refine ⟨by simp [Instr.sameNow, h], fun hb => ?_⟩
      rw [hb] at h
      rw [beq_iff_eq.1 h]
    · rw [if_neg hij] at h; cases h
  · rename_i s t e1 e2
    cases e1; cases e2
    simp only [Option.some.injEq] at h
    cases d <;> simp [isKeyP] at hk
    have hbb : (s == t) = eqL (strL s) (strL t) := by
      rw [eqL_eq]
      by_cases e : s = t
      · subst e
        rw [(Go.MapKept.bytes_beq s s).2 rfl]; simp
      · have h1 : (s == t) = false := by
          cases e2 : (s == t) with
          | false => rfl
          | true => exact absurd ((Go.MapKept.bytes_beq s t).1 e2) e
        have h2 : (strL s == strL t) = false := by
          cases e2 : (strL s == strL t) with
          | false => rfl
          | true => exact absurd (by rw [← mk_strL s, ← mk_strL t, beq_iff_eq.1 e2]) e
        rw [h1, h2]
    refine ⟨by simp only [Instr.sameNow, hbb, h], fun hb => ?_⟩
    rw [hb] at h
    rw [h] at hbb
    rw [(Go.MapKept.bytes_beq s t).1 hbb]
  · rename_i x y e1 e2
    cases e1; cases e2
    simp only [Option.some.injEq] at h
    cases d <;> simp [isKeyP] at hk
    refine ⟨by simp [Instr.sameNow, h], fun hb => ?_⟩
    rw [hb] at h
    rw [beq_iff_eq.1 h]
  · rename_i e1 e2; cases e1
  · cases h
/-- what a search through entries asks -/
structure Finder (same : Value → Bool → Prop) (F : List MapEntry → Nat → Option (Nat × Value) → Prop) : Prop where
  nil : ∀ i, F [] i none
  hit : ∀ e es i, same e.key true → F (e :: es) i (some (i, e.val))
  miss : ∀ e es i r, same e.key false → F es (i + 1) r → F (e :: es) i r
/-- a key, abstract and concrete -/
structure KeyIs (P : Program) (w : World) (M : Nat → Prop) (σ : List Addr) (L : Nat → Prop) (kt : TypeId) (p : PV) (kv : Value) : Prop where
  check : ∀ em, (Instr.checkKey em 10000 kt kv).run P w = .ok () w
  stays : (Instr.keyThatStays kv kv).run P w = .ok kv w
  v : V w M σ L p kv
  find : ∃ same F, Finder same F ∧ (∀ a ka b, V w M σ L a ka → eqKey p a = some b → same ka b ∧ (b = true → ka = kv)) ∧ ∀ es r, F es 0 r → (Instr.findKey kt kv es).run P w = .ok r w

section
variable {w : World} {M : Nat → Prop} {σ : List Addr} {L : Nat → Prop} {p : PV} {kv : Value} {same : Value → Bool → Prop} {F : List MapEntry → Nat → Option (Nat × Value) → Prop} (hF : Finder same F)
  (hE : ∀ a ka b, V w M σ L a ka → eqKey p a = some b → same ka b ∧ (b = true → ka = kv))
include hF hE
theorem find_ok : ∀ {kvs : List PV} {es : List MapEntry} {r : Option PV} (i : Nat), MapRel w M σ L kvs es → findP p kvs = some r → match r with
      | none => F es i none
      | some x => ∃ (j : Nat) (e : MapEntry), F es i (some (i + j, e.val)) ∧ V w M σ L x e.val
  | [], [], r, i, _, h => by simp [findP] at h; subst h; exact hF.nil i
  | a :: x :: kvs, e :: es, r, i, hr, h => by
    obtain ⟨h1, h2, h3⟩ := hr
    unfold findP at h
    split at h
    · rename_i he
      simp only [Option.some.injEq] at h
      subst h
      exact ⟨0, e, hF.hit e es i (hE a e.key true h1 he).1, h2⟩
    · rename_i he
      have g1 := (hE a e.key false h1 he).1
      have ih := find_ok (i + 1) h3 h
      cases r with
      | none => exact hF.miss e es i none g1 ih
      | some y =>
        obtain ⟨j, e', q1, q2⟩ := ih
        exact ⟨j + 1, e', by rw [show i + (j + 1) = i + 1 + j by omega]; exact hF.miss e es i _ g1 q1, q2⟩
    · cases h
  | [], _ :: _, _, _, hr, _ => hr.elim
  | [_], [], _, _, hr, _ => hr.elim
  | [_], _ :: _, _, _, hr, _ => hr.elim
  | _ :: _ :: _, [], _, _, hr, _ => hr.elim
/-- setting a key -/
theorem put_ok (hp : V w M σ L p kv) {x : PV} {v : Value} (hv : V w M σ L x v) : ∀ {kvs : List PV} {es : List MapEntry} {l : List PV} (i : Nat),
    MapRel w M σ L kvs es → putKV p x kvs = some l →
      (F es i none ∧ ∀ b, MapRel w M σ L l (es ++ [{ key := kv, val := v, born := b }])) ∨
      ∃ (j : Nat) (e : MapEntry), F es i (some (i + j, e.val)) ∧ es[j]? = some e ∧ e.key = kv ∧ MapRel w M σ L l (es.set j { e with key := kv, val := v })
  | [], [], l, i, _, h => by
    simp only [putKV, Option.some.injEq] at h
    subst h
    exact .inl ⟨hF.nil i, fun b => ⟨hp, hv, trivial⟩⟩
  | a :: y :: kvs, e :: es, l, i, hr, h => by
    obtain ⟨h1, h2, h3⟩ := hr
    unfold putKV at h
    split at h
    · rename_i he
      simp only [Option.some.injEq] at h
      subst h
      obtain ⟨g1, g2⟩ := hE a e.key true h1 he
      exact .inr ⟨0, e, hF.hit e es i g1, rfl, g2 rfl, ⟨hp, hv, h3⟩⟩
    · rename_i he
      split at h
      · rename_i l' hl
        simp only [Option.some.injEq] at h
        subst h
        obtain ⟨g1, g2⟩ := hE a e.key false h1 he
        rcases put_ok hp hv (i + 1) h3 hl with ⟨q1, q2⟩ | ⟨j, e', q1, q2, q3, q4⟩
        · exact .inl ⟨hF.miss e es i none g1 q1, fun b => ⟨h1, h2, q2 b⟩⟩
        · exact .inr ⟨j + 1, e', by rw [show i + (j + 1) = i + 1 + j by omega]; exact hF.miss e es i _ g1 q1, by simpa using q2, q3, ⟨h1, h2, q4⟩⟩
      · cases h
    · cases h
  | [], _ :: _, _, _, hr, _ => hr.elim
  | [_], [], _, _, hr, _ => hr.elim
  | [_], _ :: _, _, _, hr, _ => hr.elim
  | _ :: _ :: _, [], _, _, hr, _ => hr.elim
/-- striking a key -/
theorem del_ok : ∀ {kvs : List PV} {es : List MapEntry} {l : List PV} (i : Nat),
    MapRel w M σ L kvs es → delKV p kvs = some l →
      (F es i none ∧ MapRel w M σ L l es) ∨
      ∃ (j : Nat) (e : MapEntry), F es i (some (i + j, e.val)) ∧ es[j]? = some e ∧ MapRel w M σ L l (es.eraseIdx j)
  | [], [], l, i, _, h => by
    simp only [delKV, Option.some.injEq] at h
    subst h
    exact .inl ⟨hF.nil i, trivial⟩
  | a :: y :: kvs, e :: es, l, i, hr, h => by
    obtain ⟨h1, h2, h3⟩ := hr
    unfold delKV at h
    split at h
    · rename_i he
      simp only [Option.some.injEq] at h
      subst h
      exact .inr ⟨0, e, hF.hit e es i (hE a e.key true h1 he).1, rfl, h3⟩
    · rename_i he
      split at h
      · rename_i l' hl
        simp only [Option.some.injEq] at h
        subst h
        obtain ⟨g1, g2⟩ := hE a e.key false h1 he
        rcases del_ok (i + 1) h3 hl with ⟨q1, q2⟩ | ⟨j, e', q1, q2, q3⟩
        · exact .inl ⟨hF.miss e es i none g1 q1, ⟨h1, h2, q2⟩⟩
        · exact .inr ⟨j + 1, e', by rw [show i + (j + 1) = i + 1 + j by omega]; exact hF.miss e es i _ g1 q1, by simpa using q2, ⟨h1, h2, q3⟩⟩
      · cases h
    · cases h
  | [], _ :: _, _, _, hr, _ => hr.elim
  | [_], [], _, _, hr, _ => hr.elim
  | [_], _ :: _, _, _, hr, _ => hr.elim
  | _ :: _ :: _, [], _, _, hr, _ => hr.elim
end
theorem half_ok {w : World} {M : Nat → Prop} {σ : List Addr} {L : Nat → Prop} : ∀ {kvs : List PV} {es : List MapEntry}, MapRel w M σ L kvs es → halfL kvs = es.length
  | [], [], _ => rfl
  | _ :: _ :: r, _ :: es, h => by simp [halfL, half_ok h.2.2]
  | [], _ :: _, hr => hr.elim
  | [_], [], hr => hr.elim
  | [_], _ :: _, hr => hr.elim
  | _ :: _ :: _, [], hr => hr.elim

/-- a new map -/
theorem sim_newmap {w : World} {H : Nat → Prop} {σ : List Addr} {hp : List Blk} (S : Sim w H σ hp) :
    Sim (w.alloc (.map #[] 0)) H (σ ++ [⟨w.heap.size, 0, none⟩]) (hp ++ [⟨.dead, [.any]⟩]) ∧
    Step w (ownd σ hp) σ (liveAt hp) (w.alloc (.map #[] 0)) (ownd (σ ++ [⟨w.heap.size, 0, none⟩]) (hp ++ [⟨.dead, [.any]⟩])) (σ ++ [⟨w.heap.size, 0, none⟩]) (liveAt (hp ++ [⟨.dead, [.any]⟩])) := by
  have hold : ∀ (k : Nat), k < w.heap.size → (w.alloc (.map #[] 0)).heap[k]? = w.heap[k]? := fun k hk => Go.RowKit.Below.heap_alloc _ _ _ hk
  have hnew : (w.alloc (.map #[] 0)).heap[w.heap.size]? = some (.map #[] 0) := by
    show (w.heap.push _)[w.heap.size]? = _
    simp
  have st : Step w (ownd σ hp) σ (liveAt hp) (w.alloc (.map #[] 0)) (ownd (σ ++ [⟨w.heap.size, 0, none⟩]) (hp ++ [⟨.dead, [.any]⟩])) (σ ++ [⟨w.heap.size, 0, none⟩]) (liveAt (hp ++ [⟨.dead, [.any]⟩])) := by
    refine ⟨rfl, rfl, rfl, by simp, fun i a ha => ?_, fun b hb _ => hold b hb, shape_of fun b c e' f hb => ?_, fun b hb hm => ?_, fun i hi hm => ?_⟩
    · rw [List.getElem?_append_left (get_lt ha)]; exact ha
    · have : b < w.heap.size := by
        rcases Nat.lt_or_ge b w.heap.size with h' | h'
        · exact h'
        · simp [Array.getElem?_eq_none h'] at hb
      exact ⟨c, by rw [hold b this]; exact hb, rfl⟩
    · obtain ⟨i, a, h1, h2, h3⟩ := hm
      rcases snoc_get h2 with ⟨hi, h2⟩ | ⟨hi, h2⟩
      · exact ⟨i, a, (ownAt_old (by rw [← S.len]; exact hi)).1 h1, h2, h3⟩
      · subst h2; simp at h3; omega
    · exact (liveAt_old (by rw [← S.len]; exact hi)).1 hm
  have hblk : ∀ {i : Nat} {s : BSt} {ds : List PV}, (hp ++ [⟨.dead, [.any]⟩])[i]? = some ⟨s, ds⟩ → s ≠ .dead → i < σ.length ∧ hp[i]? = some ⟨s, ds⟩ := by
    intro i s ds h hd
    rcases snoc_get h with ⟨hi, h⟩ | ⟨hi, h⟩
    · rw [← S.len] at hi; exact ⟨hi, h⟩
    · cases h; exact absurd rfl hd
  have hget : ∀ {i : Nat} {b : Addr}, (σ ++ [⟨w.heap.size, 0, none⟩])[i]? = some b → i < σ.length → σ[i]? = some b := by
    intro i b h hi
    rwa [List.getElem?_append_left hi] at h
  refine ⟨⟨by simp [S.len], fun i a ha => ?_, fun b hb => Nat.lt_of_lt_of_le (S.foreign b hb) (by simp), fun i s cs' a hi hd ha k c hk => ?_, fun i s cs' a hi hd ha => ?_, fun i a cs0 hi ha => ?_, fun i j a b s cs' hi hj hd hne ha hb => ?_, fun i cs' a hi ha => ?_, fun i j a b hi hj hne ha hb => ?_⟩, st⟩
  · rcases snoc_get ha with ⟨_, h⟩ | ⟨_, h⟩
    · exact Nat.lt_of_lt_of_le (S.spot i a h) (by simp)
    · subst h; simp
  · obtain ⟨h1, h2⟩ := hblk hi hd
    have ha := hget ha h1
    obtain ⟨v, g1, g2⟩ := S.cells i s cs' a h2 hd ha k c hk
    exact ⟨v, by rw [cell?_same (a := ⟨a.block, a.off + k, none⟩) (hold _ (S.spot i a ha))]; exact g1, g2.step st⟩
  · obtain ⟨h1, h2⟩ := hblk hi hd
    exact S.own i s cs' a h2 hd (hget ha h1)
  · obtain ⟨h1, h2⟩ := hblk hi (by simp)
    have ha := hget ha h1
    obtain ⟨c, e, g1, g2⟩ := S.live i a cs0 h2 ha
    exact ⟨c, e, by rw [hold _ (S.spot i a ha)]; exact g1, g2⟩
  · obtain ⟨ds, hi⟩ := hi
    obtain ⟨h1, h2⟩ := hblk hi (by simp)
    obtain ⟨h3, h4⟩ := hblk hj hd
    exact S.inj i j a b s cs' ⟨ds, h2⟩ h4 hd hne (hget ha h1) (hget hb h3)
  · rcases snoc_get hi with ⟨hlt, h⟩ | ⟨hlt, h⟩
    · rw [← S.len] at hlt
      have ha := hget ha hlt
      obtain ⟨h1, es, ck, h2, h3⟩ := S.maps i cs' a h ha
      exact ⟨h1, es, ck, by rw [hold _ (S.spot i a ha)]; exact h2, h3.step st⟩
    · cases h
      rcases snoc_get ha with ⟨h', _⟩ | ⟨_, ha⟩
      · rw [S.len] at h'; omega
      · subst ha
        exact ⟨fun hh => by have := S.foreign _ hh; simp at this, #[], 0, hnew, trivial⟩
  · rcases snoc_get ha with ⟨hlt, ha⟩ | ⟨hlt, ha⟩ <;> rcases snoc_get hb with ⟨hlt', hb⟩ | ⟨hlt', hb⟩
    · exact S.injm i j a b ((mapAt_old (by rw [← S.len]; exact hlt)).1 hi) ((mapAt_old (by rw [← S.len]; exact hlt')).1 hj) hne ha hb
    · subst hb; have := S.spot i a ha; simp; omega
    · subst ha; have := S.spot j b hb; simp; omega
    · omega

/-- a map's object is written -/
theorem sim_setmap {w : World} {H : Nat → Prop} {σ : List Addr} {hp : List Blk} (S : Sim w H σ hp) {id : Nat} {a : Addr} {cs l : List PV} {es' : Array MapEntry} {ck' : Nat}
    (hid : hp[id]? = some ⟨.dead, .any :: cs⟩) (ha : σ[id]? = some a) (hr : MapRel w (hot H σ hp) σ (liveAt hp) l es'.toList) :
    Sim { w with heap := w.heap.setIfInBounds a.block (.map es' ck') } H σ (hp.set id ⟨.dead, .any :: l⟩) ∧
    Step w (ownd σ hp) σ (liveAt hp) { w with heap := w.heap.setIfInBounds a.block (.map es' ck') } (ownd σ (hp.set id ⟨.dead, .any :: l⟩)) σ (liveAt (hp.set id ⟨.dead, .any :: l⟩)) := by
  obtain ⟨hH, es, ck, hb, hrel⟩ := S.maps id cs a hid ha
  obtain ⟨hset, hoth⟩ := Go.MapKept.heap_set (o' := .map es' ck') hb
  have hlt : id < hp.length := get_lt hid
  have hmid : mapAt hp id := ⟨cs, hid⟩
  have hlv : ∀ {i : Nat}, liveAt (hp.set id ⟨.dead, .any :: l⟩) i → liveAt hp i ∧ id ≠ i := by
    rintro i ⟨ds, hd⟩
    by_cases e : id = i
    · subst e; rw [List.getElem?_set_self hlt] at hd; cases hd
    · rw [List.getElem?_set_ne e] at hd; exact ⟨⟨ds, hd⟩, e⟩
  have hmp : ∀ {i : Nat}, mapAt (hp.set id ⟨.dead, .any :: l⟩) i → mapAt hp i := by
    rintro i ⟨ds, hd⟩
    by_cases e : id = i
    · subst e; exact hmid
    · rw [List.getElem?_set_ne e] at hd; exact ⟨ds, hd⟩
  have hhotid : ownd σ hp a.block := ⟨id, a, .inr hmid, ha, rfl⟩
  have st : Step w (ownd σ hp) σ (liveAt hp) { w with heap := w.heap.setIfInBounds a.block (.map es' ck') } (ownd σ (hp.set id ⟨.dead, .any :: l⟩)) σ (liveAt (hp.set id ⟨.dead, .any :: l⟩)) := by
    refine ⟨rfl, rfl, rfl, by simp, fun _ _ h => h, fun b _ hm => hoth b (fun e => hm (e ▸ hhotid)), shape_of fun b c e f hc => ?_, fun b _ hm => ?_, fun i _ hm => (hlv hm).1⟩
    · have hne : b ≠ a.block := fun e' => by rw [e', hb] at hc; cases hc
      exact ⟨c, by show (w.heap.setIfInBounds a.block _)[b]? = _; rw [hoth b hne]; exact hc, rfl⟩
    · obtain ⟨i, a', h1, h2, h3⟩ := hm
      exact ⟨i, a', h1.imp (fun h => (hlv h).1) hmp, h2, h3⟩
  have hblk : ∀ {i : Nat} {s : BSt} {ds : List PV}, (hp.set id ⟨.dead, .any :: l⟩)[i]? = some ⟨s, ds⟩ → s ≠ .dead → hp[i]? = some ⟨s, ds⟩ := by
    intro i s ds h hd
    by_cases e : id = i
    · subst e; rw [List.getElem?_set_self hlt] at h; cases h; exact absurd rfl hd
    · rwa [List.getElem?_set_ne e] at h
  refine ⟨⟨by simp [S.len], fun i a' h => by simpa using S.spot i a' h, fun b h => by simpa using S.foreign b h, fun i s ds a' hi hd ha' k d hk => ?_, fun i s ds a' hi hd ha' => S.own i s ds a' (hblk hi hd) hd ha', fun i a' cs0 hi ha' => ?_, fun i j a1 a2 s ds hi hj hd hne h1 h2 => S.inj i j a1 a2 s ds (hlv hi).1 (hblk hj hd) hd hne h1 h2, fun i ds a' hi ha' => ?_, fun i j a1 a2 hi hj hne h1 h2 => S.injm i j a1 a2 (hmp hi) (hmp hj) hne h1 h2⟩, st⟩
  · obtain ⟨v, h1, h2⟩ := S.cells i s ds a' (hblk hi hd) hd ha' k d hk
    have hne : a'.block ≠ a.block := fun e => by
      simp [World.cell?, e, hb] at h1
    exact ⟨v, by rw [cell?_same (w := w) (w' := { w with heap := w.heap.setIfInBounds a.block (.map es' ck') }) (a := ⟨a'.block, a'.off + k, none⟩) (hoth _ hne)]; exact h1, h2.step st⟩
  · obtain ⟨c, e, h1, h2⟩ := S.live i a' cs0 (hblk hi (by simp)) ha'
    have hne : a'.block ≠ a.block := fun e' => by rw [e', hb] at h1; cases h1
    exact ⟨c, e, by show (w.heap.setIfInBounds a.block _)[a'.block]? = _; rw [hoth _ hne]; exact h1, h2⟩
  · by_cases e : id = i
    · subst e
      rw [List.getElem?_set_self hlt] at hi
      cases hi
      rw [ha] at ha'; cases ha'
      exact ⟨hH, es', ck', hset, hr.step st⟩
    · rw [List.getElem?_set_ne e] at hi
      obtain ⟨h1, es2, ck2, h2, h3⟩ := S.maps i ds a' hi ha'
      have hne : a'.block ≠ a.block := S.injm i id a' a ⟨ds, hi⟩ hmid (Ne.symm e) ha' ha
      exact ⟨h1, es2, ck2, by show (w.heap.setIfInBounds a.block _)[a'.block]? = _; rw [hoth _ hne]; exact h2, h3.step st⟩

section
variable {P : Program} {T : Tab} (hT : TabOk P T) {w : World} {H : Nat → Prop} {hp : List Blk} {σ : List Addr}

theorem isKey_of {d : TypeDesc} {p : PV} {v : Value} {M : Nat → Prop} {L : Nat → Prop} (hk : isKeyP d p = true) (hv : V w M σ L p v) : p = .sc v ∧ Go.MapKept.IsKey d v := by
  unfold isKeyP at hk
  split at hk
  · cases hv; exact ⟨rfl, (of_decide_eq_true hk).symm⟩
  · cases hv; exact ⟨rfl, trivial⟩
  · cases hv; exact ⟨rfl, trivial⟩
  · cases hk
theorem V_ofVal (w : World) (M : Nat → Prop) (σ : List Addr) (L : Nat → Prop) (v : Value) : V w M σ L (ofVal v) v := by
  unfold ofVal
  split
  · refine .agg _ _ (by simp) fun k c v h1 h2 => ?_
    rw [List.getElem?_map, Array.getElem?_toList, h2] at h1
    simp at h1
    subst h1
    exact .sc v
  · exact .sc v
/-- the entries that a map's value leads to -/
theorem mapOf_ok (S : Sim w H σ hp) {p : PV} {v : Value} {kvs : List PV} {ids : List Nat} (h : mapOf hp p = some (kvs, ids)) (hv : V w (hot H σ hp) σ (liveAt hp) p v) :
    (v = .map none ∧ kvs = []) ∨ ∃ r es ck, v = .map (some r) ∧ w.heap[r]? = some (Obj.map es ck) ∧ MapRel w (hot H σ hp) σ (liveAt hp) kvs es.toList := by
  unfold mapOf at h
  split at h
  · simp only [Option.some.injEq, Prod.mk.injEq] at h
    cases hv
    exact .inl ⟨rfl, h.1.symm⟩
  · rename_i id
    split at h
    · rename_i kvs' hb
      simp only [Option.some.injEq, Prod.mk.injEq] at h
      obtain ⟨rfl, rfl⟩ := h
      rw [nthB_eq] at hb
      cases hv with
      | mp _ a ha =>
        obtain ⟨-, es, ck, h1, h2⟩ := S.maps id kvs' a hb ha
        exact .inr ⟨a.block, es, ck, rfl, h1, h2⟩
    · cases h
  · cases h
include hT in
theorem run_zeroV {t : TypeId} {x : PV} (h : zeroV T t = some x) (w : World) : ∃ z, (zeroValue t).run P w = .ok z w ∧ x = ofVal z := by
  unfold zeroV at h
  cases hi : T t with
  | none => simp [hi] at h
  | some i =>
    rw [hi] at h
    cases i with
    | mk desc str size bytes hp al fa zero cmp ms =>
      cases zero with
      | none => simp at h
      | some z =>
        simp at h
        exact ⟨z, by simp [zeroValue, run_info hT hi], h.symm⟩
/-- integers' cells, abstract and concrete -/
theorem ints_rel {w : World} {M : Nat → Prop} {σ : List Addr} {L : Nat → Prop} {q : IntKind} : ∀ {cs : List PV} {vs : List Value}, intsP q cs = true → cs.length = vs.length → (∀ (k : Nat) c v, cs[k]? = some c → vs[k]? = some v → V w M σ L c v) →
    cs = vs.map .sc ∧ ∀ v ∈ vs, ∃ n, v = .int q n
  | [], [], _, _, _ => ⟨rfl, by simp⟩
  | c :: cs, v :: vs, h, hl, hr => by
    unfold intsP at h
    split at h
    · rename_i e; cases e
    · rename_i k n l e
      cases e
      simp only [Bool.and_eq_true, decide_eq_true_eq] at h
      obtain ⟨rfl, h⟩ := h
      obtain ⟨h1, h2⟩ := ints_rel h (by simpa using hl) (fun k c v h1 h2 => hr (k + 1) c v (by simpa using h1) (by simpa using h2))
      have := (hr 0 _ v rfl rfl).sc_inv'
      subst this
      refine ⟨by rw [h1]; simp, fun u hu => ?_⟩
      rcases List.mem_cons.1 hu with rfl | hu
      · exact ⟨_, rfl⟩
      · exact h2 u hu
    · cases h
  | [], _ :: _, _, h, _ => by simp at h
  | _ :: _, [], _, h, _ => by simp at h
theorem eqItems_ok {P : Program} {w : World} {M : Nat → Prop} {σ : List Addr} {L : Nat → Prop} {e : TypeId} {q : IntKind} (hu : P.underlying e = some (.int q)) {vs ks : Array Value} : ∀ {cs ds : List PV} {b : Bool} (off : Nat), eqInts cs ds = some b →
    intsP q cs = true → (∀ (k : Nat) c, cs[k]? = some c → ∃ v, vs[off + k]? = some v ∧ c = .sc v) → (∀ (k : Nat) c, ds[k]? = some c → ∃ v, ks[off + k]? = some v ∧ V w M σ L c v) →
    (Op.eqItems (9998 + 1) e 1 vs ks (List.range' off cs.length)).run P w = .ok b w ∧ (b = true → cs = ds)
  | [], [], b, off, h, _, _, _ => by simp [eqInts] at h; subst h; simp [Op.eqItems]
  | c :: cs, d :: ds, b, off, h, hi, h1, h2 => by
    have hpk : P.plainKey e = true := by simp [Program.plainKey, hu]
    obtain ⟨v, g1, rfl⟩ := h1 0 c rfl
    obtain ⟨v', g2, hv'⟩ := h2 0 d rfl
    unfold intsP at hi
    split at hi
    · rename_i e; cases e
    · rename_i k n l e'
      cases e'
      simp only [Bool.and_eq_true, decide_eq_true_eq] at hi
      obtain ⟨rfl, hi⟩ := hi
      unfold eqInts at h
      split at h
      · rename_i e'; cases e'
      · rename_i i m a j n' bb e1 e2
        cases e1; cases e2
        have hv2 := hv'.sc_inv'
        subst hv2
        split at h
        · rename_i hij
          subst hij
          have p1 := run_part_plain w hpk g1
          have p2 := run_part_plain w hpk g2
          have p3 := fun (k : IntKind) (a b : Int) => run_equalIn_int w 9998 e k _ a b hu
          simp only [Nat.add_zero] at p1 p2
          simp only [List.length_cons, List.range'_succ, Op.eqItems, Sem.run_bind, Nat.mul_one, p1, p2, p3, Result.andThen_ok]
          split at h
          · rename_i hmn
            obtain ⟨q1, q2⟩ := eqItems_ok hu (off + 1) h hi (fun k c hk => by
              obtain ⟨u, r1, r2⟩ := h1 (k + 1) c (by simpa using hk)
              exact ⟨u, by rw [show off + 1 + k = off + (k + 1) by omega]; exact r1, r2⟩) (fun k c hk => by
              obtain ⟨u, r1, r2⟩ := h2 (k + 1) c (by simpa using hk)
              exact ⟨u, by rw [show off + 1 + k = off + (k + 1) by omega]; exact r1, r2⟩)
            rw [hmn]
            refine ⟨by simpa using q1, fun hb => ?_⟩
            rw [q2 hb, beq_iff_eq.1 hmn]
          · rename_i hmn
            simp only [Option.some.injEq] at h
            subst h
            rw [hmn]
            exact ⟨by simp, by simp⟩
        · cases h
      · cases h
    · cases hi
  | [], _ :: _, _, _, h, _, _, _ => by simp [eqInts] at h
  | _ :: _, [], _, _, h, _, _, _ => by simp [eqInts] at h
theorem checkItems_ok {P : Program} {w : World} {e : TypeId} {q : IntKind} (hu : P.underlying e = some (.int q)) {i0 : TypeInfo} (hi0 : P.info? e = some i0) (hs : P.cellsOf e = 1) {vs : Array Value} (em : Bool) (hv : ∀ v ∈ vs.toList, ∃ n, v = .int q n) : ∀ (is : List Nat), (∀ i ∈ is, i < vs.size) →
    ((forIn is PUnit.unit fun i _ => do
      let x ← sizeOf e
      let y ← part e vs (i * x)
      Instr.checkKey em (9998 + 1) e y
      pure (ForInStep.yield PUnit.unit) : Sem PUnit)).run P w = .ok PUnit.unit w
  | [], _ => by simp
  | i :: is, h => by
    have hpk : P.plainKey e = true := by simp [Program.plainKey, hu]
    have hlt := h i (by simp)
    obtain ⟨n, hn⟩ := hv vs[i] (by simp)
    have p1 := run_part_plain (P := P) (xs := vs) (off := i) (v := vs[i]) w hpk (Array.getElem?_eq_getElem hlt)
    have p2 : (Instr.checkKey em (9998 + 1) e vs[i]).run P w = .ok () w := by
      rw [hn, Instr.checkKey]
      simp only [Sem.run_bind, run_underlying hu, Result.andThen_ok]
      rfl
    have ih := checkItems_ok (w := w) hu hi0 hs em hv is (fun j hj => h j (by simp [hj]))
    simp only [List.forIn_cons, Sem.run_bind, run_sizeOf w hi0, hs, Result.andThen_ok, Nat.mul_one, p1, p2, Sem.run_pure]
    simpa only [Sem.run_bind] using ih

include hT in
theorem keyIs_of {M : Nat → Prop} {L : Nat → Prop} {kt : TypeId} {p : PV} {kv : Value} (h : keyOk T kt p = true) (hv : V w M σ L p kv) : KeyIs P w M σ L kt p kv := by
  unfold keyOk at h
  split at h
  · rename_i n e hd
    unfold arrKey at h
    split at h
    · rename_i q s cs hue hse
      simp only [Bool.and_eq_true, beq_iff_eq] at h
      obtain ⟨⟨rfl, hlen⟩, hints⟩ := h
      have hkd := und_ok hT hd
      have hed := und_ok hT hue
      obtain ⟨i0, hi0, hs1⟩ : ∃ i0, P.info? e = some i0 ∧ P.cellsOf e = 1 := by
        unfold sizeT at hse
        cases hTe : T e with
        | none => simp [hTe] at hse
        | some i0 =>
          simp [hTe] at hse
          have := hT e i0 hTe
          exact ⟨i0, this, by simp [Program.cellsOf, this, hse]⟩
      cases hv with
      | agg _ vs hl hr =>
        obtain ⟨e1, e2⟩ := ints_rel (vs := vs.toList) hints (by simpa using hl) (fun k c v h1 h2 => hr k c v h1 (by simpa using h2))
        have hsz : vs.size = n := by rw [← hl]; exact hlen
        refine ⟨fun em => ?_, ?_, .agg _ vs hl hr, fun ka b => (Op.equal kt (.agg vs) ka).run P w = .ok b w, fun es i r => (Instr.findAsking kt (.agg vs) es i).run P w = .ok r w, ⟨fun i => by simp [Instr.findAsking], fun e es i h => by simp [Instr.findAsking, h], fun e es i r h g => by simp [Instr.findAsking, h, g]⟩, fun a ka b ha hab => ?_, fun es r hF => ?_⟩
        · have := checkItems_ok (w := w) hed hi0 hs1 em e2 (List.range' 0 n) (fun i hi => by rw [hsz]; have := (List.mem_range'.1 hi); omega)
          rw [show (10000 : Nat) = 9998 + 1 + 1 from rfl, Instr.checkKey]
          simp only [Sem.run_bind, run_underlying hkd, Result.andThen_ok]
          simp only [Std.Legacy.Range.forIn_eq_forIn_range', Std.Legacy.Range.size, Nat.sub_zero, Nat.add_one_sub_one, Nat.div_one]
          rw [this]
          rfl
        · have : Instr.sameBits 10000 (.agg vs) (.agg vs) = true := by
            rw [show (10000 : Nat) = 9999 + 1 from rfl, Instr.sameBits]
            simp only [beq_self_eq_true, Bool.true_and, List.all_eq_true]
            rintro ⟨x, y⟩ hxy
            have hx := List.of_mem_zip hxy
            have : x = y := by
              obtain ⟨k, hk, hkk⟩ := List.mem_iff_getElem.1 hxy
              simp at hkk
              rw [← hkk.1, ← hkk.2]
            subst this
            obtain ⟨m, rfl⟩ := e2 x hx.1
            simp [Instr.sameBits]
          simp [Instr.keyThatStays, this]
        · unfold eqKey at hab
          split at hab
          · rename_i e'; cases e'
          · rename_i e'; cases e'
          · rename_i e'; cases e'
          · rename_i a' ds e'
            cases e'
            cases ha with
            | agg _ ks hl2 hr2 =>
              obtain ⟨q1, q2⟩ := eqItems_ok (P := P) (ks := ks) hed 0 hab hints (fun k c hk => by
                rw [e1, List.getElem?_map] at hk
                cases hvk : vs.toList[k]? with
                | none => simp [hvk] at hk
                | some u => simp [hvk] at hk; exact ⟨u, by simpa using hvk, hk.symm⟩) (fun k c hk => by
                have hlt : k < ks.size := by rw [← hl2]; exact get_lt hk
                exact ⟨ks[k], by simp [hlt], hr2 k c _ hk (Array.getElem?_eq_getElem hlt)⟩)
              refine ⟨?_, fun hb => ?_⟩
              · show (Op.equalIn (9999 + 1) kt (.agg vs) (.agg ks)).run P w = .ok b w
                rw [run_equalIn_array w 9999 vs ks hkd hi0, hs1, List.range_eq_range', ← hlen]
                exact q1
              · have e3 := q2 hb
                subst e3
                congr 1
                apply Array.ext
                · rw [← hl2, hl]
                · intro k h1 h2
                  have hk : cs[k]? = some (.sc vs[k]) := by rw [e1]; simp [h2]
                  exact (hr2 k _ _ hk (Array.getElem?_eq_getElem h1)).sc_inv'
          · cases hab
        · rw [run_findKey_eq w (by rw [hkd])]
          exact hF
    · cases h
  · rename_i d hna hd
    obtain ⟨rfl, hik⟩ := isKey_of h hv
    have hkd := und_ok hT hd
    exact ⟨fun em => Go.MapKept.run_checkKey hkd hik em _, Go.MapKept.run_keyThatStays hik, hv, fun ka b => Instr.sameNow d kv ka = some b, fun es i r => Instr.findNow d kv es i = some r, ⟨fun i => rfl, fun e es i h => by simp [Instr.findNow, h], fun e es i r h g => by simp [Instr.findNow, h, g]⟩, fun a ka b ha hab => by
      obtain ⟨ka', rfl⟩ : ∃ ka', a = .sc ka' := by
        unfold eqKey at hab
        split at hab <;> first | exact ⟨_, rfl⟩ | (rename_i e1; cases e1; done) | (rename_i e1 _; cases e1; done) | (rename_i e1 _ _; cases e1; done) | (rename_i e1 _ _ _; cases e1; done) | cases hab
      rw [ha.sc_inv']
      exact eqKey_same h rfl rfl hab, fun es r hF => Go.MapKept.run_findKey hkd hF⟩
  · cases h
include hT in
theorem lookP_ok (S : Sim w H σ hp) {t : TypeId} {m k r : PV} {ok : Bool} {vm vk : Value} {ids : List Nat} (h : lookP T hp t m k ok = some (r, ids)) (hm : V w (hot H σ hp) σ (liveAt hp) m vm) (hk : V w (hot H σ hp) σ (liveAt hp) k vk) :
    ∃ v, (Instr.lookup t vm vk ok).run P w = .ok v w ∧ V w (hot H σ hp) σ (liveAt hp) r v := by
  unfold lookP at h
  split at h
  · rename_i kt e kvs ids' hu hmo
    split at h
    · rename_i hko
      obtain ⟨hck, -, -, same, F, hF, hE, hfk⟩ := keyIs_of (P := P) hT hko hk
      have hmap := und_ok hT hu
      have main : ∀ es : List MapEntry, MapRel w (hot H σ hp) σ (liveAt hp) kvs es → ∀ em, ∃ v, ((do
          Instr.checkKey em 10000 kt vk
          let (v, b) ← match ← Instr.findKey kt vk es with
            | some (_, v) => pure (v, true)
            | none => pure (← zeroValue e, false)
          pure (if ok then Value.tuple #[v, .bool b] else v) : Sem Value)).run P w = .ok v w ∧ V w (hot H σ hp) σ (liveAt hp) r v := by
        intro es hes em
        split at h
        · rename_i x hf
          simp only [Option.some.injEq, Prod.mk.injEq] at h
          obtain ⟨rfl, rfl⟩ := h
          obtain ⟨j, en, g1, g2⟩ := find_ok hF hE 0 hes hf
          refine ⟨if ok = true then Value.tuple #[en.val, Value.bool true] else en.val, by simp [hck, hfk _ _ g1, Result.andThen], ?_⟩
          cases ok with
          | false => exact g2
          | true =>
            refine .tup _ _ rfl fun i c v h1 h2 => ?_
            match i with
            | 0 => simp at h1 h2; subst h1; subst h2; exact g2
            | 1 => simp at h1 h2; subst h1; subst h2; exact .sc _
            | n + 2 => simp at h1
        · rename_i z hf hz
          simp only [Option.some.injEq, Prod.mk.injEq] at h
          obtain ⟨rfl, rfl⟩ := h
          have g1 := find_ok hF hE 0 hes hf
          obtain ⟨zv, hz1, rfl⟩ := run_zeroV (P := P) hT hz w
          refine ⟨if ok = true then Value.tuple #[zv, Value.bool false] else zv, by simp [hck, hfk _ _ g1, hz1, Result.andThen], ?_⟩
          cases ok with
          | false => exact V_ofVal _ _ _ _ _
          | true =>
            refine .tup _ _ rfl fun i c v h1 h2 => ?_
            match i with
            | 0 => simp at h1 h2; subst h1; subst h2; exact V_ofVal _ _ _ _ _
            | 1 => simp at h1 h2; subst h1; subst h2; exact .sc _
            | n + 2 => simp at h1
        · cases h
      rcases mapOf_ok S hmo hm with ⟨rfl, rfl⟩ | ⟨rr, es, ck, rfl, hb, hrel⟩
      · obtain ⟨v, h1, h2⟩ := main [] trivial true
        refine ⟨v, ?_, h2⟩
        rw [← h1]
        simp [Instr.lookup, run_underlying hmap]
        rfl
      · obtain ⟨v, h1, h2⟩ := main es.toList hrel es.isEmpty
        refine ⟨v, ?_, h2⟩
        rw [← h1]
        simp [Instr.lookup, run_underlying hmap, Go.MapKept.run_getObj_map hb]
        rfl
    · cases h
  · cases h
include hT in
theorem lenM_ok (S : Sim w H σ hp) {t : TypeId} {m r : PV} {vm : Value} {ids : List Nat} (h : lenM T hp t m = some (r, ids)) (hm : V w (hot H σ hp) σ (liveAt hp) m vm) (ty : TypeId) :
    ∃ v, (Builtin.len_ #[t] ty #[vm]).run P w = .ok v w ∧ V w (hot H σ hp) σ (liveAt hp) r v := by
  unfold lenM at h
  split at h
  · rename_i kt e kvs ids' hu hmo
    simp only [Option.some.injEq, Prod.mk.injEq] at h
    obtain ⟨rfl, rfl⟩ := h
    have hmap := und_ok hT hu
    rcases mapOf_ok S hmo hm with ⟨rfl, rfl⟩ | ⟨rr, es, ck, rfl, hb, hrel⟩
    · exact ⟨_, by simp [Builtin.len_, run_underlying hmap, goInt]; rfl, .sc _⟩
    · refine ⟨.int .i64 (es.size : Nat), by simp [Builtin.len_, run_underlying hmap, goInt, Go.MapKept.run_getObj_map hb], ?_⟩
      rw [half_ok hrel, Array.length_toList]
      exact .sc _
  · cases h
include hT in
theorem updP_ok (S : Sim w H σ hp) {t : TypeId} {m k x : PV} {vm vk vx : Value} {hp' : List Blk} {id : Nat} (h : updP T hp t m k x = some (hp', id)) (hm : V w (hot H σ hp) σ (liveAt hp) m vm) (hk : V w (hot H σ hp) σ (liveAt hp) k vk) (hx : V w (hot H σ hp) σ (liveAt hp) x vx) :
    ∃ w', (Instr.mapUpdate t vm vk vx).run P w = .ok () w' ∧ Sim w' H σ hp' ∧ Step w (ownd σ hp) σ (liveAt hp) w' (ownd σ hp') σ (liveAt hp') := by
  unfold updP at h
  split at h
  · rename_i kt e i hu
    split at h
    · rename_i hko
      obtain ⟨hck, hst, hvk, same, F, hF, hE, hfk⟩ := keyIs_of (P := P) hT hko hk
      have hmap := und_ok hT hu
      split at h
      · rename_i kvs hb
        split at h
        · rename_i l hl
          simp only [Option.some.injEq, Prod.mk.injEq] at h
          obtain ⟨rfl, rfl⟩ := h
          rw [nthB_eq] at hb
          rw [setB_eq]
          cases hm with
          | mp _ a ha =>
            obtain ⟨-, es, ck, g1, g2⟩ := S.maps i kvs a hb ha
            rcases put_ok hF hE hvk hx 0 g2 hl with ⟨q1, q2⟩ | ⟨j, en, q1, q2, q3, q4⟩
            · obtain ⟨s1, s2⟩ := sim_setmap (es' := es.push { key := vk, val := vx, born := ck }) (ck' := ck + 1) S hb ha (by simpa using q2 ck)
              refine ⟨_, ?_, s1, s2⟩
              simp [Instr.mapUpdate, run_underlying hmap, Go.MapKept.run_getObj_map g1, hck, hfk _ _ q1, Go.MapKept.run_setObj_map _ g1, Result.andThen]
            · have hj : es[j]? = some en := by simpa using q2
              obtain ⟨hlt, hget⟩ := Array.getElem?_eq_some_iff.1 hj
              have hmod : (es.modify j fun e => { e with key := vk, val := vx }).toList = es.toList.set j { en with key := vk, val := vx } := by
                apply List.ext_getElem?
                intro n
                rw [Array.getElem?_toList, Array.getElem?_modify, List.getElem?_set]
                by_cases e : j = n
                · subst e
                  have hlt := (Array.getElem?_eq_some_iff.1 hj).1
                  simp [hj, hlt, hget]
                · simp [e]
              obtain ⟨s1, s2⟩ := sim_setmap (es' := es.modify j fun e => { e with key := vk, val := vx }) (ck' := ck) S hb ha (by rw [hmod]; exact q4)
              refine ⟨_, ?_, s1, s2⟩
              rw [Nat.zero_add] at q1
              simp [Instr.mapUpdate, run_underlying hmap, Go.MapKept.run_getObj_map g1, hck, hfk _ _ q1, hj, hget, q3, hst, Go.MapKept.run_setObj_map _ g1, Result.andThen]
        · cases h
      · cases h
    · cases h
  · cases h
include hT in
theorem delP_ok (S : Sim w H σ hp) {t tk ty : TypeId} {m k : PV} {vm vk : Value} {hp' : List Blk} {id : Nat} (h : delP T hp t m k = some (hp', id)) (hm : V w (hot H σ hp) σ (liveAt hp) m vm) (hk : V w (hot H σ hp) σ (liveAt hp) k vk) :
    ∃ w', (Builtin.delete_ #[t, tk] ty #[vm, vk]).run P w = .ok (.tuple #[]) w' ∧ Sim w' H σ hp' ∧ Step w (ownd σ hp) σ (liveAt hp) w' (ownd σ hp') σ (liveAt hp') := by
  unfold delP at h
  split at h
  · rename_i kt e i hu
    split at h
    · rename_i hko
      obtain ⟨hck, hst, hvk, same, F, hF, hE, hfk⟩ := keyIs_of (P := P) hT hko hk
      have hmap := und_ok hT hu
      split at h
      · rename_i kvs hb
        split at h
        · rename_i l hl
          simp only [Option.some.injEq, Prod.mk.injEq] at h
          obtain ⟨rfl, rfl⟩ := h
          rw [nthB_eq] at hb
          rw [setB_eq]
          cases hm with
          | mp _ a ha =>
            obtain ⟨-, es, ck, g1, g2⟩ := S.maps i kvs a hb ha
            rcases del_ok hF hE 0 g2 hl with ⟨q1, q2⟩ | ⟨j, en, q1, q2, q3⟩
            · obtain ⟨s1, s2⟩ := sim_setmap (es' := es) (ck' := ck) S hb ha q2
              refine ⟨_, ?_, s1, s2⟩
              simp [Builtin.delete_, run_underlying hmap, Go.MapKept.run_getObj_map g1, hck, hfk _ _ q1, Go.MapKept.run_setObj_map _ g1, Result.andThen]
            · have hj : es[j]? = some en := by simpa using q2
              obtain ⟨hlt, hget⟩ := Array.getElem?_eq_some_iff.1 hj
              have hmod : (es.eraseIdxIfInBounds j).toList = es.toList.eraseIdx j := by
                unfold Array.eraseIdxIfInBounds
                rw [dif_pos hlt, Array.toList_eraseIdx]
              obtain ⟨s1, s2⟩ := sim_setmap (es' := es.eraseIdxIfInBounds j) (ck' := ck) S hb ha (by rw [hmod]; exact q3)
              refine ⟨_, ?_, s1, s2⟩
              rw [Nat.zero_add] at q1
              simp [Builtin.delete_, run_underlying hmap, Go.MapKept.run_getObj_map g1, hck, hfk _ _ q1, Go.MapKept.run_setObj_map _ g1, Result.andThen]
        · cases h
      · cases h
    · cases h
  · cases h
end
end Go.Ab
namespace Go.Ab
open Go

/-- a frame, abstract and concrete -/
structure FrOk (w : World) (M : Nat → Prop) (σ : List Addr) (L : Nat → Prop) (fr : List PV) (tmps : Array Value) : Prop where
  len : fr.length = tmps.size
  get : ∀ (t : Nat) p v, fr[t]? = some p → tmps[t]? = some v → V w M σ L p v

section
variable {P : Program} {T : Tab} (hT : TabOk P T) {w : World} {H : Nat → Prop} {hp : List Blk} {σ : List Addr}

theorem FrOk.step {w w' : World} {H : Nat → Prop} {σ σ' : List Addr} {hp hp' : List Blk} (h : Step w (ownd σ hp) σ (liveAt hp) w' (ownd σ' hp') σ' (liveAt hp')) {fr : List PV} {tmps : Array Value} (hf : FrOk w (hot H σ hp) σ (liveAt hp) fr tmps) : FrOk w' (hot H σ' hp') σ' (liveAt hp') fr tmps :=
  ⟨hf.len, fun t p v h1 h2 => (hf.get t p v h1 h2).step h⟩

theorem FrOk.nth {M : Nat → Prop} {L : Nat → Prop} {fr : List PV} {tmps : Array Value} (hf : FrOk w M σ L fr tmps) (t : Nat) : V w M σ L (nth fr t) (tmps.getD t undef) := by
  rw [nth_eq]
  rcases Nat.lt_or_ge t fr.length with h | h
  · have h2 : t < tmps.size := by rw [← hf.len]; exact h
    rw [List.getElem?_eq_getElem h]
    have := hf.get t fr[t] tmps[t] (List.getElem?_eq_getElem h) (Array.getElem?_eq_getElem h2)
    simpa [h2] using this
  · rw [List.getElem?_eq_none h]; exact .any _

theorem FrOk.eval {M : Nat → Prop} {L : Nat → Prop} {fr : List PV} {a : Act} (hf : FrOk w M σ L fr a.tmps) (x : Operand) : V w M σ L (evalP fr x) (a.eval x) := by
  cases x with
  | tmp t => exact hf.nth t
  | const v => exact ofVal_ok v
  | global g => exact .any _
  | func f => exact .sc _

theorem FrOk.put {M : Nat → Prop} {L : Nat → Prop} {fr : List PV} {a : Act} (hf : FrOk w M σ L fr a.tmps) (dst : Option Tmp) {p : PV} {v : Value} (hv : V w M σ L p v) : FrOk w M σ L (putP fr dst p) (a.put dst v).tmps := by
  cases dst with
  | none => exact hf
  | some d =>
    refine ⟨by simp [putP, setN_eq, Act.put, hf.len], fun t q u h1 h2 => ?_⟩
    simp only [putP, setN_eq] at h1
    simp only [Act.put] at h2
    by_cases e : d = t
    · subst e
      have hlt : d < fr.length := by have := get_lt h1; simpa using this
      rw [List.getElem?_set_self hlt] at h1
      have hlt2 : d < a.tmps.size := by rw [← hf.len]; exact hlt
      simp [hlt2] at h2
      cases h1; subst h2; exact hv
    · rw [List.getElem?_set_ne e] at h1
      rw [Array.getElem?_setIfInBounds_ne e] at h2
      exact hf.get t q u h1 h2

theorem parts_of {M : Nat → Prop} {L : Nat → Prop} {fr : List PV} {a : Act} (hf : FrOk w M σ L fr a.tmps) : ∀ l : List (Nat × Operand), Parts w M σ L (l.map fun (i, x) => (i, evalP fr x)) (l.map fun (i, x) => (i, a.eval x))
  | [] => trivial
  | (i, x) :: l => ⟨rfl, hf.eval x, parts_of hf l⟩

theorem ov_of {M : Nat → Prop} {L : Nat → Prop} {fr : List PV} {a : Act} (hf : FrOk w M σ L fr a.tmps) (o : Option Operand) : OV w M σ L (o.map (evalP fr)) (o.map a.eval) := by
  cases o with
  | none => trivial
  | some x => exact hf.eval x

theorem V.clos_inv {M : Nat → Prop} {L : Nat → Prop} {f : FuncId} {cs : List PV} {v : Value} (h : V w M σ L (.clos f cs) v) : ∃ vs : Array Value, v = .func (.func f) #[] vs ∧ Rel w M σ L cs vs := by
  cases h with | clos _ _ vs h1 h2 => exact ⟨vs, rfl, h1, h2⟩
theorem V.bmet_inv {M : Nat → Prop} {L : Nat → Prop} {f : FuncId} {cs : List PV} {v : Value} (h : V w M σ L (.bmet f cs) v) : ∃ vs : Array Value, v = .func (.func f) vs #[] ∧ Rel w M σ L cs vs := by
  cases h with | bmet _ _ vs h1 h2 => exact ⟨vs, rfl, h1, h2⟩
theorem V.tup_inv {M : Nat → Prop} {L : Nat → Prop} {cs : List PV} {v : Value} (h : V w M σ L (.tup cs) v) : ∃ vs : Array Value, v = .tuple vs ∧ Rel w M σ L cs vs := by
  cases h with | tup _ vs h1 h2 => exact ⟨vs, rfl, h1, h2⟩
theorem V.own_inv {M : Nat → Prop} {L : Nat → Prop} {id s off len : Nat} {x : Bool} {v : Value} (h : V w M σ L (.own id s off len x) v) : ∃ b l c, v = .slice b l c := by
  cases h; exact ⟨_, _, _, rfl⟩

theorem map1 {α β : Type} {f : α → β} {l : Array α} {x : β} (h : l.toList.map f = [x]) : ∃ y, l = #[y] ∧ f y = x := by
  obtain ⟨l⟩ := l
  match l, h with
  | [y], h => simp at h; exact ⟨y, rfl, h⟩
theorem map2 {α β : Type} {f : α → β} {l : Array α} {x y : β} (h : l.toList.map f = [x, y]) : ∃ u v, l = #[u, v] ∧ f u = x ∧ f v = y := by
  obtain ⟨l⟩ := l
  match l, h with
  | [u, v], h => simp at h; exact ⟨u, v, rfl, h.1, h.2⟩
theorem arr1 {α : Type} {l : Array α} {x : α} (h : l.toList = [x]) : l = #[x] := by
  obtain ⟨l⟩ := l; simp at h; rw [h]
theorem arr2 {α : Type} {l : Array α} {x y : α} (h : l.toList = [x, y]) : l = #[x, y] := by
  obtain ⟨l⟩ := l; simp at h; rw [h]

theorem Done.of {s : Sem Value} {r : PV} {hp' : List Blk} {v : Value} {w' : World} {σ' : List Addr} (h : s.run P w = .ok v w') (hv : V w' (hot H σ' hp') σ' (liveAt hp') r v) (S : Sim w' H σ' hp')
    (st : Step w (ownd σ hp) σ (liveAt hp) w' (ownd σ' hp') σ' (liveAt hp')) : Done P (do pure (.value (← s))) w H σ hp r hp' :=
  ⟨.value v, v, w', σ', by simp [h], .inl rfl, hv, S, st⟩
theorem Done.of0 {s : Sem Value} {r : PV} {v : Value} (S : Sim w H σ hp) (h : s.run P w = .ok v w) (hv : V w (hot H σ hp) σ (liveAt hp) r v) : Done P (do pure (.value (← s))) w H σ hp r hp :=
  Done.of h hv S (Step.refl _ _ _ _)

include hT in
theorem stepP_ok (S : Sim w H σ hp) {fr : List PV} {a : Act} (hf : FrOk w (hot H σ hp) σ (liveAt hp) fr a.tmps) {o : Oper} {r : PV} {hp' : List Blk} {fp : FP} (h : stepP P T fr hp o.op = some (r, hp', fp)) :
    Done P (execOp a.eval o) w H σ hp r hp' := by
  obtain ⟨dst, op, type, pos, after, guard⟩ := o
  cases op with
  | move x =>
    simp only [stepP, Option.some.injEq, Prod.mk.injEq] at h
    obtain ⟨rfl, rfl, rfl⟩ := h
    exact Done.same S rfl (hf.eval x)
  | assign x =>
    simp only [stepP, Option.some.injEq, Prod.mk.injEq] at h
    obtain ⟨rfl, rfl, rfl⟩ := h
    exact Done.same S rfl (hf.eval x)
  | pick c x y =>
    simp only [stepP] at h
    have hc := hf.eval c
    split at h
    · rename_i e
      rw [e] at hc
      simp only [Option.some.injEq, Prod.mk.injEq] at h
      obtain ⟨rfl, rfl, rfl⟩ := h
      exact Done.same S (by simp [execOp, hc.sc_inv, asBool]) (hf.eval x)
    · rename_i e
      rw [e] at hc
      simp only [Option.some.injEq, Prod.mk.injEq] at h
      obtain ⟨rfl, rfl, rfl⟩ := h
      exact Done.same S (by simp [execOp, hc.sc_inv, asBool]) (hf.eval y)
    · cases h
  | alloc e =>
    simp only [stepP] at h
    split at h
    · rename_i zs hz
      simp only [Option.some.injEq, Prod.mk.injEq] at h
      obtain ⟨rfl, rfl, rfl⟩ := h
      obtain ⟨v, w', σ', h1, h2, h3, h4⟩ := alloc_ok hT S hz
      exact Done.of h1 h2 h3 h4
    · cases h
  | box e x =>
    simp only [stepP] at h
    split at h
    · rename_i cs hc
      simp only [Option.some.injEq, Prod.mk.injEq] at h
      obtain ⟨rfl, rfl, rfl⟩ := h
      obtain ⟨v, w', σ', h1, h2, h3, h4⟩ := box_ok (P := P) (e := e) S hc (hf.eval x)
      exact Done.of h1 h2 h3 h4
    · cases h
  | build t parts =>
    simp only [stepP] at h
    split at h
    · rename_i x hb
      simp only [Option.some.injEq, Prod.mk.injEq] at h
      obtain ⟨rfl, rfl, rfl⟩ := h
      obtain ⟨v, h1, h2⟩ := build_ok (vparts := parts.map fun (i, x) => (i, a.eval x)) hT hb (by simpa using parts_of hf parts.toList)
      exact Done.of0 S h1 h2
    · cases h
  | buildSlice t len parts =>
    simp only [stepP] at h
    split at h
    · rename_i s cs hb
      obtain ⟨e, arr, hu, hs, h1, h2, h3⟩ := lit_ok (w := w) (M := hot H σ hp) (σ := σ) (L := liveAt hp) (vparts := parts.map fun (i, x) => (i, a.eval x)) hT hb (by simpa using parts_of hf parts.toList)
      split at h
      · rename_i hid
        simp only [Option.some.injEq, Prod.mk.injEq] at h
        obtain ⟨rfl, rfl, rfl⟩ := h
        obtain ⟨g1, g2⟩ := sim_fresh S (.cells arr e)
        exact Done.of h1 (imm_fresh S (Nat.le_of_eq h2.1) h2.2 hid len len true (Nat.le_refl _) (fun _ => rfl)) g1 g2
      · simp only [Option.some.injEq, Prod.mk.injEq] at h
        obtain ⟨rfl, rfl, rfl⟩ := h
        obtain ⟨g1, g2, g3⟩ := new_own (e := e) S (Nat.le_of_eq h2.1) h2.2 s len len true (Nat.le_refl _) (fun _ => rfl) (by rw [← h2.1, h3]; exact Nat.le_refl _)
        exact Done.of h1 g3 g1 g2
    · cases h
  | load t x =>
    simp only [stepP] at h
    split at h
    · rename_i cs ids hc
      split at h
      · rename_i y hx
        simp only [Option.some.injEq, Prod.mk.injEq] at h
        obtain ⟨rfl, rfl, rfl⟩ := h
        obtain ⟨u, h1, h2⟩ := load_ok (P := P) hT S hc hx (hf.eval x)
        exact Done.of0 S h1 h2
      · cases h
    · cases h
  | store t x y =>
    simp only [stepP] at h
    have hx := hf.eval x
    split at h
    · rename_i id off cs n e1 e2 e3
      split at h
      · rename_i hc
        split at h
        · rename_i old hid
          split at h
          · rename_i l hl
            simp only [Option.some.injEq, Prod.mk.injEq] at h
            obtain ⟨rfl, rfl, rfl⟩ := h
            rw [e1] at hx
            rw [nthB_eq] at hid
            obtain ⟨w', h1, h2, h3⟩ := store_ok (P := P) hT S hx (hf.eval y) e2 e3 hc.1 hc.2 hid hl
            rw [setB_eq]
            exact ⟨.skip, undef, w', σ, by simp [execOp, h1], .inr ⟨rfl, rfl⟩, .sc _, h2, h3⟩
          · cases h
        · cases h
      · cases h
    · cases h
  | nilCheck x =>
    simp only [stepP] at h
    have hx := hf.eval x
    split at h
    · rename_i e
      simp only [Option.some.injEq, Prod.mk.injEq] at h
      obtain ⟨rfl, rfl, rfl⟩ := h
      rw [e] at hx
      obtain ⟨b, _, hb⟩ := hx.ptr_inv
      exact Done.same S (v := a.eval x) (by simp [execOp, hb]) hx
    · rename_i e
      simp only [Option.some.injEq, Prod.mk.injEq] at h
      obtain ⟨rfl, rfl, rfl⟩ := h
      rw [e] at hx
      obtain ⟨b, hb⟩ := hx.iptr_inv
      exact Done.same S (v := a.eval x) (by simp [execOp, hb]) hx
    · rename_i e
      simp only [Option.some.injEq, Prod.mk.injEq] at h
      obtain ⟨rfl, rfl, rfl⟩ := h
      rw [e] at hx
      obtain ⟨vs, hb, _⟩ := hx.clos_inv
      exact Done.same S (v := a.eval x) (by simp [execOp, hb]) hx
    · rename_i e
      simp only [Option.some.injEq, Prod.mk.injEq] at h
      obtain ⟨rfl, rfl, rfl⟩ := h
      rw [e] at hx
      obtain ⟨vs, hb, _⟩ := hx.bmet_inv
      exact Done.same S (v := a.eval x) (by simp [execOp, hb]) hx
    · rename_i e
      simp only [Option.some.injEq, Prod.mk.injEq] at h
      obtain ⟨rfl, rfl, rfl⟩ := h
      rw [e] at hx
      have hb := hx.sc_inv
      exact Done.same S (v := a.eval x) (by simp [execOp, hb]) hx
    · cases h
  | binOp op t x y t' =>
    simp only [stepP] at h
    split at h
    · rename_i z hb
      simp only [Option.some.injEq, Prod.mk.injEq] at h
      obtain ⟨rfl, rfl, rfl⟩ := h
      obtain ⟨v, h1, h2⟩ := binP_ok hT hb (hf.eval x) (hf.eval y) x y
      exact Done.of0 S h1 h2
    · cases h
  | unOp op t x =>
    simp only [stepP] at h
    split at h
    · rename_i z hb
      simp only [Option.some.injEq, Prod.mk.injEq] at h
      obtain ⟨rfl, rfl, rfl⟩ := h
      obtain ⟨v, h1, h2⟩ := unP_ok (P := P) hb (hf.eval x)
      exact Done.of0 S h1 h2
    · cases h
  | convert src dst' x =>
    simp only [stepP] at h
    split at h
    · rename_i z ids hb
      simp only [Option.some.injEq, Prod.mk.injEq] at h
      obtain ⟨rfl, rfl, rfl⟩ := h
      obtain ⟨v, w', h1, h2, h3, h4⟩ := convP_ok (P := P) hT S hb (hf.eval x)
      exact Done.of h1 h2 h3 h4
    · cases h
  | makeFunc fn first captured =>
    cases fn with
    | func f =>
      simp only [stepP] at h
      split at h
      · rename_i h0
        simp only [Option.some.injEq, Prod.mk.injEq] at h
        obtain ⟨rfl, rfl, rfl⟩ := h
        have e : first = #[] := Array.size_eq_zero_iff.1 h0
        subst e
        refine Done.of0 S (v := .func (.func f) #[] (captured.map a.eval)) (by simp [Instr.makeFunc]) (.clos f _ _ (by simp) (fun k c v h1 h2 => ?_))
        rw [List.getElem?_map] at h1
        rw [Array.getElem?_map] at h2
        cases hk : captured[k]? with
        | none => simp [hk] at h2
        | some y =>
          have hk' : captured.toList[k]? = some y := by simpa using hk
          simp [hk'] at h1; simp [hk] at h2
          subst h1; subst h2; exact hf.eval y
      · split at h
        · rename_i h0
          simp only [Option.some.injEq, Prod.mk.injEq] at h
          obtain ⟨rfl, rfl, rfl⟩ := h
          have e : captured = #[] := Array.size_eq_zero_iff.1 h0
          subst e
          refine Done.of0 S (v := .func (.func f) (first.map a.eval) #[]) (by simp [Instr.makeFunc]) (.bmet f _ _ (by simp) (fun k c v h1 h2 => ?_))
          rw [List.getElem?_map] at h1
          rw [Array.getElem?_map] at h2
          cases hk : first[k]? with
          | none => simp [hk] at h2
          | some y =>
            have hk' : first.toList[k]? = some y := by simpa using hk
            simp [hk'] at h1; simp [hk] at h2
            subst h1; subst h2; exact hf.eval y
        · cases h
    | _ => simp [stepP] at h
  | makeSlice t l c =>
    simp only [stepP] at h
    split at h
    · rename_i e l' c' hu hl hc
      split at h
      · rename_i zs s by_ hz hs hb
        split at h
        · rename_i hle
          simp only [Option.some.injEq, Prod.mk.injEq] at h
          obtain ⟨rfl, rfl, rfl⟩ := h
          obtain ⟨x, w', σ', h1, h2, h3, h4⟩ := make_ok (P := P) hT S hu hz hs hb hl hc (hf.eval l) (hf.eval c) hle
          exact Done.of h1 h2 h3 h4
        · cases h
      · cases h
    · cases h
  | slice t x lo hi mx =>
    simp only [stepP] at h
    split at h
    · rename_i z hb
      simp only [Option.some.injEq, Prod.mk.injEq] at h
      obtain ⟨rfl, rfl, _⟩ := h
      obtain ⟨u, h1, h2⟩ := sliceP_ok (P := P) hT S hb (hf.eval x) (ov_of hf lo) (ov_of hf hi) (ov_of hf mx)
      exact Done.of0 S h1 h2
    · cases h
  | fieldAddr t x i =>
    simp only [stepP] at h
    split at h
    · rename_i z hb
      simp only [Option.some.injEq, Prod.mk.injEq] at h
      obtain ⟨rfl, rfl, rfl⟩ := h
      obtain ⟨v, h1, h2⟩ := fieldAddrP_ok (P := P) hT hb (hf.eval x)
      exact Done.of0 S h1 h2
    · cases h
  | field t x i =>
    simp only [stepP] at h
    split at h
    · rename_i z hb
      simp only [Option.some.injEq, Prod.mk.injEq] at h
      obtain ⟨rfl, rfl, rfl⟩ := h
      obtain ⟨v, h1, h2⟩ := fieldP_ok (P := P) hT hb (hf.eval x)
      exact Done.of0 S h1 h2
    · cases h
  | indexAddr t x i =>
    simp only [stepP] at h
    split at h
    · rename_i z hb
      simp only [Option.some.injEq, Prod.mk.injEq] at h
      obtain ⟨rfl, rfl, rfl⟩ := h
      obtain ⟨v, h1, h2⟩ := indexAddrP_ok (P := P) hT hb (hf.eval x) (hf.eval i)
      exact Done.of0 S h1 h2
    · cases h
  | index t x i =>
    simp only [stepP] at h
    split at h
    · rename_i z hb
      simp only [Option.some.injEq, Prod.mk.injEq] at h
      obtain ⟨rfl, rfl, rfl⟩ := h
      obtain ⟨v, h1, h2⟩ := indexP_ok (P := P) hT hb (hf.eval x) (hf.eval i)
      exact Done.of0 S h1 h2
    · cases h
  | extract x i =>
    simp only [stepP] at h
    have hx := hf.eval x
    split at h
    · rename_i cs e
      split at h
      · rename_i c hc
        simp only [Option.some.injEq, Prod.mk.injEq] at h
        obtain ⟨rfl, rfl, rfl⟩ := h
        rw [e] at hx
        obtain ⟨vs, ev, hl, hv⟩ := hx.tup_inv
        have hi : i < vs.size := by have := get_lt hc; omega
        refine Done.of0 S (v := vs[i]) ?_ (hv i c _ hc (Array.getElem?_eq_getElem hi))
        simp [ev, Instr.extract, hi]
      · cases h
    · cases h
  | call c =>
    obtain ⟨callee, args, argTypes⟩ := c
    cases callee with
    | value f => simp [stepP] at h
    | invoke r m => simp [stepP] at h
    | builtin b =>
      have key : ∀ (f : Array TypeId → TypeId → Array Value → Sem Value), (∀ cs vs, builtin b argTypes type cs vs = (do pure (.value (← f argTypes type vs)))) → ∀ vals, args.map a.eval = vals →
          Done P (do pure (.value (← f argTypes type vals))) w H σ hp r hp' → Done P (execOp a.eval ⟨dst, .call ⟨.builtin b, args, argTypes⟩, type, pos, after, guard⟩) w H σ hp r hp' := by
        intro f hb vals hv d
        have e : execOp a.eval ⟨dst, .call ⟨.builtin b, args, argTypes⟩, type, pos, after, guard⟩ = builtin b argTypes type (args.map fun | .const _ => true | _ => false) (args.map a.eval) := rfl
        rw [e, hb, hv]
        exact d
      simp only [stepP] at h
      split at h
      · rename_i x t e1 e2
        split at h
        · rename_i z hb
          simp only [Option.some.injEq, Prod.mk.injEq] at h
          obtain ⟨rfl, rfl, rfl⟩ := h
          obtain ⟨ax, rfl, rfl⟩ := map1 e1
          obtain rfl := arr1 e2
          obtain ⟨u, h1, h2⟩ := lenP_ok (P := P) hT hb (hf.eval ax) type
          exact key Builtin.len_ (fun _ _ => rfl) #[a.eval ax] (by simp) (Done.of0 S h1 h2)
        · split at h
          · rename_i z ids hb
            simp only [Option.some.injEq, Prod.mk.injEq] at h
            obtain ⟨rfl, rfl, rfl⟩ := h
            obtain ⟨ax, rfl, rfl⟩ := map1 e1
            obtain rfl := arr1 e2
            obtain ⟨u, h1, h2⟩ := lenM_ok (P := P) hT S hb (hf.eval ax) type
            exact key Builtin.len_ (fun _ _ => rfl) #[a.eval ax] (by simp) (Done.of0 S h1 h2)
          · cases h
      · rename_i mm kk t tk e1 e2
        split at h
        · rename_i hp2 id hb
          simp only [Option.some.injEq, Prod.mk.injEq] at h
          obtain ⟨rfl, rfl, rfl⟩ := h
          obtain ⟨ax, ay, rfl, rfl, rfl⟩ := map2 e1
          obtain rfl := arr2 e2
          obtain ⟨w', h1, h2, h3⟩ := delP_ok (P := P) (tk := tk) (ty := type) hT S hb (hf.eval ax) (hf.eval ay)
          exact key Builtin.delete_ (fun _ _ => rfl) #[a.eval ax, a.eval ay] (by simp) (Done.of h1 (.tup [] #[] rfl (fun i c v h1 h2 => by simp at h1)) h2 h3)
        · cases h
      · split at h
        · rename_i z hb
          simp only [Option.some.injEq, Prod.mk.injEq] at h
          obtain ⟨rfl, rfl, rfl⟩ := h
          obtain ⟨u, h1, h2⟩ := minmax_ok (P := P) (b := true) (vs := args.toList.map a.eval) hb (by simp) (fun k c v h1 h2 => by
            rw [List.getElem?_map] at h1 h2
            cases hk : args.toList[k]? with
            | none => simp [hk] at h1
            | some y => simp [hk] at h1 h2; subst h1; subst h2; exact hf.eval y) argTypes type
          have e : (args.toList.map a.eval).toArray = args.map a.eval := by apply Array.ext'; simp
          rw [e] at h1
          exact key Builtin.max_ (fun _ _ => rfl) _ rfl (Done.of0 S h1 h2)
        · cases h
      · split at h
        · rename_i z hb
          simp only [Option.some.injEq, Prod.mk.injEq] at h
          obtain ⟨rfl, rfl, rfl⟩ := h
          obtain ⟨u, h1, h2⟩ := minmax_ok (P := P) (b := false) (vs := args.toList.map a.eval) hb (by simp) (fun k c v h1 h2 => by
            rw [List.getElem?_map] at h1 h2
            cases hk : args.toList[k]? with
            | none => simp [hk] at h1
            | some y => simp [hk] at h1 h2; subst h1; subst h2; exact hf.eval y) argTypes type
          have e : (args.toList.map a.eval).toArray = args.map a.eval := by apply Array.ext'; simp
          rw [e] at h1
          exact key Builtin.min_ (fun _ _ => rfl) _ rfl (Done.of0 S h1 h2)
        · cases h
      · rename_i x y t t' e1 e2
        obtain ⟨ax, ay, rfl, rfl, rfl⟩ := map2 e1
        obtain rfl := arr2 e2
        split at h
        · rename_i e e' hu hu'
          split at h
          · rename_i s by_ zs hs hb hz
            split at h
            · rename_i hle
              split at h
              · rename_i n new ids hr
                split at h
                · rename_i hok
                  split at h
                  · rename_i r' hp2 fp' hap
                    simp only [Option.some.injEq, Prod.mk.injEq] at h
                    obtain ⟨rfl, rfl, rfl⟩ := h
                    obtain ⟨i, z, hTi, hiz, hzs⟩ := tab_of_zero hz
                    have hsi : i.size = s := by unfold sizeT at hs; rw [hTi] at hs; simpa using hs
                    have hbi : i.bytes = by_ := by unfold bytesT at hb; rw [hTi] at hb; simpa using hb
                    subst hsi; subst hbi
                    have hzz : z.cells.size = i.size := by have := hle.2; rw [hzs] at this; simpa using this
                    obtain ⟨news, q1, q2, q3, q4⟩ := src_of (P := P) S (und_ok hT hu') hr hok (hf.eval ay)
                    obtain ⟨u, w', σ', k1, k2, k3, k4⟩ := appendP_ok (ty := type) S (und_ok hT hu) (hT e i hTi) hiz hzz hle.1 hap (hf.eval ax) q1 hok ⟨q2, q3⟩ q4
                    exact key Builtin.append_ (fun _ _ => rfl) #[a.eval ax, a.eval ay] (by simp) (Done.of k1 k2 k3 k4)
                  · cases h
                · cases h
              · cases h
            · cases h
          · cases h
        · rename_i e hu hu'
          split at h
          · rename_i str he
            split at h
            · rename_i z0 hu8 hs hb hz
              split at h
              · rename_i r' hp2 fp' hap
                simp only [Option.some.injEq, Prod.mk.injEq] at h
                obtain ⟨rfl, rfl, rfl⟩ := h
                obtain ⟨i, z, hTi, hiz, hzs⟩ := tab_of_zero hz
                have hsi : i.size = 1 := by unfold sizeT at hs; rw [hTi] at hs; simpa using hs
                have hbi : i.bytes = 1 := by unfold bytesT at hb; rw [hTi] at hb; simpa using hb
                have hzz : z.cells.size = i.size := by
                  have := congrArg List.length hzs
                  rw [hsi]; simpa using this.symm
                have hay := hf.eval ay
                rw [he] at hay
                have hv := hay.sc_inv
                have hsrc := Src.ofString w (und_ok hT hu') str
                rw [← hsi] at hap hsrc
                obtain ⟨u, w', σ', k1, k2, k3, k4⟩ := appendP_ok (ty := type) S (und_ok hT hu) (hT e i hTi) hiz hzz (by omega) hap (hf.eval ax) (n := (strL str).length) (news := byteCells str) (by rw [strL_length]; exact hsrc)
                  (by
                    have : ∀ l : List UInt8, okCells (l.map fun b => PV.sc (.int .u8 b.toNat)) = true := by
                      intro l
                      induction l with
                      | nil => rfl
                      | cons b l ih => simp [okCells, okCell, ih]
                    exact this _)
                  ⟨by simp [byteCells, strL], fun k c u h1 h2 => by
                    unfold byteCells at h2
                    unfold strL at h1
                    rw [List.getElem?_map] at h1 h2
                    cases hk : str.data.toList[k]? with
                    | none => simp [hk] at h1
                    | some y => simp [hk] at h1 h2; subst h1; subst h2; exact .sc _⟩ (by rw [hsi]; simp)
                rw [← hv] at k1
                exact key Builtin.append_ (fun _ _ => rfl) #[a.eval ax, a.eval ay] (by simp) (Done.of k1 k2 k3 k4)
              · cases h
            · cases h
          · cases h
        · cases h
      · rename_i x y t t' e1 e2
        obtain ⟨ax, ay, rfl, rfl, rfl⟩ := map2 e1
        obtain rfl := arr2 e2
        have hax := hf.eval ax
        split at h
        · rename_i e id s' off len x hu hx
          split at h
          · rename_i s hs
            split at h
            · rename_i hss
              subst hss
              split at h
              · rename_i n src ids hr
                split at h
                · rename_i old hid
                  split at h
                  · rename_i new hn
                    split at h
                    · cases h
                    · rename_i hok
                      split at h
                      · rename_i l hl
                        simp only [Option.some.injEq, Prod.mk.injEq] at h
                        obtain ⟨rfl, rfl, rfl⟩ := h
                        rw [hx] at hax
                        rw [nthB_eq] at hid
                        obtain ⟨w', h1, h2, h3⟩ := copy_ok (P := P) (tx := t') (ty := type) hT S hu hs hax (hf.eval ay) hr hid hn (by simpa using hok) hl
                        rw [← setB_eq] at h2 h3
                        exact key Builtin.copy_ (fun _ _ => rfl) #[a.eval ax, a.eval ay] (by simp) (Done.of (σ' := σ) h1 (.sc _) h2 h3)
                      · cases h
                  · cases h
                · cases h
              · cases h
            · cases h
          · cases h
        · cases h
      · rename_i x t e1 e2
        obtain ⟨ax, rfl, rfl⟩ := map1 e1
        obtain rfl := arr1 e2
        have hax := hf.eval ax
        split at h
        · rename_i e id s' off len x hu hx
          split at h
          · rename_i s zs hs hz
            split at h
            · rename_i hc
              obtain ⟨hss, hzs, hok⟩ := hc
              subst hss
              split at h
              · rename_i old hid
                split at h
                · rename_i l hl
                  simp only [Option.some.injEq, Prod.mk.injEq] at h
                  obtain ⟨rfl, rfl, rfl⟩ := h
                  rw [hx] at hax
                  rw [nthB_eq] at hid
                  obtain ⟨w', h1, h2, h3⟩ := clear_ok (P := P) (ty := type) hT S hu hz hzs hax hid hok hl
                  rw [← setB_eq] at h2 h3
                  exact key Builtin.clear_ (fun _ _ => rfl) #[a.eval ax] (by simp) (Done.of (σ' := σ) h1 (.tup _ _ rfl (fun k c v h => by simp at h)) h2 h3)
                · cases h
              · cases h
            · cases h
          · cases h
        · cases h
      · cases h
  | makeMap t r =>
    cases r with
    | none =>
      simp only [stepP, Option.some.injEq, Prod.mk.injEq] at h
      obtain ⟨rfl, rfl, rfl⟩ := h
      obtain ⟨g1, g2⟩ := sim_newmap S
      exact Done.of (s := Instr.makeMap t none) (v := .map (some w.heap.size)) (w' := w.alloc (.map #[] 0)) (σ' := σ ++ [⟨w.heap.size, 0, none⟩]) rfl (.mp _ ⟨w.heap.size, 0, none⟩ (by rw [← S.len]; simp)) g1 g2
    | some _ => simp [stepP] at h
  | lookup t x k ok =>
    simp only [stepP] at h
    split at h
    · rename_i r' ids hl
      simp only [Option.some.injEq, Prod.mk.injEq] at h
      obtain ⟨rfl, rfl, rfl⟩ := h
      obtain ⟨v, h1, h2⟩ := lookP_ok (P := P) hT S hl (hf.eval x) (hf.eval k)
      exact Done.of0 S h1 h2
    · cases h
  | mapUpdate t m k x =>
    simp only [stepP] at h
    split at h
    · rename_i hp2 id hl
      simp only [Option.some.injEq, Prod.mk.injEq] at h
      obtain ⟨rfl, rfl, rfl⟩ := h
      obtain ⟨w', h1, h2, h3⟩ := updP_ok (P := P) hT S hl (hf.eval m) (hf.eval k) (hf.eval x)
      exact ⟨.skip, undef, w', σ, by simp [execOp, h1], .inr ⟨rfl, rfl⟩, .sc _, h2, h3⟩
    · cases h
  | insert t m k x =>
    simp only [stepP] at h
    split at h
    · rename_i hp2 id hl
      simp only [Option.some.injEq, Prod.mk.injEq] at h
      obtain ⟨rfl, rfl, rfl⟩ := h
      obtain ⟨w', h1, h2, h3⟩ := updP_ok (P := P) hT S hl (hf.eval m) (hf.eval k) (hf.eval x)
      exact ⟨.skip, undef, w', σ, by simp [execOp, h1], .inr ⟨rfl, rfl⟩, .sc _, h2, h3⟩
    · cases h
  | _ => simp [stepP] at h

end
end Go.Ab
namespace Go.Ab
open Go

section
variable {P : Program} {T : Tab} {w : World} {H : Nat → Prop} {hp : List Blk} {σ : List Addr}

def NoL : Nat → Prop := fun _ => False

/-- a value that names no block means the same whatever the blocks are -/
theorem V.idf {M M' : Nat → Prop} {L L' : Nat → Prop} {σ' : List Addr} (hM : ∀ b, b < w.heap.size → M' b → M b) {p : PV} {v : Value} (hv : V w M σ L p v) (h : p.idfree = true) : V w M' σ' L' p v := by
  induction hv with
  | any v => exact .any v
  | sc v => exact .sc v
  | agg cs vs hl _ ih =>
    simp only [PV.idfree] at h
    exact .agg cs vs hl (fun k c v h1 h2 => ih k c v h1 h2 (idfree_get h h1))
  | tup cs vs hl _ ih =>
    simp only [PV.idfree] at h
    exact .tup cs vs hl (fun k c v h1 h2 => ih k c v h1 h2 (idfree_get h h1))
  | nil x => exact .nil x
  | imm len x cs a cap g h1 h2 h3 _ ih =>
    refine .imm len x cs a cap g h1 h2 (fun k c hk => ?_) (fun k c hk => ih k c hk (h3 k c hk).2.1)
    obtain ⟨e1, e2, e3, e4⟩ := h3 k c hk
    exact ⟨e1, e2, fun hm => e3 (hM _ (World.block_lt_of_cell? _ ⟨a.block, a.off + k, none⟩ e4) hm), e4⟩
  | own => simp [PV.idfree] at h
  | ptr => simp [PV.idfree] at h
  | iptr cs a g h3 _ ih =>
    refine .iptr cs a g (fun k c hk => ?_) (fun k c hk => ih k c hk (h3 k c hk).2.1)
    obtain ⟨e1, e2, e3, e4⟩ := h3 k c hk
    exact ⟨e1, e2, fun hm => e3 (hM _ (World.block_lt_of_cell? _ ⟨a.block, a.off + k, none⟩ e4) hm), e4⟩
  | clos f cs vs hl _ ih =>
    simp only [PV.idfree] at h
    exact .clos f cs vs hl (fun k c v h1 h2 => ih k c v h1 h2 (idfree_get h h1))
  | bmet => simp [PV.idfree] at h
  | mp => simp [PV.idfree] at h

/-- the blocks that stay forbidden while some are read -/
def but (H : Nat → Prop) (σ : List Addr) (hp : List Blk) (ids : List Nat) (b : Nat) : Prop := H b ∨ ∃ i a, ((liveAt hp i ∧ i ∉ ids) ∨ mapAt hp i) ∧ σ[i]? = some a ∧ a.block = b

theorem but_hot {ids : List Nat} {b : Nat} (h : but H σ hp ids b) : hot H σ hp b := by
  rcases h with h | ⟨i, a, h1, h2, h3⟩
  · exact .inl h
  · exact .inr ⟨i, a, h1.imp (fun h => h.1) id, h2, h3⟩

theorem mapIds_some {f : PV → Option (PV × List Nat)} : ∀ {cs l : List PV} {ids : List Nat}, mapIds f cs = some (l, ids) →
    l.length = cs.length ∧ ∀ (k : Nat) c, cs[k]? = some c → ∃ c' i', l[k]? = some c' ∧ f c = some (c', i') ∧ ∀ x ∈ i', x ∈ ids
  | [], l, ids, h => by
    simp [mapIds] at h; obtain ⟨rfl, rfl⟩ := h
    exact ⟨rfl, fun k c hk => by simp at hk⟩
  | c :: cs, l, ids, h => by
    simp only [mapIds] at h
    cases hf : f c with
    | none => simp [hf] at h
    | some x =>
      obtain ⟨c', i1⟩ := x
      simp only [hf] at h
      cases hm : mapIds f cs with
      | none => simp [hm] at h
      | some y =>
        obtain ⟨l', i2⟩ := y
        simp only [hm, Option.some.injEq, Prod.mk.injEq] at h
        obtain ⟨rfl, rfl⟩ := h
        obtain ⟨h1, h2⟩ := mapIds_some hm
        refine ⟨by simp [h1], fun k d hk => ?_⟩
        cases k with
        | zero => simp at hk; subst hk; exact ⟨c', i1, rfl, hf, fun x hx => List.mem_append_left _ hx⟩
        | succ k =>
          simp at hk
          obtain ⟨c2, i3, e1, e2, e3⟩ := h2 k d hk
          exact ⟨c2, i3, by simpa using e1, e2, fun x hx => List.mem_append_right _ (e3 x hx)⟩

theorem idfreeL_of {cs : List PV} (h : ∀ (k : Nat) c, cs[k]? = some c → c.idfree = true) : idfreeL cs = true := by
  induction cs with
  | nil => rfl
  | cons c cs ih =>
    simp only [idfreeL, Bool.and_eq_true]
    exact ⟨h 0 c rfl, ih (fun k d hk => h (k + 1) d (by simpa using hk))⟩

theorem snap_ok (S : Sim w H σ hp) {all : List Nat} : ∀ (d : Nat) {p p' : PV} {ids : List Nat} {v : Value}, snap hp d p = some (p', ids) → (∀ x ∈ ids, x ∈ all) → V w (hot H σ hp) σ (liveAt hp) p v →
    V w (but H σ hp all) [] NoL p' v ∧ p'.idfree = true
  | 0, p, p', ids, v, h, _, _ => by simp [snap] at h
  | d + 1, p, p', ids, v, h, hi, hv => by
    have list : ∀ {cs l : List PV} {ids : List Nat}, mapIds (snap hp d) cs = some (l, ids) → (∀ x ∈ ids, x ∈ all) → ∀ (k : Nat) c v, cs[k]? = some c → V w (hot H σ hp) σ (liveAt hp) c v →
        ∃ c', l[k]? = some c' ∧ V w (but H σ hp all) [] NoL c' v ∧ c'.idfree = true := by
      intro cs l ids hm hi k c v hk hv
      obtain ⟨_, h2⟩ := mapIds_some hm
      obtain ⟨c', i', e1, e2, e3⟩ := h2 k c hk
      obtain ⟨r1, r2⟩ := snap_ok S d e2 (fun x hx => hi x (e3 x hx)) hv
      exact ⟨c', e1, r1, r2⟩
    have rest : p' = p → p.idfree = true → V w (but H σ hp all) [] NoL p' v ∧ p'.idfree = true := by
      intro e hf
      subst e
      exact ⟨hv.idf (fun b _ hb => but_hot hb) hf, hf⟩
    cases p with
    | own id s off len x =>
      simp only [snap, nthB_eq] at h
      cases hb : hp[id]? with
      | none => simp [hb] at h
      | some blk =>
        cases blk with
        | mk st cs =>
          simp only [hb] at h
          split at h
          · cases h
          · rename_i hd
            cases ht : takeN? (dropN cs off) (len * s) with
            | none => simp [ht] at h
            | some l =>
              simp only [ht] at h
              cases hm : mapIds (snap hp d) l with
              | none => simp [hm] at h
              | some y =>
                obtain ⟨l', ids'⟩ := y
                simp only [hm, Option.some.injEq, Prod.mk.injEq] at h
                obtain ⟨rfl, rfl⟩ := h
                obtain ⟨hle, rfl⟩ := takeN?_some ht
                rw [dropN_eq] at *
                obtain ⟨hlen', _⟩ := mapIds_some hm
                have hid : id ∈ all := hi id (by simp)
                cases hv with
                | own _ _ _ _ _ a b cap g1 g2 g3 g4 g5 =>
                  obtain ⟨gA, hgA⟩ := own_cells S (off := off) (m := len * s) hb hd g1
                  have hcap : ∀ (k : Nat) c, l'[k]? = some c → 0 < cap := by
                    intro k c hk
                    have := get_lt hk
                    rw [hlen', List.length_take] at this
                    rcases Nat.eq_zero_or_pos cap with h0 | h0
                    · have : len = 0 := by omega
                      subst this; simp at this
                    · exact h0
                  have hcell : ∀ (k : Nat) c', l'[k]? = some c' → ∃ c, ((cs.drop off).take (len * s))[k]? = some c := by
                    intro k c' hk
                    have := get_lt hk
                    rw [hlen'] at this
                    exact ⟨_, List.getElem?_eq_getElem this⟩
                  refine ⟨.imm len x l' b cap gA g2 g3 (fun k c' hk => ?_) (fun k c' hk => ?_), rfl⟩
                  · obtain ⟨c, hc⟩ := hcell k c' hk
                    obtain ⟨e1, e2, e3⟩ := hgA k c hc
                    obtain ⟨c2, f1, f2, f3⟩ := list hm (fun x hx => hi x (List.mem_cons_of_mem _ hx)) k c _ hc e3
                    rw [hk] at f1; cases f1
                    have eb := g4 (hcap k c' hk)
                    subst eb
                    refine ⟨rfl, f3, ?_, e2⟩
                    rintro (hh | ⟨i, a', ⟨i1, i2⟩ | ⟨ds, hds⟩, i3, i4⟩)
                    · exact S.own id st cs a hb hd g1 hh
                    rotate_left
                    · obtain ⟨-, es, ck, hb', -⟩ := S.maps i ds a' hds i3
                      simp only at i4
                      rw [i4] at hb'
                      simp [World.cell?, hb'] at e2
                    · by_cases e : i = id
                      · subst e; exact i2 hid
                      · exact S.inj i id a' a st cs i1 hb hd e i3 g1 i4
                  · obtain ⟨c, hc⟩ := hcell k c' hk
                    obtain ⟨e1, e2, e3⟩ := hgA k c hc
                    obtain ⟨c2, f1, f2, f3⟩ := list hm (fun x hx => hi x (List.mem_cons_of_mem _ hx)) k c _ hc e3
                    rw [hk] at f1; cases f1
                    exact f2
    | agg cs =>
      simp only [snap] at h
      cases hm : mapIds (snap hp d) cs with
      | none => simp [hm] at h
      | some y =>
        obtain ⟨l', ids'⟩ := y
        simp only [hm, Option.some.injEq, Prod.mk.injEq] at h
        obtain ⟨rfl, rfl⟩ := h
        obtain ⟨hlen', _⟩ := mapIds_some hm
        cases hv with
        | agg _ vs h1 h2 =>
          have key : ∀ (k : Nat) c', l'[k]? = some c' → ∃ v, vs[k]? = some v ∧ V w (but H σ hp all) [] NoL c' v ∧ c'.idfree = true := by
            intro k c' hk
            have hk' := get_lt hk
            have hk1 : k < cs.length := by omega
            have hk2 : k < vs.size := by omega
            obtain ⟨c2, f1, f2, f3⟩ := list hm hi k cs[k] vs[k] (List.getElem?_eq_getElem hk1) (h2 k _ _ (List.getElem?_eq_getElem hk1) (Array.getElem?_eq_getElem hk2))
            rw [hk] at f1; cases f1
            exact ⟨_, Array.getElem?_eq_getElem hk2, f2, f3⟩
          refine ⟨.agg l' vs (by omega) (fun k c v hk hv => ?_), ?_⟩
          · obtain ⟨v', e1, e2, _⟩ := key k c hk
            rw [hv] at e1; cases e1; exact e2
          · simp only [PV.idfree]
            exact idfreeL_of (fun k c hk => (key k c hk).choose_spec.2.2)
    | ptr => simp [snap] at h
    | mp => simp [snap] at h
    | bmet => simp [snap] at h
    | clos f caps =>
      simp only [snap] at h
      split at h
      · rename_i hf
        simp only [Option.some.injEq, Prod.mk.injEq] at h
        exact rest h.1.symm (by simp only [PV.idfree]; exact hf)
      · cases h
    | tup => simp [snap] at h
    | any => simp only [snap, Option.some.injEq, Prod.mk.injEq] at h; exact rest h.1.symm rfl
    | sc v => simp only [snap, Option.some.injEq, Prod.mk.injEq] at h; exact rest h.1.symm rfl
    | imm => simp only [snap, Option.some.injEq, Prod.mk.injEq] at h; exact rest h.1.symm rfl
    | iptr => simp only [snap, Option.some.injEq, Prod.mk.injEq] at h; exact rest h.1.symm rfl

theorem snaps_ok (S : Sim w H σ hp) {ps ps' : List PV} {ids all : List Nat} {vs : List Value} {d : Nat} (h : mapIds (snap hp d) ps = some (ps', ids)) (hi : ∀ x ∈ ids, x ∈ all) (hv : Vs w (hot H σ hp) σ (liveAt hp) ps vs) :
    Vs w (but H σ hp all) [] NoL ps' vs ∧ idfreeL ps' = true := by
  obtain ⟨hl, h2⟩ := mapIds_some h
  have key : ∀ (k : Nat) c', ps'[k]? = some c' → ∃ c i', ps[k]? = some c ∧ snap hp d c = some (c', i') ∧ ∀ x ∈ i', x ∈ all := by
    intro k c' hk
    have hk' := get_lt hk
    have hk1 : k < ps.length := by omega
    obtain ⟨c2, i', e1, e2, e3⟩ := h2 k _ (List.getElem?_eq_getElem hk1)
    rw [hk] at e1; cases e1
    exact ⟨_, i', List.getElem?_eq_getElem hk1, e2, fun x hx => hi x (e3 x hx)⟩
  refine ⟨⟨by rw [hl]; exact hv.1, fun k c' v hk hvk => ?_⟩, idfreeL_of (fun k c' hk => ?_)⟩
  · obtain ⟨c, i', e1, e2, e3⟩ := key k c' hk
    exact (snap_ok S d e2 e3 (hv.2 k c v e1 hvk)).1
  · obtain ⟨c, i', e1, e2, e3⟩ := key k c' hk
    have hk1 := get_lt e1
    have hk2 : k < vs.length := by rw [← hv.1]; exact hk1
    exact (snap_ok S d e2 e3 (hv.2 k c _ e1 (List.getElem?_eq_getElem hk2))).2

end
end Go.Ab
namespace Go.Ab
open Go

def retV : List Value → Value
  | [v] => v
  | vs => .tuple vs.toArray
def CallOk (P : Program) (g : FuncId) (vs : Array Value) (w : World) (R : Value → World → Prop) : Prop :=
  match (callFunc g vs).run P w with
  | .ok (.value v) w' => R v w'
  | .ok (.enter f args) w' => Calls P f args w' fun e w'' => ∃ v, e = .returned v ∧ R v w''
  | _ => False
theorem CallOk.mono {P : Program} {g : FuncId} {vs : Array Value} {w : World} {R R' : Value → World → Prop} (h : CallOk P g vs w R) (hr : ∀ v w', R v w' → R' v w') : CallOk P g vs w R' := by
  unfold CallOk at *
  split
  · rename_i e; rw [e] at h; exact hr _ _ h
  · rename_i e; rw [e] at h; exact h.mono fun e w'' ⟨v, h1, h2⟩ => ⟨v, h1, hr _ _ h2⟩
  · rename_i h1 h2
    split at h
    · rename_i e; exact (h1 _ _ e).elim
    · rename_i e; exact (h2 _ _ _ e).elim
    · exact h

section
variable {P : Program} {T : Tab} {w : World} {H : Nat → Prop} {hp : List Blk} {σ : List Addr}

theorem Vs.one {M : Nat → Prop} {L : Nat → Prop} {p : PV} {v : Value} (h : Vs w M σ L [p] [v]) : V w M σ L p v := h.2 0 p v rfl rfl
theorem ret_ok {M : Nat → Prop} {L : Nat → Prop} {rs : List PV} {vs : List Value} (h : Vs w M σ L rs vs) : V w M σ L (retP rs) (retV vs) := by
  have tup : V w M σ L (.tup rs) (.tuple vs.toArray) := .tup rs vs.toArray (by simpa using h.1) (fun k c v h1 h2 => h.2 k c v h1 (by simpa using h2))
  match rs, vs, h with
  | [], [], h => exact tup
  | [r], [v], h => exact h.one
  | _ :: _ :: _, _ :: _ :: _, h => exact tup
  | [], _ :: _, h => simp [Vs] at h
  | _ :: _, [], h => simp [Vs] at h
  | [_], _ :: _ :: _, h => simp [Vs] at h
  | _ :: _ :: _, [_], h => simp [Vs] at h

theorem scalarL_get {cs : List PV} (h : scalarL cs = true) {k : Nat} {c : PV} (hk : cs[k]? = some c) : ∃ v, c = .sc v := by
  induction cs generalizing k with
  | nil => simp at hk
  | cons d cs ih =>
    cases d with
    | sc v =>
      simp only [scalarL] at h
      cases k with
      | zero => simp at hk; exact ⟨v, hk.symm⟩
      | succ k => simp at hk; exact ih h hk
    | _ => simp [scalarL] at h
theorem scalar_ok {w' : World} {M M' : Nat → Prop} {L L' : Nat → Prop} {σ' : List Addr} {p : PV} {v : Value} (h : scalarP p = true) (hv : V w M σ L p v) : V w' M' σ' L' p v := by
  cases hv with
  | sc v => exact .sc v
  | agg cs vs h1 h2 =>
    refine .agg cs vs h1 (fun k c v hk hv => ?_)
    obtain ⟨u, rfl⟩ := scalarL_get h hk
    have := (h2 k _ v hk hv).sc_inv
    subst this; exact .sc _
  | _ => simp [scalarP] at h

/-- marks: the blocks that are read only from now on -/
theorem roB_spec : ∀ (ids : List Nat) (hp : List Blk), (roB hp ids).length = hp.length ∧ (∀ i, liveAt (roB hp ids) i → liveAt hp i ∧ i ∉ ids) ∧ (∀ i, mapAt (roB hp ids) i → mapAt hp i)
  | [], hp => ⟨rfl, fun i h => ⟨h, by simp⟩, fun _ h => h⟩
  | id :: ids, hp => by
    simp only [roB, nthB_eq]
    split
    · rename_i cs hb
      rw [setB_eq]
      obtain ⟨h1, h2, hm⟩ := roB_spec ids (hp.set id ⟨.ro, cs⟩)
      refine ⟨by rw [h1]; simp, fun i hi => ?_, fun i hi => by
        obtain ⟨ds, hd⟩ := hm i hi
        by_cases e : id = i
        · subst e; rw [List.getElem?_set_self (get_lt hb)] at hd; cases hd
        · rw [List.getElem?_set_ne e] at hd; exact ⟨ds, hd⟩⟩
      obtain ⟨h3, h4⟩ := h2 i hi
      have h5 := liveAt_set (b := ⟨.ro, cs⟩) (fun e => by cases e) h3
      refine ⟨h5, fun hm => ?_⟩
      rcases List.mem_cons.1 hm with e | e
      · subst e
        obtain ⟨ds, hd⟩ := h3
        rw [List.getElem?_set_self (get_lt hb)] at hd
        cases hd
      · exact h4 e
    · rename_i hb
      obtain ⟨h1, h2, hmm⟩ := roB_spec ids hp
      refine ⟨h1, fun i hi => ?_, hmm⟩
      obtain ⟨h3, h4⟩ := h2 i hi
      refine ⟨h3, fun hm => ?_⟩
      rcases List.mem_cons.1 hm with e | e
      · subst e
        obtain ⟨ds, hd⟩ := h3
        exact hb ds hd
      · exact h4 e

theorem sim_ro : ∀ (ids : List Nat) {hp : List Blk}, Sim w H σ hp → Sim w H σ (roB hp ids) ∧ Step w (ownd σ hp) σ (liveAt hp) w (ownd σ (roB hp ids)) σ (liveAt (roB hp ids))
  | [], hp, S => ⟨S, Step.refl _ _ _ _⟩
  | id :: ids, hp, S => by
    simp only [roB, nthB_eq]
    split
    · rename_i cs hb
      rw [setB_eq]
      obtain ⟨h1, h2⟩ := sim_mark (st' := .ro) (cs' := cs) S hb (.inr ⟨by simp, rfl, rfl⟩)
      obtain ⟨h3, h4⟩ := sim_ro ids h1
      exact ⟨h3, h2.trans h4⟩
    · exact sim_ro ids S

/-- all that was there is as it was -/
structure Old (w w' : World) : Prop where
  os : w'.os = w.os
  tape : w'.tape = w.tape
  output : w'.output = w.output
  size : w.heap.size ≤ w'.heap.size
  same : ∀ (b : Nat), b < w.heap.size → w'.heap[b]? = w.heap[b]?

theorem Old.shape {w w' : World} (h : Old w w') (σ : List Addr) (L : Nat → Prop) : Shape w σ w' L := shape_of fun b c e f hb => by
    have : b < w.heap.size := by
      rcases Nat.lt_or_ge b w.heap.size with h' | h'
      · exact h'
      · simp [Array.getElem?_eq_none h'] at hb
    exact ⟨c, by rw [h.same b this]; exact hb, rfl⟩
theorem Old.step {w w' : World} (h : Old w w') (M : Nat → Prop) (σ : List Addr) (L : Nat → Prop) : Step w M σ L w' M σ L :=
  ⟨h.os, h.tape, h.output, h.size, fun _ _ h => h, fun b hb _ => h.same b hb, h.shape _ _, fun _ _ h => h, fun _ _ h => h⟩

theorem sim_old {w w' : World} (S : Sim w H σ hp) (h : Old w w') : Sim w' H σ hp :=
  ⟨S.len, fun i a ha => Nat.lt_of_lt_of_le (S.spot i a ha) h.size, fun b hb => Nat.lt_of_lt_of_le (S.foreign b hb) h.size, fun i s cs a hi hd ha k c hk => by
    obtain ⟨v, h1, h2⟩ := S.cells i s cs a hi hd ha k c hk
    exact ⟨v, by rw [cell?_same (w := w) (w' := w') (a := ⟨a.block, a.off + k, none⟩) (h.same _ (S.spot i a ha))]; exact h1, h2.step (h.step _ _ _)⟩,
   S.own, fun i a cs hi ha => by
    obtain ⟨c, e, h2, h3⟩ := S.live i a cs hi ha
    exact ⟨c, e, by rw [h.same _ (S.spot i a ha)]; exact h2, h3⟩, S.inj, fun i cs a hi ha => by
    obtain ⟨h1, es, ck, h2, h3⟩ := S.maps i cs a hi ha
    exact ⟨h1, es, ck, by rw [h.same _ (S.spot i a ha)]; exact h2, h3.step (h.step _ _ _)⟩, S.injm⟩

/-- nothing is there yet -/
theorem sim_nil (hH : ∀ b, H b → b < w.heap.size) : Sim w H [] [] :=
  ⟨rfl, fun i a h => by simp at h, hH, fun i s cs a h => by simp at h, fun i s cs a h => by simp at h, fun i a cs h => by simp at h, fun i j a b s cs h => by obtain ⟨ds, hd⟩ := h; simp at hd, fun i cs a h => by simp at h, fun i j a b h => by obtain ⟨ds, hd⟩ := h; simp at hd⟩

end
end Go.Ab
namespace Go.Ab
open Go

/-- what `finishL` makes: K: the blocks that go along, in order; F: those that were read -/
structure Fin (hp : List Blk) (kept : List Blk) (K F : List Nat) : Prop where
  len : kept.length = K.length
  blk : ∀ (j : Nat) id, K[j]? = some id → ∃ cs cs' ids, hp[id]? = some ⟨.live, cs⟩ ∧ mapIds (snap hp snapDepth) cs = some (cs', ids) ∧ (∀ x ∈ ids, x ∈ F) ∧ kept[j]? = some ⟨.live, cs'⟩
  nodup : K.Nodup
  apart : ∀ x ∈ K, x ∉ F

theorem Fin.more {hp kept : List Blk} {K F : List Nat} (h : Fin hp kept K F) {ids : List Nat} (hi : ∀ x ∈ ids, x ∉ K) : Fin hp kept K (ids ++ F) :=
  ⟨h.len, fun j id hj => by
    obtain ⟨cs, cs', i', e1, e2, e3, e4⟩ := h.blk j id hj
    exact ⟨cs, cs', i', e1, e2, fun x hx => List.mem_append_right _ (e3 x hx), e4⟩, h.nodup, fun x hx hm => by
    rcases List.mem_append.1 hm with hm | hm
    · exact hi x hm hx
    · exact h.apart x hx hm⟩

theorem Fin.snoc {hp kept : List Blk} {K F : List Nat} (h : Fin hp kept K F) {id : Nat} {cs cs' : List PV} {ids : List Nat} (hb : hp[id]? = some ⟨.live, cs⟩) (hs : mapIds (snap hp snapDepth) cs = some (cs', ids))
    (h1 : id ∉ K) (h2 : id ∉ F) (h3 : id ∉ ids) (h4 : ∀ x ∈ ids, x ∉ K) : Fin hp (kept ++ [⟨.live, cs'⟩]) (K ++ [id]) (ids ++ F) := by
  refine ⟨by simp [h.len], fun j i hj => ?_, ?_, fun x hx hm => ?_⟩
  · rcases snoc_get hj with ⟨hlt, hj⟩ | ⟨hlt, hj⟩
    · obtain ⟨ds, ds', i', e1, e2, e3, e4⟩ := h.blk j i hj
      exact ⟨ds, ds', i', e1, e2, fun x hx => List.mem_append_right _ (e3 x hx), by rw [List.getElem?_append_left (by rw [h.len]; exact hlt)]; exact e4⟩
    · subst hj
      exact ⟨cs, cs', ids, hb, hs, fun x hx => List.mem_append_left _ hx, by rw [hlt, ← h.len]; simp⟩
  · rw [List.nodup_append]
    exact ⟨h.nodup, by simp, fun a ha b hb e => by simp at hb; subst hb; subst e; exact h1 ha⟩
  · rcases List.mem_append.1 hx with hx | hx
    · rcases List.mem_append.1 hm with hm | hm
      · exact h4 x hm hx
      · exact h.apart x hx hm
    · simp at hx; subst hx
      rcases List.mem_append.1 hm with hm | hm
      · exact h3 hm
      · exact h2 hm

theorem any_contains {l m : List Nat} (h : l.any m.contains = false) : ∀ x ∈ l, x ∉ m := by
  intro x hx hm
  have : l.any m.contains = true := List.any_eq_true.2 ⟨x, hx, by simpa using hm⟩
  rw [h] at this; cases this

/-- how a result is handed back -/
def Hand (hp : List Blk) (K F : List Nat) (r r' : PV) : Prop :=
  (∃ id s off len x j, r = .own id s off len x ∧ r' = .own j s off len x ∧ K[j]? = some id) ∨ ∃ ids, snap hp snapDepth r = some (r', ids) ∧ ∀ x ∈ ids, x ∈ F

theorem finishL_ok (hp : List Blk) : ∀ (rs : List PV) (kept : List Blk) (K K0 F : List Nat) (rs' : List PV) (kept' : List Blk), finishL hp kept K F rs = some (rs', kept') → (∀ x, x ∈ K ↔ x ∈ K0) → Fin hp kept K0 F →
    ∃ K1 F1, Fin hp kept' (K0 ++ K1) F1 ∧ (∀ x ∈ F, x ∈ F1) ∧ rs'.length = rs.length ∧ ∀ (k : Nat) r r', rs[k]? = some r → rs'[k]? = some r' → Hand hp (K0 ++ K1) F1 r r'
  | [], kept, K, K0, F, rs', kept', h, _, hF => by
    simp [finishL] at h
    obtain ⟨rfl, rfl⟩ := h
    exact ⟨[], F, by simpa using hF, fun _ h => h, rfl, fun k r r' h => by simp at h⟩
  | r :: rs, kept, K, K0, F, rs', kept', h, hK, hF => by
    -- one that is read
    have other : ∀ (r' : PV) (ids : List Nat) (rs2 : List PV), snap hp snapDepth r = some (r', ids) → ids.any K.contains = false → finishL hp kept K (ids ++ F) rs = some (rs2, kept') → rs' = r' :: rs2 →
        ∃ K1 F1, Fin hp kept' (K0 ++ K1) F1 ∧ (∀ x ∈ F, x ∈ F1) ∧ rs'.length = (r :: rs).length ∧ ∀ (k : Nat) r1 r1', (r :: rs)[k]? = some r1 → rs'[k]? = some r1' → Hand hp (K0 ++ K1) F1 r1 r1' := by
      intro r' ids rs2 hs ha hf e
      subst e
      obtain ⟨K1, F1, g1, g2, g3, g4⟩ := finishL_ok hp rs kept K K0 (ids ++ F) rs2 kept' hf hK (hF.more (fun x hx hm => any_contains ha x hx ((hK x).2 hm)))
      refine ⟨K1, F1, g1, fun x hx => g2 x (List.mem_append_right _ hx), by simp [g3], fun k r1 r1' h1 h2 => ?_⟩
      cases k with
      | zero =>
        simp at h1 h2; subst h1; subst h2
        exact .inr ⟨ids, hs, fun x hx => g2 x (List.mem_append_left _ hx)⟩
      | succ k => simp at h1 h2; exact g4 k r1 r1' h1 h2
    have other' : (match snap hp snapDepth r with
        | some (r', ids) => if ids.any K.contains then none else match finishL hp kept K (ids ++ F) rs with
          | some (rs', k) => some (r' :: rs', k)
          | none => none
        | none => none) = some (rs', kept') →
        ∃ K1 F1, Fin hp kept' (K0 ++ K1) F1 ∧ (∀ x ∈ F, x ∈ F1) ∧ rs'.length = (r :: rs).length ∧ ∀ (k : Nat) r1 r1', (r :: rs)[k]? = some r1 → rs'[k]? = some r1' → Hand hp (K0 ++ K1) F1 r1 r1' := by
      intro h
      split at h
      · rename_i r' ids hs
        split at h
        · cases h
        · rename_i ha
          split at h
          · rename_i rs2 k hf
            simp only [Option.some.injEq, Prod.mk.injEq] at h
            obtain ⟨rfl, rfl⟩ := h
            exact other r' ids rs2 hs (by simpa using ha) hf rfl
          · cases h
      · cases h
    cases r with
    | own id s off len x =>
      simp only [finishL, nthB_eq] at h
      split at h
      · rename_i cs hb
        split at h
        · rename_i cs' ids hs
          split at h
          · cases h
          · rename_i hc
            split at h
            · rename_i rs2 k hf
              simp only [Option.some.injEq, Prod.mk.injEq] at h
              obtain ⟨rfl, rfl⟩ := h
              simp only [Bool.or_eq_true, not_or, Bool.not_eq_true] at hc
              obtain ⟨⟨⟨c1, c2⟩, c3⟩, c4⟩ := hc
              have n1 : id ∉ K0 := fun hm => by
                have : K.contains id = true := by simpa using (hK id).2 hm
                rw [c1] at this; cases this
              have n2 : id ∉ F := fun hm => by
                have : F.contains id = true := by simpa using hm
                rw [c2] at this; cases this
              have n3 : id ∉ ids := fun hm => by
                have : ids.contains id = true := by simpa using hm
                rw [c3] at this; cases this
              have n4 : ∀ x ∈ ids, x ∉ K0 := fun x hx hm => any_contains c4 x hx ((hK x).2 hm)
              obtain ⟨K1, F1, g1, g2, g3, g4⟩ := finishL_ok hp rs _ (id :: K) (K0 ++ [id]) (ids ++ F) rs2 k hf (fun x => by simp [hK x]; exact or_comm) (hF.snoc hb hs n1 n2 n3 n4)
              have e : K0 ++ [id] ++ K1 = K0 ++ (id :: K1) := by simp
              rw [e] at g1 g4
              refine ⟨id :: K1, F1, g1, fun x hx => g2 x (List.mem_append_right _ hx), by simp [g3], fun k r1 r1' h1 h2 => ?_⟩
              cases k with
              | zero =>
                simp at h1 h2; subst h1; subst h2
                exact .inl ⟨id, s, off, len, x, kept.length, rfl, rfl, by rw [hF.len]; simp⟩
              | succ k => simp at h1 h2; exact g4 k r1 r1' h1 h2
            · cases h
        · cases h
      · exact other' h
    | _ =>
      simp only [finishL] at h
      exact other' h

section
variable {w : World} {H : Nat → Prop} {hp : List Blk} {σ : List Addr}

theorem kept_sim (S : Sim w H σ hp) {kept : List Blk} {K F : List Nat} (hF : Fin hp kept K F) : ∃ σk, Sim w H σk kept ∧ (∀ (j : Nat) id, K[j]? = some id → σk[j]? = σ[id]?) ∧ (∀ b, ownd σk kept b → ownd σ hp b) ∧
    (∀ b, hot H σk kept b → but H σ hp F b) := by
  have hid : ∀ (j : Nat) id, K[j]? = some id → ∃ a, σ[id]? = some a ∧ liveAt hp id := by
    intro j id hj
    obtain ⟨cs, cs', ids, e1, _⟩ := hF.blk j id hj
    have hlt := get_lt e1
    rw [← S.len] at hlt
    exact ⟨σ[id], List.getElem?_eq_getElem hlt, cs, e1⟩
  let σk : List Addr := K.map fun id => (σ[id]?).getD ⟨0, 0, none⟩
  have hσ : ∀ (j : Nat) id, K[j]? = some id → σk[j]? = σ[id]? := by
    intro j id hj
    obtain ⟨a, ha, _⟩ := hid j id hj
    simp [σk, hj, ha]
  have hσ' : ∀ (j : Nat) a, σk[j]? = some a → ∃ id, K[j]? = some id ∧ σ[id]? = some a ∧ liveAt hp id := by
    intro j a ha
    have hlt := get_lt ha
    simp [σk] at hlt
    have hj : K[j]? = some K[j] := List.getElem?_eq_getElem hlt
    obtain ⟨a', ha', hl⟩ := hid j _ hj
    rw [hσ j _ hj, ha'] at ha
    cases ha
    exact ⟨_, hj, ha', hl⟩
  have hown : ∀ b, ownd σk kept b → ∃ i a, liveAt hp i ∧ i ∈ K ∧ σ[i]? = some a ∧ a.block = b := by
    rintro b ⟨j, a, h1, h2, h3⟩
    obtain ⟨id, k1, k2, k3⟩ := hσ' j a h2
    exact ⟨id, a, k3, List.mem_of_getElem? k1, k2, h3⟩
  have hbut : ∀ b, hot H σk kept b → but H σ hp F b := by
    rintro b (h | h)
    · exact .inl h
    · obtain ⟨i, a, h1, h2, h3, h4⟩ := hown b h
      exact .inr ⟨i, a, .inl ⟨h1, hF.apart i h2⟩, h3, h4⟩
  have cellV : ∀ (j : Nat) id cs cs' ids a, K[j]? = some id → hp[id]? = some ⟨.live, cs⟩ → mapIds (snap hp snapDepth) cs = some (cs', ids) → (∀ x ∈ ids, x ∈ F) → σ[id]? = some a → ∀ (k : Nat) c, cs'[k]? = some c →
      ∃ v, w.cell? ⟨a.block, a.off + k, none⟩ = some v ∧ V w (hot H σk kept) σk (liveAt kept) c v := by
    intro j id cs cs' ids a hj hb hs hi ha k c hk
    obtain ⟨hl, h2⟩ := mapIds_some hs
    have hk1 : k < cs.length := by have := get_lt hk; omega
    obtain ⟨c', i', e1, e2, e3⟩ := h2 k _ (List.getElem?_eq_getElem hk1)
    rw [hk] at e1; cases e1
    obtain ⟨v, g1, g2⟩ := S.cells id .live cs a hb (by simp) ha k _ (List.getElem?_eq_getElem hk1)
    obtain ⟨r1, r2⟩ := snap_ok S snapDepth e2 (fun x hx => hi x (e3 x hx)) g2
    exact ⟨v, g1, r1.idf (fun b _ hb => hbut b hb) r2⟩
  have nomap : ∀ {i : Nat} {cs : List PV} {a : Addr}, kept[i]? = some ⟨.dead, .any :: cs⟩ → σk[i]? = some a → False := by
    intro i cs a hi ha
    obtain ⟨id, k1, k2, k3⟩ := hσ' i a ha
    obtain ⟨ds, ds', ids, e1, e2, e3, e4⟩ := hF.blk i id k1
    rw [hi] at e4; cases e4
  refine ⟨σk, ⟨?_, fun j a ha => ?_, S.foreign, fun j st cs a hj hd ha k c hk => ?_, fun j st cs a hj hd ha => ?_, fun j a cs hj ha => ?_, fun i j a b st cs hi hj hd hne ha hb => ?_, fun i cs a hi ha => (nomap hi ha).elim, fun i j a b hi hj hne ha hb => by obtain ⟨ds, hi⟩ := hi; exact (nomap hi ha).elim⟩, hσ, fun b hb => ?_, hbut⟩
  · simp [σk, hF.len]
  · obtain ⟨id, k1, k2, k3⟩ := hσ' j a ha; exact S.spot id a k2
  · obtain ⟨id, k1, k2, k3⟩ := hσ' j a ha
    obtain ⟨ds, ds', ids, e1, e2, e3, e4⟩ := hF.blk j id k1
    rw [hj] at e4; cases e4
    exact cellV j id ds cs ids a k1 e1 e2 e3 k2 k c hk
  · obtain ⟨id, k1, k2, ds, k3⟩ := hσ' j a ha
    exact S.own id .live ds a k3 (by simp) k2
  · obtain ⟨id, k1, k2, k3⟩ := hσ' j a ha
    obtain ⟨ds, ds', ids, e1, e2, e3, e4⟩ := hF.blk j id k1
    rw [hj] at e4; cases e4
    obtain ⟨c, e, h1, h2⟩ := S.live id a ds e1 k2
    exact ⟨c, e, h1, by rw [(mapIds_some e2).1]; exact h2⟩
  · obtain ⟨id1, k1, k2, k3⟩ := hσ' i a ha
    obtain ⟨id2, l1, l2, ds, l3⟩ := hσ' j b hb
    refine S.inj id1 id2 a b .live ds k3 l3 (by simp) (fun e => ?_) k2 l2
    subst e
    have h1 := get_lt k1
    have h2 := get_lt l1
    have e1 : K[i] = id1 := by rw [List.getElem?_eq_getElem h1] at k1; simpa using k1
    have e2 : K[j] = id1 := by rw [List.getElem?_eq_getElem h2] at l1; simpa using l1
    exact hne ((List.getElem_inj hF.nodup).1 (e1.trans e2.symm))
  · obtain ⟨i, a, h1, h2, h3, h4⟩ := hown b hb
    exact ⟨i, a, .inl h1, h3, h4⟩

theorem snap_idfree (hp : List Blk) : ∀ (d : Nat) {p p' : PV} {ids : List Nat}, snap hp d p = some (p', ids) → p'.idfree = true
  | 0, p, p', ids, h => by simp [snap] at h
  | d + 1, p, p', ids, h => by
    have list : ∀ {cs l : List PV} {ids : List Nat}, mapIds (snap hp d) cs = some (l, ids) → idfreeL l = true := by
      intro cs l ids hm
      obtain ⟨h1, h2⟩ := mapIds_some hm
      refine idfreeL_of (fun k c hk => ?_)
      have hk1 : k < cs.length := by have := get_lt hk; omega
      obtain ⟨c', i', e1, e2, _⟩ := h2 k _ (List.getElem?_eq_getElem hk1)
      rw [hk] at e1; cases e1
      exact snap_idfree hp d e2
    cases p with
    | own id s off len x =>
      simp only [snap, nthB_eq] at h
      split at h
      · split at h
        · cases h
        · split at h
          · split at h
            · simp only [Option.some.injEq, Prod.mk.injEq] at h
              obtain ⟨rfl, _⟩ := h; rfl
            · cases h
          · cases h
      · cases h
    | agg cs =>
      simp only [snap] at h
      split at h
      · rename_i hm
        simp only [Option.some.injEq, Prod.mk.injEq] at h
        obtain ⟨rfl, _⟩ := h
        simp only [PV.idfree]
        exact list hm
      · cases h
    | clos f caps =>
      simp only [snap] at h
      split at h
      · rename_i hf
        simp only [Option.some.injEq, Prod.mk.injEq] at h
        obtain ⟨rfl, _⟩ := h
        simp only [PV.idfree]; exact hf
      · cases h
    | ptr => simp [snap] at h
    | mp => simp [snap] at h
    | bmet => simp [snap] at h
    | tup => simp [snap] at h
    | any => simp only [snap, Option.some.injEq, Prod.mk.injEq] at h; obtain ⟨rfl, _⟩ := h; rfl
    | sc v => simp only [snap, Option.some.injEq, Prod.mk.injEq] at h; obtain ⟨rfl, _⟩ := h; rfl
    | imm => simp only [snap, Option.some.injEq, Prod.mk.injEq] at h; obtain ⟨rfl, _⟩ := h; rfl
    | iptr => simp only [snap, Option.some.injEq, Prod.mk.injEq] at h; obtain ⟨rfl, _⟩ := h; rfl

/-- what a call on its own hands back -/
theorem finish_ok (S : Sim w H σ hp) {rs rs' : List PV} {kept : List Blk} {vs : List Value} (h : finishL hp [] [] [] rs = some (rs', kept)) (hv : Vs w (hot H σ hp) σ (liveAt hp) rs vs) :
    ∃ σk, Sim w H σk kept ∧ Vs w (hot H σk kept) σk (liveAt kept) rs' vs ∧ (∀ b, ownd σk kept b → ownd σ hp b) ∧ (∀ (k : Nat) r, rs'[k]? = some r → r.idfree = true ∨ ∃ id s off len x, r = .own id s off len x) ∧ ∀ (i : Nat) b, kept[i]? = some b → b.st = .live ∧ idfreeL b.cs = true := by
  obtain ⟨K1, F1, g1, g2, g3, g4⟩ := finishL_ok hp rs [] [] [] [] rs' kept h (fun x => Iff.rfl) ⟨rfl, fun j id h => by simp at h, by simp, fun x h => by simp at h⟩
  simp only [List.nil_append] at g1 g4
  obtain ⟨σk, h1, h2, h3, h4⟩ := kept_sim S g1
  have key : ∀ (k : Nat) r' , rs'[k]? = some r' → ∃ r v, rs[k]? = some r ∧ vs[k]? = some v ∧ Hand hp K1 F1 r r' ∧ V w (hot H σ hp) σ (liveAt hp) r v := by
    intro k r' hk
    have hk1 : k < rs.length := by have := get_lt hk; omega
    have hk2 : k < vs.length := by have := hv.1; omega
    exact ⟨_, _, List.getElem?_eq_getElem hk1, List.getElem?_eq_getElem hk2, g4 k _ r' (List.getElem?_eq_getElem hk1) hk, hv.2 k _ _ (List.getElem?_eq_getElem hk1) (List.getElem?_eq_getElem hk2)⟩
  refine ⟨σk, h1, ⟨by rw [g3]; exact hv.1, fun k r' v hk hvk => ?_⟩, h3, fun k r' hk => ?_, fun i b hb => ?_⟩
  · obtain ⟨r, v', e1, e2, e3, e4⟩ := key k r' hk
    rw [hvk] at e2; cases e2
    rcases e3 with ⟨id, s, off, len, x, j, rfl, rfl, hj⟩ | ⟨ids, hs, hi⟩
    · cases e4 with
      | own _ _ _ _ _ a b cap q1 q2 q3 q4 q5 =>
        refine .own j s off len x a b cap (by rw [h2 j id hj]; exact q1) q2 q3 q4 (fun _ => q5 ?_)
        obtain ⟨cs, cs', ids, f1, _⟩ := g1.blk j id hj
        exact ⟨cs, f1⟩
    · obtain ⟨r1, r2⟩ := snap_ok S snapDepth hs hi e4
      exact r1.idf (fun b _ hb => h4 b hb) r2
  · obtain ⟨r, v', e1, e2, e3, e4⟩ := key k r' hk
    rcases e3 with ⟨id, s, off, len, x, j, rfl, rfl, hj⟩ | ⟨ids, hs, hi⟩
    · exact .inr ⟨j, s, off, len, x, rfl⟩
    · exact .inl (snap_ok S snapDepth hs hi e4).2
  · have hi : i < K1.length := by rw [← g1.len]; exact get_lt hb
    obtain ⟨cs, cs', ids, e1, e2, e3, e4⟩ := g1.blk i _ (List.getElem?_eq_getElem hi)
    rw [hb] at e4; cases e4
    refine ⟨rfl, idfreeL_of (fun k c hk => ?_)⟩
    obtain ⟨q1, q2⟩ := mapIds_some e2
    have hk1 : k < cs.length := by have : k < cs'.length := get_lt hk; omega
    obtain ⟨c', i', f1, f2, _⟩ := q2 k _ (List.getElem?_eq_getElem hk1)
    rw [hk] at f1; cases f1
    exact snap_idfree hp _ f2

/-- two heaps, side by side -/
theorem sim_join {w' : World} {H' : Nat → Prop} {σk : List Addr} {kept : List Blk} (S : Sim w H σ hp) (ho : Old w w') (Sk : Sim w' H' σk kept) (hH : ∀ b, hot H σ hp b → H' b)
    (hnew : ∀ b, ownd σk kept b → w.heap.size ≤ b) (hkl : ∀ (i : Nat) b, kept[i]? = some b → b.st = .live) (hidf : ∀ (i : Nat) b, kept[i]? = some b → idfreeL b.cs = true) :
    Sim w' H (σ ++ σk) (hp ++ kept) ∧ Step w (ownd σ hp) σ (liveAt hp) w' (ownd (σ ++ σk) (hp ++ kept)) (σ ++ σk) (liveAt (hp ++ kept)) ∧ (∀ b, hot H (σ ++ σk) (hp ++ kept) b → hot H' σk kept b) := by
  have hget : ∀ {i : Nat} {a : Addr}, (σ ++ σk)[i]? = some a → (i < hp.length ∧ σ[i]? = some a) ∨ (hp.length ≤ i ∧ σk[i - hp.length]? = some a) := by
    intro i a h
    rcases Nat.lt_or_ge i hp.length with h' | h'
    · rw [List.getElem?_append_left (by rw [S.len]; exact h')] at h; exact .inl ⟨h', h⟩
    · rw [List.getElem?_append_right (by rw [S.len]; exact h'), S.len] at h; exact .inr ⟨h', h⟩
  have hblk : ∀ {i : Nat} {b : Blk}, (hp ++ kept)[i]? = some b → (i < hp.length ∧ hp[i]? = some b) ∨ (hp.length ≤ i ∧ kept[i - hp.length]? = some b) := by
    intro i b h
    rcases Nat.lt_or_ge i hp.length with h' | h'
    · rw [List.getElem?_append_left h'] at h; exact .inl ⟨h', h⟩
    · rw [List.getElem?_append_right h'] at h; exact .inr ⟨h', h⟩
  have hlv : ∀ {i : Nat}, liveAt (hp ++ kept) i → (i < hp.length ∧ liveAt hp i) ∨ (hp.length ≤ i ∧ liveAt kept (i - hp.length)) := by
    rintro i ⟨cs, h⟩
    rcases hblk h with ⟨h1, h2⟩ | ⟨h1, h2⟩
    · exact .inl ⟨h1, cs, h2⟩
    · exact .inr ⟨h1, cs, h2⟩
  have hmp : ∀ {i : Nat}, mapAt (hp ++ kept) i → i < hp.length ∧ mapAt hp i := by
    rintro i ⟨cs, h⟩
    rcases hblk h with ⟨h1, h2⟩ | ⟨h1, h2⟩
    · exact ⟨h1, cs, h2⟩
    · have := hkl _ _ h2; cases this
  have hov : ∀ {i : Nat}, ownAt (hp ++ kept) i → (i < hp.length ∧ ownAt hp i) ∨ (hp.length ≤ i ∧ ownAt kept (i - hp.length)) := by
    rintro i (h | h)
    · exact (hlv h).imp (fun h => ⟨h.1, .inl h.2⟩) (fun h => ⟨h.1, .inl h.2⟩)
    · exact .inl ⟨(hmp h).1, .inr (hmp h).2⟩
  have kown : ∀ {i : Nat} {a : Addr} {b : Blk}, kept[i]? = some b → σk[i]? = some a → ownd σk kept a.block := by
    intro i a b h1 h2
    refine ⟨i, a, .inl ⟨b.cs, ?_⟩, h2, rfl⟩
    rw [h1]
    have := hkl i b h1
    cases b; simp at this; simp [this]
  have hown : ∀ b, ownd (σ ++ σk) (hp ++ kept) b → ownd σ hp b ∨ ownd σk kept b := by
    rintro b ⟨i, a, h1, h2, h3⟩
    rcases hov h1 with ⟨l1, h1⟩ | ⟨l1, h1⟩ <;> rcases hget h2 with ⟨l2, h2⟩ | ⟨l2, h2⟩
    · exact .inl ⟨i, a, h1, h2, h3⟩
    · omega
    · omega
    · exact .inr ⟨_, a, h1, h2, h3⟩
  have hhot : ∀ b, hot H (σ ++ σk) (hp ++ kept) b → hot H' σk kept b := by
    rintro b (h | h)
    · exact .inl (hH b (.inl h))
    · rcases hown b h with h | h
      · exact .inl (hH b (.inr h))
      · exact .inr h
  have st0 := ho.step (ownd σ hp) σ (liveAt hp)
  have st : Step w (ownd σ hp) σ (liveAt hp) w' (ownd (σ ++ σk) (hp ++ kept)) (σ ++ σk) (liveAt (hp ++ kept)) := by
    refine ⟨st0.os, st0.tape, st0.output, st0.size, fun i a ha => ?_, fun b hb _ => ho.same b hb, ho.shape _ _, fun b hb hm => ?_, fun i hi hm => ?_⟩
    · rw [List.getElem?_append_left (get_lt ha)]; exact ha
    · rcases hown b hm with h | h
      · exact h
      · have := hnew b h; omega
    · rcases hlv hm with ⟨_, h⟩ | ⟨h, _⟩
      · exact h
      · rw [S.len] at hi; omega
  refine ⟨⟨by simp [S.len, Sk.len], fun i a ha => ?_, fun b hb => Nat.lt_of_lt_of_le (S.foreign b hb) ho.size, fun i s cs a hi hd ha k c hk => ?_, fun i s cs a hi hd ha => ?_, fun i a cs hi ha => ?_, fun i j a b s cs hi hj hd hne ha hb => ?_, fun i cs a hi ha => ?_, fun i j a b hi hj hne ha hb => ?_⟩, st, hhot⟩
  · rcases hget ha with ⟨_, h⟩ | ⟨_, h⟩
    · exact Nat.lt_of_lt_of_le (S.spot i a h) ho.size
    · exact Sk.spot _ a h
  · rcases hblk hi with ⟨l1, hi⟩ | ⟨l1, hi⟩ <;> rcases hget ha with ⟨l2, ha⟩ | ⟨l2, ha⟩
    · obtain ⟨v, h1, h2⟩ := S.cells i s cs a hi hd ha k c hk
      exact ⟨v, by rw [cell?_same (w := w) (w' := w') (a := ⟨a.block, a.off + k, none⟩) (ho.same _ (S.spot i a ha))]; exact h1, h2.step st⟩
    · omega
    · omega
    · obtain ⟨v, h1, h2⟩ := Sk.cells _ s cs a hi hd ha k c hk
      exact ⟨v, h1, h2.idf (fun b _ hb => hhot b hb) (idfree_get (hidf _ _ hi) hk)⟩
  · rcases hblk hi with ⟨l1, hi⟩ | ⟨l1, hi⟩ <;> rcases hget ha with ⟨l2, ha⟩ | ⟨l2, ha⟩
    · exact S.own i s cs a hi hd ha
    · omega
    · omega
    · intro hh
      have h1 := hnew _ (kown hi ha)
      have h2 := S.foreign _ hh
      omega
  · rcases hblk hi with ⟨l1, hi⟩ | ⟨l1, hi⟩ <;> rcases hget ha with ⟨l2, ha⟩ | ⟨l2, ha⟩
    · obtain ⟨c, e, h1, h2⟩ := S.live i a cs hi ha
      exact ⟨c, e, by rw [ho.same _ (S.spot i a ha)]; exact h1, h2⟩
    · omega
    · omega
    · exact Sk.live _ a cs hi ha
  · rcases hlv hi with ⟨l1, hi⟩ | ⟨l1, hi⟩ <;> rcases hget ha with ⟨l2, ha⟩ | ⟨l2, ha⟩ <;> rcases hblk hj with ⟨l3, hj⟩ | ⟨l3, hj⟩ <;> rcases hget hb with ⟨l4, hb⟩ | ⟨l4, hb⟩ <;> first | omega | skip
    · exact S.inj i j a b s cs hi hj hd hne ha hb
    · have h1 := S.spot i a ha
      have h2 := hnew _ (kown hj hb)
      omega
    · obtain ⟨ds, hi⟩ := hi
      have h1 := S.spot j b hb
      have h2 := hnew _ (kown hi ha)
      omega
    · exact Sk.inj _ _ a b s cs hi hj hd (by omega) ha hb
  · obtain ⟨l1, _⟩ := hmp ⟨cs, hi⟩
    rcases hblk hi with ⟨_, hi⟩ | ⟨l2, _⟩
    · rcases hget ha with ⟨_, ha⟩ | ⟨l2, _⟩
      · obtain ⟨h1, es, ck, h2, h3⟩ := S.maps i cs a hi ha
        exact ⟨h1, es, ck, by rw [ho.same _ (S.spot i a ha)]; exact h2, h3.step st⟩
      · omega
    · omega
  · obtain ⟨l1, hi⟩ := hmp hi
    obtain ⟨l2, hj⟩ := hmp hj
    rcases hget ha with ⟨_, ha⟩ | ⟨l3, _⟩
    · rcases hget hb with ⟨_, hb⟩ | ⟨l3, _⟩
      · exact S.injm i j a b hi hj hne ha hb
      · omega
    · omega

end
end Go.Ab
namespace Go.Ab
open Go

def RunEff (run : Runs) : Prop := ∀ g args hp rs hp' wr, run g args hp = some (rs, hp', wr) → hp.length ≤ hp'.length ∧ ∀ i, i < hp.length → i ∉ wr → hp'[i]? = hp[i]?
def RunOk (C : Cfg) (run : Runs) : Prop := ∀ g args hp rs hp' wr, run g args hp = some (rs, hp', wr) → ∀ (w : World) (H : Nat → Prop) (σ : List Addr) (vs : List Value), Sim w H σ hp → Vs w (hot H σ hp) σ (liveAt hp) args vs →
    CallOk C.P g vs.toArray w fun v w' => ∃ σ' us, v = retV us ∧ Vs w' (hot H σ' hp') σ' (liveAt hp') rs us ∧ Sim w' H σ' hp' ∧ Step w (ownd σ hp) σ (liveAt hp) w' (ownd σ' hp') σ' (liveAt hp')
/-- a function on the caller's memory does what f tells -/
def SOk (P : Program) (g : FuncId) (f : List PV → (Nat → Option Blk) → Option (List PV × Option (Nat × Blk))) : Prop := ∀ args hp rs hp' wr, sorcRun f args hp = some (rs, hp', wr) → ∀ (w : World) (H : Nat → Prop) (σ : List Addr) (vs : List Value), Sim w H σ hp → Vs w (hot H σ hp) σ (liveAt hp) args vs →
    CallOk P g vs.toArray w fun v w' => ∃ σ' us, v = retV us ∧ Vs w' (hot H σ' hp') σ' (liveAt hp') rs us ∧ Sim w' H σ' hp' ∧ Step w (ownd σ hp) σ (liveAt hp) w' (ownd σ' hp') σ' (liveAt hp')
def OrcOk (C : Cfg) : Prop := ∀ g args rs, C.orc g args = some rs → idfreeL args = true → idfreeL rs = true ∧ ∀ (w : World) (M : Nat → Prop) (vs : List Value), (∀ b, M b → b < w.heap.size) → Vs w M [] NoL args vs →
    CallOk C.P g vs.toArray w fun v w' => ∃ us, v = retV us ∧ Vs w' M [] NoL rs us ∧ Old w w'

theorem blt_iff {a n : Nat} : Nat.blt a n = true ↔ a < n := by
  unfold Nat.blt; rw [Nat.ble_eq]; exact Iff.rfl

section
variable {w : World} {H : Nat → Prop} {hp : List Blk} {σ : List Addr}

theorem idsLt_get {n : Nat} {cs : List PV} (h : idsLtL n cs = true) {k : Nat} {c : PV} (hk : cs[k]? = some c) : c.idsLt n = true := by
  induction cs generalizing k with
  | nil => simp at hk
  | cons d cs ih =>
    simp [idsLtL] at h
    cases k with
    | zero => simp at hk; subst hk; exact h.1
    | succ k => simp at hk; exact ih h.2 hk
theorem idsLt_of {n : Nat} {cs : List PV} (h : ∀ (k : Nat) c, cs[k]? = some c → c.idsLt n = true) : idsLtL n cs = true := by
  induction cs with
  | nil => rfl
  | cons c cs ih =>
    simp only [idsLtL, Bool.and_eq_true]
    exact ⟨h 0 c rfl, ih (fun k d hk => h (k + 1) d (by simpa using hk))⟩

theorem V.idsLt {M : Nat → Prop} {L : Nat → Prop} {p : PV} {v : Value} (hv : V w M σ L p v) : p.idsLt σ.length = true := by
  induction hv with
  | any => rfl
  | sc => rfl
  | agg cs vs hl _ ih =>
    simp only [PV.idsLt]
    exact idsLt_of (fun k c hk => by
      have hk1 := get_lt hk
      exact ih k c _ hk (Array.getElem?_eq_getElem (show k < vs.size by omega)))
  | tup cs vs hl _ ih =>
    simp only [PV.idsLt]
    exact idsLt_of (fun k c hk => by
      have hk1 := get_lt hk
      exact ih k c _ hk (Array.getElem?_eq_getElem (show k < vs.size by omega)))
  | nil => rfl
  | imm => rfl
  | own id s off len x a b cap h1 => simp only [PV.idsLt, blt_iff]; exact get_lt h1
  | ptr id off a h1 => simp only [PV.idsLt, blt_iff]; exact get_lt h1
  | iptr => rfl
  | clos f cs vs hl _ ih =>
    simp only [PV.idsLt]
    exact idsLt_of (fun k c hk => by
      have hk1 := get_lt hk
      exact ih k c _ hk (Array.getElem?_eq_getElem (show k < vs.size by omega)))
  | bmet f cs vs hl _ ih =>
    simp only [PV.idsLt]
    exact idsLt_of (fun k c hk => by
      have hk1 := get_lt hk
      exact ih k c _ hk (Array.getElem?_eq_getElem (show k < vs.size by omega)))
  | mp id a h1 => simp only [PV.idsLt, blt_iff]; exact get_lt h1

theorem V.trunc {M M' : Nat → Prop} {L L' : Nat → Prop} {σ' : List Addr} {n : Nat} (hσ : ∀ (i : Nat) a, i < n → σ[i]? = some a → σ'[i]? = some a) (hM : ∀ b, M' b → M b) (hL : ∀ i, i < n → L' i → L i)
    {p : PV} {v : Value} (hv : V w M σ L p v) (h : p.idsLt n = true) : V w M' σ' L' p v := by
  induction hv with
  | any v => exact .any v
  | sc v => exact .sc v
  | agg cs vs hl _ ih =>
    simp only [PV.idsLt] at h
    exact .agg cs vs hl (fun k c v h1 h2 => ih k c v h1 h2 (idsLt_get h h1))
  | tup cs vs hl _ ih =>
    simp only [PV.idsLt] at h
    exact .tup cs vs hl (fun k c v h1 h2 => ih k c v h1 h2 (idsLt_get h h1))
  | nil x => exact .nil x
  | imm len x cs a cap g h1 h2 h3 h4 _ =>
    exact .imm len x cs a cap g h1 h2 (fun k c hk => ⟨(h3 k c hk).1, (h3 k c hk).2.1, fun hm => (h3 k c hk).2.2.1 (hM _ hm), (h3 k c hk).2.2.2⟩) (fun k c hk => (h4 k c hk).idf (fun b _ hb => hM b hb) (h3 k c hk).2.1)
  | own id s off len x a b cap h1 h2 h3 h4 h5 =>
    have hid : id < n := by simpa only [PV.idsLt, blt_iff] using h
    exact .own id s off len x a b cap (hσ id a hid h1) h2 h3 h4 (fun hl => h5 (hL id hid hl))
  | ptr id off a h1 =>
    have hid : id < n := by simpa only [PV.idsLt, blt_iff] using h
    exact .ptr id off a (hσ id a hid h1)
  | iptr cs a g h3 h4 _ =>
    exact .iptr cs a g (fun k c hk => ⟨(h3 k c hk).1, (h3 k c hk).2.1, fun hm => (h3 k c hk).2.2.1 (hM _ hm), (h3 k c hk).2.2.2⟩) (fun k c hk => (h4 k c hk).idf (fun b _ hb => hM b hb) (h3 k c hk).2.1)
  | clos f cs vs hl _ ih =>
    simp only [PV.idsLt] at h
    exact .clos f cs vs hl (fun k c v h1 h2 => ih k c v h1 h2 (idsLt_get h h1))
  | bmet f cs vs hl _ ih =>
    simp only [PV.idsLt] at h
    exact .bmet f cs vs hl (fun k c v h1 h2 => ih k c v h1 h2 (idsLt_get h h1))
  | mp id a h1 =>
    have hid : id < n := by simpa only [PV.idsLt, blt_iff] using h
    exact .mp id a (hσ id a hid h1)
theorem MapRel.trunc {M M' : Nat → Prop} {L L' : Nat → Prop} {σ' : List Addr} {n : Nat} (hσ : ∀ (i : Nat) a, i < n → σ[i]? = some a → σ'[i]? = some a) (hM : ∀ b, M' b → M b) (hL : ∀ i, i < n → L' i → L i) :
    ∀ {cs : List PV} {es : List MapEntry}, MapRel w M σ L cs es → idsLtL n cs = true → MapRel w M' σ' L' cs es
  | [], [], _, _ => trivial
  | k :: v :: r, e :: es, hr, h => by
    simp only [idsLtL, Bool.and_eq_true] at h
    exact ⟨hr.1.trunc hσ hM hL h.1, hr.2.1.trunc hσ hM hL h.2.1, MapRel.trunc hσ hM hL hr.2.2 h.2.2⟩
  | [], _ :: _, hr, _ => hr.elim
  | [_], [], hr, _ => hr.elim
  | [_], _ :: _, hr, _ => hr.elim
  | _ :: _ :: _, [], hr, _ => hr.elim
theorem MapRel.idsLt {M : Nat → Prop} {L : Nat → Prop} : ∀ {cs : List PV} {es : List MapEntry}, MapRel w M σ L cs es → idsLtL σ.length cs = true
  | [], [], _ => rfl
  | k :: v :: r, e :: es, hr => by
    simp only [idsLtL, Bool.and_eq_true]
    exact ⟨hr.1.idsLt, hr.2.1.idsLt, MapRel.idsLt hr.2.2⟩
  | [], _ :: _, hr => hr.elim
  | [_], [], hr => hr.elim
  | [_], _ :: _, hr => hr.elim
  | _ :: _ :: _, [], hr => hr.elim

theorem take_get {α : Type} {l : List α} {n i : Nat} {a : α} (h : (l.take n)[i]? = some a) : i < n ∧ l[i]? = some a := by
  rw [List.getElem?_take] at h
  split at h
  · rename_i hi; exact ⟨hi, h⟩
  · cases h

/-- the later blocks are forgotten -/
theorem sim_trunc (S : Sim w H σ hp) {n : Nat} (hn : ∀ (i : Nat) st cs, i < n → hp[i]? = some ⟨st, cs⟩ → st ≠ .dead → idsLtL n cs = true) (hnm : ∀ (i : Nat) cs, i < n → hp[i]? = some ⟨.dead, .any :: cs⟩ → idsLtL n cs = true) :
    Sim w H (σ.take n) (hp.take n) ∧ (∀ b, hot H (σ.take n) (hp.take n) b → hot H σ hp b) ∧ (∀ b, ownd (σ.take n) (hp.take n) b → ownd σ hp b) ∧ ∀ i, liveAt (hp.take n) i → liveAt hp i := by
  have hlv : ∀ i, liveAt (hp.take n) i → liveAt hp i := fun i ⟨cs, h⟩ => ⟨cs, (take_get h).2⟩
  have hmp : ∀ i, mapAt (hp.take n) i → mapAt hp i := fun i ⟨cs, h⟩ => ⟨cs, (take_get h).2⟩
  have hown : ∀ b, ownd (σ.take n) (hp.take n) b → ownd σ hp b := by
    rintro b ⟨i, a, h1, h2, h3⟩
    exact ⟨i, a, h1.imp (hlv i) (hmp i), (take_get h2).2, h3⟩
  have hhot : ∀ b, hot H (σ.take n) (hp.take n) b → hot H σ hp b := by
    rintro b (h | h)
    · exact .inl h
    · exact .inr (hown b h)
  refine ⟨⟨by simp [S.len], fun i a ha => S.spot i a (take_get ha).2, S.foreign, fun i st cs a hi hd ha k c hk => ?_, fun i st cs a hi hd ha => S.own i st cs a (take_get hi).2 hd (take_get ha).2,
    fun i a cs hi ha => S.live i a cs (take_get hi).2 (take_get ha).2, fun i j a b st cs hi hj hd hne ha hb => S.inj i j a b st cs (hlv i hi) (take_get hj).2 hd hne (take_get ha).2 (take_get hb).2, fun i cs a hi ha => ?_, fun i j a b hi hj hne ha hb => S.injm i j a b (hmp i hi) (hmp j hj) hne (take_get ha).2 (take_get hb).2⟩, hhot, hown, hlv⟩
  rotate_left
  · obtain ⟨hin, hi⟩ := take_get hi
    obtain ⟨h1, es, ck, h2, h3⟩ := S.maps i cs a hi (take_get ha).2
    exact ⟨h1, es, ck, h2, h3.trunc (n := n) (fun j b hj hb => by rw [List.getElem?_take, if_pos hj]; exact hb) hhot (fun j _ => hlv j) (hnm i cs hin hi)⟩
  obtain ⟨hin, hi⟩ := take_get hi
  obtain ⟨v, h1, h2⟩ := S.cells i st cs a hi hd (take_get ha).2 k c hk
  refine ⟨v, h1, h2.trunc (n := n) (fun j b hj hb => ?_) hhot (fun j _ => hlv j) (idsLt_get (hn i st cs hin hi hd) hk)⟩
  rw [List.getElem?_take, if_pos hj]; exact hb

theorem oldW_mem {n i : Nat} {l : List Nat} : i ∈ oldW n l ↔ i ∈ l ∧ i < n := by
  induction l with
  | nil => simp [oldW]
  | cons a l ih =>
    simp only [oldW]
    cases h : Nat.blt a n with
    | true =>
      have : a < n := blt_iff.1 h
      simp only [cond_true, List.mem_cons, ih]
      constructor
      · rintro (rfl | ⟨h1, h2⟩)
        · exact ⟨.inl rfl, this⟩
        · exact ⟨.inr h1, h2⟩
      · rintro ⟨rfl | h1, h2⟩
        · exact .inl rfl
        · exact .inr ⟨h1, h2⟩
    | false =>
      have : ¬ a < n := fun hh => by rw [blt_iff.2 hh] at h; cases h
      simp only [cond_false, List.mem_cons, ih]
      constructor
      · rintro ⟨h1, h2⟩; exact ⟨.inr h1, h2⟩
      · rintro ⟨rfl | h1, h2⟩
        · exact absurd h2 this
        · exact ⟨h1, h2⟩
theorem wrBelow_ok {hp : List Blk} {n : Nat} {l : List Nat} (h : wrBelow hp n l = true) : ∀ i ∈ l, ∀ b, hp[i]? = some b → idsLtL n b.cs = true := by
  induction l with
  | nil => intro i hi; simp at hi
  | cons a l ih =>
    simp only [wrBelow, Bool.and_eq_true, nthB_eq] at h
    intro i hi b hb
    rcases List.mem_cons.1 hi with rfl | hi
    · rw [hb] at h; exact h.1
    · exact ih h.2 i hi b hb

theorem callP_ok {C : Cfg} {run : Runs} (hR : RunOk C run) (hE : RunEff run) (hO : OrcOk C) {dr : Bool} {g : FuncId} {args : List PV} {r : PV} {hp' : List Blk} {fp : FP} (h : callP C run dr hp g args = some (r, hp', fp))
    (S : Sim w H σ hp) {vs : List Value} (hv : Vs w (hot H σ hp) σ (liveAt hp) args vs) :
    CallOk C.P g vs.toArray w fun v w' => ∃ σ', V w' (hot H σ' hp') σ' (liveAt hp') r v ∧ Sim w' H σ' hp' ∧ Step w (ownd σ hp) σ (liveAt hp) w' (ownd σ' hp') σ' (liveAt hp') := by
  unfold callP at h
  split at h
  · split at h
    · rename_i rs hp1 wr hrun
      have h0 := hR g args hp rs hp1 wr hrun w H σ vs S hv
      obtain ⟨e1, e2⟩ := hE g args hp rs hp1 wr hrun
      cases hc : idfreeL rs && wrBelow hp1 hp.length (oldW hp.length wr) with
      | false =>
        rw [hc] at h
        simp only [cond_false, Option.some.injEq, Prod.mk.injEq] at h
        obtain ⟨rfl, rfl, _⟩ := h
        refine h0.mono fun v w' ⟨σ', us, hu, hvs, hs, st⟩ => ?_
        subst hu
        exact ⟨σ', ret_ok hvs, hs, st⟩
      | true =>
        rw [hc] at h
        simp only [cond_true, Option.some.injEq, Prod.mk.injEq] at h
        obtain ⟨rfl, rfl, _⟩ := h
        simp only [Bool.and_eq_true] at hc
        refine h0.mono fun v w' ⟨σ', us, hu, hvs, hs, st⟩ => ?_
        subst hu
        have hn : ∀ (i : Nat) st0 cs, i < hp.length → hp1[i]? = some ⟨st0, cs⟩ → st0 ≠ .dead → idsLtL hp.length cs = true := by
          intro i st0 cs hi hb hd
          by_cases hw : i ∈ wr
          · exact wrBelow_ok hc.2 i (oldW_mem.2 ⟨hw, hi⟩) _ hb
          · rw [e2 i hi hw] at hb
            refine idsLt_of (fun k c hk => ?_)
            have hlt := hi
            rw [← S.len] at hlt
            obtain ⟨u, _, h2⟩ := S.cells i st0 cs _ hb hd (List.getElem?_eq_getElem hlt) k c hk
            have := h2.idsLt
            rwa [S.len] at this
        have hnm : ∀ (i : Nat) cs, i < hp.length → hp1[i]? = some ⟨.dead, .any :: cs⟩ → idsLtL hp.length cs = true := by
          intro i cs hi hb
          by_cases hw : i ∈ wr
          · have := wrBelow_ok hc.2 i (oldW_mem.2 ⟨hw, hi⟩) _ hb
            simp only [idsLtL, Bool.and_eq_true] at this
            exact this.2
          · rw [e2 i hi hw] at hb
            have hlt := hi
            rw [← S.len] at hlt
            obtain ⟨-, es, ck, -, h3⟩ := S.maps i cs _ hb (List.getElem?_eq_getElem hlt)
            have := h3.idsLt
            rwa [S.len] at this
        obtain ⟨t1, t2, t3, t4⟩ := sim_trunc hs hn hnm
        have eσ : σ'.take hp.length = σ := by
          rw [← S.len]
          apply List.ext_getElem?
          intro i
          rw [List.getElem?_take]
          split
          · rename_i hi
            rw [List.getElem?_eq_getElem hi]
            exact st.pre i _ (List.getElem?_eq_getElem hi)
          · rename_i hi
            rw [List.getElem?_eq_none (by omega)]
        rw [takeB_eq]
        refine ⟨σ'.take hp.length, ?_, t1, ?_⟩
        · have hr := ret_ok hvs
          have hid : (retP rs).idfree = true := by
            have : idfreeL rs = true := hc.1
            unfold retP
            split
            · simp [idfreeL] at this; exact this
            · simp only [PV.idfree]; exact this
          exact hr.idf (fun b _ hb => t2 b hb) hid
        · exact ⟨st.os, st.tape, st.output, st.size, fun i a ha => by rw [eσ]; exact ha, st.same, fun i a c e hl hσ hb => st.shape i a c e (t4 i hl) hσ hb, fun b hb hm => st.hot b hb (t3 b hm), fun i hi hm => st.live i hi (t4 i hm)⟩
    · cases h
  · split at h
    · cases h
    · rename_i args' ids hsn
      obtain ⟨hv', hidf⟩ := snaps_ok S hsn (fun x hx => hx) hv
      have hbut : ∀ b, but H σ hp ids b → b < w.heap.size := by
        rintro b (hb | ⟨i, a, _, h2, h3⟩)
        · exact S.foreign b hb
        · rw [← h3]; exact S.spot i a h2
      -- after a call on its own: the old heap
      have noroB : ∀ b, hot H σ (roB hp ids) b → but H σ hp ids b := by
        rintro b (hb | ⟨i, a, h1, h2, h3⟩)
        · exact .inl hb
        · refine .inr ⟨i, a, ?_, h2, h3⟩
          rcases h1 with h1 | h1
          · exact .inl ((roB_spec ids hp).2.1 i h1)
          · exact .inr ((roB_spec ids hp).2.2 i h1)
      obtain ⟨Sro, stro⟩ := sim_ro ids S
      split at h
      · rename_i rs ho
        obtain ⟨hrid, hcall⟩ := hO g args' rs ho hidf
        have h0 := hcall w (but H σ hp ids) vs hbut hv'
        cases hsc : rs.all scalarP with
        | true =>
          rw [hsc] at h
          simp only [cond_true, Option.some.injEq, Prod.mk.injEq] at h
          obtain ⟨rfl, rfl, _⟩ := h
          refine h0.mono fun v w' ⟨us, hu, hvs, hold⟩ => ?_
          subst hu
          refine ⟨σ, ret_ok ⟨hvs.1, fun k c u h1 h2 => scalar_ok (List.all_eq_true.1 hsc c (List.mem_of_getElem? h1)) (hvs.2 k c u h1 h2)⟩, sim_old S hold, hold.step _ _ _⟩
        | false =>
          rw [hsc] at h
          simp only [cond_false, Option.some.injEq, Prod.mk.injEq] at h
          obtain ⟨rfl, rfl, _⟩ := h
          refine h0.mono fun v w' ⟨us, hu, hvs, hold⟩ => ?_
          subst hu
          refine ⟨σ, ret_ok ⟨hvs.1, fun k c u h1 h2 => (hvs.2 k c u h1 h2).idf (fun b _ hb => noroB b hb) (idfree_get hrid h1)⟩, sim_old Sro hold, stro.trans (hold.step _ _ _)⟩
      · split at h
        · cases h
        · rename_i rs hp1 wr hrun
          have S0 : Sim w (but H σ hp ids) [] [] := sim_nil hbut
          have hvs0 : Vs w (hot (but H σ hp ids) [] []) [] (liveAt []) args' vs := ⟨hv'.1, fun k c u h1 h2 => (hv'.2 k c u h1 h2).idf (fun b _ hb => by
            rcases hb with hb | ⟨i, a, _, h2, _⟩
            · exact hb
            · simp at h2) (idfree_get hidf h1)⟩
          have h0 := hR g args' [] rs hp1 wr hrun w (but H σ hp ids) [] vs S0 hvs0
          split at h
          · cases h
          · rename_i rs' kept hfin
            have hOld : ∀ {w' : World} {σ' : List Addr}, Step w (ownd [] []) [] (liveAt []) w' (ownd σ' hp1) σ' (liveAt hp1) → Old w w' := fun st =>
              ⟨st.os, st.tape, st.output, st.size, fun b hb => st.same b hb (fun ⟨i, a, _, h2, _⟩ => by simp at h2)⟩
            cases hsc : rs'.all scalarP with
            | true =>
              rw [hsc] at h
              simp only [cond_true, Option.some.injEq, Prod.mk.injEq] at h
              obtain ⟨rfl, rfl, _⟩ := h
              refine h0.mono fun v w' ⟨σ', us, hu, hvs, hs, st⟩ => ?_
              subst hu
              obtain ⟨σk, f1, f2, f3, f4, _⟩ := finish_ok hs hfin hvs
              exact ⟨σ, ret_ok ⟨f2.1, fun k c u h1 h2 => scalar_ok (List.all_eq_true.1 hsc c (List.mem_of_getElem? h1)) (f2.2 k c u h1 h2)⟩, sim_old S (hOld st), (hOld st).step _ _ _⟩
            | false =>
              rw [hsc] at h
              simp only [cond_false, Option.some.injEq, Prod.mk.injEq] at h
              obtain ⟨rfl, rfl, _⟩ := h
              refine h0.mono fun v w' ⟨σ', us, hu, hvs, hs, st⟩ => ?_
              subst hu
              obtain ⟨σk, f1, f2, f3, f4, hkl⟩ := finish_ok hs hfin hvs
              obtain ⟨j1, j2, j3⟩ := sim_join Sro (hOld st) f1 noroB (fun b hb => by
                rcases Nat.lt_or_ge b w.heap.size with hlt | hge
                · obtain ⟨i, a, _, h2, _⟩ := st.hot b hlt (f3 b hb)
                  simp at h2
                · exact hge) (fun i b hb => (hkl i b hb).1) (fun i b hb => (hkl i b hb).2)
              refine ⟨σ ++ σk, ret_ok ⟨by simp [f2.1], fun k c u h1 h2 => ?_⟩, j1, stro.trans j2⟩
              rw [List.getElem?_map] at h1
              cases hk : rs'[k]? with
              | none => simp [hk] at h1
              | some c0 =>
                simp [hk] at h1; subst h1
                have hvk := f2.2 k c0 u hk h2
                rcases f4 k c0 hk with hid | ⟨id, s, off, len, x, rfl⟩
                · have e : shiftP hp.length c0 = c0 := by cases c0 <;> first | rfl | (simp [PV.idfree] at hid)
                  rw [e]
                  exact hvk.idf (fun b _ hb => j3 b hb) hid
                · cases hvk with
                  | own _ _ _ _ _ a b cap q1 q2 q3 q4 q5 =>
                    have hl : (roB hp ids).length = hp.length := (roB_spec ids hp).1
                    refine .own (hp.length + id) s off len x a b cap ?_ q2 q3 q4 (fun hlv => q5 ?_)
                    · rw [List.getElem?_append_right (by rw [S.len]; omega), S.len]
                      simpa using q1
                    · obtain ⟨cs, hcs⟩ := hlv
                      rw [List.getElem?_append_right (by rw [hl]; omega), hl] at hcs
                      exact ⟨cs, by simpa using hcs⟩

end
end Go.Ab
