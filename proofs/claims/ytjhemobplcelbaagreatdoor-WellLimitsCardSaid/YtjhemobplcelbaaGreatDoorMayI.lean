/- may: gram: the reference's May answers what gram.May answers (turned by mkmay.py out of wip/gram). -/
import Derived.Test.YtjhemobplcelbaaGreatDoorMayH
namespace Go.Proofs.YtjhemobplcelbaaGreatDoor.M
open Go.RowKit Go.Proofs.YtjhemobplcelbaaGreatDoorW.PrintWords Go.Proofs.YtjhemobplcelbaaGreatDoorW.PrintLast Go.Proofs.YtjhemobplcelbaaGreatDoorW.PrintMore
open Go.Proofs.YtjhemobplcelbaaGreatDoor.O (STk SRu kTk kRu zTk zRu kTk_open kRu_open kTk_openM kTk_mkM kTk_mk kRu_mk)
set_option linter.unusedVariables false
set_option linter.unusedSimpArgs false
theorem lastA_mem (l : List STk) (k : Int) : (lastA l k = 0 ∨ ∃ u ∈ l, u.f1 = k ∧ lastA l k = u.f2) ∧ ((∃ u ∈ l, u.f1 = k) → ∃ u ∈ l, u.f1 = k ∧ lastA l k = u.f2) := by
  have : ∀ (l : List STk) (a : Int), (l.foldl (fun a t => if t.f1 = k then t.f2 else a) a = a ∨ ∃ u ∈ l, u.f1 = k ∧ l.foldl (fun a t => if t.f1 = k then t.f2 else a) a = u.f2) ∧ ((∃ u ∈ l, u.f1 = k) → ∃ u ∈ l, u.f1 = k ∧ l.foldl (fun a t => if t.f1 = k then t.f2 else a) a = u.f2) := by
    intro l
    induction l with
    | nil => intro a; exact ⟨.inl rfl, fun ⟨u, hu, _⟩ => by cases hu⟩
    | cons t l ih =>
      intro a
      rw [List.foldl_cons]
      by_cases h : t.f1 = k
      · rw [if_pos h]
        obtain ⟨h1, h2⟩ := ih t.f2
        have h3 : ∃ u ∈ t :: l, u.f1 = k ∧ l.foldl (fun a t => if t.f1 = k then t.f2 else a) t.f2 = u.f2 := by
          rcases h1 with h1 | ⟨u, hu, hk, he⟩
          · exact ⟨t, by simp, h, h1⟩
          · exact ⟨u, by simp [hu], hk, he⟩
        exact ⟨.inr h3, fun _ => h3⟩
      · rw [if_neg h]
        obtain ⟨h1, h2⟩ := ih a
        refine ⟨?_, fun ⟨u, hu, hk⟩ => ?_⟩
        · rcases h1 with h1 | ⟨u, hu, hk, he⟩
          · exact .inl h1
          · exact .inr ⟨u, by simp [hu], hk, he⟩
        · rcases List.mem_cons.1 hu with rfl | hu
          · exact absurd hk h
          · obtain ⟨u, hu, hk, he⟩ := h2 ⟨u, hu, hk⟩
            exact ⟨u, by simp [hu], hk, he⟩
  exact this l 0
theorem plc_eq (s : ByteArray) : ∀ (xs : List ByteArray) (k i : Nat) (hi : i < xs.length), xs[i] = s → (O.plc s xs k = ((k + i : Nat) : Int) ↔ ∀ j (h : j < i), xs[j]'(by omega) ≠ s) := by
  intro xs
  induction xs with
  | nil => intro k i hi; exact absurd hi (Nat.not_lt_zero i)
  | cons x xs ih =>
    intro k i hi e
    cases i with
    | zero =>
      simp only [List.getElem_cons_zero] at e
      simp only [O.plc, if_pos e, Nat.add_zero, true_iff]
      exact fun j h => absurd h (Nat.not_lt_zero j)
    | succ i =>
      simp only [List.getElem_cons_succ] at e
      by_cases hx : x = s
      · simp only [O.plc, if_pos hx]
        constructor
        · intro h; omega
        · intro h; exact absurd hx (h 0 (by omega))
      · simp only [O.plc, if_neg hx]
        rw [show k + (i + 1) = k + 1 + i by omega, ih (k + 1) i (by simpa using hi) e]
        constructor
        · intro h j hj
          cases j with
          | zero => simpa using hx
          | succ j => simpa using h j (by omega)
        · intro h j hj
          have := h (j + 1) (by omega)
          simpa using this
theorem place_first {l : List STk} {i : Nat} (hi : i < l.length) : placeB l l[i].f0 = (i : Int) ↔ ∀ u ∈ l.take i, u.f0 ≠ l[i].f0 := by
  unfold placeB
  have h := plc_eq l[i].f0 (l.map STk.f0) 0 i (by simpa using hi) (by simp)
  rw [show (0 + i : Nat) = i by omega] at h
  rw [h]
  constructor
  · intro h u hu
    obtain ⟨j, hj, rfl⟩ := List.getElem_of_mem hu
    rw [List.length_take] at hj
    have := h j (by omega)
    simpa using this
  · intro h j hj
    have := h l[j] (by
      rw [List.mem_take_iff_getElem]
      exact ⟨j, by omega, rfl⟩)
    simpa using this
theorem keep_mem {n : Int} {l : List STk} {t : STk} (h : t ∈ keepB n l) : t ∈ l ∧ t.f1 = n := by
  unfold keepB at h
  rw [List.mem_filter] at h
  refine ⟨h.1, ?_⟩
  have := h.2
  unfold offB at this
  simpa using this
theorem tokB_iff {t : STk} : tokB t = true ↔ Nm t.f0 = true ∧ 0 ≤ t.f1 ∧ t.f1 ≤ 8 ∧ (t.f1 = 0 → t.f2 = 0) ∧ (0 < t.f1 → 1 ≤ t.f2 ∧ t.f2 ≤ 3) := by
  unfold tokB
  rw [Bool.and_eq_true]
  by_cases h : t.f1 = 0
  · rw [if_pos h, decide_eq_true_eq]
    constructor
    · rintro ⟨a, b⟩; exact ⟨a, by omega, by omega, fun _ => b, fun _ => by omega⟩
    · rintro ⟨a, _, _, b, _⟩; exact ⟨a, b h⟩
  · rw [if_neg h]
    simp only [Bool.and_eq_true, decide_eq_true_eq]
    constructor
    · rintro ⟨a, ⟨⟨b, c⟩, d⟩, e⟩; exact ⟨a, by omega, c, fun _ => by omega, fun _ => ⟨d, e⟩⟩
    · rintro ⟨a, b, c, _, d⟩
      have := d (by omega)
      exact ⟨a, ⟨⟨by omega, c⟩, this.1⟩, this.2⟩
theorem newB_iff {l : List STk} {i : Nat} {t : STk} : newB l i t = true ↔ tokB t = true ∧ ∀ u ∈ l.take i, u.f0 ≠ t.f0 ∧ (u.f1 = t.f1 → u.f2 = t.f2) := by
  unfold newB
  rw [Bool.and_eq_true, Bool.not_eq_true', List.any_eq_false]
  refine and_congr Iff.rfl (forall_congr' fun u => forall_congr' fun hu => ?_)
  unfold likeB
  simp only [Bool.or_eq_true, Bool.and_eq_true, decide_eq_true_eq, Bool.not_eq_true', decide_eq_false_iff_not, not_or, not_and, Decidable.not_not]
theorem rnewB_iff {l : List STk} {i : Nat} (hi : i < l.length) : rnewB l i l[i] = true ↔ tokB l[i] = true ∧ (∀ u ∈ l.take i, u.f0 ≠ l[i].f0) ∧ (0 < l[i].f1 → lastA (l.take i) l[i].f1 = 0 ∨ lastA (l.take i) l[i].f1 = l[i].f2) := by
  rw [tokB_iff, ← place_first hi]
  unfold rnewB basicB fitB
  simp only [Bool.or_eq_true, Bool.and_eq_true, decide_eq_true_eq, Bool.not_eq_true', decide_eq_false_iff_not]
  constructor
  · rintro ⟨⟨⟨⟨⟨⟨a, b⟩, c⟩, d⟩, e⟩, f⟩, g⟩
    exact ⟨⟨a, c, d, fun h => by omega, fun h => by omega⟩, b, fun h => by omega⟩
  · rintro ⟨⟨a, c, d, e, f⟩, b, g⟩
    refine ⟨⟨⟨⟨⟨⟨a, b⟩, c⟩, d⟩, ?_⟩, ?_⟩, ?_⟩
    · by_cases h : l[i].f1 = 0
      · exact .inr (e h)
      · exact .inl h
    · by_cases h : 0 < l[i].f1
      · exact .inr (f h)
      · exact .inl h
    · by_cases h : 0 < l[i].f1
      · have := g h
        omega
      · omega
theorem news_pair {l : List STk} {i : Nat} (h : ∀ j (h : j < l.length), j < i → newB l j l[j] = true) : ∀ u ∈ l.take i, ∀ v ∈ l.take i, tokB u = true ∧ (u.f1 = v.f1 → u.f2 = v.f2) := by
  intro u hu v hv
  obtain ⟨a, ha, rfl⟩ := List.mem_take_iff_getElem.1 hu
  obtain ⟨b, hb, rfl⟩ := List.mem_take_iff_getElem.1 hv
  have h1 := newB_iff.1 (h a (by omega) (by omega))
  have h2 := newB_iff.1 (h b (by omega) (by omega))
  refine ⟨h1.1, fun e => ?_⟩
  rcases Nat.lt_trichotomy a b with hab | hab | hab
  · exact (h2.2 l[a] (List.mem_take_iff_getElem.2 ⟨a, by omega, rfl⟩)).2 e
  · subst hab; rfl
  · exact ((h1.2 l[b] (List.mem_take_iff_getElem.2 ⟨b, by omega, rfl⟩)).2 e.symm).symm
theorem new_rnew {l : List STk} {i : Nat} (hi : i < l.length) (h : ∀ j (h : j < l.length), j < i → newB l j l[j] = true) : newB l i l[i] = true ↔ rnewB l i l[i] = true := by
  rw [newB_iff, rnewB_iff hi]
  refine and_congr_right fun htk => ?_
  constructor
  · intro h1
    refine ⟨fun u hu => (h1 u hu).1, fun h0 => ?_⟩
    rcases (lastA_mem (l.take i) l[i].f1).1 with h2 | ⟨u, hu, hk, he⟩
    · exact .inl h2
    · exact .inr (he.trans ((h1 u hu).2 hk))
  · rintro ⟨h1, h2⟩ u hu
    refine ⟨h1 u hu, fun e => ?_⟩
    have hp := news_pair h
    have ht := tokB_iff.1 (hp u hu u hu).1
    by_cases h0 : 0 < l[i].f1
    · obtain ⟨v, hv, hk, he⟩ := (lastA_mem (l.take i) l[i].f1).2 ⟨u, hu, e⟩
      have hv2 := tokB_iff.1 (hp v hv v hv).1
      have h3 := hv2.2.2.2.2 (by omega)
      have h4 := h2 h0
      rw [(hp u hu v hv).2 (e.trans hk.symm)]
      omega
    · have h3 := tokB_iff.1 htk
      have h5 : l[i].f1 = 0 := by omega
      rw [ht.2.2.2.1 (by omega), h3.2.2.2.1 h5]
theorem news_eq (l : List STk) : rnewsB l = newsB l := by
  rw [Bool.eq_iff_iff, rnewsB_iff, newsB_iff]
  constructor
  · intro h
    have : ∀ n i (hi : i < l.length), i < n → newB l i l[i] = true := by
      intro n
      induction n with
      | zero => intro i hi hn; omega
      | succ n ih => exact fun i hi hn => (new_rnew hi fun j hj hji => ih j hj (by omega)).2 (h i hi)
    exact fun i hi => this (i + 1) i hi (by omega)
  · exact fun h i hi => (new_rnew hi fun j hj _ => h j hj).1 (h i hi)
theorem levels_eq {l : List STk} (h : newsB l = true) : rlevelsB l = levelsB l := by
  unfold rlevelsB levelsB
  refine List.all_congr rfl fun k => ?_
  rw [Bool.eq_iff_iff, Bool.not_eq_true', Bool.not_eq_true', decide_eq_false_iff_not, List.isEmpty_eq_false_iff_exists_mem]
  have htk : ∀ t ∈ l, tokB t = true := by
    intro t ht
    obtain ⟨j, hj, rfl⟩ := List.getElem_of_mem ht
    exact (newB_iff.1 (newsB_iff.1 h j hj)).1
  constructor
  · intro h0
    rcases (lastA_mem l ((k : Int) + 1)).1 with h1 | ⟨u, hu, hk, he⟩
    · exact absurd h1 h0
    · refine ⟨u, ?_⟩
      unfold keepB offB
      rw [List.mem_filter, hk]
      exact ⟨hu, by simp⟩
  · rintro ⟨u, hu⟩ h0
    obtain ⟨hu1, hu2⟩ := keep_mem hu
    obtain ⟨v, hv, hk, he⟩ := (lastA_mem l ((k : Int) + 1)).2 ⟨u, hu1, hu2⟩
    have := (tokB_iff.1 (htk v hv)).2.2.2.2 (by omega)
    omega
theorem may_eq (l : List STk) (st : ByteArray) (ex : Int) (rs : List SRu) : rmayB l st ex rs = mayB l st ex rs := by
  unfold rmayB rheadB mayB tokensB
  rw [news_eq]
  cases h : newsB l with
  | false => simp
  | true =>
    rw [levels_eq h]
    cases levelsB l <;> cases rs.any ruleBad <;> cases decide (rs.length ≤ 100) <;> cases orB st <;> cases decide (0 ≤ ex) <;> cases decide (ex ≤ 9999) <;> cases decide (l.length ≤ 40) <;> rfl
end Go.Proofs.YtjhemobplcelbaaGreatDoor.M
