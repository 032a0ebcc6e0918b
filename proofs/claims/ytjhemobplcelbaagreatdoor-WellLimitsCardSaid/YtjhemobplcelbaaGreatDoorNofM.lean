/- wof: the law WellLimits, plain: what Of answers of the grammars it asks about. -/
import Derived.Test.YtjhemobplcelbaaGreatDoorNofC
import Derived.Test.YtjhemobplcelbaaGreatDoorOfG
namespace Go.Proofs.YtjhemobplcelbaaGreatDoor.O
open Go.RowKit Go.Proofs.YtjhemobplcelbaaGreatDoorW.PrintWords Go.Proofs.YtjhemobplcelbaaGreatDoorW.PrintLast Go.Proofs.YtjhemobplcelbaaGreatDoorW.PrintMore
open Go.Proofs.YtjhemobplcelbaaGreatDoor.U (SR gt stepY setS stepR passY passR FixP y0 r0)
open Go.Proofs.YtjhemobplcelbaaGreatDoor.M (Nm orB ruleBad rnewsB rlevelsB rheadB rmayB)
set_option linter.unusedVariables false
set_option linter.unusedSimpArgs false
set_option linter.unusedSectionVars false
def tn (i : Nat) : ByteArray := strOfNums [84, 97 + (i : Int)]
def nn (i : Nat) : ByteArray := strOfNums [110, 97 + (i : Int)]
def sTa : ByteArray := ⟨#[84, 97]⟩
def limT (t : Nat) : List STk := (List.range t).map fun i => ⟨tn i, 0, 0⟩
def limRt (l q i : Nat) : List ByteArray := if i + 1 < l then [nn (i + 1)] else List.replicate q sTa
def limRu (l q i : Nat) : SRu := ⟨nn (i % l), limRt l q i, ⟨#[]⟩⟩
def limR (l q r : Nat) : List SRu := (List.range r).map (limRu l q)
theorem limT_len (t : Nat) : (limT t).length = t := by simp [limT]
theorem limR_len (l q r : Nat) : (limR l q r).length = r := by simp [limR]
theorem limT_snoc (t : Nat) : limT (t + 1) = limT t ++ [⟨tn t, 0, 0⟩] := by simp [limT, List.range_succ]
theorem limR_snoc (l q r : Nat) : limR l q (r + 1) = limR l q r ++ [limRu l q r] := by simp [limR, List.range_succ]
theorem limR_mem {l q r : Nat} {x : SRu} : x ∈ limR l q r ↔ ∃ i, i < r ∧ x = limRu l q i := by
  simp only [limR, List.mem_map, List.mem_range]
  exact ⟨fun ⟨i, h, e⟩ => ⟨i, h, e.symm⟩, fun ⟨i, h, e⟩ => ⟨i, h, e.symm⟩⟩
theorem nn_inj : ∀ i, i < 12 → ∀ j, j < 12 → nn i = nn j → i = j := by decide +kernel
theorem tn_nn : ∀ i, i < 14 → ∀ j, j < 12 → ¬ tn i = nn j := by decide +kernel
theorem tn_zero : tn 0 = sTa := by decide +kernel
theorem nn_ne : ∀ j, j < 12 → ¬ nn j = (⟨#[]⟩ : ByteArray) ∧ ¬ nn j = sTa := by decide +kernel
theorem nn_Nm : ∀ j, j < 12 → Nm (nn j) = true := by decide +kernel
theorem sTa_Nm : Nm sTa = true := by decide +kernel
theorem lim_news : ∀ t, t ≤ 14 → (rnewsB (limT t) && rlevelsB (limT t)) = true := by decide +kernel
theorem lim_lefts {l q : Nat} (hl : l ≤ 12) (h0 : 1 ≤ l) : ∀ r, leftsF (limR l q r) = (List.range (min r l)).map nn := by
  intro r
  induction r with
  | zero => rfl
  | succ r ih =>
    have e : leftsF (limR l q (r + 1)) = leftStep (leftsF (limR l q r)) (limRu l q r) := by rw [limR_snoc]; unfold leftsF; rw [List.foldl_append]; rfl
    rw [e, ih]
    unfold leftStep
    by_cases h : r < l
    · have hm : ¬ 0 ≤ plc (limRu l q r).f0 ((List.range (min r l)).map nn) 0 := by
        rw [plc_mem, List.mem_map]
        rintro ⟨k, hk, he⟩
        rw [List.mem_range] at hk
        have := nn_inj k (by omega) (r % l) (by have := Nat.mod_lt r (show l > 0 by omega); omega) he
        rw [Nat.mod_eq_of_lt h] at this
        omega
      rw [if_pos (by omega), show min (r + 1) l = r + 1 by omega, show min r l = r by omega, List.range_succ, List.map_append]
      show _ ++ [nn (r % l)] = _
      rw [Nat.mod_eq_of_lt h]
      rfl
    · have hm : 0 ≤ plc (limRu l q r).f0 ((List.range (min r l)).map nn) 0 := by
        rw [plc_mem, List.mem_map]
        exact ⟨r % l, by rw [List.mem_range]; have := Nat.mod_lt r (show l > 0 by omega); omega, rfl⟩
      rw [if_neg (by omega), show min (r + 1) l = min r l by omega]
theorem plc_app_no {s : ByteArray} : ∀ (a b : List ByteArray) (i : Nat), s ∉ a → plc s (a ++ b) i = plc s b (i + a.length) := by
  intro a
  induction a with
  | nil => intro b i _; rfl
  | cons x a ih =>
    intro b i h
    rw [List.mem_cons, not_or] at h
    rw [List.cons_append]
    show (if x = s then _ else _) = _
    rw [if_neg (Ne.symm h.1), ih b (i + 1) h.2, List.length_cons, show i + 1 + a.length = i + (a.length + 1) by omega]
theorem plc_nn : ∀ (l k i j : Nat), j + l ≤ 12 → j ≤ k → k < j + l → plc (nn k) ((List.range' j l).map nn) i = ((i + (k - j) : Nat) : Int) := by
  intro l
  induction l with
  | zero => intro k i j _ _ h; omega
  | succ l ih =>
    intro k i j h1 h2 h3
    rw [List.range'_succ, List.map_cons]
    show (if nn j = nn k then _ else _) = _
    by_cases he : j = k
    · subst he
      rw [if_pos rfl, show i + (j - j) = i by omega]
    · rw [if_neg (fun h => he (nn_inj j (by omega) k (by omega) h)), ih k (i + 1) (j + 1) (by omega) (by omega) (by omega), show i + 1 + (k - (j + 1)) = i + (k - j) by omega]
section lim
variable {t l q r : Nat} (ht : 1 ≤ t ∧ t ≤ 14) (hl : 1 ≤ l ∧ l ≤ 12) (hr : l ≤ r ∧ r ≤ 32) (hq : q ≤ 8)
include ht hl hr hq
theorem lim_left : leftsF (limR l q r) = (List.range l).map nn := by rw [lim_lefts hl.2 hl.1, show min r l = l by omega]
theorem lim_names : namesF (limT t) (limR l q r) = (List.range t).map tn ++ [⟨#[]⟩] ++ (List.range l).map nn := by
  unfold namesF
  rw [lim_left ht hl hr hq, limT, List.map_map]
  rfl
theorem lim_plc {k : Nat} (hk : k < l) : plc (nn k) (namesF (limT t) (limR l q r)) 0 = ((t + 1 + k : Nat) : Int) := by
  rw [lim_names ht hl hr hq, plc_app_no, List.range_eq_range', plc_nn l k _ 0 (by omega) (by omega) (by omega)]
  · simp
  · rw [List.mem_append, List.mem_map, List.mem_singleton]
    rintro (⟨i, hi, he⟩ | h)
    · exact tn_nn i (by rw [List.mem_range] at hi; omega) k (by omega) he
    · exact (nn_ne k (by omega)).1 h
theorem lim_plcT : plc sTa (namesF (limT t) (limR l q r)) 0 = 0 := by
  rw [lim_names ht hl hr hq, List.range_eq_range', show t = (t - 1) + 1 by omega, List.range'_succ, List.map_cons, List.cons_append, List.cons_append]
  show (if tn 0 = sTa then _ else _) = _
  rw [if_pos tn_zero]
  rfl
theorem lim_start : startF (limT t) ⟨#[]⟩ (limR l q r) = ((t + 1 : Nat) : Int) := by
  unfold startF
  rw [if_pos rfl, lim_left ht hl hr hq, limT_len, show l = (l - 1) + 1 by omega, List.range_eq_range', List.range'_succ, List.map_cons]
  show (t : Int) + 1 + (if nn 0 = nn 0 then _ else _) = _
  rw [if_pos rfl]
  omega
theorem lim_may : rmayB (limT t) ⟨#[]⟩ 0 (limR l q r) = true := by
  have h1 := lim_news t ht.2
  rw [Bool.and_eq_true] at h1
  have h2 : (limR l q r).any ruleBad = false := by
    rw [List.any_eq_false]
    intro x hx
    obtain ⟨i, hi, rfl⟩ := limR_mem.1 hx
    have hm : i % l < 12 := by have := Nat.mod_lt i (show l > 0 by omega); omega
    have e1 : Nm (limRu l q i).f0 = true := nn_Nm _ hm
    have e2 : orB (limRu l q i).f2 = true := by show orB ⟨#[]⟩ = true; decide +kernel
    have e3 : (limRu l q i).f1.length ≤ 20 := by
      show (limRt l q i).length ≤ 20
      unfold limRt
      split <;> simp
      omega
    have e4 : ((limRu l q i).f1.any fun s => !Nm s) = false := by
      rw [List.any_eq_false]
      intro s hs
      have hs : s ∈ limRt l q i := hs
      unfold limRt at hs
      split at hs
      · rw [List.mem_singleton.1 hs, nn_Nm _ (by omega)]; simp
      · rw [(List.mem_replicate.1 hs).2, sTa_Nm]; simp
    unfold ruleBad
    rw [e1, e2, e4, decide_eq_false (by omega)]
    simp
  unfold rmayB
  rw [h1.1, h1.2, h2]
  have h3 : rheadB (limT t) ⟨#[]⟩ 0 (limR l q r) = true := by
    unfold rheadB
    rw [limT_len, limR_len, decide_eq_true (show t ≤ 40 by omega), decide_eq_true (show r ≤ 100 by omega)]
    rfl
  rw [h3]
  rfl
theorem lim_long : longB (limT t) (limR l q r) = decide (12 < t ∨ 10 < l ∨ 30 < r ∨ 6 < q) := by
  have h1 : (limR l q r).any (fun x => decide (6 < x.f1.length)) = decide (6 < q) := by
    by_cases h : 6 < q
    · rw [decide_eq_true h, List.any_eq_true]
      refine ⟨limRu l q (l - 1), limR_mem.2 ⟨l - 1, by omega, rfl⟩, ?_⟩
      show decide (6 < (limRt l q (l - 1)).length) = true
      unfold limRt
      rw [if_neg (by omega), List.length_replicate, decide_eq_true h]
    · rw [decide_eq_false h, List.any_eq_false]
      intro x hx
      obtain ⟨i, hi, rfl⟩ := limR_mem.1 hx
      show ¬ decide (6 < (limRt l q i).length) = true
      rw [decide_eq_true_eq]
      unfold limRt
      split <;> simp
      omega
  unfold longB
  rw [h1, lim_left ht hl hr hq, limT_len, limR_len, List.length_map, List.length_range]
  by_cases a : 12 < t <;> by_cases b : 10 < l <;> by_cases c : 30 < r <;> by_cases d : 6 < q <;> simp [a, b, c, d]
theorem lim_named : namedOk (limT t) ⟨#[]⟩ (limR l q r) := by
  refine ⟨fun x hx => ?_, by rw [limR_len]; omega, fun x hx => ?_, .inl rfl⟩
  · rcases Int.lt_or_le (plc x.f0 (leftsF (limR l q r)) 0) 0 with h | h
    · exact h
    · rw [plc_mem, lim_left ht hl hr hq, List.mem_map] at h
      obtain ⟨k, hk, he⟩ := h
      rw [limT, List.mem_map] at hx
      obtain ⟨i, hi, rfl⟩ := hx
      rw [List.mem_range] at hi hk
      exact absurd he.symm (tn_nn i (by omega) k (by omega))
  · obtain ⟨i, hi, rfl⟩ := limR_mem.1 hx
    refine ⟨fun s hs => ?_, .inl rfl⟩
    have hs : s ∈ limRt l q i := hs
    unfold known
    rw [plc_mem, plc_mem, lim_left ht hl hr hq]
    unfold limRt at hs
    split at hs
    · rename_i h
      rw [List.mem_singleton.1 hs]
      exact .inl (List.mem_map.2 ⟨i + 1, List.mem_range.2 h, rfl⟩)
    · rw [(List.mem_replicate.1 hs).2, limT, List.map_map]
      exact .inr (List.mem_map.2 ⟨0, List.mem_range.2 (by omega), tn_zero⟩)
end lim
theorem stepY_stop : ∀ (rs : List SR) (p : List Bool × Bool), (rs.foldl stepY p).2 = false → rs.foldl stepY p = p ∧ ∀ r ∈ rs, r.f1.all (gt p.1) = true → gt p.1 r.f0 = true := by
  intro rs
  induction rs with
  | nil => intro p _; exact ⟨rfl, fun r hr => absurd hr (List.not_mem_nil)⟩
  | cons r rs ih =>
    intro p h
    rw [List.foldl_cons] at h ⊢
    obtain ⟨h1, h2⟩ := ih _ h
    have hs : stepY p r = p ∧ (r.f1.all (gt p.1) = true → gt p.1 r.f0 = true) := by
      unfold stepY at h1 h ⊢
      by_cases hc : (r.f1.all (gt p.1) && !gt p.1 r.f0) = true
      · rw [if_pos hc] at h1 h
        rw [h1] at h
        cases h
      · rw [if_neg hc]
        refine ⟨rfl, fun ha => ?_⟩
        rw [ha] at hc
        simpa using hc
    rw [hs.1] at h1 h2 ⊢
    refine ⟨h1, fun x hx => ?_⟩
    rcases List.mem_cons.1 hx with rfl | hx
    · exact hs.2
    · exact h2 x hx
theorem setS_stop : ∀ (xs : List Int) (p : List Bool × Bool), (xs.foldl setS p).2 = false → xs.foldl setS p = p ∧ ∀ x ∈ xs, gt p.1 x = true := by
  intro xs
  induction xs with
  | nil => intro p _; exact ⟨rfl, fun r hr => absurd hr (List.not_mem_nil)⟩
  | cons n xs ih =>
    intro p h
    rw [List.foldl_cons] at h ⊢
    obtain ⟨h1, h2⟩ := ih _ h
    have hs : setS p n = p ∧ gt p.1 n = true := by
      unfold setS at h1 h ⊢
      by_cases hc : gt p.1 n = true
      · rw [if_pos hc]
        exact ⟨rfl, hc⟩
      · rw [if_neg hc] at h1 h
        rw [h1] at h
        cases h
    rw [hs.1] at h1 h2 ⊢
    refine ⟨h1, fun x hx => ?_⟩
    rcases List.mem_cons.1 hx with rfl | hx
    · exact hs.2
    · exact h2 x hx
theorem stepR_stop : ∀ (rs : List SR) (p : List Bool × Bool), (rs.foldl stepR p).2 = false → rs.foldl stepR p = p ∧ ∀ r ∈ rs, gt p.1 r.f0 = true → ∀ x ∈ r.f1, gt p.1 x = true := by
  intro rs
  induction rs with
  | nil => intro p _; exact ⟨rfl, fun r hr => absurd hr (List.not_mem_nil)⟩
  | cons r rs ih =>
    intro p h
    rw [List.foldl_cons] at h ⊢
    obtain ⟨h1, h2⟩ := ih _ h
    have hs : stepR p r = p ∧ (gt p.1 r.f0 = true → ∀ x ∈ r.f1, gt p.1 x = true) := by
      unfold stepR at h1 h ⊢
      by_cases hc : gt p.1 r.f0 = true
      · rw [if_pos hc] at h1 h ⊢
        rw [h1] at h
        obtain ⟨h3, h4⟩ := setS_stop r.f1 p h
        exact ⟨h3, fun _ => h4⟩
      · rw [if_neg hc]
        exact ⟨rfl, fun h => absurd h hc⟩
    rw [hs.1] at h1 h2 ⊢
    refine ⟨h1, fun x hx => ?_⟩
    rcases List.mem_cons.1 hx with rfl | hx
    · exact hs.2
    · exact h2 x hx
theorem gt_set {y : List Bool} {n : Nat} {i : Int} (h : gt y i = true) : gt (y.set n true) i = true := by
  unfold gt at h ⊢
  rw [List.getD_eq_getElem?_getD] at h ⊢
  rw [List.getElem?_set]
  split
  · split
    · rfl
    · rename_i h1 h2
      rw [← h1, List.getElem?_eq_none (by omega)] at h
      cases h
  · exact h
theorem foldl_up {α : Type} {f : List Bool × Bool → α → List Bool × Bool} {i : Int} (hf : ∀ p x, gt p.1 i = true → gt (f p x).1 i = true) : ∀ (xs : List α) (p : List Bool × Bool), gt p.1 i = true → gt (xs.foldl f p).1 i = true := by
  intro xs
  induction xs with
  | nil => intro p h; exact h
  | cons x xs ih => intro p h; exact ih _ (hf p x h)
theorem stepY_up {i : Int} (p : List Bool × Bool) (r : SR) (h : gt p.1 i = true) : gt (stepY p r).1 i = true := by
  unfold stepY
  split
  · exact gt_set h
  · exact h
theorem setS_up {i : Int} (p : List Bool × Bool) (n : Int) (h : gt p.1 i = true) : gt (setS p n).1 i = true := by
  unfold setS
  split
  · exact h
  · exact gt_set h
theorem stepR_up {i : Int} (p : List Bool × Bool) (r : SR) (h : gt p.1 i = true) : gt (stepR p r).1 i = true := by
  unfold stepR
  split
  · exact foldl_up setS_up _ _ h
  · exact h
theorem fixY {rs : List SR} {y z : List Bool} (h : FixP (passY rs) y z) : (∀ i, gt y i = true → gt z i = true) ∧ ∀ r ∈ rs, r.f1.all (gt z) = true → gt z r.f0 = true := by
  induction h with
  | stop hs =>
    obtain ⟨h1, h2⟩ := stepY_stop rs _ hs
    unfold passY
    rw [h1]
    exact ⟨fun i h => h, h2⟩
  | go hs _ ih => exact ⟨fun i h => ih.1 i (foldl_up stepY_up rs _ h), ih.2⟩
theorem fixR {rs : List SR} {y z : List Bool} (h : FixP (passR rs) y z) : (∀ i, gt y i = true → gt z i = true) ∧ ∀ r ∈ rs, gt z r.f0 = true → ∀ x ∈ r.f1, gt z x = true := by
  induction h with
  | stop hs =>
    obtain ⟨h1, h2⟩ := stepR_stop rs _ hs
    unfold passR
    rw [h1]
    exact ⟨fun i h => h, h2⟩
  | go hs _ ih => exact ⟨fun i h => ih.1 i (foldl_up stepR_up rs _ h), ih.2⟩
theorem lim_rule {t l q r : Nat} (ht : 1 ≤ t ∧ t ≤ 14) (hl : 1 ≤ l ∧ l ≤ 12) (hr : l ≤ r ∧ r ≤ 32) (hq : q ≤ 8) {k : Nat} (hk : k < l) : ∃ x ∈ (rulesF (limT t) ⟨#[]⟩ (limR l q r)).tail, x.f0 = ((t + 1 + k : Nat) : Int) ∧ x.f1 = if k + 1 < l then [((t + 1 + (k + 1) : Nat) : Int)] else List.replicate q 0 := by
  refine ⟨ruleF (limT t) (namesF (limT t) (limR l q r)) (limRu l q k), List.mem_map.2 ⟨_, limR_mem.2 ⟨k, by omega, rfl⟩, rfl⟩, ?_, ?_⟩
  · show plc (nn (k % l)) _ 0 = _
    rw [Nat.mod_eq_of_lt hk]
    exact lim_plc ht hl hr hq hk
  · show (limRt l q k).map (fun s => plc s _ 0) = _
    unfold limRt
    split
    · rename_i h
      rw [List.map_cons, List.map_nil, lim_plc ht hl hr hq h]
    · rw [List.map_replicate, lim_plcT ht hl hr hq]
theorem lim_useful {t l q r : Nat} (ht : 1 ≤ t ∧ t ≤ 14) (hl : 1 ≤ l ∧ l ≤ 12) (hr : l ≤ r ∧ r ≤ 32) (hq : q ≤ 8) : useful (limT t) ⟨#[]⟩ (limR l q r) := by
  have hok := rules_ok (lim_named ht hl hr hq)
  have hlen : (leftsF (limR l q r)).length = l := by rw [lim_left ht hl hr hq, List.length_map, List.length_range]
  rw [limT_len, hlen] at hok
  have hy : (y0 t l).length = t + 1 + l := by simp [y0]; omega
  have hr0 : (r0 t l (t + 1)).length = t + 1 + l := by simp [r0]
  obtain ⟨ry, fy, ly⟩ := U.fix_some (passY (rulesF (limT t) ⟨#[]⟩ (limR l q r)).tail) (fun y h => U.keptY hok y h) _ _ hy (Nat.le_refl _)
  obtain ⟨rr, fr, lr⟩ := U.fix_some (passR (rulesF (limT t) ⟨#[]⟩ (limR l q r)).tail) (fun y h => U.keptR hok y h) _ _ hr0 (Nat.le_refl _)
  refine ⟨ry, rr, by rw [limT_len, hlen]; exact fy, by rw [limT_len, hlen, lim_start ht hl hr hq]; exact fr, ?_⟩
  rw [limT_len, hlen]
  obtain ⟨y1, y2⟩ := fixY fy
  obtain ⟨r1, r2⟩ := fixR fr
  have hz : gt ry 0 = true := y1 0 (by unfold gt y0; rw [show t = (t - 1) + 1 by omega]; rfl)
  have hY : ∀ d k, k + d + 1 = l → gt ry ((t + 1 + k : Nat) : Int) = true := by
    intro d
    induction d with
    | zero =>
      intro k hk
      obtain ⟨x, hx, e0, e1⟩ := lim_rule ht hl hr hq (show k < l by omega)
      have := y2 x hx (by rw [e1, if_neg (by omega), List.all_eq_true]; intro z hz2; rw [(List.mem_replicate.1 hz2).2]; exact hz)
      rwa [e0] at this
    | succ d ih =>
      intro k hk
      obtain ⟨x, hx, e0, e1⟩ := lim_rule ht hl hr hq (show k < l by omega)
      have := y2 x hx (by rw [e1, if_pos (by omega), List.all_eq_true]; intro z hz2; rw [List.mem_singleton.1 hz2]; exact ih (k + 1) (by omega))
      rwa [e0] at this
  have hR : ∀ k, k < l → gt rr ((t + 1 + k : Nat) : Int) = true := by
    intro k
    induction k with
    | zero =>
      intro hk
      refine r1 _ ?_
      unfold gt r0
      rw [List.getD_eq_getElem?_getD, List.getElem?_set]
      simp [hk]
    | succ k ih =>
      intro hk
      obtain ⟨x, hx, e0, e1⟩ := lim_rule ht hl hr hq (show k < l by omega)
      exact r2 x hx (by rw [e0]; exact ih (by omega)) _ (by rw [e1, if_pos hk]; exact List.mem_singleton.2 rfl)
  intro i h1 h2
  obtain ⟨k, rfl⟩ : ∃ k, i = t + 1 + k := ⟨i - (t + 1), by omega⟩
  exact ⟨hY (l - 1 - k) k (by omega), hR k (by omega)⟩
/-- Of's answer of such a grammar. -/
theorem lim_err {t l q r : Nat} (ht : 1 ≤ t ∧ t ≤ 14) (hl : 1 ≤ l ∧ l ≤ 12) (hr : l ≤ r ∧ r ≤ 32) (hq : q ≤ 8) {e : Int} (h : OfIs (limT t) ⟨#[]⟩ 0 (limR l q r) e) : e = if 12 < t ∨ 10 < l ∨ 30 < r ∨ 6 < q then 6 else 0 := by
  have h1 := lim_may ht hl hr hq
  have h2 := lim_long ht hl hr hq
  have h3 := lim_named ht hl hr hq
  have h4 := lim_useful ht hl hr hq
  unfold OfIs at h
  rw [h1, h2] at h
  by_cases hc : 12 < t ∨ 10 < l ∨ 30 < r ∨ 6 < q
  · rw [decide_eq_true hc] at h
    rw [if_pos hc]
    rcases h with ⟨h, _⟩ | ⟨_, _, h⟩ | ⟨_, h, _⟩ | ⟨_, h, _⟩ | ⟨_, h, _⟩
    · cases h
    · exact h
    all_goals cases h
  · rw [decide_eq_false hc] at h
    rw [if_neg hc]
    rcases h with ⟨h, _⟩ | ⟨_, h, _⟩ | ⟨_, _, h, _⟩ | ⟨_, _, _, h, _⟩ | ⟨_, _, _, _, h⟩
    · cases h
    · cases h
    · exact absurd h3 h
    · exact absurd h4 h
    · exact h
end Go.Proofs.YtjhemobplcelbaaGreatDoor.O
