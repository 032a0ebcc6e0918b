/- oset: two sets beside three lists; sets that are laid together. -/
import Derived.Test.YtldgofblflmcbaaSetL
namespace Go.Proofs.Ytldgofblflmcbaa.S
open Go.RowKit Go.Proofs.YtldgofblflmcbaaW.PrintWords Go.Proofs.YtldgofblflmcbaaW.PrintLast Go.Proofs.YtldgofblflmcbaaW.PrintMore
set_option linter.unusedVariables false
set_option linter.unusedSimpArgs false
/-! ### Plain: lists in order are told by what is in them -/
theorem cD_eq (down : Bool) (a x : Int) : cD down a x = 0 ↔ a = x := by
  have h1 : (cD down a x == 0) = (a == x) := by cases down; exact cI_eq a x; exact cB_eq a x
  rw [Bool.eq_iff_iff] at h1
  simpa using h1
theorem up_ext {down : Bool} : ∀ {l m : List Int}, Up (cD down) l → Up (cD down) m → (∀ x, x ∈ l ↔ x ∈ m) → l = m := by
  intro l
  induction l with
  | nil =>
    intro m _ _ h
    cases m with
    | nil => rfl
    | cons y m => exact absurd ((h y).2 (by simp)) (by simp)
  | cons x l ih =>
    intro m hl hm h
    cases m with
    | nil => exact absurd ((h x).1 (by simp)) (by simp)
    | cons y m =>
      have hl' := List.pairwise_cons.1 hl
      have hm' := List.pairwise_cons.1 hm
      have irr : ∀ a, ¬ cD down a a < 0 := fun a => by have := (cD_eq down a a).2 rfl; omega
      have hxy : x = y := by
        rcases List.mem_cons.1 ((h x).1 (by simp)) with e | e
        · exact e
        · rcases List.mem_cons.1 ((h y).2 (by simp)) with e2 | e2
          · exact e2.symm
          · exact absurd ((cmpD down).trans (hm'.1 x e) (hl'.1 y e2)) (irr y)
      subst hxy
      rw [ih hl'.2 hm'.2 (fun z => ?_)]
      have := h z
      simp only [List.mem_cons] at this
      constructor
      · intro hz
        rcases this.1 (.inr hz) with rfl | h2
        · exact absurd (hl'.1 z hz) (irr z)
        · exact h2
      · intro hz
        rcases this.2 (.inr hz) with rfl | h2
        · exact absurd (hm'.1 z hz) (irr z)
        · exact h2
theorem mem_addD {down : Bool} {x y : Int} {l : List Int} (hu : Up (cD down) l) : y ∈ S.add (cD down) x l ↔ y = x ∨ y ∈ l := by
  unfold S.add
  by_cases hh : hit (cD down) x l = true
  · rw [if_pos hh]
    constructor
    · exact .inr
    · rintro (rfl | h)
      · rw [hit_contains hu, List.contains_iff_mem] at hh
        exact hh
      · exact h
  · rw [if_neg hh]
    have := List.take_append_drop (lo (cD down) x l) l
    simp only [List.mem_append, List.mem_singleton]
    constructor
    · rintro ((h | h) | h)
      · exact .inr (List.mem_of_mem_take h)
      · exact .inl h
      · exact .inr (List.mem_of_mem_drop h)
    · rintro (h | h)
      · exact .inl (.inr h)
      · rw [← this] at h
        rcases List.mem_append.1 h with h | h
        · exact .inl (.inl h)
        · exact .inr h
theorem mem_adds {x : Int} {l ys : List Int} (hu : Up cI l) : x ∈ I9.adds l ys ↔ x ∈ l ∨ x ∈ ys := by
  induction ys generalizing l with
  | nil => simp [I9.adds]
  | cons y ys ih =>
    have e : I9.adds l (y :: ys) = I9.adds (S.add cI y l) ys := rfl
    rw [e, ih (hu.add cmpI y), show (x ∈ S.add cI y l) ↔ _ from mem_addD (down := false) hu]
    simp only [List.mem_cons]
    constructor
    · rintro ((h | h) | h)
      · exact .inr (.inl h)
      · exact .inl h
      · exact .inr (.inr h)
    · rintro (h | (h | h))
      · exact .inl (.inr h)
      · exact .inl (.inl h)
      · exact .inr h
theorem mem_addsB {x : Int} {l ys : List Int} (hu : Up cB l) : x ∈ I10.adds l ys ↔ x ∈ l ∨ x ∈ ys := by
  induction ys generalizing l with
  | nil => simp [I10.adds]
  | cons y ys ih =>
    have e : I10.adds l (y :: ys) = I10.adds (S.add cB y l) ys := rfl
    rw [e, ih (hu.add cmpB y), show (x ∈ S.add cB y l) ↔ _ from mem_addD (down := true) hu]
    simp only [List.mem_cons]
    constructor
    · rintro ((h | h) | h)
      · exact .inr (.inl h)
      · exact .inl h
      · exact .inr (.inr h)
    · rintro (h | (h | h))
      · exact .inl (.inr h)
      · exact .inl (.inl h)
      · exact .inr h
/-! ### Two sets beside three lists -/
structure Tw (w0 w : World) (g1 : Nat) (xs : List Int) (g2 : Nat) (ys : List Int) (v1 : Value) (l1 : List Int) (v2 : Value) (l2 : List Int) (v3 : Value) (l3 : List Int) : Prop where
  st : ∃ F1 F2 G, I9.St w g1 F1 xs ∧ I9.St w g2 F2 ys ∧ (∀ k, F1 k → w0.heap.size ≤ k) ∧ (∀ k, F2 k → w0.heap.size ≤ k) ∧ (∀ k, F1 k → ¬ F2 k) ∧ VI w G v1 l1 ∧ VI w G v2 l2 ∧ VI w G v3 l3 ∧ (∀ k, F1 k → ¬ G k) ∧ (∀ k, F2 k → ¬ G k) ∧ ∀ k, G k → k < w.heap.size
  u1 : Up cI xs
  u2 : Up cI ys
  below : Below w0.heap.size w0 w
  n1 : xs.length ≤ 1000
  n2 : ys.length ≤ 1000
section
variable {w0 w w' : World} {g1 g2 : Nat} {xs ys zs l1 l2 l3 m : List Int} {v1 v2 v3 u : Value} {b : Bool}
theorem Tw.swap (h : Tw w0 w g1 xs g2 ys v1 l1 v2 l2 v3 l3) : Tw w0 w g2 ys g1 xs v2 l2 v1 l1 v3 l3 := by
  obtain ⟨F1, F2, G, a1, a2, a3, a4, a5, a6, a7, a8, a9, a10, a11⟩ := h.st
  exact ⟨⟨F2, F1, G, a2, a1, a4, a3, fun k h2 h1 => a5 k h1 h2, a7, a6, a8, a10, a9, a11⟩, h.u2, h.u1, h.below, h.n2, h.n1⟩
theorem Tw.move (h : Tw w0 w g1 xs g2 ys v1 l1 v2 l2 v3 l3) (hb : Below w.heap.size w w') : Tw w0 w' g1 xs g2 ys v1 l1 v2 l2 v3 l3 := by
  obtain ⟨F1, F2, G, a1, a2, a3, a4, a5, a6, a7, a8, a9, a10, a11⟩ := h.st
  exact ⟨⟨F1, F2, G, a1.below hb, a2.below hb, a3, a4, a5, Kd.V_below a6 hb, Kd.V_below a7 hb, Kd.V_below a8 hb, a9, a10, fun k hk => Nat.lt_of_lt_of_le (a11 k hk) hb.size⟩, h.u1, h.u2, h.below.trans (hb.mono h.below.size), h.n1, h.n2⟩
theorem Tw.add (h : Tw w0 w g1 xs g2 ys v1 l1 v2 l2 v3 l3) (x : Int) (hn : xs.length ≤ 999) :
    Calls Try.prog 13 #[.pointer (some ⟨g1, 0, none⟩), .int .i64 x] w fun e w' => (∃ r, e = .returned r) ∧ Tw w0 w' g1 (S.add cI x xs) g2 ys v1 l1 v2 l2 v3 l3 := by
  obtain ⟨F1, F2, G, a1, a2, a3, a4, a5, a6, a7, a8, a9, a10, a11⟩ := h.st
  refine (I9.add_calls a1 h.u1 (by have := h.n1; omega) x).mono fun e w' ⟨he, F', hs, hm, hF⟩ => ⟨⟨_, he⟩, ?_⟩
  have hz := h.below.size
  have hl := add_len cI x xs
  refine ⟨⟨F', F2, G, hs, a2.same hm (fun k h2 h1 => a5 k h1 h2), fun k hk => ?_, a4, fun k hk h2 => ?_, Kd.V_step a6 (fun k hk hlt => hm.block k hlt (fun h1 => a9 k h1 hk)), Kd.V_step a7 (fun k hk hlt => hm.block k hlt (fun h1 => a9 k h1 hk)), Kd.V_step a8 (fun k hk hlt => hm.block k hlt (fun h1 => a9 k h1 hk)), fun k hk hG => ?_, a10, fun k hk => Nat.lt_of_lt_of_le (a11 k hk) hm.size⟩, h.u1.add cmpI x, h.u2, h.below.trans (hm.below hz a3), by split at hl <;> omega, h.n2⟩
  · rcases hF k hk with hk | hk
    · exact a3 k hk
    · omega
  · rcases hF k hk with hk | hk
    · exact a5 k hk h2
    · have := a2.lt k h2; omega
  · rcases hF k hk with hk | hk
    · exact a9 k hk hG
    · have := a11 k hG; omega
theorem Tw.union (h : Tw w0 w g1 xs g2 ys v1 l1 v2 l2 v3 l3) (hz : I9.adds xs ys = zs) (hb : decide (xs.length < zs.length) = b) (hl : zs.length ≤ 1000) :
    Calls Try.prog 16 #[.pointer (some ⟨g1, 0, none⟩), .pointer (some ⟨g2, 0, none⟩)] w fun e w' => e = .returned (.bool b) ∧ Tw w0 w' g1 zs g2 ys v1 l1 v2 l2 v3 l3 := by
  obtain ⟨F1, F2, G, a1, a2, a3, a4, a5, a6, a7, a8, a9, a10, a11⟩ := h.st
  refine (I9.union_calls a1 h.u1 (by have := h.n1; omega) (by have := h.n2; omega) _ (I9.list_calls a2 (by have := h.n2; omega))).mono fun e w' ⟨he, F', hs, hm, hF⟩ => ?_
  have hz2 := h.below.size
  rw [hz] at hs he
  rw [hb] at he
  refine ⟨he, ⟨F', F2, G, hs, a2.same hm (fun k h2 h1 => a5 k h1 h2), fun k hk => ?_, a4, fun k hk h2 => ?_, Kd.V_step a6 (fun k hk hlt => hm.block k hlt (fun h1 => a9 k h1 hk)), Kd.V_step a7 (fun k hk hlt => hm.block k hlt (fun h1 => a9 k h1 hk)), Kd.V_step a8 (fun k hk hlt => hm.block k hlt (fun h1 => a9 k h1 hk)), fun k hk hG => ?_, a10, fun k hk => Nat.lt_of_lt_of_le (a11 k hk) hm.size⟩, by rw [← hz]; exact I9.adds_up h.u1 _, h.u2, h.below.trans (hm.below hz2 a3), hl, h.n2⟩
  · rcases hF k hk with hk | hk
    · exact a3 k hk
    · omega
  · rcases hF k hk with hk | hk
    · exact a5 k hk h2
    · have := a2.lt k h2; omega
  · rcases hF k hk with hk | hk
    · exact a9 k hk hG
    · have := a11 k hG; omega
/-- Union with itself. -/
theorem Tw.union1 (h : Tw w0 w g1 xs g2 ys v1 l1 v2 l2 v3 l3) (hz : I9.adds xs xs = xs) :
    Calls Try.prog 16 #[.pointer (some ⟨g1, 0, none⟩), .pointer (some ⟨g1, 0, none⟩)] w fun e w' => e = .returned (.bool false) ∧ Tw w0 w' g1 xs g2 ys v1 l1 v2 l2 v3 l3 := by
  obtain ⟨F1, F2, G, a1, a2, a3, a4, a5, a6, a7, a8, a9, a10, a11⟩ := h.st
  refine (I9.union_calls a1 h.u1 (by have := h.n1; omega) (by have := h.n1; omega) _ (I9.list_calls a1 (by have := h.n1; omega))).mono fun e w' ⟨he, F', hs, hm, hF⟩ => ?_
  have hz2 := h.below.size
  rw [hz] at hs he
  rw [decide_eq_false (by omega)] at he
  refine ⟨he, ⟨F', F2, G, hs, a2.same hm (fun k h2 h1 => a5 k h1 h2), fun k hk => ?_, a4, fun k hk h2 => ?_, Kd.V_step a6 (fun k hk hlt => hm.block k hlt (fun h1 => a9 k h1 hk)), Kd.V_step a7 (fun k hk hlt => hm.block k hlt (fun h1 => a9 k h1 hk)), Kd.V_step a8 (fun k hk hlt => hm.block k hlt (fun h1 => a9 k h1 hk)), fun k hk hG => ?_, a10, fun k hk => Nat.lt_of_lt_of_le (a11 k hk) hm.size⟩, h.u1, h.u2, h.below.trans (hm.below hz2 a3), h.n1, h.n2⟩
  · rcases hF k hk with hk | hk
    · exact a3 k hk
    · omega
  · rcases hF k hk with hk | hk
    · exact a5 k hk h2
    · have := a2.lt k h2; omega
  · rcases hF k hk with hk | hk
    · exact a9 k hk hG
    · have := a11 k hG; omega
theorem Tw.len1 (h : Tw w0 w g1 xs g2 ys v1 l1 v2 l2 v3 l3) : Calls Try.prog 19 #[.pointer (some ⟨g1, 0, none⟩)] w fun e w' => e = .returned (.int .i64 (xs.length : Int)) ∧ w' = w := by
  obtain ⟨F1, F2, G, a1, _⟩ := h.st
  exact I9.len_calls a1
theorem Tw.at1 (h : Tw w0 w g1 xs g2 ys v1 l1 v2 l2 v3 l3) (i : Int) :
    Calls Try.prog 18 #[.pointer (some ⟨g1, 0, none⟩), .int .i64 i] w fun e w' => e = .returned (.tuple #[.int .i64 (if 0 ≤ i ∧ i < xs.length then xs.getD i.toNat 0 else 0), .bool (decide (0 ≤ i ∧ i < xs.length))]) ∧ w' = w := by
  obtain ⟨F1, F2, G, a1, _⟩ := h.st
  exact I9.at_calls a1 i
theorem Tw.slices (h : Tw w0 w g1 xs g2 ys v1 l1 v2 l2 v3 l3) : (∃ A c, v1 = .slice A l1.length c) ∧ (∃ A c, v2 = .slice A l2.length c) ∧ ∃ A c, v3 = .slice A l3.length c := by
  obtain ⟨F1, F2, G, a1, a2, a3, a4, a5, a6, a7, a8, a9, a10, a11⟩ := h.st
  exact ⟨Kd.V_slice a6, Kd.V_slice a7, Kd.V_slice a8⟩
theorem Tw.reads3 {A : Option Addr} {n c : Nat} (h : Tw w0 w g1 xs g2 ys v1 l1 v2 l2 (.slice A n c) l3) : n = l3.length ∧ n ≤ c ∧ Kd.C (Kd.int .i64) w A l3.length l3 := by
  obtain ⟨F1, F2, G, a1, a2, a3, a4, a5, a6, a7, a8, a9, a10, a11⟩ := h.st
  exact Kd.V_reads' a8
/-- 'in' on the first list, and on the third one. -/
theorem Tw.in1 (h : Tw w0 w g1 xs g2 ys v1 l1 v2 l2 v3 l3) (x : Int) (hn : l1.length ≤ 1000000) :
    Calls Try.prog 14 #[v1, .int .i64 x, .bool false] w fun e w' => ∃ v', e = .returned v' ∧ Tw w0 w' g1 xs g2 ys v' (S.add cI x l1) v2 l2 v3 l3 ∧ Below w.heap.size w w' := by
  obtain ⟨F1, F2, G, a1, a2, a3, a4, a5, a6, a7, a8, a9, a10, a11⟩ := h.st
  refine (in_calls l1 x false hn v1 w G a6).mono fun e w' ⟨v', he, hv, hb⟩ => ⟨v', he, ⟨⟨F1, F2, fun k => (G k ∨ w.heap.size ≤ k) ∧ k < w'.heap.size, a1.below hb, a2.below hb, a3, a4, a5, Kd.V_bound hv, Kd.V_mono (Kd.V_below a7 hb) (fun k hk => ⟨.inl hk, Nat.lt_of_lt_of_le (a11 k hk) hb.size⟩), Kd.V_mono (Kd.V_below a8 hb) (fun k hk => ⟨.inl hk, Nat.lt_of_lt_of_le (a11 k hk) hb.size⟩), fun k hk hG => ?_, fun k hk hG => ?_, fun k hk => hk.2⟩, h.u1, h.u2, h.below.trans (hb.mono h.below.size), h.n1, h.n2⟩, hb⟩
  · rcases hG.1 with h1 | h1
    · exact a9 k hk h1
    · have := a1.lt k hk; omega
  · rcases hG.1 with h1 | h1
    · exact a10 k hk h1
    · have := a2.lt k hk; omega
theorem Tw.rot (h : Tw w0 w g1 xs g2 ys v1 l1 v2 l2 v3 l3) : Tw w0 w g1 xs g2 ys v3 l3 v2 l2 v1 l1 := by
  obtain ⟨F1, F2, G, a1, a2, a3, a4, a5, a6, a7, a8, a9, a10, a11⟩ := h.st
  exact ⟨⟨F1, F2, G, a1, a2, a3, a4, a5, a8, a7, a6, a9, a10, a11⟩, h.u1, h.u2, h.below, h.n1, h.n2⟩
theorem Tw.in3 (h : Tw w0 w g1 xs g2 ys v1 l1 v2 l2 v3 l3) (x : Int) (hn : l3.length ≤ 1000000) :
    Calls Try.prog 14 #[v3, .int .i64 x, .bool false] w fun e w' => ∃ v', e = .returned v' ∧ Tw w0 w' g1 xs g2 ys v1 l1 v2 l2 v' (S.add cI x l3) ∧ Below w.heap.size w w' :=
  (h.rot.in1 x hn).mono fun _ _ ⟨v', he, hT, hb⟩ => ⟨v', he, hT.rot, hb⟩
theorem Tw.in2 (h : Tw w0 w g1 xs g2 ys v1 l1 v2 l2 v3 l3) (x : Int) (hn : l2.length ≤ 1000000) :
    Calls Try.prog 14 #[v2, .int .i64 x, .bool false] w fun e w' => ∃ v', e = .returned v' ∧ Tw w0 w' g1 xs g2 ys v1 l1 v' (S.add cI x l2) v3 l3 ∧ Below w.heap.size w w' :=
  (h.swap.in1 x hn).mono fun _ _ ⟨v', he, hT, hb⟩ => ⟨v', he, hT.swap, hb⟩
end
end Go.Proofs.Ytldgofblflmcbaa.S
