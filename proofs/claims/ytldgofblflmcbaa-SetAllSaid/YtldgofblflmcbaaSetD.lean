/- oset: a set as one thing: what its methods do to what it reads as. -/
import Derived.Test.YtldgofblflmcbaaSetC
import Derived.Deep.RegionHeld3
import Derived.Deep.QuietTactic
import Derived.BigQuiet
import Derived.Laws.EntriesVeiled
namespace Go.Proofs.Ytldgofblflmcbaa.S
open Go.RowKit Go.Proofs.YtldgofblflmcbaaW.PrintWords Go.Proofs.YtldgofblflmcbaaW.PrintLast Go.Proofs.YtldgofblflmcbaaW.PrintMore
set_option linter.unusedVariables false
set_option linter.unusedSimpArgs false

/-! ### Plain: an order, a list in order, one more -/
structure Cmp {α : Type} (c : α → α → Int) : Prop where
  trans : ∀ {a b d}, c a b < 0 → c b d < 0 → c a d < 0
  flip : ∀ {a b}, 0 < c a b → c b a < 0
  back : ∀ {a b}, c a b < 0 → 0 < c b a
def Up {α : Type} (c : α → α → Int) (l : List α) : Prop := l.Pairwise fun a b => c a b < 0
theorem Up.fits {α : Type} {c : α → α → Int} (hc : Cmp c) {l : List α} (h : Up c l) (x : α) : Fits c x l := by
  intro j k hj hk hjk hx
  rcases Nat.eq_or_lt_of_le hjk with rfl | hlt
  · exact hx
  · exact hc.trans (List.pairwise_iff_getElem.1 h j k hj hk hlt) hx
/-- A list with x more, where it is not there yet. -/
def add {α : Type} (c : α → α → Int) (x : α) (l : List α) : List α := if hit c x l = true then l else l.take (lo c x l) ++ [x] ++ l.drop (lo c x l)
def del {α : Type} (c : α → α → Int) (x : α) (l : List α) : List α := if hit c x l = true then l.take (lo c x l) ++ l.drop (lo c x l + 1) else l
theorem hit_lt {α : Type} {c : α → α → Int} {x : α} {l : List α} (h : hit c x l = true) : lo c x l < l.length := by
  unfold hit at h
  rcases Nat.lt_or_ge (lo c x l) l.length with h2 | h2
  · exact h2
  · rw [List.getElem?_eq_none h2] at h
    cases h
theorem Up.add {α : Type} {c : α → α → Int} (hc : Cmp c) {l : List α} (h : Up c l) (x : α) : Up c (S.add c x l) := by
  unfold S.add
  by_cases hh : hit c x l = true
  · rw [if_pos hh]; exact h
  · rw [if_neg hh]
    have h1 : ∀ a ∈ l.take (lo c x l), c a x < 0 := fun a ha => by
      obtain ⟨k, hk, rfl⟩ := List.getElem_of_mem ha
      rw [List.length_take] at hk
      rw [List.getElem_take]
      exact lo_lt (by omega) (by omega)
    have h2 : ∀ b ∈ l.drop (lo c x l), c x b < 0 := fun b hb => by
      obtain ⟨k, hk, rfl⟩ := List.getElem_of_mem hb
      rw [List.length_drop] at hk
      rw [List.getElem_drop]
      have hlt : lo c x l < l.length := by omega
      have h3 := lo_at hlt
      have h4 : ¬ c l[lo c x l] x = 0 := fun e => hh (by unfold hit; rw [List.getElem?_eq_getElem hlt]; simp [e])
      have h5 := hc.flip (a := l[lo c x l]) (b := x) (by omega)
      rcases Nat.eq_zero_or_pos k with rfl | hp
      · exact h5
      · exact hc.trans h5 (List.pairwise_iff_getElem.1 h _ _ hlt (by omega) (by omega))
    have h3 : Up c (l.take (lo c x l)) := List.Pairwise.sublist (List.take_sublist _ _) h
    have h4 : Up c (l.drop (lo c x l)) := List.Pairwise.sublist (List.drop_sublist _ _) h
    rw [List.append_assoc]
    refine List.pairwise_append.2 ⟨h3, List.pairwise_cons.2 ⟨h2, h4⟩, fun a ha b hb => ?_⟩
    rcases List.mem_cons.1 hb with rfl | hb
    · exact h1 a ha
    · exact hc.trans (h1 a ha) (h2 b hb)
theorem Up.del {α : Type} {c : α → α → Int} {l : List α} (h : Up c l) (x : α) : Up c (S.del c x l) := by
  unfold S.del
  by_cases hh : hit c x l = true
  · rw [if_pos hh, ← List.eraseIdx_eq_take_drop_succ]
    exact List.Pairwise.sublist (List.eraseIdx_sublist _ _) h
  · rw [if_neg hh]; exact h
theorem add_len {α : Type} (c : α → α → Int) (x : α) (l : List α) : (add c x l).length = if hit c x l = true then l.length else l.length + 1 := by
  unfold add
  have := lo_le c x l
  split
  · rfl
  · simp; omega
theorem del_len {α : Type} (c : α → α → Int) (x : α) (l : List α) : (del c x l).length ≤ l.length := by
  unfold del
  have := lo_le c x l
  split
  · simp; omega
  · exact Nat.le_refl _
/-- The order of whole numbers. -/
def cI (a b : Int) : Int := if a < b then -1 else if a > b then 1 else 0
def cB (a b : Int) : Int := cI b a
theorem cmpI : Cmp cI := by
  refine ⟨?_, ?_, ?_⟩ <;> intros <;> simp only [cI] at * <;> (repeat' split at *) <;> omega
theorem cmpB : Cmp cB := by
  refine ⟨?_, ?_, ?_⟩ <;> intros <;> simp only [cB, cI] at * <;> (repeat' split at *) <;> omega
def cP (a b : P44) : Int := cI a.key b.key
theorem cmpP : Cmp cP := ⟨fun h1 h2 => cmpI.trans h1 h2, fun h => cmpI.flip h, fun h => cmpI.back h⟩
theorem compare_calls (a b : Int) (w : World) : Calls Try.prog 9 #[.int .i64 a, .int .i64 b] w fun e w' => e = .returned (.int .i64 (cI a b)) ∧ w' = w := by
  by_cases h1 : a < b
  · have t1 : decide (a < b) = true := decide_eq_true h1
    have e : cI a b = -1 := by unfold cI; rw [if_pos h1]
    rw [e]
    clear e
    go_enter Try.func9, Try.ntmps9
    go_wp2
    go_ret
    exact ⟨rfl, rfl⟩
  · have t1 : decide (a < b) = false := decide_eq_false h1
    by_cases h2 : a > b
    · have t2 : decide (a > b) = true := decide_eq_true h2
      have e : cI a b = 1 := by unfold cI; rw [if_neg h1, if_pos h2]
      rw [e]
      clear e
      go_enter Try.func9, Try.ntmps9
      go_wp2
      go_ret
      exact ⟨rfl, rfl⟩
    · have t2 : decide (a > b) = false := decide_eq_false h2
      have e : cI a b = 0 := by unfold cI; rw [if_neg h1, if_neg h2]
      rw [e]
      clear e
      go_enter Try.func9, Try.ntmps9
      go_wp2
      go_ret
      exact ⟨rfl, rfl⟩
theorem back_calls (a b : Int) (w : World) : Calls Try.prog 10 #[.int .i64 a, .int .i64 b] w fun e w' => e = .returned (.int .i64 (cB a b)) ∧ w' = w := by
  go_enter Try.func10, Try.ntmps10
  go_wp2_with (go_at_call 9; refine (compare_calls _ _ _).mono ?_; rintro e w' ⟨rfl, rfl⟩)
  go_ret
  exact ⟨rfl, rfl⟩

/-! ### The set -/
/-- Nothing but blocks of S, and new ones, has turned. -/
structure Same (S : Nat → Prop) (w w' : World) : Prop where
  os : w'.os = w.os
  tape : w'.tape = w.tape
  output : w'.output = w.output
  size : w.heap.size ≤ w'.heap.size
  block : ∀ k, k < w.heap.size → ¬ S k → w'.heap[k]? = w.heap[k]?
theorem Same.refl (S : Nat → Prop) (w : World) : Same S w w := ⟨rfl, rfl, rfl, Nat.le_refl _, fun _ _ _ => rfl⟩
theorem Same.of_below {S : Nat → Prop} {w w' : World} (h : Below w.heap.size w w') : Same S w w' := ⟨h.os, h.tape, h.output, h.size, fun k hk _ => h.block k hk⟩
theorem Same.trans {S S' : Nat → Prop} {a b c : World} (h : Same S a b) (k : Same S' b c) (hs : ∀ i, S' i → S i ∨ a.heap.size ≤ i) : Same S a c :=
  ⟨k.os.trans h.os, k.tape.trans h.tape, k.output.trans h.output, Nat.le_trans h.size k.size, fun i hi hn =>
    (k.block i (Nat.lt_of_lt_of_le hi h.size) (fun hx => (hs i hx).elim hn (fun hx => by omega))).trans (h.block i hi hn)⟩
theorem Same.below {S : Nat → Prop} {w w' : World} {B : Nat} (h : Same S w w') (hB : B ≤ w.heap.size) (hs : ∀ i, S i → B ≤ i) : Below B w w' :=
  ⟨h.os, h.tape, h.output, h.size, fun k hk => h.block k (by omega) (fun hx => by have := hs k hx; omega)⟩
theorem Same.mono {S S' : Nat → Prop} {w w' : World} (h : Same S w w') (hs : ∀ i, S i → S' i) : Same S' w w' := ⟨h.os, h.tape, h.output, h.size, fun k hk hn => h.block k hk (fun hx => hn (hs k hx))⟩
theorem Same.of_grown {S : Nat → Prop} {w w' : World} {r : Option Nat} (h : w.grownBy w' r) (hs : ∀ k, r = some k → S k) : Same S w w' := ⟨h.os, h.tape, h.output, h.size, fun k hk hn => h.block k hk (fun e => hn (hs k e.symm))⟩
section
variable {α : Type}
/-- The set at g: its order Fn, its members xs; nothing of it lies outside F. -/
structure SF (d : Kd α) (e T : Nat) (Fn : Value) (w : World) (g : Nat) (F : Nat → Prop) (xs : List α) : Prop where
  obj : ∃ v, w.heap[g]? = some (.cells #[Fn, v] T (0, 0)) ∧ Row d e w 0 v xs ∧ ∀ k, own v k → F k
  at_ : F g
  lt : ∀ k, F k → k < w.heap.size
/-- What a method leaves of the set. -/
def After (d : Kd α) (e T : Nat) (Fn : Value) (w : World) (g : Nat) (F : Nat → Prop) (xs : List α) (r : Value) (en : Ending) (w' : World) : Prop :=
  en = .returned r ∧ ∃ F', SF d e T Fn w' g F' xs ∧ Same F w w' ∧ ∀ k, F' k → F k ∨ w.heap.size ≤ k
variable {d : Kd α} {e T : Nat} {Fn : Value} {w w' : World} {g : Nat} {F : Nat → Prop} {xs : List α}
theorem SF.step (h : SF d e T Fn w g F xs) (hm : ∀ k, F k → k < w.heap.size → w'.heap[k]? = w.heap[k]?) (hz : w.heap.size ≤ w'.heap.size) : SF d e T Fn w' g F xs := by
  obtain ⟨v, hc, hr, hF⟩ := h.obj
  exact ⟨⟨v, by rw [hm g h.at_ (h.lt g h.at_)]; exact hc, hr.step (fun k hk hlt => hm k (hF k hk) hlt), hF⟩, h.at_, fun k hk => Nat.lt_of_lt_of_le (h.lt k hk) hz⟩
theorem SF.below (h : SF d e T Fn w g F xs) (hb : Below w.heap.size w w') : SF d e T Fn w' g F xs := h.step (fun k _ hlt => hb.block k hlt) hb.size
theorem SF.drewN (h : SF d e T Fn w g F xs) (n : Nat) : SF d e T Fn (w.drewN n) g F xs := h.below (pw_below_drewN (Below.refl _ _) n)
/-- Another set's method has run. -/
theorem SF.same (h : SF d e T Fn w g F xs) {G : Nat → Prop} (hs : Same G w w') (hn : ∀ k, F k → ¬ G k) : SF d e T Fn w' g F xs := h.step (fun k hk hlt => hs.block k hlt (hn k hk)) hs.size
theorem SF.cells (h : SF d e T Fn w g F xs) : ∃ v, w.heap[g]? = some (.cells #[Fn, v] T (0, 0)) ∧ Row d e w 0 v xs ∧ (∀ k, own v k → F k) ∧ w.cell? ⟨g, 0, none⟩ = some Fn ∧ w.cell? ⟨g, 1, none⟩ = some v ∧ w.frozen? ⟨g, 1, none⟩ = false := by
  obtain ⟨v, hc, hr, hF⟩ := h.obj
  exact ⟨v, hc, hr, hF, by simp [World.cell?, hc], by simp [World.cell?, hc], by simp [World.frozen?, hc]⟩
theorem two_set1 {w : World} {b : Nat} {v u x : Value} {t : TypeId} (h : w.heap[b]? = some (.cells #[v, u] t (0, 0))) : (w.setCell ⟨b, 1, none⟩ x).heap[b]? = some (.cells #[v, x] t (0, 0)) := by
  have hlt : b < w.heap.size := by
    rcases Nat.lt_or_ge b w.heap.size with h' | h'
    · exact h'
    · rw [Array.getElem?_eq_none h'] at h; cases h
  have h' : w.heap[b] = .cells #[v, u] t (0, 0) := by simpa [Array.getElem?_eq_getElem hlt] using h
  show (w.heap.modify b _)[b]? = _
  rw [Array.getElem?_eq_getElem (by simpa using hlt), Array.getElem_modify_self, h']
  rfl
/-- The row has turned (Insert, Delete) and is stored. -/
theorem SF.store (h : SF d e T Fn w g F xs) (hT : e ≠ T) {v v1 : Value} {ys : List α} {w1 : World} (hc : w.heap[g]? = some (.cells #[Fn, v] T (0, 0))) (hr0 : Row d e w 0 v xs) (hF : ∀ k, own v k → F k) (hr : Row d e w1 0 v1 ys) (hg : w.grownBy w1 v.ownBlock) (hat : v1.ownBlock = v.ownBlock ∨ ∃ b, v1.ownBlock = some b ∧ w.heap.size ≤ b) :
    ∃ F', SF d e T Fn (w1.setCell ⟨g, 1, none⟩ v1) g F' ys ∧ Same F w (w1.setCell ⟨g, 1, none⟩ v1) ∧ ∀ k, F' k → F k ∨ w.heap.size ≤ k := by
  have hgv : some g ≠ v.ownBlock := fun e2 => by
    obtain ⟨cs, hcs⟩ := hr0.typed g e2
    rw [hc] at hcs
    injection hcs with hcs
    injection hcs with _ hcs
    exact hT hcs.symm
  have hgl : g < w.heap.size := h.lt g h.at_
  have hc1 : w1.heap[g]? = some (.cells #[Fn, v] T (0, 0)) := by rw [hg.block g hgl hgv]; exact hc
  have hne : ∀ k, own v1 k → k ≠ g := by
    rintro k hk rfl
    rcases hat with ha | ⟨b, hb, hle⟩
    · exact hgv (by rw [← ha]; exact hk)
    · have : some k = some b := by rw [← hb]; exact hk
      injection this with this
      omega
  have hsz : (w1.setCell ⟨g, 1, none⟩ v1).heap.size = w1.heap.size := World.size_setCell ..
  refine ⟨fun k => F k ∨ own v1 k, ⟨⟨v1, two_set1 hc1, Kd.R_far hr (fun k hk => hne k hk) _, fun k hk => .inr hk⟩, .inl h.at_, fun k hk => ?_⟩, ?_, fun k hk => ?_⟩
  · rw [hsz]
    rcases hk with hk | hk
    · exact Nat.lt_of_lt_of_le (h.lt k hk) hg.size
    · exact (hr.lt k hk).2
  · have hs : Same F w w1 := Same.of_grown hg (fun k hk => hF k hk.symm)
    refine ⟨hs.os, hs.tape, hs.output, by rw [hsz]; exact hs.size, fun k hk hn => ?_⟩
    rw [Below.heap_setCell w1 ⟨g, 1, none⟩ v1 k (fun e2 => hn (by rw [e2]; exact h.at_))]
    exact hs.block k hk hn
  · rcases hk with hk | hk
    · exact .inl hk
    · rcases hat with ha | ⟨b, hb, hle⟩
      · exact .inl (hF k (by unfold own; rw [← ha]; exact hk))
      · have : some k = some b := by rw [← hb]; exact hk
        injection this with this
        exact .inr (by omega)
end
end Go.Proofs.Ytldgofblflmcbaa.S
