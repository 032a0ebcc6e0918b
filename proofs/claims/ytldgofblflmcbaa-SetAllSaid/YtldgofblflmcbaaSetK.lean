/- oset: a set beside a list of the statement's own. -/
import Derived.Test.YtldgofblflmcbaaSetJ
namespace Go.Proofs.Ytldgofblflmcbaa.S
open Go.RowKit Go.Proofs.YtldgofblflmcbaaW.PrintWords Go.Proofs.YtldgofblflmcbaaW.PrintLast Go.Proofs.YtldgofblflmcbaaW.PrintMore
set_option linter.unusedVariables false
set_option linter.unusedSimpArgs false
theorem VI.of_row {w : World} {B : Nat} {v : Value} {l : List Int} (h : Row (Kd.int .i64) 3 w B v l) : VI w (own v) v l := Kd.R_V h
theorem VI.nil (w : World) : VI w (fun _ => False) (.slice none 0 0) [] := Kd.V_nil _ _ _ _ _

namespace I9
/-- A set that came after w0, beside a list v that reads as l. -/
structure OneV (w0 w : World) (g : Nat) (xs : List Int) (v : Value) (l : List Int) : Prop where
  st : ∃ F G, St w g F xs ∧ (∀ k, F k → w0.heap.size ≤ k) ∧ VI w G v l ∧ (∀ k, F k → ¬ G k) ∧ ∀ k, G k → k < w.heap.size
  up : Up cI xs
  below : Below w0.heap.size w0 w
  len : xs.length ≤ 100000
section
variable {w0 w w' : World} {g : Nat} {xs ys l m : List Int} {v u : Value} {b : Bool}
theorem OneV.start {F : Nat → Prop} (hb : Below w0.heap.size w0 w) (hs : St w g F []) (hf : ∀ k, F k → w0.heap.size ≤ k) : OneV w0 w g [] (.slice none 0 0) [] :=
  ⟨⟨F, fun _ => False, hs, hf, VI.nil _, fun _ _ h => h, fun _ h => h.elim⟩, List.Pairwise.nil, hb, by simp⟩
theorem OneV.move (h : OneV w0 w g xs v l) (hb : Below w.heap.size w w') : OneV w0 w' g xs v l := by
  obtain ⟨F, G, hs, hf, hv, hd, hg⟩ := h.st
  exact ⟨⟨F, G, hs.below hb, hf, Kd.V_below hv hb, hd, fun k hk => Nat.lt_of_lt_of_le (hg k hk) hb.size⟩, h.up, h.below.trans (hb.mono h.below.size), h.len⟩
/-- The list is another one now, that lies in G' or is new. -/
theorem OneV.list_is (h : OneV w0 w g xs v l) (hb : Below w.heap.size w w') (hv : ∀ G : Nat → Prop, VI w G v l → VI w' (fun k => G k ∨ w.heap.size ≤ k) u m) : OneV w0 w' g xs u m := by
  obtain ⟨F, G, hs, hf, hv0, hd, hg⟩ := h.st
  refine ⟨⟨F, _, hs.below hb, hf, Kd.V_bound (hv G hv0), fun k hk hG => ?_, fun k hk => hk.2⟩, h.up, h.below.trans (hb.mono h.below.size), h.len⟩
  rcases hG.1 with h1 | h1
  · exact hd k hk h1
  · have := hs.lt k hk
    omega
theorem OneV.reads {A : Option Addr} {n c : Nat} (h : OneV w0 w g xs (.slice A n c) l) : n = l.length ∧ n ≤ c ∧ Kd.C (Kd.int .i64) w A l.length l := by
  obtain ⟨F, G, hs, hf, hv, hd, hg⟩ := h.st
  exact Kd.V_reads' hv
theorem OneV.slice (h : OneV w0 w g xs v l) : ∃ A c, v = .slice A l.length c ∧ l.length ≤ c := by
  obtain ⟨F, G, hs, hf, hv, hd, hg⟩ := h.st
  obtain ⟨A, c, hv2, hl, _⟩ := hv
  exact ⟨A, c, hv2, hl⟩
theorem OneV.turned {F G : Nat → Prop} {e : Ending} {r : Value} (h : OneV w0 w g xs v l) (hs : St w g F xs) (hf : ∀ k, F k → w0.heap.size ≤ k) (hv : VI w G v l) (hd : ∀ k, F k → ¬ G k) (hg : ∀ k, G k → k < w.heap.size)
    (hu : Up cI ys) (hl : ys.length ≤ 100000) (ha : Aft w g F ys r e w') : e = .returned r ∧ OneV w0 w' g ys v l ∧ ∀ K : Nat → Prop, (∀ k, K k → k < w.heap.size ∧ ¬ F k) → ∀ k, K k → w'.heap[k]? = w.heap[k]? := by
  obtain ⟨he, F', hs', hm, hF⟩ := ha
  have hz := h.below.size
  refine ⟨he, ⟨⟨F', G, hs', fun k hk => ?_, Kd.V_step hv (fun k hk hlt => hm.block k hlt (fun h2 => hd k h2 hk)), fun k hk hG => ?_, fun k hk => Nat.lt_of_lt_of_le (hg k hk) hm.size⟩, hu, h.below.trans (hm.below hz hf), hl⟩, fun K hK k hk => hm.block k (hK k hk).1 (hK k hk).2⟩
  · rcases hF k hk with hk | hk
    · exact hf k hk
    · omega
  · rcases hF k hk with hk | hk
    · exact hd k hk hG
    · have := hg k hG
      omega
theorem OneV.add (h : OneV w0 w g xs v l) (x : Int) (hy : S.add cI x xs = ys) (hb : hit cI x xs = b) (hl : ys.length ≤ 100000) :
    Calls Try.prog 13 #[.pointer (some ⟨g, 0, none⟩), .int .i64 x] w fun e w' => e = .returned (.bool (!b)) ∧ OneV w0 w' g ys v l := by
  obtain ⟨F, G, hs, hf, hv, hd, hg⟩ := h.st
  refine (add_calls hs h.up (by have := h.len; omega) x).mono fun e w' ha => ?_
  rw [hy, hb] at ha
  obtain ⟨h1, h2, _⟩ := h.turned hs hf hv hd hg (by rw [← hy]; exact h.up.add cmpI x) hl ha
  exact ⟨h1, h2⟩
theorem OneV.del (h : OneV w0 w g xs v l) (x : Int) (hy : S.del cI x xs = ys) (hb : hit cI x xs = b) :
    Calls Try.prog 15 #[.pointer (some ⟨g, 0, none⟩), .int .i64 x] w fun e w' => e = .returned (.bool b) ∧ OneV w0 w' g ys v l := by
  obtain ⟨F, G, hs, hf, hv, hd, hg⟩ := h.st
  refine (del_calls hs h.up (by have := h.len; omega) x).mono fun e w' ha => ?_
  have hl := del_len cI x xs
  rw [hy] at hl
  rw [hy, hb] at ha
  obtain ⟨h1, h2, _⟩ := h.turned hs hf hv hd hg (by rw [← hy]; exact h.up.del x) (by have := h.len; omega) ha
  exact ⟨h1, h2⟩
theorem OneV.has (h : OneV w0 w g xs v l) (x : Int) (hb : hit cI x xs = b) :
    Calls Try.prog 20 #[.pointer (some ⟨g, 0, none⟩), .int .i64 x] w fun e w' => e = .returned (.bool b) ∧ OneV w0 w' g xs v l := by
  obtain ⟨F, G, hs, hf, hv, hd, hg⟩ := h.st
  refine (has_calls hs h.up (by have := h.len; omega) x).mono fun e w' ⟨he, hD⟩ => ?_
  rw [hb] at he
  exact ⟨he, h.move (drawn_below hD)⟩
theorem OneV.hasD (h : OneV w0 w g xs v l) (x : Int) (hb : hit cI x xs = b) :
    Calls Try.prog 20 #[.pointer (some ⟨g, 0, none⟩), .int .i64 x] w fun e w' => e = .returned (.bool b) ∧ Drawn0 w w' := by
  obtain ⟨F, G, hs, hf, hv, hd, hg⟩ := h.st
  refine (has_calls hs h.up (by have := h.len; omega) x).mono fun e w' ⟨he, hD⟩ => ?_
  rw [hb] at he
  exact ⟨he, hD⟩
theorem OneV.lenc (h : OneV w0 w g xs v l) : Calls Try.prog 19 #[.pointer (some ⟨g, 0, none⟩)] w fun e w' => e = .returned (.int .i64 (xs.length : Int)) ∧ w' = w := by
  obtain ⟨F, G, hs, hf, hv, hd, hg⟩ := h.st
  exact len_calls hs
theorem OneV.at_ (h : OneV w0 w g xs v l) (i : Int) :
    Calls Try.prog 18 #[.pointer (some ⟨g, 0, none⟩), .int .i64 i] w fun e w' => e = .returned (.tuple #[.int .i64 (if 0 ≤ i ∧ i < xs.length then xs.getD i.toNat 0 else 0), .bool (decide (0 ≤ i ∧ i < xs.length))]) ∧ w' = w := by
  obtain ⟨F, G, hs, hf, hv, hd, hg⟩ := h.st
  exact at_calls hs i
theorem OneV.list (h : OneV w0 w g xs v l) :
    Calls Try.prog 22 #[.pointer (some ⟨g, 0, none⟩)] w fun e w' => ∃ v : Value, e = .returned v ∧ Row (Kd.int .i64) 3 w' w.heap.size v xs ∧ Below w.heap.size w w' := by
  obtain ⟨F, G, hs, hf, hv, hd, hg⟩ := h.st
  exact list_calls hs (by have := h.len; omega)
/-- The list is what List has given. -/
theorem OneV.listed (h : OneV w0 w g xs v l) (hr : Row (Kd.int .i64) 3 w' w.heap.size u m) (hb : Below w.heap.size w w') : OneV w0 w' g xs u m :=
  h.list_is hb (fun G _ => Kd.V_mono (VI.of_row hr) (fun k hk => .inr (hr.lt k hk).1))
theorem OneV.union {g2 : Nat} {F2 : Nat → Prop} {zs : List Int} (h : OneV w0 w g xs v l) (h2 : St w g2 F2 ys) (hm : ys.length ≤ 100000) (hz : adds xs ys = zs) (hb : decide (xs.length < zs.length) = b) (hl : zs.length ≤ 100000) :
    Calls Try.prog 16 #[.pointer (some ⟨g, 0, none⟩), .pointer (some ⟨g2, 0, none⟩)] w fun e w' => e = .returned (.bool b) ∧ OneV w0 w' g zs v l := by
  obtain ⟨F, G, hs, hf, hv, hd, hg⟩ := h.st
  refine (union_calls hs h.up (by have := h.len; omega) (by omega) _ (list_calls h2 (by omega))).mono fun e w' ha => ?_
  rw [hz, hb] at ha
  obtain ⟨h1, h3, _⟩ := h.turned hs hf hv hd hg (by rw [← hz]; exact adds_up h.up _) hl ha
  exact ⟨h1, h3⟩
/-- Of some numbers that are read, beside the set: another set. -/
theorem OneV.of {A : Option Addr} {cp : Nat} {zs : List Int} (h : OneV w0 w g xs v l) (hr : Kd.C (Kd.int .i64) w A zs.length zs) (hl : zs.length ≤ 100000) :
    Calls Try.prog 17 #[.func (.func 9) #[] #[], .slice A zs.length cp] w fun e w' => ∃ g2 F2, e = .returned (.pointer (some ⟨g2, 0, none⟩)) ∧ St w' g2 F2 (adds [] zs) ∧ OneV w0 w' g xs v l :=
  (of_calls w A cp zs (by omega) hr).mono fun e w' ⟨g2, F2, he, hs, hb, hf⟩ => ⟨g2, F2, he, hs, h.move hb⟩
end
end I9

namespace I10
/-- A set that came after w0, beside a list v that reads as l. -/
structure OneV (w0 w : World) (g : Nat) (xs : List Int) (v : Value) (l : List Int) : Prop where
  st : ∃ F G, St w g F xs ∧ (∀ k, F k → w0.heap.size ≤ k) ∧ VI w G v l ∧ (∀ k, F k → ¬ G k) ∧ ∀ k, G k → k < w.heap.size
  up : Up cB xs
  below : Below w0.heap.size w0 w
  len : xs.length ≤ 100000
section
variable {w0 w w' : World} {g : Nat} {xs ys l m : List Int} {v u : Value} {b : Bool}
theorem OneV.start {F : Nat → Prop} (hb : Below w0.heap.size w0 w) (hs : St w g F []) (hf : ∀ k, F k → w0.heap.size ≤ k) : OneV w0 w g [] (.slice none 0 0) [] :=
  ⟨⟨F, fun _ => False, hs, hf, VI.nil _, fun _ _ h => h, fun _ h => h.elim⟩, List.Pairwise.nil, hb, by simp⟩
theorem OneV.move (h : OneV w0 w g xs v l) (hb : Below w.heap.size w w') : OneV w0 w' g xs v l := by
  obtain ⟨F, G, hs, hf, hv, hd, hg⟩ := h.st
  exact ⟨⟨F, G, hs.below hb, hf, Kd.V_below hv hb, hd, fun k hk => Nat.lt_of_lt_of_le (hg k hk) hb.size⟩, h.up, h.below.trans (hb.mono h.below.size), h.len⟩
/-- The list is another one now, that lies in G' or is new. -/
theorem OneV.list_is (h : OneV w0 w g xs v l) (hb : Below w.heap.size w w') (hv : ∀ G : Nat → Prop, VI w G v l → VI w' (fun k => G k ∨ w.heap.size ≤ k) u m) : OneV w0 w' g xs u m := by
  obtain ⟨F, G, hs, hf, hv0, hd, hg⟩ := h.st
  refine ⟨⟨F, _, hs.below hb, hf, Kd.V_bound (hv G hv0), fun k hk hG => ?_, fun k hk => hk.2⟩, h.up, h.below.trans (hb.mono h.below.size), h.len⟩
  rcases hG.1 with h1 | h1
  · exact hd k hk h1
  · have := hs.lt k hk
    omega
theorem OneV.reads {A : Option Addr} {n c : Nat} (h : OneV w0 w g xs (.slice A n c) l) : n = l.length ∧ n ≤ c ∧ Kd.C (Kd.int .i64) w A l.length l := by
  obtain ⟨F, G, hs, hf, hv, hd, hg⟩ := h.st
  exact Kd.V_reads' hv
theorem OneV.slice (h : OneV w0 w g xs v l) : ∃ A c, v = .slice A l.length c ∧ l.length ≤ c := by
  obtain ⟨F, G, hs, hf, hv, hd, hg⟩ := h.st
  obtain ⟨A, c, hv2, hl, _⟩ := hv
  exact ⟨A, c, hv2, hl⟩
theorem OneV.turned {F G : Nat → Prop} {e : Ending} {r : Value} (h : OneV w0 w g xs v l) (hs : St w g F xs) (hf : ∀ k, F k → w0.heap.size ≤ k) (hv : VI w G v l) (hd : ∀ k, F k → ¬ G k) (hg : ∀ k, G k → k < w.heap.size)
    (hu : Up cB ys) (hl : ys.length ≤ 100000) (ha : Aft w g F ys r e w') : e = .returned r ∧ OneV w0 w' g ys v l ∧ ∀ K : Nat → Prop, (∀ k, K k → k < w.heap.size ∧ ¬ F k) → ∀ k, K k → w'.heap[k]? = w.heap[k]? := by
  obtain ⟨he, F', hs', hm, hF⟩ := ha
  have hz := h.below.size
  refine ⟨he, ⟨⟨F', G, hs', fun k hk => ?_, Kd.V_step hv (fun k hk hlt => hm.block k hlt (fun h2 => hd k h2 hk)), fun k hk hG => ?_, fun k hk => Nat.lt_of_lt_of_le (hg k hk) hm.size⟩, hu, h.below.trans (hm.below hz hf), hl⟩, fun K hK k hk => hm.block k (hK k hk).1 (hK k hk).2⟩
  · rcases hF k hk with hk | hk
    · exact hf k hk
    · omega
  · rcases hF k hk with hk | hk
    · exact hd k hk hG
    · have := hg k hG
      omega
theorem OneV.add (h : OneV w0 w g xs v l) (x : Int) (hy : S.add cB x xs = ys) (hb : hit cB x xs = b) (hl : ys.length ≤ 100000) :
    Calls Try.prog 13 #[.pointer (some ⟨g, 0, none⟩), .int .i64 x] w fun e w' => e = .returned (.bool (!b)) ∧ OneV w0 w' g ys v l := by
  obtain ⟨F, G, hs, hf, hv, hd, hg⟩ := h.st
  refine (add_calls hs h.up (by have := h.len; omega) x).mono fun e w' ha => ?_
  rw [hy, hb] at ha
  obtain ⟨h1, h2, _⟩ := h.turned hs hf hv hd hg (by rw [← hy]; exact h.up.add cmpB x) hl ha
  exact ⟨h1, h2⟩
theorem OneV.del (h : OneV w0 w g xs v l) (x : Int) (hy : S.del cB x xs = ys) (hb : hit cB x xs = b) :
    Calls Try.prog 15 #[.pointer (some ⟨g, 0, none⟩), .int .i64 x] w fun e w' => e = .returned (.bool b) ∧ OneV w0 w' g ys v l := by
  obtain ⟨F, G, hs, hf, hv, hd, hg⟩ := h.st
  refine (del_calls hs h.up (by have := h.len; omega) x).mono fun e w' ha => ?_
  have hl := del_len cB x xs
  rw [hy] at hl
  rw [hy, hb] at ha
  obtain ⟨h1, h2, _⟩ := h.turned hs hf hv hd hg (by rw [← hy]; exact h.up.del x) (by have := h.len; omega) ha
  exact ⟨h1, h2⟩
theorem OneV.has (h : OneV w0 w g xs v l) (x : Int) (hb : hit cB x xs = b) :
    Calls Try.prog 20 #[.pointer (some ⟨g, 0, none⟩), .int .i64 x] w fun e w' => e = .returned (.bool b) ∧ OneV w0 w' g xs v l := by
  obtain ⟨F, G, hs, hf, hv, hd, hg⟩ := h.st
  refine (has_calls hs h.up (by have := h.len; omega) x).mono fun e w' ⟨he, hD⟩ => ?_
  rw [hb] at he
  exact ⟨he, h.move (drawn_below hD)⟩
theorem OneV.hasD (h : OneV w0 w g xs v l) (x : Int) (hb : hit cB x xs = b) :
    Calls Try.prog 20 #[.pointer (some ⟨g, 0, none⟩), .int .i64 x] w fun e w' => e = .returned (.bool b) ∧ Drawn0 w w' := by
  obtain ⟨F, G, hs, hf, hv, hd, hg⟩ := h.st
  refine (has_calls hs h.up (by have := h.len; omega) x).mono fun e w' ⟨he, hD⟩ => ?_
  rw [hb] at he
  exact ⟨he, hD⟩
theorem OneV.lenc (h : OneV w0 w g xs v l) : Calls Try.prog 19 #[.pointer (some ⟨g, 0, none⟩)] w fun e w' => e = .returned (.int .i64 (xs.length : Int)) ∧ w' = w := by
  obtain ⟨F, G, hs, hf, hv, hd, hg⟩ := h.st
  exact len_calls hs
theorem OneV.at_ (h : OneV w0 w g xs v l) (i : Int) :
    Calls Try.prog 18 #[.pointer (some ⟨g, 0, none⟩), .int .i64 i] w fun e w' => e = .returned (.tuple #[.int .i64 (if 0 ≤ i ∧ i < xs.length then xs.getD i.toNat 0 else 0), .bool (decide (0 ≤ i ∧ i < xs.length))]) ∧ w' = w := by
  obtain ⟨F, G, hs, hf, hv, hd, hg⟩ := h.st
  exact at_calls hs i
theorem OneV.list (h : OneV w0 w g xs v l) :
    Calls Try.prog 22 #[.pointer (some ⟨g, 0, none⟩)] w fun e w' => ∃ v : Value, e = .returned v ∧ Row (Kd.int .i64) 3 w' w.heap.size v xs ∧ Below w.heap.size w w' := by
  obtain ⟨F, G, hs, hf, hv, hd, hg⟩ := h.st
  exact list_calls hs (by have := h.len; omega)
/-- The list is what List has given. -/
theorem OneV.listed (h : OneV w0 w g xs v l) (hr : Row (Kd.int .i64) 3 w' w.heap.size u m) (hb : Below w.heap.size w w') : OneV w0 w' g xs u m :=
  h.list_is hb (fun G _ => Kd.V_mono (VI.of_row hr) (fun k hk => .inr (hr.lt k hk).1))
theorem OneV.union {g2 : Nat} {F2 : Nat → Prop} {zs : List Int} (h : OneV w0 w g xs v l) (h2 : St w g2 F2 ys) (hm : ys.length ≤ 100000) (hz : adds xs ys = zs) (hb : decide (xs.length < zs.length) = b) (hl : zs.length ≤ 100000) :
    Calls Try.prog 16 #[.pointer (some ⟨g, 0, none⟩), .pointer (some ⟨g2, 0, none⟩)] w fun e w' => e = .returned (.bool b) ∧ OneV w0 w' g zs v l := by
  obtain ⟨F, G, hs, hf, hv, hd, hg⟩ := h.st
  refine (union_calls hs h.up (by have := h.len; omega) (by omega) _ (list_calls h2 (by omega))).mono fun e w' ha => ?_
  rw [hz, hb] at ha
  obtain ⟨h1, h3, _⟩ := h.turned hs hf hv hd hg (by rw [← hz]; exact adds_up h.up _) hl ha
  exact ⟨h1, h3⟩
/-- Of some numbers that are read, beside the set: another set. -/
theorem OneV.of {A : Option Addr} {cp : Nat} {zs : List Int} (h : OneV w0 w g xs v l) (hr : Kd.C (Kd.int .i64) w A zs.length zs) (hl : zs.length ≤ 100000) :
    Calls Try.prog 17 #[.func (.func 10) #[] #[], .slice A zs.length cp] w fun e w' => ∃ g2 F2, e = .returned (.pointer (some ⟨g2, 0, none⟩)) ∧ St w' g2 F2 (adds [] zs) ∧ OneV w0 w' g xs v l :=
  (of_calls w A cp zs (by omega) hr).mono fun e w' ⟨g2, F2, he, hs, hb, hf⟩ => ⟨g2, F2, he, hs, h.move hb⟩
end
end I10
end Go.Proofs.Ytldgofblflmcbaa.S
