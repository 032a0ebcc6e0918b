/- oset: no set; the statements' own begin; donatuslaw3.SetNone answers true. -/
import Derived.Test.YtldgofblflmcbaaSetI
namespace Go.Proofs.Ytldgofblflmcbaa.S
open Go.RowKit Go.Proofs.YtldgofblflmcbaaW.PrintWords Go.Proofs.YtldgofblflmcbaaW.PrintLast Go.Proofs.YtldgofblflmcbaaW.PrintMore
set_option linter.unusedVariables false
set_option linter.unusedSimpArgs false

/-! ### No set -/
theorem nil_off (w : World) : Calls Try.prog 34 #[.pointer none] w fun e w' => e = .returned (.bool true) ∧ w' = w := by
  go_enter Try.func34, Try.ntmps34
  go_wp2
  go_ret
  exact ⟨rfl, rfl⟩
theorem nil_find (x : Int) (w : World) : Calls Try.prog 33 #[.pointer none, .int .i64 x] w fun e w' => e = .returned (.tuple #[.int .i64 0, .bool false]) ∧ w' = w := by
  go_enter Try.func33, Try.ntmps33
  go_wp2_with (go_at_call 34; (with_reducible refine (nil_off _).mono ?_); rintro e w' ⟨rfl, rfl⟩)
  go_ret2
  exact ⟨rfl, rfl⟩
theorem nil_add (x : Int) (w : World) : Calls Try.prog 13 #[.pointer none, .int .i64 x] w fun e w' => e = .returned (.bool false) ∧ w' = w := by
  go_enter Try.func13, Try.ntmps13
  go_wp2_with (first
    | (go_at_call 33; (with_reducible refine (nil_find _ _).mono ?_); rintro e w' ⟨rfl, rfl⟩)
    | (go_at_call 34; (with_reducible refine (nil_off _).mono ?_); rintro e w' ⟨rfl, rfl⟩))
  go_ret
  exact ⟨rfl, rfl⟩
theorem nil_del (x : Int) (w : World) : Calls Try.prog 15 #[.pointer none, .int .i64 x] w fun e w' => e = .returned (.bool false) ∧ w' = w := by
  go_enter Try.func15, Try.ntmps15
  go_wp2_with (go_at_call 33; (with_reducible refine (nil_find _ _).mono ?_); rintro e w' ⟨rfl, rfl⟩)
  go_ret
  exact ⟨rfl, rfl⟩
theorem nil_has (x : Int) (w : World) : Calls Try.prog 20 #[.pointer none, .int .i64 x] w fun e w' => e = .returned (.bool false) ∧ w' = w := by
  go_enter Try.func20, Try.ntmps20
  go_wp2_with (go_at_call 33; (with_reducible refine (nil_find _ _).mono ?_); rintro e w' ⟨rfl, rfl⟩)
  go_ret
  exact ⟨rfl, rfl⟩
theorem nil_len (w : World) : Calls Try.prog 19 #[.pointer none] w fun e w' => e = .returned (.int .i64 0) ∧ w' = w := by
  go_enter Try.func19, Try.ntmps19
  go_wp2
  go_ret
  exact ⟨rfl, rfl⟩
theorem nil_at (w : World) : Calls Try.prog 18 #[.pointer none, .int .i64 0] w fun e w' => e = .returned (.tuple #[.int .i64 0, .bool false]) ∧ w' = w := by
  go_enter Try.func18, Try.ntmps18
  go_wp2_with (go_at_call 19; (with_reducible refine (nil_len _).mono ?_); rintro e w' ⟨rfl, rfl⟩)
  go_ret2
  exact ⟨rfl, rfl⟩
theorem nil_list (w : World) : Calls Try.prog 22 #[.pointer none] w fun e w' => e = .returned (.slice none 0 0) ∧ w' = w := by
  go_enter Try.func22, Try.ntmps22
  go_wp2
  go_ret
  exact ⟨rfl, rfl⟩
theorem nil_new (w : World) : Calls Try.prog 11 #[.nilFunc] w fun e w' => e = .returned (.pointer none) ∧ w' = w := by
  have hnf : ∀ w, Sem.run Try.prog (binOp BinOp.eql 24 .nilFunc .nilFunc) w = .ok (.bool true) w := fun _ => by kernel_rfl
  go_enter Try.func11, Try.ntmps11
  go_wp2
  go_ret
  exact ⟨rfl, rfl⟩
def NRel (w : World) (n : Nat) (kq : Nat) (v : Value) (w' : World) : Prop := ∃ i : Nat, i + kq = n ∧ v = .int .i64 (i : Int) ∧ w' = w
def NRel2 (w : World) (n : Nat) (kq : Nat) (v5 v : Value) (w' : World) : Prop := ∃ i : Nat, i + kq = n ∧ v = .int .i64 (i : Int) ∧ v5 = .bool false ∧ w' = w
theorem nil_of (ad : Addr) (x : Int) (cp : Nat) (w : World) (hx : w.cell? (ad.add 0) = some (.int .i64 x)) (hx0 : w.cell? ad = some (.int .i64 x)) : Calls Try.prog 17 #[.nilFunc, .slice (some ad) 1 cp] w fun e w' => e = .returned (.pointer none) ∧ w' = w := by
  go_enter Try.func17, Try.ntmps17
  go_wp2_with (go_at_call 11; (with_reducible refine (nil_new _).mono ?_); rintro e w' ⟨rfl, hw⟩; obtain rfl := hw.symm)
  go_loopg [12] 1 (fun kq v12 w' => NRel w 1 kq v12 w')
  case atStart => exact ⟨0, by omega, rfl, rfl⟩
  case round =>
    obtain ⟨i, hi, rfl, rfl⟩ := hrel
    rcases (show i = 0 ∨ i = 1 by omega) with rfl | rfl
    · go_wp2_with (go_at_call 13; (with_reducible refine (nil_add _ _).mono ?_); rintro e w' ⟨rfl, hw⟩; obtain rfl := hw.symm)
      go_roundg (gk - 1)
      case measure => omega
      case rel => exact ⟨1, by omega, by go_num, rfl⟩
    · go_wp2_with fail
      go_ret
      exact ⟨rfl, rfl⟩
/-- Union of no set with another one: nothing. -/
theorem nil_union {w : World} {g : Nat} {F : Nat → Prop} {ys : List Int} (h : I9.St w g F ys) (hm : ys.length ≤ 400000) :
    Calls Try.prog 16 #[.pointer none, .pointer (some ⟨g, 0, none⟩)] w fun e w' => e = .returned (.bool false) ∧ Below w.heap.size w w' := by
  have HL := Aside0.mk (I9.list_calls h (by omega))
  go_enter Try.func16, Try.ntmps16
  go_wp2_with fail
  go_at_call 22
  refine HL.out.mono ?_
  rintro e w1 ⟨v, rfl, hr, hb⟩
  obtain ⟨A, cp, rfl, hcp, hrd⟩ := hr.reads
  have HR := Aside0.mk hrd
  have HB := Aside0.mk hb
  clear hr hrd hb HL h
  go_wp2_with fail
  go_loopg [5, 11] ys.length (fun kq v5 v11 w' => NRel2 w1 ys.length kq v5 v11 w')
  case atStart => exact ⟨0, by omega, rfl, rfl, rfl⟩
  case round =>
    obtain ⟨i, hi, rfl, rfl, rfl⟩ := hrel
    have HI := Aside0.mk hi
    clear hi
    by_cases hlt : i < ys.length
    · have t1 : decide ((i : Int) < (ys.length : Int)) = true := by simp; omega
      have hi0 : (0 : Int) ≤ (i : Int) := by omega
      obtain ⟨ad, e1, hx⟩ := at_int HR.out i hlt rfl
      subst e1
      go_wp2_with (go_at_call 13; (with_reducible refine (nil_add _ _).mono ?_); rintro e w' ⟨rfl, hw⟩; obtain rfl := hw.symm)
      go_roundg (gk - 1)
      case measure => have := HI.out; omega
      case rel => exact ⟨i + 1, by have := HI.out; omega, by go_num, rfl, rfl⟩
    · have t1 : decide ((i : Int) < (ys.length : Int)) = false := by simp; omega
      go_wp2_with fail
      go_ret
      exact ⟨rfl, HB.out⟩

/-! ### One set that came after w0 -/
structure One (w0 w : World) (g : Nat) (xs : List Int) : Prop where
  st : ∃ F, I9.St w g F xs ∧ ∀ k, F k → w0.heap.size ≤ k
  up : Up cI xs
  below : Below w0.heap.size w0 w
  len : xs.length ≤ 100000
theorem One.move {w0 w w' : World} {g : Nat} {xs : List Int} (h : One w0 w g xs) (hb : Below w.heap.size w w') : One w0 w' g xs := by
  obtain ⟨F, hs, hf⟩ := h.st
  exact ⟨⟨F, hs.below hb, hf⟩, h.up, h.below.trans (hb.mono h.below.size), h.len⟩
theorem One.after {w0 w w' : World} {g : Nat} {xs ys : List Int} {F : Nat → Prop} {e : Ending} {r : Value} (h : One w0 w g xs) (hf : ∀ k, F k → w0.heap.size ≤ k) (hu : Up cI ys) (hl : ys.length ≤ 100000) (ha : I9.Aft w g F ys r e w') : e = .returned r ∧ One w0 w' g ys := by
  obtain ⟨he, F', hs, hm, hF⟩ := ha
  have hz := h.below.size
  refine ⟨he, ⟨F', hs, fun k hk => ?_⟩, hu, h.below.trans (hm.below hz hf), hl⟩
  rcases hF k hk with hk | hk
  · exact hf k hk
  · omega
theorem One.add {w0 w : World} {g : Nat} {xs : List Int} (h : One w0 w g xs) (x : Int) {ys : List Int} {b : Bool} (hy : S.add cI x xs = ys) (hb : hit cI x xs = b) (hl : ys.length ≤ 100000) :
    Calls Try.prog 13 #[.pointer (some ⟨g, 0, none⟩), .int .i64 x] w fun e w' => e = .returned (.bool (!b)) ∧ One w0 w' g ys := by
  obtain ⟨F, hs, hf⟩ := h.st
  refine (I9.add_calls hs h.up (by have := h.len; omega) x).mono fun e w' ha => ?_
  rw [hy, hb] at ha
  exact h.after hf (by rw [← hy]; exact h.up.add cmpI x) hl ha
theorem One.del {w0 w : World} {g : Nat} {xs : List Int} (h : One w0 w g xs) (x : Int) {ys : List Int} {b : Bool} (hy : S.del cI x xs = ys) (hb : hit cI x xs = b) :
    Calls Try.prog 15 #[.pointer (some ⟨g, 0, none⟩), .int .i64 x] w fun e w' => e = .returned (.bool b) ∧ One w0 w' g ys := by
  obtain ⟨F, hs, hf⟩ := h.st
  refine (I9.del_calls hs h.up (by have := h.len; omega) x).mono fun e w' ha => ?_
  have hl := del_len cI x xs
  rw [hy] at hl
  rw [hy, hb] at ha
  exact h.after hf (by rw [← hy]; exact h.up.del x) (by have := h.len; omega) ha
theorem drawn_below {w w' : World} (h : Drawn0 w w') : Below w.heap.size w w' := by
  obtain ⟨n, rfl⟩ := h
  exact pw_below_drewN (Below.refl _ _) n
theorem One.has {w0 w : World} {g : Nat} {xs : List Int} (h : One w0 w g xs) (x : Int) {b : Bool} (hb : hit cI x xs = b) :
    Calls Try.prog 20 #[.pointer (some ⟨g, 0, none⟩), .int .i64 x] w fun e w' => e = .returned (.bool b) ∧ One w0 w' g xs := by
  obtain ⟨F, hs, hf⟩ := h.st
  refine (I9.has_calls hs h.up (by have := h.len; omega) x).mono fun e w' ⟨he, hd⟩ => ?_
  rw [hb] at he
  exact ⟨he, h.move (drawn_below hd)⟩
theorem One.lenc {w0 w : World} {g : Nat} {xs : List Int} (h : One w0 w g xs) :
    Calls Try.prog 19 #[.pointer (some ⟨g, 0, none⟩)] w fun e w' => e = .returned (.int .i64 (xs.length : Int)) ∧ w' = w := by
  obtain ⟨F, hs, hf⟩ := h.st
  exact I9.len_calls hs
theorem One.at_ {w0 w : World} {g : Nat} {xs : List Int} (h : One w0 w g xs) (i : Int) :
    Calls Try.prog 18 #[.pointer (some ⟨g, 0, none⟩), .int .i64 i] w fun e w' => e = .returned (.tuple #[.int .i64 (if 0 ≤ i ∧ i < xs.length then xs.getD i.toNat 0 else 0), .bool (decide (0 ≤ i ∧ i < xs.length))]) ∧ w' = w := by
  obtain ⟨F, hs, hf⟩ := h.st
  exact I9.at_calls hs i
theorem One.list {w0 w : World} {g : Nat} {xs : List Int} (h : One w0 w g xs) :
    Calls Try.prog 22 #[.pointer (some ⟨g, 0, none⟩)] w fun e w' => ∃ v : Value, e = .returned v ∧ Row (Kd.int .i64) 3 w' w.heap.size v xs ∧ Below w.heap.size w w' := by
  obtain ⟨F, hs, hf⟩ := h.st
  exact I9.list_calls hs (by have := h.len; omega)
/-- Of some numbers that lie in a block of their own. -/
theorem One.of {w0 w : World} {ad : Addr} {cp : Nat} {xs ys : List Int} (hb : Below w0.heap.size w0 w) (hr : Kd.C (Kd.int .i64) w (some ad) xs.length xs) (hl : xs.length ≤ 100000) (hy : I9.adds [] xs = ys) :
    Calls Try.prog 17 #[.func (.func 9) #[] #[], .slice (some ad) xs.length cp] w fun e w' => ∃ g, e = .returned (.pointer (some ⟨g, 0, none⟩)) ∧ One w0 w' g ys ∧ Below w.heap.size w w' := by
  refine (I9.of_calls w (some ad) cp xs (by omega) hr).mono fun e w' ⟨g, F, he, hs, hb2, hf⟩ => ?_
  have hz := hb.size
  rw [hy] at hs
  refine ⟨g, he, ⟨⟨F, hs, fun k hk => by have := hf k hk; omega⟩, by rw [← hy]; exact I9.adds_up List.Pairwise.nil _, hb.trans (hb2.mono hz), ?_⟩, hb2⟩
  have := (I9.adds_len [] xs).2
  rw [hy] at this
  simp at this
  omega
theorem lit4 (W : World) (a b c d : Int) : Kd.C (Kd.int .i64) (W.alloc (.cells #[.int .i64 a, .int .i64 b, .int .i64 c, .int .i64 d] 3)) (some ⟨W.heap.size, 0, none⟩) 4 [a, b, c, d] := by
  refine ⟨rfl, by decide, fun _ => ⟨_, rfl, fun j p hj => ⟨[.int .i64 p], rfl, rfl, fun i u hu => ?_⟩⟩⟩
  have hi : i = 0 := by
    have := (List.getElem?_eq_some_iff.1 hu).1
    simp at this
    omega
  subst hi
  obtain rfl : Value.int .i64 p = u := by simpa using hu
  have hj4 := (List.getElem?_eq_some_iff.1 hj).1
  simp only [List.length_cons, List.length_nil] at hj4
  rcases (show j = 0 ∨ j = 1 ∨ j = 2 ∨ j = 3 by omega) with rfl | rfl | rfl | rfl <;> (obtain rfl : _ = p := by simpa using hj) <;> simp [go_sem, Addr.add, Kd.int, Kd.scalar]
theorem lit1 (W : World) (a : Int) : Kd.C (Kd.int .i64) (W.alloc (.cells #[.int .i64 a] 3)) (some ⟨W.heap.size, 0, none⟩) 1 [a] := by
  refine ⟨rfl, by decide, fun _ => ⟨_, rfl, fun j p hj => ⟨[.int .i64 p], rfl, rfl, fun i u hu => ?_⟩⟩⟩
  have hi : i = 0 := by
    have := (List.getElem?_eq_some_iff.1 hu).1
    simp at this
    omega
  subst hi
  obtain rfl : Value.int .i64 p = u := by simpa using hu
  have hj4 := (List.getElem?_eq_some_iff.1 hj).1
  simp only [List.length_cons, List.length_nil] at hj4
  obtain rfl : j = 0 := by omega
  obtain rfl : _ = p := by simpa using hj
  simp [go_sem, Addr.add, Kd.int, Kd.scalar]
end Go.Proofs.Ytldgofblflmcbaa.S
