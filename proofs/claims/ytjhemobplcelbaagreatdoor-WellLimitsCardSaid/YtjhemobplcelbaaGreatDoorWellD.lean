/- well: the program's Yields. -/
import Derived.Test.YtjhemobplcelbaaGreatDoorWellC
namespace Go.Proofs.YtjhemobplcelbaaGreatDoor.U
open Go.RowKit Go.Proofs.YtjhemobplcelbaaGreatDoorW.PrintWords Go.Proofs.YtjhemobplcelbaaGreatDoorW.PrintLast Go.Proofs.YtjhemobplcelbaaGreatDoorW.PrintMore
set_option linter.unusedVariables false
set_option linter.unusedSimpArgs false
/-- The box of the variable that the closure holds. -/
structure LBox (W : World) (L g m c : Nat) : Prop where
  heap : W.heap[L]? = some (.cells #[.slice (some ⟨g, 0, none⟩) m c] 83 (0, 0))
section
variable {W W' : World} {L g m c B : Nat}
theorem LBox.lt (h : LBox W L g m c) : L < W.heap.size := (Array.getElem?_eq_some_iff.1 h.heap).1
theorem LBox.ce (h : LBox W L g m c) : W.cell? ⟨L, 0, none⟩ = some (.slice (some ⟨g, 0, none⟩) m c) := by simp [World.cell?, h.heap]
theorem LBox.move (h : LBox W L g m c) (hb : Below B W W') (hL : L < B) : LBox W' L g m c := ⟨(hb.block L hL).trans h.heap⟩
theorem LBox.far (h : LBox W L g m c) {k : Nat} (hL : L ≠ k) (j : Nat) (u : Value) : LBox (W.setCell ⟨k, j, none⟩ u) L g m c := ⟨(Below.heap_setCell W ⟨k, j, none⟩ u L hL).trans h.heap⟩
theorem LBox.ne (h : LBox W L g m c) {base n cc : Nat} {y : List Bool} (hr : RowB W base g n cc y) : L ≠ g := by
  rintro rfl
  obtain ⟨cells, hc⟩ := Kd.R_typed hr L (by simp [Value.ownBlock])
  have := hc.symm.trans h.heap
  simp at this
end
theorem closed_calls (w : World) (L g m c base : Nat) (y : List Bool) (hL : LBox w L g m c) (hr : RowB w base g m c y) (x : Int) (hx : 0 ≤ x ∧ x < (m : Int)) :
    Calls Tryz.prog 72 #[.int .i64 x, .pointer (some ⟨L, 0, none⟩)] w fun e w' => e = .returned (.bool (!gt y x)) ∧ w' = w := by
  obtain ⟨k, rfl⟩ : ∃ k : Nat, x = (k : Int) := ⟨x.toNat, by omega⟩
  have hk : k < y.length := by have := hr.len; omega
  obtain ⟨p1, p2⟩ := hr.at_ k hk
  have HG := Aside0.mk (gt_at (y := y) k rfl hk)
  generalize y[k] = b at *
  have z0 := hL.ce
  have h1 := hx.2
  clear hx hL hr p2
  go_enter Tryz.func72, Tryz.ntmps72
  go_wp2_with fail
  go_ret
  rw [HG.out]
  exact ⟨rfl, rfl⟩
def IxRel (w : World) (y : List Bool) (xs : List Int) (kq : Nat) (v : Value) (w' : World) : Prop := ∃ i : Nat, i + kq = xs.length ∧ v = .int .i64 (i : Int) ∧ w' = w ∧ xs.all (gt y) = (xs.drop i).all (gt y)
set_option maxHeartbeats 4000000 in
theorem index_calls (w : World) (L g m c base : Nat) (y : List Bool) (hL : LBox w L g m c) (hr : RowB w base g m c y) (A : Option Addr) (d : Nat) (xs : List Int) (hxs : Kd.C (Kd.int .i64) w A xs.length xs) (hx : ∀ x ∈ xs, 0 ≤ x ∧ x < (m : Int)) :
    Calls Tryz.prog 89 #[.slice A xs.length d, .func (.func 72) #[] #[.pointer (some ⟨L, 0, none⟩)]] w fun e w' => ∃ r : Int, e = .returned (.int .i64 r) ∧ decide (r ≥ 0) = (!xs.all (gt y)) ∧ w' = w := by
  have HL := Aside0.mk (And.intro hL hr)
  have HX := Aside0.mk (And.intro hxs hx)
  clear hL hr hxs hx
  go_enter Tryz.func89, Tryz.ntmps89
  go_wp2_with fail
  go_loopg [8] xs.length (fun kq v8 w' => IxRel w y xs kq v8 w')
  case atStart => exact ⟨0, by omega, rfl, rfl, rfl⟩
  case round =>
    obtain ⟨i, hi, rfl, rfl, hs⟩ := hrel
    have HI := Aside0.mk hi
    have HS := Aside0.mk hs
    clear hi hs
    by_cases hil : i < xs.length
    · have t1 : decide ((i : Int) < (xs.length : Int)) = true := by simp; omega
      have hin : (i : Int) < (xs.length : Int) := by omega
      have hql : xs.length ≤ 9223372036854775807 := HX.out.1.2.1
      obtain ⟨ad, rfl, hc⟩ := int_at HX.out.1 i hil
      have C := Aside0.mk (closed_calls wr L g m c base y HL.out.1 HL.out.2 xs[i] (HX.out.2 _ (List.getElem_mem hil)))
      have HD : Aside0 ((xs.drop i).all (gt y) = (gt y xs[i] && (xs.drop (i + 1)).all (gt y))) := ⟨by rw [List.drop_eq_getElem_cons hil, List.all_cons]⟩
      generalize xs[i] = x at *
      go_wp2_with fail
      go_at_call 72
      refine C.out.mono ?_
      rintro e w3 ⟨rfl, rfl⟩
      cases hb : gt y x with
      | true =>
        have HB := Aside0.mk hb
        clear hb
        go_wp2_with fail
        go_roundg (gk - 1)
        case measure => have := HI.out; omega
        case rel => exact ⟨i + 1, by have := HI.out; omega, by go_num, rfl, by rw [HS.out, HD.out, HB.out, Bool.true_and]⟩
      | false =>
        have HB := Aside0.mk hb
        clear hb
        go_wp2_with fail
        go_ret
        refine ⟨_, rfl, ?_, rfl⟩
        rw [HS.out, HD.out, HB.out]
        simp
    · have t1 : decide ((i : Int) < (xs.length : Int)) = false := by simp; omega
      go_wp2_with fail
      go_ret
      refine ⟨_, rfl, ?_, rfl⟩
      rw [HS.out, List.drop_of_length_le (by omega)]
      rfl
theorem contains_calls (w : World) (L g m c base : Nat) (y : List Bool) (hL : LBox w L g m c) (hr : RowB w base g m c y) (A : Option Addr) (d : Nat) (xs : List Int) (hxs : Kd.C (Kd.int .i64) w A xs.length xs) (hx : ∀ x ∈ xs, 0 ≤ x ∧ x < (m : Int)) :
    Calls Tryz.prog 71 #[.slice A xs.length d, .func (.func 72) #[] #[.pointer (some ⟨L, 0, none⟩)]] w fun e w' => e = .returned (.bool (!xs.all (gt y))) ∧ w' = w := by
  have C := Aside0.mk (index_calls w L g m c base y hL hr A d xs hxs hx)
  clear hL hr hxs hx
  go_enter Tryz.func71, Tryz.ntmps71
  go_wp2_with fail
  go_at_call 89
  refine C.out.mono ?_
  rintro e w3 ⟨r, rfl, hd, rfl⟩
  have HD := Aside0.mk hd
  clear hd
  go_wp2_with fail
  go_ret
  exact ⟨by rw [← HD.out]; rfl, rfl⟩
end Go.Proofs.YtjhemobplcelbaaGreatDoor.U
