/- Printed by a session's own program (a turned print): each Go function as a plain Lean function, and the proof that a call of it answers just that. -/
import Derived.Test.YteonnadhdmcloaaDoorGx0
import Derived.Test.YteonnadhdmcloaaDoorGx8
import Derived.Test.YteonnadhdmcloaaDoorGramS4
namespace Go.Proofs.YteonnadhdmcloaaDoor.G
open Go.RowKit Go.Proofs.YteonnadhdmcloaaDoorW.PrintWords Go.Proofs.YteonnadhdmcloaaDoorW.PrintLast Go.Proofs.YteonnadhdmcloaaDoorW.PrintMore
attribute [local go_sem] max2_int min2_int max_two min_two max_three min_three max_four min_four   -- for this text's walks alone
set_option linter.unusedVariables false
set_option linter.unusedSimpArgs false
theorem isE_ (l : List UInt8) : l.isEmpty = !(l != []) := by cases l <;> rfl
private theorem isSome_setCell (w : World) (p q : Addr) (x : Value) : ((w.setCell p x).cell? q).isSome = (w.cell? q).isSome := by
  by_cases e : p = q
  · subst e
    cases h : w.cell? p with
    | some v => rw [World.cell?_setCell_same w p x h]; rfl
    | none =>
      unfold World.cell? at h ⊢
      simp only [World.setCell, Array.getElem?_modify, ↓reduceIte]
      split at h
      · rename_i c e f hb
        rw [hb]
        simp only [Option.map_some]
        cases hs : p.spot with
        | some _ => simp
        | none => rw [hs] at h; simp at h; simp [h]
      · rename_i hb
        cases hh : w.heap[p.block]? with
        | none => rfl
        | some o =>
          cases o with
          | cells c e f => exact absurd hh (by rename_i hb; exact hb _ _ _)
          | _ => rfl
  · rw [World.cell?_setCell_other w p q x e]
attribute [local go_sem] isSome_setCell

/-! ### donatuslaw5_GramLimits: function 6 -/
mutual
def donatuslaw5_GramLimits.j0 : Nat → Int → Int → Int → Int → Bool → Option (Bool)
  | 0, _, _, _, _, _ => none
  | k + 1, x0, x1, x2, x3, x40 => if x40 = true then (some true) else (donatuslaw5_GramLimits.l0 k x0 x1 x2 x3 0 ([] : List (S35)) (⟨#[]⟩ : ByteArray) x3)
def donatuslaw5_GramLimits.l0 : Nat → Int → Int → Int → Int → Int → List (S35) → ByteArray → Int → Option (Bool)
  | 0, _, _, _, _, _, _, _, _ => none
  | k + 1, x0, x1, x2, x3, x11, x354000, x354001, x354002 => if x11 < x0 then (if x354000.length < 4398046511104 then (donatuslaw5_GramLimits.l0 k x0 x1 x2 x3 (wrap64 (x11 + 1)) (x354000 ++ [(⟨strOfNums (([84, (wrap64 (97 + (wrap64 (Int.tdiv x11 10)))) % 256, (wrap64 (48 + (Int.tmod x11 10))) % 256] : List Int)), 0, 0⟩ : S35)]) x354001 x354002) else (none)) else (donatuslaw5_GramLimits.l1 k x0 x1 x2 x3 0 x354000 x354001 x354002 ([] : List (S39)))
def donatuslaw5_GramLimits.l1 : Nat → Int → Int → Int → Int → Int → List (S35) → ByteArray → Int → List (S39) → Option (Bool)
  | 0, _, _, _, _, _, _, _, _, _ => none
  | k + 1, x0, x1, x2, x3, x12, x354000, x354001, x354002, x354003 => if x12 < x1 then (donatuslaw5_GramLimits.l2 k x0 x1 x2 x3 x12 0 x354000 x354001 x354002 x354003 (⟨#[115]⟩ : ByteArray) ([] : List ByteArray) (⟨#[]⟩ : ByteArray)) else (if x0 ≤ 40 then (if x1 ≤ 100 then (if x2 ≤ 20 then (if x3 ≥ 0 then ((gram_May.f x354000 x354001 x354002 x354003).bind fun t360 => (if t360 = true then (if x3 ≤ 9999 then ((gram_Text.f x354000 x354001 x354002 x354003).bind fun t361 => (if t361.toList = ([] : List UInt8) then (some (!(decide (x3 ≤ 9999)))) else (some (decide (x3 ≤ 9999))))) else (some false)) else (if x3 ≤ 9999 then (some false) else ((gram_Text.f x354000 x354001 x354002 x354003).bind fun t362 => (if t362.toList = ([] : List UInt8) then (some (!(decide (x3 ≤ 9999)))) else (some (decide (x3 ≤ 9999)))))))) else ((gram_May.f x354000 x354001 x354002 x354003).bind fun t363 => (if t363 = true then (some false) else ((gram_Text.f x354000 x354001 x354002 x354003).bind fun t364 => (some (!(t364.toList != ([] : List UInt8)))))))) else (if x1 = 0 then (if x3 ≥ 0 then ((gram_May.f x354000 x354001 x354002 x354003).bind fun t365 => (if t365 = true then (if x3 ≤ 9999 then ((gram_Text.f x354000 x354001 x354002 x354003).bind fun t366 => (if t366.toList = ([] : List UInt8) then (some (!(decide (x3 ≤ 9999)))) else (some (decide (x3 ≤ 9999))))) else (some false)) else (if x3 ≤ 9999 then (some false) else ((gram_Text.f x354000 x354001 x354002 x354003).bind fun t367 => (if t367.toList = ([] : List UInt8) then (some (!(decide (x3 ≤ 9999)))) else (some (decide (x3 ≤ 9999)))))))) else ((gram_May.f x354000 x354001 x354002 x354003).bind fun t368 => (if t368 = true then (some false) else ((gram_Text.f x354000 x354001 x354002 x354003).bind fun t369 => (some (!(t369.toList != ([] : List UInt8)))))))) else ((gram_May.f x354000 x354001 x354002 x354003).bind fun t370 => (if t370 = true then (some false) else ((gram_Text.f x354000 x354001 x354002 x354003).bind fun t371 => (some (!(t371.toList != ([] : List UInt8))))))))) else ((gram_May.f x354000 x354001 x354002 x354003).bind fun t372 => (if t372 = true then (some false) else ((gram_Text.f x354000 x354001 x354002 x354003).bind fun t373 => (some (!(t373.toList != ([] : List UInt8)))))))) else ((gram_May.f x354000 x354001 x354002 x354003).bind fun t374 => (if t374 = true then (some false) else ((gram_Text.f x354000 x354001 x354002 x354003).bind fun t375 => (some (!(t375.toList != ([] : List UInt8))))))))
def donatuslaw5_GramLimits.l2 : Nat → Int → Int → Int → Int → Int → Int → List (S35) → ByteArray → Int → List (S39) → ByteArray → List ByteArray → ByteArray → Option (Bool)
  | 0, _, _, _, _, _, _, _, _, _, _, _, _, _ => none
  | k + 1, x0, x1, x2, x3, x12, x14, x354000, x354001, x354002, x354003, x377000, x377001, x377002 => if x14 < x2 then (if x377001.length < 8796093022208 then (donatuslaw5_GramLimits.l2 k x0 x1 x2 x3 x12 (wrap64 (x14 + 1)) x354000 x354001 x354002 x354003 x377000 (x377001 ++ [(⟨#[115]⟩ : ByteArray)]) x377002) else (none)) else (if x354003.length < 2513169434916 then (donatuslaw5_GramLimits.l1 k x0 x1 x2 x3 (wrap64 (x12 + 1)) x354000 x354001 x354002 (x354003 ++ [(⟨x377000, x377001, x377002⟩ : S39)])) else (none))
end
def donatuslaw5_GramLimits.f (k : Nat) (a0 : Int) (a1 : Int) (a2 : Int) (a3 : Int) : Option (Bool) := (donatuslaw5_begun.f k).bind fun t352 => (if t352 = true then (if a0 < 0 then (donatuslaw5_GramLimits.j0 k a0 a1 a2 a3 true) else (if a0 > 45 then (donatuslaw5_GramLimits.j0 k a0 a1 a2 a3 true) else (if a1 < 0 then (donatuslaw5_GramLimits.j0 k a0 a1 a2 a3 true) else (if a1 > 105 then (donatuslaw5_GramLimits.j0 k a0 a1 a2 a3 true) else (if a2 < 0 then (donatuslaw5_GramLimits.j0 k a0 a1 a2 a3 true) else (donatuslaw5_GramLimits.j0 k a0 a1 a2 a3 (decide (a2 > 25)))))))) else (some false))
theorem donatuslaw5_GramLimits.mono_l : ∀ k, (∀ y0 y1 y2 y3 y4, LeO (donatuslaw5_GramLimits.j0 k y0 y1 y2 y3 y4) (donatuslaw5_GramLimits.j0 (k + 1) y0 y1 y2 y3 y4)) ∧ (∀ y0 y1 y2 y3 y4 y5 y6 y7, LeO (donatuslaw5_GramLimits.l0 k y0 y1 y2 y3 y4 y5 y6 y7) (donatuslaw5_GramLimits.l0 (k + 1) y0 y1 y2 y3 y4 y5 y6 y7)) ∧ (∀ y0 y1 y2 y3 y4 y5 y6 y7 y8, LeO (donatuslaw5_GramLimits.l1 k y0 y1 y2 y3 y4 y5 y6 y7 y8) (donatuslaw5_GramLimits.l1 (k + 1) y0 y1 y2 y3 y4 y5 y6 y7 y8)) ∧ (∀ y0 y1 y2 y3 y4 y5 y6 y7 y8 y9 y10 y11 y12, LeO (donatuslaw5_GramLimits.l2 k y0 y1 y2 y3 y4 y5 y6 y7 y8 y9 y10 y11 y12) (donatuslaw5_GramLimits.l2 (k + 1) y0 y1 y2 y3 y4 y5 y6 y7 y8 y9 y10 y11 y12))
  | 0 => ⟨fun _ _ _ _ _ r h => by simp [donatuslaw5_GramLimits.j0] at h, fun _ _ _ _ _ _ _ _ r h => by simp [donatuslaw5_GramLimits.l0] at h, fun _ _ _ _ _ _ _ _ _ r h => by simp [donatuslaw5_GramLimits.l1] at h, fun _ _ _ _ _ _ _ _ _ _ _ _ _ r h => by simp [donatuslaw5_GramLimits.l2] at h⟩
  | k + 1 => by
    obtain ⟨ih0, ih1, ih2, ih3⟩ := donatuslaw5_GramLimits.mono_l k
    refine ⟨?_, ?_, ?_, ?_⟩
    · intro y0 y1 y2 y3 y4
      unfold donatuslaw5_GramLimits.j0
      repeat' first
      | (with_reducible exact ih0 _ _ _ _ _)
      | (with_reducible exact ih1 _ _ _ _ _ _ _ _)
      | (with_reducible exact ih2 _ _ _ _ _ _ _ _ _)
      | (with_reducible exact ih3 _ _ _ _ _ _ _ _ _ _ _ _ _)
      | (with_reducible exact donatuslaw5_begun.mono _)
      | (with_reducible exact LeO.refl _)
      | (with_reducible exact LeO.none _)
      | (with_reducible refine LeO.ite ?_ ?_)
      | (with_reducible refine LeO.bind ?_ (fun _ => ?_))
      | exact ih0 _ _ _ _ _
      | exact ih1 _ _ _ _ _ _ _ _
      | exact ih2 _ _ _ _ _ _ _ _ _
      | exact ih3 _ _ _ _ _ _ _ _ _ _ _ _ _
      | exact donatuslaw5_begun.mono _
      | exact LeO.none _
      | refine LeO.ite ?_ ?_
      | refine LeO.bind ?_ (fun _ => ?_)
    · intro y0 y1 y2 y3 y4 y5 y6 y7
      unfold donatuslaw5_GramLimits.l0
      repeat' first
      | (with_reducible exact ih0 _ _ _ _ _)
      | (with_reducible exact ih1 _ _ _ _ _ _ _ _)
      | (with_reducible exact ih2 _ _ _ _ _ _ _ _ _)
      | (with_reducible exact ih3 _ _ _ _ _ _ _ _ _ _ _ _ _)
      | (with_reducible exact donatuslaw5_begun.mono _)
      | (with_reducible exact LeO.refl _)
      | (with_reducible exact LeO.none _)
      | (with_reducible refine LeO.ite ?_ ?_)
      | (with_reducible refine LeO.bind ?_ (fun _ => ?_))
      | exact ih0 _ _ _ _ _
      | exact ih1 _ _ _ _ _ _ _ _
      | exact ih2 _ _ _ _ _ _ _ _ _
      | exact ih3 _ _ _ _ _ _ _ _ _ _ _ _ _
      | exact donatuslaw5_begun.mono _
      | exact LeO.none _
      | refine LeO.ite ?_ ?_
      | refine LeO.bind ?_ (fun _ => ?_)
    · intro y0 y1 y2 y3 y4 y5 y6 y7 y8
      unfold donatuslaw5_GramLimits.l1
      repeat' first
      | (with_reducible exact ih0 _ _ _ _ _)
      | (with_reducible exact ih1 _ _ _ _ _ _ _ _)
      | (with_reducible exact ih2 _ _ _ _ _ _ _ _ _)
      | (with_reducible exact ih3 _ _ _ _ _ _ _ _ _ _ _ _ _)
      | (with_reducible exact donatuslaw5_begun.mono _)
      | (with_reducible exact LeO.refl _)
      | (with_reducible exact LeO.none _)
      | (with_reducible refine LeO.ite ?_ ?_)
      | (with_reducible refine LeO.bind ?_ (fun _ => ?_))
      | exact ih0 _ _ _ _ _
      | exact ih1 _ _ _ _ _ _ _ _
      | exact ih2 _ _ _ _ _ _ _ _ _
      | exact ih3 _ _ _ _ _ _ _ _ _ _ _ _ _
      | exact donatuslaw5_begun.mono _
      | exact LeO.none _
      | refine LeO.ite ?_ ?_
      | refine LeO.bind ?_ (fun _ => ?_)
    · intro y0 y1 y2 y3 y4 y5 y6 y7 y8 y9 y10 y11 y12
      unfold donatuslaw5_GramLimits.l2
      repeat' first
      | (with_reducible exact ih0 _ _ _ _ _)
      | (with_reducible exact ih1 _ _ _ _ _ _ _ _)
      | (with_reducible exact ih2 _ _ _ _ _ _ _ _ _)
      | (with_reducible exact ih3 _ _ _ _ _ _ _ _ _ _ _ _ _)
      | (with_reducible exact donatuslaw5_begun.mono _)
      | (with_reducible exact LeO.refl _)
      | (with_reducible exact LeO.none _)
      | (with_reducible refine LeO.ite ?_ ?_)
      | (with_reducible refine LeO.bind ?_ (fun _ => ?_))
      | exact ih0 _ _ _ _ _
      | exact ih1 _ _ _ _ _ _ _ _
      | exact ih2 _ _ _ _ _ _ _ _ _
      | exact ih3 _ _ _ _ _ _ _ _ _ _ _ _ _
      | exact donatuslaw5_begun.mono _
      | exact LeO.none _
      | refine LeO.ite ?_ ?_
      | refine LeO.bind ?_ (fun _ => ?_)
theorem donatuslaw5_GramLimits.mono : ∀ a0 a1 a2 a3 k, LeO (donatuslaw5_GramLimits.f k a0 a1 a2 a3) (donatuslaw5_GramLimits.f (k + 1) a0 a1 a2 a3) := by
  intro a0 a1 a2 a3 k
  obtain ⟨ih0, ih1, ih2, ih3⟩ := donatuslaw5_GramLimits.mono_l k
  unfold donatuslaw5_GramLimits.f
  repeat' first
      | (with_reducible exact ih0 _ _ _ _ _)
      | (with_reducible exact ih1 _ _ _ _ _ _ _ _)
      | (with_reducible exact ih2 _ _ _ _ _ _ _ _ _)
      | (with_reducible exact ih3 _ _ _ _ _ _ _ _ _ _ _ _ _)
      | (with_reducible exact donatuslaw5_begun.mono _)
      | (with_reducible exact LeO.refl _)
      | (with_reducible exact LeO.none _)
      | (with_reducible refine LeO.ite ?_ ?_)
      | (with_reducible refine LeO.bind ?_ (fun _ => ?_))
      | exact ih0 _ _ _ _ _
      | exact ih1 _ _ _ _ _ _ _ _
      | exact ih2 _ _ _ _ _ _ _ _ _
      | exact ih3 _ _ _ _ _ _ _ _ _ _ _ _ _
      | exact donatuslaw5_begun.mono _
      | exact LeO.none _
      | refine LeO.ite ?_ ?_
      | refine LeO.bind ?_ (fun _ => ?_)
set_option maxHeartbeats 8000000 in
set_option maxRecDepth 100000 in
theorem donatuslaw5_GramLimits.calls (k : Nat) (a0 : Int) (a1 : Int) (a2 : Int) (a3 : Int) (r : Bool) (w : World) (htab : Tab w) (hr_ : Aside0 (r = true)) (h : donatuslaw5_GramLimits.f k a0 a1 a2 a3 = some r) :
    Calls Tryd.prog 6 #[.int .i64 a0, .int .i64 a1, .int .i64 a2, .int .i64 a3] w fun e w' => e = .returned (.bool r) ∧ Below w.heap.size w w' := by
  have hu25 := Tryd.underlying25
  have hu35 := Tryd.underlying35
  have hu39 := Tryd.underlying39
  have HB := Aside0.mk (Below.refl w.heap.size w)
  have H : ((donatuslaw5_begun.f k).bind fun t352 => (if t352 = true then (if a0 < 0 then (donatuslaw5_GramLimits.j0 k a0 a1 a2 a3 true) else (if a0 > 45 then (donatuslaw5_GramLimits.j0 k a0 a1 a2 a3 true) else (if a1 < 0 then (donatuslaw5_GramLimits.j0 k a0 a1 a2 a3 true) else (if a1 > 105 then (donatuslaw5_GramLimits.j0 k a0 a1 a2 a3 true) else (if a2 < 0 then (donatuslaw5_GramLimits.j0 k a0 a1 a2 a3 true) else (donatuslaw5_GramLimits.j0 k a0 a1 a2 a3 (decide (a2 > 25)))))))) else (some false))) = some r := h
  clear h
  replace H := Option.bind_eq_some_iff.mp H
  obtain ⟨t352, A50, H⟩ := H
  replace H : (if t352 = true then (if a0 < 0 then (donatuslaw5_GramLimits.j0 k a0 a1 a2 a3 true) else (if a0 > 45 then (donatuslaw5_GramLimits.j0 k a0 a1 a2 a3 true) else (if a1 < 0 then (donatuslaw5_GramLimits.j0 k a0 a1 a2 a3 true) else (if a1 > 105 then (donatuslaw5_GramLimits.j0 k a0 a1 a2 a3 true) else (if a2 < 0 then (donatuslaw5_GramLimits.j0 k a0 a1 a2 a3 true) else (donatuslaw5_GramLimits.j0 k a0 a1 a2 a3 (decide (a2 > 25)))))))) else (some false)) = some r := H
  have A5 := Aside0.mk A50
  clear A50
  by_cases c6 : t352 = true
  · subst c6
    have H1 : (if a0 < 0 then (donatuslaw5_GramLimits.j0 k a0 a1 a2 a3 true) else (if a0 > 45 then (donatuslaw5_GramLimits.j0 k a0 a1 a2 a3 true) else (if a1 < 0 then (donatuslaw5_GramLimits.j0 k a0 a1 a2 a3 true) else (if a1 > 105 then (donatuslaw5_GramLimits.j0 k a0 a1 a2 a3 true) else (if a2 < 0 then (donatuslaw5_GramLimits.j0 k a0 a1 a2 a3 true) else (donatuslaw5_GramLimits.j0 k a0 a1 a2 a3 (decide (a2 > 25)))))))) = some r := by rw [if_pos rfl] at H; exact H
    clear H
    have H := H1
    clear H1
    have HC7 := Aside0.mk H
    clear H
    go_enter Tryd.func6, Tryd.ntmps6
    go_upto_region 4 with (first | ((with_reducible refine gate_callee (f := 8) rfl ?_); refine goesL_ (some 16) rfl rfl Tryd.func8 (by kernel_rfl) rfl #[] rfl (by (try simp only [List.map_toArray, List.map_cons, List.map_nil]); first | done | rfl | (simp only [List.length_drop, List.length_take]; rfl)) ?_; (with_reducible refine (donatuslaw5_begun.calls k  true _ (Tab.move htab (by repeat (first | (with_reducible first | exact HB.out | apply below_alloc | apply pw_below_drewN | apply below_drew1) | exact HB.out))) ⟨rfl⟩ A5.out).mono ?_); rintro e w8 ⟨rfl, hb⟩; refine ⟨_, rfl, ?_⟩; have n0_ := Aside0.mk (below_step (by repeat (first | (with_reducible first | exact HB.out | apply below_alloc | apply pw_below_drewN | apply below_drew1) | exact HB.out)) hb); clear HB; have HB := n0_; clear n0_; (try clear hb); (try clear hb2); (try clear hk); (try clear hi)))
    (try simp only [Act.put, List.setIfInBounds_toArray, List.set_cons_zero, List.set_cons_succ])
    go_cut [40] (fun v40 wc => ∃ (kq : Nat) (x40_6 : Bool), v40 = .bool x40_6 ∧ Aside0 (donatuslaw5_GramLimits.j0 kq a0 a1 a2 a3 x40_6 = some r) ∧ Aside0 (kq ≤ k) ∧ Aside0 (Below w.heap.size w wc))
    case first =>
      have H := HC7.out
      clear HC7
      by_cases c9 : a0 < 0
      · rw [if_pos c9] at H
        have c9b0 : decide (a0 < 0) = true := decide_eq_true c9
        clear c9
        (first | rw [c9b0] | (simp only [i64_w, i32_w]; rw [c9b0]) | skip)
        have H' := Aside0.mk H
        clear H
        go_wp2
        go_meet
        case rel => exact ⟨_, (true), (by first | rfl | (simp; done) | (simp [*]; done)), H', ⟨by first | omega | exact Nat.le_refl _⟩, ⟨by repeat (first | (with_reducible first | exact HB.out | apply below_alloc | apply pw_below_drewN | apply below_drew1) | exact HB.out)⟩⟩
      · rw [if_neg c9] at H
        have c9b0 : decide (a0 < 0) = false := decide_eq_false c9
        clear c9
        (first | rw [c9b0] | (simp only [i64_w, i32_w]; rw [c9b0]) | skip)
        by_cases c10 : a0 > 45
        · rw [if_pos c10] at H
          have c10b0 : decide (45 < a0) = true := decide_eq_true c10
          clear c10
          have H' := Aside0.mk H
          clear H
          go_wp2
          go_meet
          case rel => exact ⟨_, (true), (by first | rfl | (simp; done) | (simp [*]; done)), H', ⟨by first | omega | exact Nat.le_refl _⟩, ⟨by repeat (first | (with_reducible first | exact HB.out | apply below_alloc | apply pw_below_drewN | apply below_drew1) | exact HB.out)⟩⟩
        · rw [if_neg c10] at H
          have c10b0 : decide (45 < a0) = false := decide_eq_false c10
          clear c10
          by_cases c11 : a1 < 0
          · rw [if_pos c11] at H
            have c11b0 : decide (a1 < 0) = true := decide_eq_true c11
            clear c11
            have H' := Aside0.mk H
            clear H
            go_wp2
            go_meet
            case rel => exact ⟨_, (true), (by first | rfl | (simp; done) | (simp [*]; done)), H', ⟨by first | omega | exact Nat.le_refl _⟩, ⟨by repeat (first | (with_reducible first | exact HB.out | apply below_alloc | apply pw_below_drewN | apply below_drew1) | exact HB.out)⟩⟩
          · rw [if_neg c11] at H
            have c11b0 : decide (a1 < 0) = false := decide_eq_false c11
            clear c11
            by_cases c12 : a1 > 105
            · rw [if_pos c12] at H
              have c12b0 : decide (105 < a1) = true := decide_eq_true c12
              clear c12
              have H' := Aside0.mk H
              clear H
              go_wp2
              go_meet
              case rel => exact ⟨_, (true), (by first | rfl | (simp; done) | (simp [*]; done)), H', ⟨by first | omega | exact Nat.le_refl _⟩, ⟨by repeat (first | (with_reducible first | exact HB.out | apply below_alloc | apply pw_below_drewN | apply below_drew1) | exact HB.out)⟩⟩
            · rw [if_neg c12] at H
              have c12b0 : decide (105 < a1) = false := decide_eq_false c12
              clear c12
              by_cases c13 : a2 < 0
              · rw [if_pos c13] at H
                have c13b0 : decide (a2 < 0) = true := decide_eq_true c13
                clear c13
                have H' := Aside0.mk H
                clear H
                go_wp2
                go_meet
                case rel => exact ⟨_, (true), (by first | rfl | (simp; done) | (simp [*]; done)), H', ⟨by first | omega | exact Nat.le_refl _⟩, ⟨by repeat (first | (with_reducible first | exact HB.out | apply below_alloc | apply pw_below_drewN | apply below_drew1) | exact HB.out)⟩⟩
              · rw [if_neg c13] at H
                have c13b0 : decide (a2 < 0) = false := decide_eq_false c13
                clear c13
                have H' := Aside0.mk H
                clear H
                go_wp2
                go_meet
                case rel => exact ⟨_, (decide (a2 > 25)), (by first | rfl | (simp; done) | (simp [*]; done)), H', ⟨by first | omega | exact Nat.le_refl _⟩, ⟨by repeat (first | (with_reducible first | exact HB.out | apply below_alloc | apply pw_below_drewN | apply below_drew1) | exact HB.out)⟩⟩
    case rest =>
      clear HC7
      try clear c1
      try clear p2
      try clear c6
      try clear c8
      try clear c9
      try clear c9b0
      try clear c10
      try clear c10b0
      try clear c11
      try clear c11b0
      try clear c12
      try clear c12b0
      try clear c13
      try clear c13b0
      obtain ⟨kq, x40_6, rfl, HA, HJ6, HB⟩ := hcut
      cases kq with
      | zero => exact absurd HA.out (by simp [donatuslaw5_GramLimits.j0])
      | succ kj6 =>
        have H := HA.out
        clear HA
        simp only [donatuslaw5_GramLimits.j0] at H
        by_cases c14 : x40_6 = true
        · subst c14
          have H1 : (some true) = some r := by rw [if_pos rfl] at H; exact H
          clear H
          have H := H1
          clear H1
          obtain rfl := Option.some.inj H
          go_wp2
          go_ret
          exact ⟨by first | rfl | exact congrArg (fun b => Ending.returned (Value.bool b)) (isE_ _) | (simp [errW_none, errW_some] <;> rfl) | (simp [*, errW_none, errW_some] <;> rfl), by repeat (first | (with_reducible first | exact HB.out | apply below_alloc | apply pw_below_drewN | apply below_drew1) | exact HB.out)⟩
        · replace c14 := Bool.eq_false_iff.mpr c14
          subst c14
          have H1 : (donatuslaw5_GramLimits.l0 kj6 a0 a1 a2 a3 0 ([] : List (S35)) (⟨#[]⟩ : ByteArray) a3) = some r := by rw [if_neg (show ¬ (false = true) by decide)] at H; exact H
          clear H
          have H := H1
          clear H1
          have H' := Aside0.mk H
          clear H
          go_wp2_with (first | ((with_reducible refine gate_dst (N := 10) rfl ?_); refine box_event ?hg (N := 10) ?hd (cs := #[.slice none 0 0, .string (⟨#[]⟩ : ByteArray), .int .i64 0, .slice none 0 0]) (t := 25) ?hr ?_; (case hd => rfl); (case hg => rfl); (case hr => first | (go_simp; done) | (go_simp; rfl)); intro gb353 hg w15 hbox hb; have n0_ := Aside0.mk (below_step (by repeat (first | (with_reducible first | exact HB.out | apply below_alloc | apply pw_below_drewN | apply below_drew1) | exact HB.out)) hb); have n1_ := Aside0.mk (hbox); have n2_ := Aside0.mk ((by rw [hg]; exact (below_size (by repeat (first | (with_reducible first | exact HB.out | apply below_alloc | apply pw_below_drewN | apply below_drew1) | exact HB.out))) : w.heap.size ≤ gb353)); have n3_ := Aside0.mk ((by rw [hg]; exact (below_size (by repeat (first | (with_reducible first | exact HB.out | apply below_alloc | apply pw_below_drewN | apply below_drew1) | exact HB.out))) : w.heap.size ≤ gb353)); clear HB; have HB := n0_; have BK353 := n1_; have GW353 := n2_; have GE353 := n3_; clear n0_ n1_ n2_ n3_; clear hb hbox hg; have hcz16_0 : w15.cell? ⟨gb353, 0, none⟩ = some (.slice none 0 0) := (blk_cell BK353.out 0).trans rfl; have hcz16_1 : w15.cell? ⟨gb353, 1, none⟩ = some (.string (⟨#[]⟩ : ByteArray)) := (blk_cell BK353.out 1).trans rfl; have hcz16_2 : w15.cell? ⟨gb353, 2, none⟩ = some (.int .i64 0) := (blk_cell BK353.out 2).trans rfl; have hcz16_3 : w15.cell? ⟨gb353, 3, none⟩ = some (.slice none 0 0) := (blk_cell BK353.out 3).trans rfl; have hfz16_0 := blk_frozen BK353.out 0; have hfz16_1 := blk_frozen BK353.out 1; have hfz16_2 := blk_frozen BK353.out 2; have hfz16_3 := blk_frozen BK353.out 3))
          go_loopg [11] kj6 (fun kq v11 w' => ∃ (x11_2 : Int) (x354000_2 : List (S35)) (u354000 : Value), v11 = .int .i64 x11_2 ∧ Aside0 (donatuslaw5_GramLimits.l0 kq a0 a1 a2 a3 x11_2 x354000_2 (⟨#[]⟩ : ByteArray) a3 = some r) ∧ Aside0 (kq ≤ kj6) ∧ Aside0 (Kd.R k35 35 w' w.heap.size (fun _ => True) u354000 x354000_2) ∧ Aside0 (w'.heap[gb353]? = some (.cells #[u354000, .string (⟨#[]⟩ : ByteArray), .int .i64 a3, (.slice none 0 0)] 25 (0, 0))) ∧ Aside0 (Below w.heap.size w w'))
          case atStart => exact ⟨(0), (([] : List (S35))), (.slice none 0 0), (by first | rfl | (simp; done) | (simp [*]; done)), H', ⟨Nat.le_refl _⟩, ⟨by first | exact Kd.R_nil _ _ _ _ _ | exact Kd.N_nil _ _ _ _ _ | exact Kd.V_nil _ _ _ _ _ | exact Kd.Q_nil _ _ _ _ _ | exact Kd.S_nil _ _ _ _ _⟩, ⟨by (with_reducible repeat (first | refine blk_drewN ?_ _ | refine blk_drew ?_ | refine blk_alloc ?_ _)); refine blk_put (cs := #[.slice none 0 0, .string (⟨#[]⟩ : ByteArray), .int .i64 a3, .slice none 0 0]) ?_ 3 _ rfl; (with_reducible repeat (first | refine blk_drewN ?_ _ | refine blk_drew ?_ | refine blk_alloc ?_ _)); refine blk_put (cs := #[.slice none 0 0, .string (⟨#[]⟩ : ByteArray), .int .i64 0, .slice none 0 0]) ?_ 2 _ rfl; (with_reducible repeat (first | refine blk_drewN ?_ _ | refine blk_drew ?_ | refine blk_alloc ?_ _)); refine blk_put (cs := #[.slice none 0 0, .string (⟨#[]⟩ : ByteArray), .int .i64 0, .slice none 0 0]) ?_ 1 _ rfl; (with_reducible repeat (first | refine blk_drewN ?_ _ | refine blk_drew ?_ | refine blk_alloc ?_ _)); refine blk_put (cs := #[.slice none 0 0, .string (⟨#[]⟩ : ByteArray), .int .i64 0, .slice none 0 0]) ?_ 0 _ rfl; (with_reducible repeat (first | refine blk_drewN ?_ _ | refine blk_drew ?_ | refine blk_alloc ?_ _)); exact BK353.out⟩, ⟨by repeat (first | (with_reducible first | exact HB.out | apply below_alloc | apply pw_below_drewN | apply below_drew1 | refine below_set ?_ GE353.out) | exact HB.out)⟩⟩
          case round =>
            clear H'
            try clear c1
            try clear p2
            try clear c6
            try clear c8
            try clear c9
            try clear c9b0
            try clear c10
            try clear c10b0
            try clear c11
            try clear c11b0
            try clear c12
            try clear c12b0
            try clear c13
            try clear c13b0
            try clear c14
            try clear hcz16_0
            try clear hcz16_1
            try clear hcz16_2
            try clear hcz16_3
            try clear hfz16_0
            try clear hfz16_1
            try clear hfz16_2
            try clear hfz16_3
            try clear p2
            obtain ⟨x11_2, x354000_2, u354000, rfl, HA, HK2, HO_354000, BK353, HB⟩ := hrel
            cases gk with
            | zero => exact absurd HA.out (by simp [donatuslaw5_GramLimits.l0])
            | succ k2 =>
              have H := HA.out
              clear HA
              simp only [donatuslaw5_GramLimits.l0] at H
              by_cases c17 : x11_2 < a0
              · rw [if_pos c17] at H
                have c17b0 : decide (x11_2 < a0) = true := decide_eq_true c17
                clear c17
                obtain ⟨y354, hy354⟩ : ∃ y_ : List Int, y_ = (([84, (wrap64 (97 + (wrap64 (Int.tdiv x11_2 10)))) % 256, (wrap64 (48 + (Int.tmod x11_2 10))) % 256] : List Int)) := ⟨_, rfl⟩
                replace H : (if x354000_2.length < 4398046511104 then (donatuslaw5_GramLimits.l0 k2 a0 a1 a2 a3 (wrap64 (x11_2 + 1)) (x354000_2 ++ [(⟨strOfNums y354, 0, 0⟩ : S35)]) (⟨#[]⟩ : ByteArray) a3) else (none)) = some r := by first | (rw [hy354]; with_reducible exact H) | (have H2_ := (Option.bind_some _ _).symm.trans H; rw [hy354]; with_reducible exact H2_) | (have H2_ := (Option.bind_some _ _).symm.trans H; with_reducible exact H2_) | with_reducible exact H | (rw [hy354]; exact H) | exact H
                have Ny354 := Aside0.mk hy354
                clear hy354
                by_cases c18 : x354000_2.length < 4398046511104
                · rw [if_pos c18] at H
                  have LMc18 := Aside0.mk c18
                  clear c18
                  obtain ⟨y357, hy357⟩ : ∃ y_ : List (S35), y_ = (x354000_2 ++ [(⟨strOfNums y354, 0, 0⟩ : S35)]) := ⟨_, rfl⟩
                  replace H : (donatuslaw5_GramLimits.l0 k2 a0 a1 a2 a3 (wrap64 (x11_2 + 1)) y357 (⟨#[]⟩ : ByteArray) a3) = some r := by first | (rw [hy357]; with_reducible exact H) | (have H2_ := (Option.bind_some _ _).symm.trans H; rw [hy357]; with_reducible exact H2_) | (have H2_ := (Option.bind_some _ _).symm.trans H; with_reducible exact H2_) | with_reducible exact H | (rw [hy357]; exact H) | exact H
                  have Ny357 := Aside0.mk hy357
                  clear hy357
                  have H' := Aside0.mk H
                  clear H
                  have hcz19_0 : wr.cell? ⟨gb353, 0, none⟩ = some (u354000) := (blk_cell BK353.out 0).trans rfl
                  have hcz19_1 : wr.cell? ⟨gb353, 1, none⟩ = some (.string (⟨#[]⟩ : ByteArray)) := (blk_cell BK353.out 1).trans rfl
                  have hcz19_2 : wr.cell? ⟨gb353, 2, none⟩ = some (.int .i64 a3) := (blk_cell BK353.out 2).trans rfl
                  have hcz19_3 : wr.cell? ⟨gb353, 3, none⟩ = some (.slice none 0 0) := (blk_cell BK353.out 3).trans rfl
                  have hfz19_0 := blk_frozen BK353.out 0
                  have hfz19_1 := blk_frozen BK353.out 1
                  have hfz19_2 := blk_frozen BK353.out 2
                  have hfz19_3 := blk_frozen BK353.out 3
                  go_wp2_with (first | ((with_reducible refine gate_dst (N := 58) rfl ?_); refine Kd.R_lit (Kd.int .u8) _ 5 ?hg (N := 58) ?hd (xs := ([84, (wrap64 (97 + (wrap64 (Int.tdiv x11_2 10)))) % 256, (wrap64 (48 + (Int.tmod x11_2 10))) % 256] : List Int)) (inner := [.int .u8 84, .int .u8 ((wrap64 (97 + (wrap64 (Int.tdiv x11_2 10)))) % 256), .int .u8 ((wrap64 (48 + (Int.tmod x11_2 10))) % 256)]) (ok := fun _ => True) (okp := fun _ => True) ?hr ?hp (fun _ hk => hk) trivial (Below.refl _ _) (Nat.le_refl _) (by simp) ?_; (case hd => rfl); (case hg => rfl); (case hr => first | (go_simp; done) | (go_simp; rfl)); (case hp => exact (Reps.one (show Kd.M (Kd.int .u8) _ _ _ 84 [.int .u8 84] from rfl) (Reps.one (show Kd.M (Kd.int .u8) _ _ _ ((wrap64 (97 + (wrap64 (Int.tdiv x11_2 10)))) % 256) [.int .u8 ((wrap64 (97 + (wrap64 (Int.tdiv x11_2 10)))) % 256)] from rfl) (Reps.one (show Kd.M (Kd.int .u8) _ _ _ ((wrap64 (48 + (Int.tmod x11_2 10))) % 256) [.int .u8 ((wrap64 (48 + (Int.tmod x11_2 10))) % 256)] from rfl) (Reps.none _ _))))); intro v355 w20 ho21 hb hg_ hnew_; clear hg_ hnew_; (first | rw [← Ny354.out] at ho21 | (simp only [Int.reduceToNat] at ho21; rw [← Ny354.out] at ho21)); have n0_ := Aside0.mk (Kd.R_below (by (with_reducible repeat (first | apply Kd.R_alloc | apply Kd.R_drewN | apply Kd.R_drew)); exact HO_354000.out) hb); have n1_ := Aside0.mk (Kd.R_lower ho21 (below_size (by repeat (first | (with_reducible first | exact HB.out | apply below_alloc | apply pw_below_drewN | apply below_drew1 | refine below_set ?_ GE353.out) | exact HB.out)))); have n2_ := Aside0.mk (blk_below (g := gb353) (o := .cells #[u354000, .string (⟨#[]⟩ : ByteArray), .int .i64 a3, .slice none 0 0] 25 (0, 0)) (by (with_reducible repeat (first | refine blk_drewN ?_ _ | refine blk_drew ?_ | refine blk_alloc ?_ _)); exact BK353.out) hb); have n3_ := Aside0.mk (below_step (by repeat (first | (with_reducible first | exact HB.out | apply below_alloc | apply pw_below_drewN | apply below_drew1 | refine below_set ?_ GE353.out) | exact HB.out)) hb); clear HO_354000; clear BK353; clear HB; have HO_354000 := n0_; have HO356 := n1_; have BK353 := n2_; have HB := n3_; clear n0_ n1_ n2_ n3_; clear hb ho21; have hcv22 := own_string (P := Tryd.prog) Tryd.underlying33 Tryd.underlying5 Tryd.underlying9 (Kd.own_of_R HO356.out)) | ((with_reducible refine gate_builtin (b := .append) (xs := #[.tmp 49, .tmp 61]) rfl ?_); at_builtin; refine Kd.R_append k35 (w0 := w) w.heap.size rfl (.tmp 49) (.tmp 61) 22 35 (.agg #[(.string ⟨#[]⟩), (.int .i64 0), (.int .i64 0)]) 32 rfl Tryd.underlying22 info35 rfl (by decide) (by omega) u354000 x354000_2 (⟨strOfNums y354, 0, 0⟩ : S35) [.string (strOfNums y354), .int .i64 0, .int .i64 0] (fun _ => True) (fun _ => False) rfl rfl ?aP (fun _ hk => hk.elim) ?aF ?aO ?aB ?aS ?aL ?_; (case aP => exact k35_mkM _ _ _ (⟨strOfNums y354, 0, 0⟩ : S35)); (case aB => exact (by repeat (first | (with_reducible first | exact HB.out | apply below_alloc | apply pw_below_drewN | apply below_drew1 | refine below_set ?_ GE353.out) | exact HB.out))); (case aF => exact (fun _ _ => trivial)); (case aO => exact (by (with_reducible repeat (first | apply Kd.R_alloc | apply Kd.R_drewN | apply Kd.R_drew)); exact HO_354000.out)); (case aS => exact (below_size (by repeat (first | (with_reducible first | exact HB.out | apply below_alloc | apply pw_below_drewN | apply below_drew1 | refine below_set ?_ GE353.out) | exact HB.out)))); (case aL => have := LMc18.out; omega); intro v358 w23 ho hb hg hat; rw [← Ny357.out] at ho; have n0_ := Aside0.mk (blk_grown (g := gb353) (o := .cells #[u354000, .string (⟨#[]⟩ : ByteArray), .int .i64 a3, .slice none 0 0] 25 (0, 0)) (by (with_reducible repeat (first | refine blk_drewN ?_ _ | refine blk_drew ?_ | refine blk_alloc ?_ _)); exact BK353.out) hg (Kd.R_ne HO_354000.out BK353.out (by decide))); have n1_ := Aside0.mk (Kd.R_over' (by (with_reducible repeat (first | apply Kd.R_alloc | apply Kd.R_drewN | apply Kd.R_drew)); exact HO356.out) (Kd.R_typed (by (with_reducible repeat (first | apply Kd.R_alloc | apply Kd.R_drewN | apply Kd.R_drew)); exact HO_354000.out)) (by decide) hg); have n2_ := Aside0.mk (hb); have n3_ := Aside0.mk (ho); clear BK353; clear HO356; clear HB; clear HO_354000; have BK353 := n0_; have HO356 := n1_; have HB := n2_; have HO359 := n3_; clear n0_ n1_ n2_ n3_; clear ho hb hg hat; obtain ⟨Ao24, co24, eo24⟩ := Kd.R_slice HO359.out; subst eo24; have hcz25_0 : w23.cell? ⟨gb353, 0, none⟩ = some (u354000) := (blk_cell BK353.out 0).trans rfl; have hcz25_1 : w23.cell? ⟨gb353, 1, none⟩ = some (.string (⟨#[]⟩ : ByteArray)) := (blk_cell BK353.out 1).trans rfl; have hcz25_2 : w23.cell? ⟨gb353, 2, none⟩ = some (.int .i64 a3) := (blk_cell BK353.out 2).trans rfl; have hcz25_3 : w23.cell? ⟨gb353, 3, none⟩ = some (.slice none 0 0) := (blk_cell BK353.out 3).trans rfl; have hfz25_0 := blk_frozen BK353.out 0; have hfz25_1 := blk_frozen BK353.out 1; have hfz25_2 := blk_frozen BK353.out 2; have hfz25_3 := blk_frozen BK353.out 3))
                  go_roundg k2
                  case measure => have := HJ6.out; have := HK2.out; omega
                  case rel => exact ⟨(wrap64 (x11_2 + 1)), (y357), (.slice Ao24 y357.length co24), (by first | rfl | (simp; done) | (simp [*]; done)), H', ⟨by have := HJ6.out; have := HK2.out; omega⟩, ⟨by (with_reducible repeat (first | apply Kd.R_alloc | apply Kd.R_drewN | apply Kd.R_drew)); exact Kd.R_mono (Kd.R_far (p := ⟨gb353, 0, none⟩) (Kd.R_types HO359.out BK353.out (by decide)) (fun _ hk => hk.2) (.slice Ao24 y357.length co24)) (fun _ hk => trivial)⟩, ⟨by (with_reducible repeat (first | refine blk_drewN ?_ _ | refine blk_drew ?_ | refine blk_alloc ?_ _)); refine blk_put (cs := #[u354000, .string (⟨#[]⟩ : ByteArray), .int .i64 a3, .slice none 0 0]) ?_ 0 _ rfl; (with_reducible repeat (first | refine blk_drewN ?_ _ | refine blk_drew ?_ | refine blk_alloc ?_ _)); exact BK353.out⟩, ⟨by repeat (first | (with_reducible first | exact HB.out | apply below_alloc | apply pw_below_drewN | apply below_drew1 | refine below_set ?_ GE353.out) | exact HB.out)⟩⟩
                · rw [if_neg c18] at H
                  exact absurd H (by simp)
              · rw [if_neg c17] at H
                have c17b0 : decide (x11_2 < a0) = false := decide_eq_false c17
                clear c17
                have H' := Aside0.mk H
                clear H
                go_wp2
                go_loopg [12] k2 (fun kq v12 w' => ∃ (x12_3 : Int) (x354003_3 : List (S39)) (u354003 : Value), v12 = .int .i64 x12_3 ∧ Aside0 (donatuslaw5_GramLimits.l1 kq a0 a1 a2 a3 x12_3 x354000_2 (⟨#[]⟩ : ByteArray) a3 x354003_3 = some r) ∧ Aside0 (kq ≤ k2) ∧ Aside0 (Kd.R k35 35 w' w.heap.size (fun _ => True) u354000 x354000_2) ∧ Aside0 (Kd.S k39 39 w' w.heap.size (fun _ => True) u354003 x354003_3) ∧ Aside0 (w'.heap[gb353]? = some (.cells #[u354000, .string (⟨#[]⟩ : ByteArray), .int .i64 a3, u354003] 25 (0, 0))) ∧ Aside0 (Below w.heap.size w w'))
                case atStart => exact ⟨(0), (([] : List (S39))), (.slice none 0 0), (by first | rfl | (simp; done) | (simp [*]; done)), H', ⟨Nat.le_refl _⟩, ⟨by (with_reducible repeat (first | apply Kd.R_alloc | apply Kd.R_drewN | apply Kd.R_drew)); exact HO_354000.out⟩, ⟨by first | exact Kd.S_nil _ _ _ _ _ | exact Kd.N_nil _ _ _ _ _ | exact Kd.V_nil _ _ _ _ _ | exact Kd.Q_nil _ _ _ _ _ | exact Kd.R_nil _ _ _ _ _⟩, ⟨by (with_reducible repeat (first | refine blk_drewN ?_ _ | refine blk_drew ?_ | refine blk_alloc ?_ _)); exact BK353.out⟩, ⟨by repeat (first | (with_reducible first | exact HB.out | apply below_alloc | apply pw_below_drewN | apply below_drew1 | refine below_set ?_ GE353.out) | exact HB.out)⟩⟩
                case round =>
                  clear H'
                  try clear c1
                  try clear p2
                  try clear hcv2
                  try clear c6
                  try clear p6
                  try clear c8
                  try clear c9
                  try clear c9b0
                  try clear c10
                  try clear c10b0
                  try clear c11
                  try clear c11b0
                  try clear c12
                  try clear c12b0
                  try clear c13
                  try clear c13b0
                  try clear c14
                  try clear c17
                  try clear c17b0
                  try clear c18
                  try clear hcv22
                  try clear hcz16_0
                  try clear hcz16_1
                  try clear hcz16_2
                  try clear hcz16_3
                  try clear hcz19_0
                  try clear hcz19_1
                  try clear hcz19_2
                  try clear hcz19_3
                  try clear hcz25_0
                  try clear hcz25_1
                  try clear hcz25_2
                  try clear hcz25_3
                  try clear hfz16_0
                  try clear hfz16_1
                  try clear hfz16_2
                  try clear hfz16_3
                  try clear hfz19_0
                  try clear hfz19_1
                  try clear hfz19_2
                  try clear hfz19_3
                  try clear hfz25_0
                  try clear hfz25_1
                  try clear hfz25_2
                  try clear hfz25_3
                  try clear p2
                  obtain ⟨x12_3, x354003_3, u354003, rfl, HA, HK3, HO_354000, HO_354003, BK353, HB⟩ := hrel
                  cases gk with
                  | zero => exact absurd HA.out (by simp [donatuslaw5_GramLimits.l1])
                  | succ k3 =>
                    have H := HA.out
                    clear HA
                    simp only [donatuslaw5_GramLimits.l1] at H
                    by_cases c26 : x12_3 < a1
                    · rw [if_pos c26] at H
                      have c26b0 : decide (x12_3 < a1) = true := decide_eq_true c26
                      clear c26
                      have H' := Aside0.mk H
                      clear H
                      go_wp2_with (first | ((with_reducible refine gate_dst (N := 13) rfl ?_); refine box_event ?hg (N := 13) ?hd (cs := #[.string (⟨#[]⟩ : ByteArray), .slice none 0 0, .string (⟨#[]⟩ : ByteArray)]) (t := 39) ?hr ?_; (case hd => rfl); (case hg => rfl); (case hr => first | (go_simp; done) | (go_simp; rfl)); intro gb376 hg w27 hbox hb; have n0_ := Aside0.mk (Kd.R_below (by (with_reducible repeat (first | apply Kd.R_alloc | apply Kd.R_drewN | apply Kd.R_drew)); exact HO_354000.out) hb); have n1_ := Aside0.mk (Kd.S_below (Kd.S_elderB (by (with_reducible repeat (first | apply Kd.S_alloc | apply Kd.S_drewN | apply Kd.S_drew)); exact HO_354003.out) gb376 (Nat.le_of_eq hg.symm)) hb); have n2_ := Aside0.mk (blk_below (g := gb353) (o := .cells #[u354000, .string (⟨#[]⟩ : ByteArray), .int .i64 a3, u354003] 25 (0, 0)) (by (with_reducible repeat (first | refine blk_drewN ?_ _ | refine blk_drew ?_ | refine blk_alloc ?_ _)); exact BK353.out) hb); have n3_ := Aside0.mk (below_step (by repeat (first | (with_reducible first | exact HB.out | apply below_alloc | apply pw_below_drewN | apply below_drew1 | refine below_set ?_ GE353.out) | exact HB.out)) hb); have n4_ := Aside0.mk (hbox); have n5_ := Aside0.mk ((by rw [hg]; exact (below_size (by repeat (first | (with_reducible first | exact HB.out | apply below_alloc | apply pw_below_drewN | apply below_drew1 | refine below_set ?_ GE353.out) | exact HB.out))) : w.heap.size ≤ gb376)); have n6_ := Aside0.mk ((by rw [hg]; exact (below_size (by repeat (first | (with_reducible first | exact HB.out | apply below_alloc | apply pw_below_drewN | apply below_drew1 | refine below_set ?_ GE353.out) | exact HB.out))) : w.heap.size ≤ gb376)); have n7_ := Aside0.mk ((by rw [hg]; exact Nat.ne_of_lt (blk_lt (g := gb353) (o := .cells #[u354000, .string (⟨#[]⟩ : ByteArray), .int .i64 a3, u354003] 25 (0, 0)) (by (with_reducible repeat (first | refine blk_drewN ?_ _ | refine blk_drew ?_ | refine blk_alloc ?_ _)); exact BK353.out)) : gb353 ≠ gb376)); have n8_ := Aside0.mk ((by rw [hg]; exact Nat.ne_of_gt (blk_lt (g := gb353) (o := .cells #[u354000, .string (⟨#[]⟩ : ByteArray), .int .i64 a3, u354003] 25 (0, 0)) (by (with_reducible repeat (first | refine blk_drewN ?_ _ | refine blk_drew ?_ | refine blk_alloc ?_ _)); exact BK353.out)) : gb376 ≠ gb353)); clear HO_354000; clear HO_354003; clear BK353; clear HB; have HO_354000 := n0_; have HO_354003 := n1_; have BK353 := n2_; have HB := n3_; have BK376 := n4_; have GW376 := n5_; have GE376 := n6_; have NB353_376 := n7_; have NB376_353 := n8_; clear n0_ n1_ n2_ n3_ n4_ n5_ n6_ n7_ n8_; clear hb hbox hg; have hnb28 := NB376_353.out; have hnc28 := NB353_376.out; have hcz29_0 : w27.cell? ⟨gb376, 0, none⟩ = some (.string (⟨#[]⟩ : ByteArray)) := (blk_cell BK376.out 0).trans rfl; have hcz29_1 : w27.cell? ⟨gb376, 1, none⟩ = some (.slice none 0 0) := (blk_cell BK376.out 1).trans rfl; have hcz29_2 : w27.cell? ⟨gb376, 2, none⟩ = some (.string (⟨#[]⟩ : ByteArray)) := (blk_cell BK376.out 2).trans rfl; have hfz29_0 := blk_frozen BK376.out 0; have hfz29_1 := blk_frozen BK376.out 1; have hfz29_2 := blk_frozen BK376.out 2))
                      go_loopg [14] k3 (fun kq v14 w' => ∃ (x14_4 : Int) (x377001_4 : List ByteArray) (u377001 : Value), v14 = .int .i64 x14_4 ∧ Aside0 (donatuslaw5_GramLimits.l2 kq a0 a1 a2 a3 x12_3 x14_4 x354000_2 (⟨#[]⟩ : ByteArray) a3 x354003_3 (⟨#[115]⟩ : ByteArray) x377001_4 (⟨#[]⟩ : ByteArray) = some r) ∧ Aside0 (kq ≤ k3) ∧ Aside0 (Kd.R k35 35 w' w.heap.size (fun _ => True) u354000 x354000_2) ∧ Aside0 (Kd.S k39 39 w' w.heap.size (fun k_ => some k_ ≠ (u377001 : Value).ownBlock ∧ k_ ≠ gb376) u354003 x354003_3) ∧ Aside0 (Kd.R Kd.string 9 w' w.heap.size (fun _ => True) u377001 x377001_4) ∧ Aside0 (w'.heap[gb353]? = some (.cells #[u354000, .string (⟨#[]⟩ : ByteArray), .int .i64 a3, u354003] 25 (0, 0))) ∧ Aside0 (w'.heap[gb376]? = some (.cells #[.string (⟨#[115]⟩ : ByteArray), u377001, .string (⟨#[]⟩ : ByteArray)] 39 (0, 0))) ∧ Aside0 (Below w.heap.size w w'))
                      case atStart => exact ⟨(0), (([] : List ByteArray)), (.slice none 0 0), (by first | rfl | (simp; done) | (simp [*]; done)), H', ⟨Nat.le_refl _⟩, ⟨by (with_reducible repeat (first | apply Kd.R_alloc | apply Kd.R_drewN | apply Kd.R_drew)); exact Kd.R_mono (Kd.R_far (p := ⟨gb376, 2, none⟩) (Kd.R_far (p := ⟨gb376, 1, none⟩) (Kd.R_far (p := ⟨gb376, 0, none⟩) (Kd.R_types HO_354000.out BK376.out (by decide)) (fun _ hk => hk.2) (.string (⟨#[115]⟩ : ByteArray))) (fun _ hk => hk.2) (.slice none 0 0)) (fun _ hk => hk.2) (.string (⟨#[]⟩ : ByteArray))) (fun _ hk => trivial)⟩, ⟨by (with_reducible repeat (first | apply Kd.S_alloc | apply Kd.S_drewN | apply Kd.S_drew)); exact Kd.S_mono (Kd.S_far (p := ⟨gb376, 2, none⟩) (Kd.S_far (p := ⟨gb376, 1, none⟩) (Kd.S_far (p := ⟨gb376, 0, none⟩) (Kd.S_mono HO_354003.out (fun k_ hk => (⟨hk, hk.2⟩ : _ ∧ k_ ≠ gb376))) (fun _ hk => hk.2) (.string (⟨#[115]⟩ : ByteArray))) (fun _ hk => hk.2) (.slice none 0 0)) (fun _ hk => hk.2) (.string (⟨#[]⟩ : ByteArray))) (fun _ hk => ⟨(by simp [Value.ownBlock]), hk.1.2⟩)⟩, ⟨by first | exact Kd.R_nil _ _ _ _ _ | exact Kd.N_nil _ _ _ _ _ | exact Kd.V_nil _ _ _ _ _ | exact Kd.Q_nil _ _ _ _ _ | exact Kd.S_nil _ _ _ _ _⟩, ⟨by (with_reducible repeat (first | refine blk_drewN ?_ _ | refine blk_drew ?_ | refine blk_alloc ?_ _)); refine blk_far ?_ NB353_376.out _; (with_reducible repeat (first | refine blk_drewN ?_ _ | refine blk_drew ?_ | refine blk_alloc ?_ _)); refine blk_far ?_ NB353_376.out _; (with_reducible repeat (first | refine blk_drewN ?_ _ | refine blk_drew ?_ | refine blk_alloc ?_ _)); refine blk_far ?_ NB353_376.out _; (with_reducible repeat (first | refine blk_drewN ?_ _ | refine blk_drew ?_ | refine blk_alloc ?_ _)); exact BK353.out⟩, ⟨by (with_reducible repeat (first | refine blk_drewN ?_ _ | refine blk_drew ?_ | refine blk_alloc ?_ _)); refine blk_put (cs := #[.string (⟨#[115]⟩ : ByteArray), .slice none 0 0, .string (⟨#[]⟩ : ByteArray)]) ?_ 2 _ rfl; (with_reducible repeat (first | refine blk_drewN ?_ _ | refine blk_drew ?_ | refine blk_alloc ?_ _)); refine blk_put (cs := #[.string (⟨#[115]⟩ : ByteArray), .slice none 0 0, .string (⟨#[]⟩ : ByteArray)]) ?_ 1 _ rfl; (with_reducible repeat (first | refine blk_drewN ?_ _ | refine blk_drew ?_ | refine blk_alloc ?_ _)); refine blk_put (cs := #[.string (⟨#[]⟩ : ByteArray), .slice none 0 0, .string (⟨#[]⟩ : ByteArray)]) ?_ 0 _ rfl; (with_reducible repeat (first | refine blk_drewN ?_ _ | refine blk_drew ?_ | refine blk_alloc ?_ _)); exact BK376.out⟩, ⟨by repeat (first | (with_reducible first | exact HB.out | apply below_alloc | apply pw_below_drewN | apply below_drew1 | refine below_set ?_ GE353.out | refine below_set ?_ GE376.out) | exact HB.out)⟩⟩
                      case round =>
                        clear H'
                        try clear c1
                        try clear c2
                        try clear p2
                        try clear hcv2
                        try clear c6
                        try clear p6
                        try clear c8
                        try clear c9
                        try clear c9b0
                        try clear c10
                        try clear c10b0
                        try clear c11
                        try clear c11b0
                        try clear c12
                        try clear c12b0
                        try clear c13
                        try clear c13b0
                        try clear c14
                        try clear c17
                        try clear c17b0
                        try clear c18
                        try clear hcv22
                        try clear c26
                        try clear c26b0
                        try clear c28
                        try clear hcz16_0
                        try clear hcz16_1
                        try clear hcz16_2
                        try clear hcz16_3
                        try clear hcz19_0
                        try clear hcz19_1
                        try clear hcz19_2
                        try clear hcz19_3
                        try clear hcz25_0
                        try clear hcz25_1
                        try clear hcz25_2
                        try clear hcz25_3
                        try clear hcz29_0
                        try clear hcz29_1
                        try clear hcz29_2
                        try clear hfz16_0
                        try clear hfz16_1
                        try clear hfz16_2
                        try clear hfz16_3
                        try clear hfz19_0
                        try clear hfz19_1
                        try clear hfz19_2
                        try clear hfz19_3
                        try clear hfz25_0
                        try clear hfz25_1
                        try clear hfz25_2
                        try clear hfz25_3
                        try clear hfz29_0
                        try clear hfz29_1
                        try clear hfz29_2
                        try clear p2
                        try clear p6
                        obtain ⟨x14_4, x377001_4, u377001, rfl, HA, HK4, HO_354000, HO_354003, HO_377001, BK353, BK376, HB⟩ := hrel
                        cases gk with
                        | zero => exact absurd HA.out (by simp [donatuslaw5_GramLimits.l2])
                        | succ k4 =>
                          have H := HA.out
                          clear HA
                          simp only [donatuslaw5_GramLimits.l2] at H
                          by_cases c30 : x14_4 < a2
                          · rw [if_pos c30] at H
                            have c30b0 : decide (x14_4 < a2) = true := decide_eq_true c30
                            clear c30
                            by_cases c31 : x377001_4.length < 8796093022208
                            · rw [if_pos c31] at H
                              have LMc31 := Aside0.mk c31
                              clear c31
                              obtain ⟨y377, hy377⟩ : ∃ y_ : List ByteArray, y_ = (x377001_4 ++ [(⟨#[115]⟩ : ByteArray)]) := ⟨_, rfl⟩
                              replace H : (donatuslaw5_GramLimits.l2 k4 a0 a1 a2 a3 x12_3 (wrap64 (x14_4 + 1)) x354000_2 (⟨#[]⟩ : ByteArray) a3 x354003_3 (⟨#[115]⟩ : ByteArray) y377 (⟨#[]⟩ : ByteArray)) = some r := by first | (rw [hy377]; with_reducible exact H) | (have H2_ := (Option.bind_some _ _).symm.trans H; rw [hy377]; with_reducible exact H2_) | (have H2_ := (Option.bind_some _ _).symm.trans H; with_reducible exact H2_) | with_reducible exact H | (rw [hy377]; exact H) | exact H
                              have Ny377 := Aside0.mk hy377
                              clear hy377
                              have H' := Aside0.mk H
                              clear H
                              have hnb32 := NB376_353.out
                              have hnc32 := NB353_376.out
                              have hcz33_0 : wr.cell? ⟨gb376, 0, none⟩ = some (.string (⟨#[115]⟩ : ByteArray)) := (blk_cell BK376.out 0).trans rfl
                              have hcz33_1 : wr.cell? ⟨gb376, 1, none⟩ = some (u377001) := (blk_cell BK376.out 1).trans rfl
                              have hcz33_2 : wr.cell? ⟨gb376, 2, none⟩ = some (.string (⟨#[]⟩ : ByteArray)) := (blk_cell BK376.out 2).trans rfl
                              have hfz33_0 := blk_frozen BK376.out 0
                              have hfz33_1 := blk_frozen BK376.out 1
                              have hfz33_2 := blk_frozen BK376.out 2
                              go_wp2_with (first | ((with_reducible refine gate_builtin (b := .append) (xs := #[.tmp 76, .tmp 77]) rfl ?_); at_builtin; refine Kd.R_append Kd.string (w0 := w) w.heap.size rfl (.tmp 76) (.tmp 77) 37 9 (.string ⟨#[]⟩) 16 rfl Tryd.underlying37 info9 rfl (by decide) (by omega) u377001 x377001_4 (⟨#[115]⟩ : ByteArray) [.string (⟨#[115]⟩ : ByteArray)] (fun _ => True) (fun _ => False) rfl rfl ?aP (fun _ hk => hk.elim) ?aF ?aO ?aB ?aS ?aL ?_; (case aP => exact rfl); (case aB => exact (by repeat (first | (with_reducible first | exact HB.out | apply below_alloc | apply pw_below_drewN | apply below_drew1 | refine below_set ?_ GE353.out | refine below_set ?_ GE376.out) | exact HB.out))); (case aF => exact (fun _ _ => trivial)); (case aO => exact (by (with_reducible repeat (first | apply Kd.R_alloc | apply Kd.R_drewN | apply Kd.R_drew)); exact HO_377001.out)); (case aS => exact (below_size (by repeat (first | (with_reducible first | exact HB.out | apply below_alloc | apply pw_below_drewN | apply below_drew1 | refine below_set ?_ GE353.out | refine below_set ?_ GE376.out) | exact HB.out)))); (case aL => have := LMc31.out; omega); intro v378 w34 ho hb hg hat; rw [← Ny377.out] at ho; have n0_ := Aside0.mk (Kd.R_over' (by (with_reducible repeat (first | apply Kd.R_alloc | apply Kd.R_drewN | apply Kd.R_drew)); exact HO_354000.out) (Kd.R_typed (by (with_reducible repeat (first | apply Kd.R_alloc | apply Kd.R_drewN | apply Kd.R_drew)); exact HO_377001.out)) (by decide) hg); have n1_ := Aside0.mk (Kd.S_after (ok := (fun k_ => k_ ≠ gb376)) (by (with_reducible repeat (first | apply Kd.S_alloc | apply Kd.S_drewN | apply Kd.S_drew)); exact Kd.S_mono HO_354003.out (fun _ hk => ⟨hk.2, hk.1⟩)) hg hat); have n2_ := Aside0.mk (blk_grown (g := gb353) (o := .cells #[u354000, .string (⟨#[]⟩ : ByteArray), .int .i64 a3, u354003] 25 (0, 0)) (by (with_reducible repeat (first | refine blk_drewN ?_ _ | refine blk_drew ?_ | refine blk_alloc ?_ _)); exact BK353.out) hg (Kd.R_ne HO_377001.out BK353.out (by decide))); have n3_ := Aside0.mk (blk_grown (g := gb376) (o := .cells #[.string (⟨#[115]⟩ : ByteArray), u377001, .string (⟨#[]⟩ : ByteArray)] 39 (0, 0)) (by (with_reducible repeat (first | refine blk_drewN ?_ _ | refine blk_drew ?_ | refine blk_alloc ?_ _)); exact BK376.out) hg (Kd.R_ne HO_377001.out BK376.out (by decide))); have n4_ := Aside0.mk (hb); have n5_ := Aside0.mk (ho); clear HO_354000; clear HO_354003; clear BK353; clear BK376; clear HB; clear HO_377001; have HO_354000 := n0_; have HO_354003 := n1_; have BK353 := n2_; have BK376 := n3_; have HB := n4_; have HO379 := n5_; clear n0_ n1_ n2_ n3_ n4_ n5_; clear ho hb hg hat; obtain ⟨Ao35, co35, eo35⟩ := Kd.R_slice HO379.out; subst eo35; have hcz36_0 : w34.cell? ⟨gb376, 0, none⟩ = some (.string (⟨#[115]⟩ : ByteArray)) := (blk_cell BK376.out 0).trans rfl; have hcz36_1 : w34.cell? ⟨gb376, 1, none⟩ = some (u377001) := (blk_cell BK376.out 1).trans rfl; have hcz36_2 : w34.cell? ⟨gb376, 2, none⟩ = some (.string (⟨#[]⟩ : ByteArray)) := (blk_cell BK376.out 2).trans rfl; have hfz36_0 := blk_frozen BK376.out 0; have hfz36_1 := blk_frozen BK376.out 1; have hfz36_2 := blk_frozen BK376.out 2))
                              go_roundg k4
                              case measure => have := HJ6.out; have := HK2.out; have := HK3.out; have := HK4.out; omega
                              case rel => exact ⟨(wrap64 (x14_4 + 1)), (y377), (.slice Ao35 y377.length co35), (by first | rfl | (simp; done) | (simp [*]; done)), H', ⟨by have := HJ6.out; have := HK2.out; have := HK3.out; have := HK4.out; omega⟩, ⟨by (with_reducible repeat (first | apply Kd.R_alloc | apply Kd.R_drewN | apply Kd.R_drew)); exact Kd.R_mono (Kd.R_far (p := ⟨gb376, 1, none⟩) (Kd.R_types HO_354000.out BK376.out (by decide)) (fun _ hk => hk.2) (.slice Ao35 y377.length co35)) (fun _ hk => trivial)⟩, ⟨by (with_reducible repeat (first | apply Kd.S_alloc | apply Kd.S_drewN | apply Kd.S_drew)); exact Kd.S_mono (Kd.S_far (p := ⟨gb376, 1, none⟩) (Kd.S_mono HO_354003.out (fun k_ hk => (⟨hk, hk.1⟩ : _ ∧ k_ ≠ gb376))) (fun _ hk => hk.2) (.slice Ao35 y377.length co35)) (fun _ hk => ⟨hk.1.2, hk.1.1⟩)⟩, ⟨by (with_reducible repeat (first | apply Kd.R_alloc | apply Kd.R_drewN | apply Kd.R_drew)); exact Kd.R_mono (Kd.R_far (p := ⟨gb376, 1, none⟩) (Kd.R_types HO379.out BK376.out (by decide)) (fun _ hk => hk.2) (.slice Ao35 y377.length co35)) (fun _ hk => trivial)⟩, ⟨by (with_reducible repeat (first | refine blk_drewN ?_ _ | refine blk_drew ?_ | refine blk_alloc ?_ _)); refine blk_far ?_ NB353_376.out _; (with_reducible repeat (first | refine blk_drewN ?_ _ | refine blk_drew ?_ | refine blk_alloc ?_ _)); exact BK353.out⟩, ⟨by (with_reducible repeat (first | refine blk_drewN ?_ _ | refine blk_drew ?_ | refine blk_alloc ?_ _)); refine blk_put (cs := #[.string (⟨#[115]⟩ : ByteArray), u377001, .string (⟨#[]⟩ : ByteArray)]) ?_ 1 _ rfl; (with_reducible repeat (first | refine blk_drewN ?_ _ | refine blk_drew ?_ | refine blk_alloc ?_ _)); exact BK376.out⟩, ⟨by repeat (first | (with_reducible first | exact HB.out | apply below_alloc | apply pw_below_drewN | apply below_drew1 | refine below_set ?_ GE353.out | refine below_set ?_ GE376.out) | exact HB.out)⟩⟩
                            · rw [if_neg c31] at H
                              exact absurd H (by simp)
                          · rw [if_neg c30] at H
                            have c30b0 : decide (x14_4 < a2) = false := decide_eq_false c30
                            clear c30
                            by_cases c37 : x354003_3.length < 2513169434916
                            · rw [if_pos c37] at H
                              have LMc37 := Aside0.mk c37
                              clear c37
                              obtain ⟨y380, hy380⟩ : ∃ y_ : List (S39), y_ = (x354003_3 ++ [(⟨(⟨#[115]⟩ : ByteArray), x377001_4, (⟨#[]⟩ : ByteArray)⟩ : S39)]) := ⟨_, rfl⟩
                              replace H : (donatuslaw5_GramLimits.l1 k4 a0 a1 a2 a3 (wrap64 (x12_3 + 1)) x354000_2 (⟨#[]⟩ : ByteArray) a3 y380) = some r := by first | (rw [hy380]; with_reducible exact H) | (have H2_ := (Option.bind_some _ _).symm.trans H; rw [hy380]; with_reducible exact H2_) | (have H2_ := (Option.bind_some _ _).symm.trans H; with_reducible exact H2_) | with_reducible exact H | (rw [hy380]; exact H) | exact H
                              have Ny380 := Aside0.mk hy380
                              clear hy380
                              have H' := Aside0.mk H
                              clear H
                              have hnb38 := NB353_376.out
                              have hnc38 := NB376_353.out
                              have hcz39_0 : wr.cell? ⟨gb353, 0, none⟩ = some (u354000) := (blk_cell BK353.out 0).trans rfl
                              have hcz39_1 : wr.cell? ⟨gb353, 1, none⟩ = some (.string (⟨#[]⟩ : ByteArray)) := (blk_cell BK353.out 1).trans rfl
                              have hcz39_2 : wr.cell? ⟨gb353, 2, none⟩ = some (.int .i64 a3) := (blk_cell BK353.out 2).trans rfl
                              have hcz39_3 : wr.cell? ⟨gb353, 3, none⟩ = some (u354003) := (blk_cell BK353.out 3).trans rfl
                              have hfz39_0 := blk_frozen BK353.out 0
                              have hfz39_1 := blk_frozen BK353.out 1
                              have hfz39_2 := blk_frozen BK353.out 2
                              have hfz39_3 := blk_frozen BK353.out 3
                              have hcz40_0 : wr.cell? ⟨gb376, 0, none⟩ = some (.string (⟨#[115]⟩ : ByteArray)) := (blk_cell BK376.out 0).trans rfl
                              have hcz40_1 : wr.cell? ⟨gb376, 1, none⟩ = some (u377001) := (blk_cell BK376.out 1).trans rfl
                              have hcz40_2 : wr.cell? ⟨gb376, 2, none⟩ = some (.string (⟨#[]⟩ : ByteArray)) := (blk_cell BK376.out 2).trans rfl
                              have hfz40_0 := blk_frozen BK376.out 0
                              have hfz40_1 := blk_frozen BK376.out 1
                              have hfz40_2 := blk_frozen BK376.out 2
                              obtain ⟨Ao42, co42, eo42⟩ := Kd.R_slice HO_377001.out
                              subst eo42
                              go_wp2_with (first | ((with_reducible refine gate_builtin (b := .append) (xs := #[.tmp 81, .tmp 83]) rfl ?_); at_builtin; refine Kd.S_append k39 (w0 := w) w.heap.size rfl (.tmp 81) (.tmp 83) 23 39 (.agg #[(.string ⟨#[]⟩), (.slice none 0 0), (.string ⟨#[]⟩)]) 56 rfl Tryd.underlying23 info39 rfl (by decide) (by omega) u354003 x354003_3 (⟨(⟨#[115]⟩ : ByteArray), x377001_4, (⟨#[]⟩ : ByteArray)⟩ : S39) [.string (⟨#[115]⟩ : ByteArray), .slice Ao42 x377001_4.length co42, .string (⟨#[]⟩ : ByteArray)] (fun k_ => k_ ≠ gb376) (fun k_ => some k_ = (.slice Ao42 x377001_4.length co42 : Value).ownBlock) rfl rfl ?aP (fun k_ hk_ => ((Kd.R_mono (ok' := fun k_ => ((fun k_ => k_ ≠ gb376)) k_ ∧ some k_ ≠ (u354003 : Value).ownBlock) (Kd.R_types (Kd.R_apart' (HO_377001.out) (Kd.S_typed HO_354003.out) (by decide)) BK376.out (by decide)) (fun k_ hk => ⟨hk.2, hk.1.2⟩))).1 k_ hk_.symm) ?aF ?aO ?aB ?aS ?aL ?_; (case aP => exact k39_mkM _ _ _ (⟨(⟨#[115]⟩ : ByteArray), x377001_4, (⟨#[]⟩ : ByteArray)⟩ : S39) (Kd.R_mono (Kd.R_tight rfl (Kd.R_mono (ok' := fun k_ => ((fun k_ => k_ ≠ gb376)) k_ ∧ some k_ ≠ (u354003 : Value).ownBlock) (Kd.R_types (Kd.R_apart' (HO_377001.out) (Kd.S_typed HO_354003.out) (by decide)) BK376.out (by decide)) (fun k_ hk => ⟨hk.2, hk.1.2⟩))) (fun _ h_ => h_))); (case aB => exact (by repeat (first | (with_reducible first | exact HB.out | apply below_alloc | apply pw_below_drewN | apply below_drew1 | refine below_set ?_ GE353.out | refine below_set ?_ GE376.out) | exact HB.out))); (case aF => exact (fun k_ hk => Kd.freshB (g := gb376) (o := .cells #[.string (⟨#[115]⟩ : ByteArray), .slice Ao42 x377001_4.length co42, .string (⟨#[]⟩ : ByteArray)] 39 (0, 0)) (by (with_reducible repeat (first | refine blk_drewN ?_ _ | refine blk_drew ?_ | refine blk_alloc ?_ _)); exact BK376.out) k_ hk)); (case aO => exact (by (with_reducible repeat (first | apply Kd.S_alloc | apply Kd.S_drewN | apply Kd.S_drew)); exact Kd.S_mono HO_354003.out (fun k_ hk => ⟨hk.2, fun e_ => hk.1 e_⟩))); (case aS => exact (below_size (by repeat (first | (with_reducible first | exact HB.out | apply below_alloc | apply pw_below_drewN | apply below_drew1 | refine below_set ?_ GE353.out | refine below_set ?_ GE376.out) | exact HB.out)))); (case aL => have := LMc37.out; omega); intro v381 w41 ho hb hg hat; rw [← Ny380.out] at ho; have n0_ := Aside0.mk (Kd.R_over' (by (with_reducible repeat (first | apply Kd.R_alloc | apply Kd.R_drewN | apply Kd.R_drew)); exact HO_354000.out) (Kd.S_typed (by (with_reducible repeat (first | apply Kd.S_alloc | apply Kd.S_drewN | apply Kd.S_drew)); exact HO_354003.out)) (by decide) hg); have n1_ := Aside0.mk (blk_grown (g := gb353) (o := .cells #[u354000, .string (⟨#[]⟩ : ByteArray), .int .i64 a3, u354003] 25 (0, 0)) (by (with_reducible repeat (first | refine blk_drewN ?_ _ | refine blk_drew ?_ | refine blk_alloc ?_ _)); exact BK353.out) hg (Kd.S_ne HO_354003.out BK353.out (by decide))); have n2_ := Aside0.mk (blk_grown (g := gb376) (o := .cells #[.string (⟨#[115]⟩ : ByteArray), .slice Ao42 x377001_4.length co42, .string (⟨#[]⟩ : ByteArray)] 39 (0, 0)) (by (with_reducible repeat (first | refine blk_drewN ?_ _ | refine blk_drew ?_ | refine blk_alloc ?_ _)); exact BK376.out) hg (Kd.S_away HO_354003.out (fun _ hk => hk.2))); have n3_ := Aside0.mk (hb); have n4_ := Aside0.mk (ho); clear HO_354000; clear BK353; clear BK376; clear HB; clear HO_354003; clear HO_377001; have HO_354000 := n0_; have BK353 := n1_; have BK376 := n2_; have HB := n3_; have HO382 := n4_; clear n0_ n1_ n2_ n3_ n4_; clear ho hb hg hat; obtain ⟨Ao43, co43, eo43⟩ := Kd.S_slice HO382.out; subst eo43; have hcz44_0 : w41.cell? ⟨gb353, 0, none⟩ = some (u354000) := (blk_cell BK353.out 0).trans rfl; have hcz44_1 : w41.cell? ⟨gb353, 1, none⟩ = some (.string (⟨#[]⟩ : ByteArray)) := (blk_cell BK353.out 1).trans rfl; have hcz44_2 : w41.cell? ⟨gb353, 2, none⟩ = some (.int .i64 a3) := (blk_cell BK353.out 2).trans rfl; have hcz44_3 : w41.cell? ⟨gb353, 3, none⟩ = some (u354003) := (blk_cell BK353.out 3).trans rfl; have hfz44_0 := blk_frozen BK353.out 0; have hfz44_1 := blk_frozen BK353.out 1; have hfz44_2 := blk_frozen BK353.out 2; have hfz44_3 := blk_frozen BK353.out 3))
                              go_roundg k4
                              case measure => have := HJ6.out; have := HK2.out; have := HK3.out; have := HK4.out; omega
                              case rel => exact ⟨(wrap64 (x12_3 + 1)), (y380), (.slice Ao43 y380.length co43), (by first | rfl | (simp; done) | (simp [*]; done)), H', ⟨by have := HJ6.out; have := HK2.out; have := HK3.out; have := HK4.out; omega⟩, ⟨by (with_reducible repeat (first | apply Kd.R_alloc | apply Kd.R_drewN | apply Kd.R_drew)); exact Kd.R_mono (Kd.R_far (p := ⟨gb353, 3, none⟩) (Kd.R_types HO_354000.out BK353.out (by decide)) (fun _ hk => hk.2) (.slice Ao43 y380.length co43)) (fun _ hk => trivial)⟩, ⟨by (with_reducible repeat (first | apply Kd.S_alloc | apply Kd.S_drewN | apply Kd.S_drew)); exact Kd.S_mono (Kd.S_far (p := ⟨gb353, 3, none⟩) (Kd.S_types HO382.out BK353.out (by decide)) (fun _ hk => hk.2) (.slice Ao43 y380.length co43)) (fun _ hk => trivial)⟩, ⟨by (with_reducible repeat (first | refine blk_drewN ?_ _ | refine blk_drew ?_ | refine blk_alloc ?_ _)); refine blk_put (cs := #[u354000, .string (⟨#[]⟩ : ByteArray), .int .i64 a3, u354003]) ?_ 3 _ rfl; (with_reducible repeat (first | refine blk_drewN ?_ _ | refine blk_drew ?_ | refine blk_alloc ?_ _)); exact BK353.out⟩, ⟨by repeat (first | (with_reducible first | exact HB.out | apply below_alloc | apply pw_below_drewN | apply below_drew1 | refine below_set ?_ GE353.out | refine below_set ?_ GE376.out) | exact HB.out)⟩⟩
                            · rw [if_neg c37] at H
                              exact absurd H (by simp)
                    · rw [if_neg c26] at H
                      have c26b0 : decide (x12_3 < a1) = false := decide_eq_false c26
                      clear c26
                      by_cases c45 : a0 ≤ 40
                      · rw [if_pos c45] at H
                        have c45b0 : decide (a0 ≤ 40) = true := decide_eq_true c45
                        clear c45
                        by_cases c46 : a1 ≤ 100
                        · rw [if_pos c46] at H
                          have c46b0 : decide (a1 ≤ 100) = true := decide_eq_true c46
                          clear c46
                          by_cases c47 : a2 ≤ 20
                          · rw [if_pos c47] at H
                            have c47b0 : decide (a2 ≤ 20) = true := decide_eq_true c47
                            clear c47
                            by_cases c48 : a3 ≥ 0
                            · rw [if_pos c48] at H
                              have c48b0 : decide (0 ≤ a3) = true := decide_eq_true c48
                              clear c48
                              replace H := Option.bind_eq_some_iff.mp H
                              obtain ⟨t360, A490, H⟩ := H
                              replace H : (if t360 = true then (if a3 ≤ 9999 then ((gram_Text.f x354000_2 (⟨#[]⟩ : ByteArray) a3 x354003_3).bind fun t361 => (if t361.toList = ([] : List UInt8) then (some (!(decide (a3 ≤ 9999)))) else (some (decide (a3 ≤ 9999))))) else (some false)) else (if a3 ≤ 9999 then (some false) else ((gram_Text.f x354000_2 (⟨#[]⟩ : ByteArray) a3 x354003_3).bind fun t362 => (if t362.toList = ([] : List UInt8) then (some (!(decide (a3 ≤ 9999)))) else (some (decide (a3 ≤ 9999))))))) = some r := H
                              have A49 := Aside0.mk A490
                              clear A490
                              by_cases c50 : t360 = true
                              · subst c50
                                have H1 : (if a3 ≤ 9999 then ((gram_Text.f x354000_2 (⟨#[]⟩ : ByteArray) a3 x354003_3).bind fun t361 => (if t361.toList = ([] : List UInt8) then (some (!(decide (a3 ≤ 9999)))) else (some (decide (a3 ≤ 9999))))) else (some false)) = some r := by rw [if_pos rfl] at H; exact H
                                clear H
                                have H := H1
                                clear H1
                                by_cases c51 : a3 ≤ 9999
                                · rw [if_pos c51] at H
                                  have c51b0 : decide (a3 ≤ 9999) = true := decide_eq_true c51
                                  clear c51
                                  replace H := Option.bind_eq_some_iff.mp H
                                  obtain ⟨t361, A520, H⟩ := H
                                  replace H : (if t361.toList = ([] : List UInt8) then (some (!(decide (a3 ≤ 9999)))) else (some (decide (a3 ≤ 9999)))) = some r := H
                                  have A52 := Aside0.mk A520
                                  clear A520
                                  by_cases c53 : t361.toList = ([] : List UInt8)
                                  · rw [if_pos c53] at H
                                    have c53b0 : (t361.toList == ([] : List UInt8)) = true := beq_iff_eq.mpr c53
                                    have c53b1 : (t361.toList != ([] : List UInt8)) = false := bne_eq_false_iff_eq.mpr c53
                                    clear c53
                                    obtain rfl := Option.some.inj H
                                    have hcz54_0 : wr.cell? ⟨gb353, 0, none⟩ = some (u354000) := (blk_cell BK353.out 0).trans rfl
                                    have hcz54_1 : wr.cell? ⟨gb353, 1, none⟩ = some (.string (⟨#[]⟩ : ByteArray)) := (blk_cell BK353.out 1).trans rfl
                                    have hcz54_2 : wr.cell? ⟨gb353, 2, none⟩ = some (.int .i64 a3) := (blk_cell BK353.out 2).trans rfl
                                    have hcz54_3 : wr.cell? ⟨gb353, 3, none⟩ = some (u354003) := (blk_cell BK353.out 3).trans rfl
                                    have hfz54_0 := blk_frozen BK353.out 0
                                    have hfz54_1 := blk_frozen BK353.out 1
                                    have hfz54_2 := blk_frozen BK353.out 2
                                    have hfz54_3 := blk_frozen BK353.out 3
                                    obtain ⟨Ao55, co55, eo55⟩ := Kd.R_slice HO_354000.out
                                    subst eo55
                                    obtain ⟨Ao56, co56, eo56⟩ := Kd.S_slice HO_354003.out
                                    subst eo56
                                    go_wp2_with (first | ((with_reducible refine gate_callee (f := 10) rfl ?_); refine goesL_ (some 109) rfl rfl Tryd.func10 (by kernel_rfl) rfl #[.agg #[.slice Ao55 x354000_2.length co55, .string (⟨#[]⟩ : ByteArray), .int .i64 a3, .slice Ao56 x354003_3.length co56]] rfl (by (try simp only [List.map_toArray, List.map_cons, List.map_nil]); first | done | rfl | (simp only [List.length_drop, List.length_take]; rfl)) ?_; (with_reducible refine (gram_May.calls _ _ x354000_2 (⟨#[]⟩ : ByteArray) a3 _ _ x354003_3 true _ ?side1 ?side2 ?side3 ?side4 A49.out).mono ?_); (case side1 => repeat (first | exact (Kd.R_reads' HO_354000.out).2.2 | (with_reducible refine Kd.C_alloc ?_ _) | (with_reducible refine Kd.C_drewN ?_ _) | (with_reducible refine Kd.C_drew ?_))); (case side2 => exact (Kd.R_reads' HO_354000.out).2.1); (case side3 => repeat (first | exact (Kd.S_reads' HO_354003.out).2.2 | (with_reducible refine Kd.C_alloc ?_ _) | (with_reducible refine Kd.C_drewN ?_ _) | (with_reducible refine Kd.C_drew ?_))); (case side4 => exact (Kd.S_reads' HO_354003.out).2.1); rintro e w57 ⟨rfl, hb⟩; refine ⟨_, rfl, ?_⟩; have n0_ := Aside0.mk (Kd.R_below (by (with_reducible repeat (first | apply Kd.R_alloc | apply Kd.R_drewN | apply Kd.R_drew)); exact HO_354000.out) hb); have n1_ := Aside0.mk (Kd.S_below (by (with_reducible repeat (first | apply Kd.S_alloc | apply Kd.S_drewN | apply Kd.S_drew)); exact HO_354003.out) hb); have n2_ := Aside0.mk (blk_below (g := gb353) (o := .cells #[.slice Ao55 x354000_2.length co55, .string (⟨#[]⟩ : ByteArray), .int .i64 a3, .slice Ao56 x354003_3.length co56] 25 (0, 0)) (by (with_reducible repeat (first | refine blk_drewN ?_ _ | refine blk_drew ?_ | refine blk_alloc ?_ _)); exact BK353.out) hb); have n3_ := Aside0.mk (below_step (by repeat (first | (with_reducible first | exact HB.out | apply below_alloc | apply pw_below_drewN | apply below_drew1 | refine below_set ?_ GE353.out) | exact HB.out)) hb); clear HO_354000; clear HO_354003; clear BK353; clear HB; have HO_354000 := n0_; have HO_354003 := n1_; have BK353 := n2_; have HB := n3_; clear n0_ n1_ n2_ n3_; (try clear hb); (try clear hb2); (try clear hk); (try clear hi); have hcz58_0 : w57.cell? ⟨gb353, 0, none⟩ = some (.slice Ao55 x354000_2.length co55) := (blk_cell BK353.out 0).trans rfl; have hcz58_1 : w57.cell? ⟨gb353, 1, none⟩ = some (.string (⟨#[]⟩ : ByteArray)) := (blk_cell BK353.out 1).trans rfl; have hcz58_2 : w57.cell? ⟨gb353, 2, none⟩ = some (.int .i64 a3) := (blk_cell BK353.out 2).trans rfl; have hcz58_3 : w57.cell? ⟨gb353, 3, none⟩ = some (.slice Ao56 x354003_3.length co56) := (blk_cell BK353.out 3).trans rfl; have hfz58_0 := blk_frozen BK353.out 0; have hfz58_1 := blk_frozen BK353.out 1; have hfz58_2 := blk_frozen BK353.out 2; have hfz58_3 := blk_frozen BK353.out 3) | (go_at_call 12; (with_reducible refine (gram_Text.calls _ _ x354000_2 (⟨#[]⟩ : ByteArray) a3 _ _ x354003_3 t361 _ (Tab.move htab (by repeat (first | (with_reducible first | exact HB.out | apply below_alloc | apply pw_below_drewN | apply below_drew1) | exact HB.out))) ?side1 ?side2 ?side3 ?side4 A52.out).mono ?_); (case side1 => repeat (first | exact (Kd.R_reads' HO_354000.out).2.2 | (with_reducible refine Kd.C_alloc ?_ _) | (with_reducible refine Kd.C_drewN ?_ _) | (with_reducible refine Kd.C_drew ?_))); (case side2 => exact (Kd.R_reads' HO_354000.out).2.1); (case side3 => repeat (first | exact (Kd.S_reads' HO_354003.out).2.2 | (with_reducible refine Kd.C_alloc ?_ _) | (with_reducible refine Kd.C_drewN ?_ _) | (with_reducible refine Kd.C_drew ?_))); (case side4 => exact (Kd.S_reads' HO_354003.out).2.1); rintro e w59 ⟨rfl, hb⟩; have n0_ := Aside0.mk (Kd.R_below (by (with_reducible repeat (first | apply Kd.R_alloc | apply Kd.R_drewN | apply Kd.R_drew)); exact HO_354000.out) hb); have n1_ := Aside0.mk (Kd.S_below (by (with_reducible repeat (first | apply Kd.S_alloc | apply Kd.S_drewN | apply Kd.S_drew)); exact HO_354003.out) hb); have n2_ := Aside0.mk (blk_below (g := gb353) (o := .cells #[.slice Ao55 x354000_2.length co55, .string (⟨#[]⟩ : ByteArray), .int .i64 a3, .slice Ao56 x354003_3.length co56] 25 (0, 0)) (by (with_reducible repeat (first | refine blk_drewN ?_ _ | refine blk_drew ?_ | refine blk_alloc ?_ _)); exact BK353.out) hb); have n3_ := Aside0.mk (below_step (by repeat (first | (with_reducible first | exact HB.out | apply below_alloc | apply pw_below_drewN | apply below_drew1 | refine below_set ?_ GE353.out) | exact HB.out)) hb); clear HO_354000; clear HO_354003; clear BK353; clear HB; have HO_354000 := n0_; have HO_354003 := n1_; have BK353 := n2_; have HB := n3_; clear n0_ n1_ n2_ n3_; (try clear hb); (try clear hb2); (try clear hk); (try clear hi)))
                                    go_ret
                                    exact ⟨by first | rfl | exact congrArg (fun b => Ending.returned (Value.bool b)) (isE_ _) | (simp [errW_none, errW_some] <;> rfl) | (simp [*, errW_none, errW_some] <;> rfl), by repeat (first | (with_reducible first | exact HB.out | apply below_alloc | apply pw_below_drewN | apply below_drew1 | refine below_set ?_ GE353.out) | exact HB.out)⟩
                                  · rw [if_neg c53] at H
                                    have c53b0 : (t361.toList == ([] : List UInt8)) = false := beq_eq_false_iff_ne.mpr c53
                                    have c53b1 : (t361.toList != ([] : List UInt8)) = true := bne_iff_ne.mpr c53
                                    obtain rfl := Option.some.inj H
                                    have hcz60_0 : wr.cell? ⟨gb353, 0, none⟩ = some (u354000) := (blk_cell BK353.out 0).trans rfl
                                    have hcz60_1 : wr.cell? ⟨gb353, 1, none⟩ = some (.string (⟨#[]⟩ : ByteArray)) := (blk_cell BK353.out 1).trans rfl
                                    have hcz60_2 : wr.cell? ⟨gb353, 2, none⟩ = some (.int .i64 a3) := (blk_cell BK353.out 2).trans rfl
                                    have hcz60_3 : wr.cell? ⟨gb353, 3, none⟩ = some (u354003) := (blk_cell BK353.out 3).trans rfl
                                    have hfz60_0 := blk_frozen BK353.out 0
                                    have hfz60_1 := blk_frozen BK353.out 1
                                    have hfz60_2 := blk_frozen BK353.out 2
                                    have hfz60_3 := blk_frozen BK353.out 3
                                    obtain ⟨Ao61, co61, eo61⟩ := Kd.R_slice HO_354000.out
                                    subst eo61
                                    obtain ⟨Ao62, co62, eo62⟩ := Kd.S_slice HO_354003.out
                                    subst eo62
                                    go_wp2_with (first | ((with_reducible refine gate_callee (f := 10) rfl ?_); refine goesL_ (some 109) rfl rfl Tryd.func10 (by kernel_rfl) rfl #[.agg #[.slice Ao61 x354000_2.length co61, .string (⟨#[]⟩ : ByteArray), .int .i64 a3, .slice Ao62 x354003_3.length co62]] rfl (by (try simp only [List.map_toArray, List.map_cons, List.map_nil]); first | done | rfl | (simp only [List.length_drop, List.length_take]; rfl)) ?_; (with_reducible refine (gram_May.calls _ _ x354000_2 (⟨#[]⟩ : ByteArray) a3 _ _ x354003_3 true _ ?side1 ?side2 ?side3 ?side4 A49.out).mono ?_); (case side1 => repeat (first | exact (Kd.R_reads' HO_354000.out).2.2 | (with_reducible refine Kd.C_alloc ?_ _) | (with_reducible refine Kd.C_drewN ?_ _) | (with_reducible refine Kd.C_drew ?_))); (case side2 => exact (Kd.R_reads' HO_354000.out).2.1); (case side3 => repeat (first | exact (Kd.S_reads' HO_354003.out).2.2 | (with_reducible refine Kd.C_alloc ?_ _) | (with_reducible refine Kd.C_drewN ?_ _) | (with_reducible refine Kd.C_drew ?_))); (case side4 => exact (Kd.S_reads' HO_354003.out).2.1); rintro e w63 ⟨rfl, hb⟩; refine ⟨_, rfl, ?_⟩; have n0_ := Aside0.mk (Kd.R_below (by (with_reducible repeat (first | apply Kd.R_alloc | apply Kd.R_drewN | apply Kd.R_drew)); exact HO_354000.out) hb); have n1_ := Aside0.mk (Kd.S_below (by (with_reducible repeat (first | apply Kd.S_alloc | apply Kd.S_drewN | apply Kd.S_drew)); exact HO_354003.out) hb); have n2_ := Aside0.mk (blk_below (g := gb353) (o := .cells #[.slice Ao61 x354000_2.length co61, .string (⟨#[]⟩ : ByteArray), .int .i64 a3, .slice Ao62 x354003_3.length co62] 25 (0, 0)) (by (with_reducible repeat (first | refine blk_drewN ?_ _ | refine blk_drew ?_ | refine blk_alloc ?_ _)); exact BK353.out) hb); have n3_ := Aside0.mk (below_step (by repeat (first | (with_reducible first | exact HB.out | apply below_alloc | apply pw_below_drewN | apply below_drew1 | refine below_set ?_ GE353.out) | exact HB.out)) hb); clear HO_354000; clear HO_354003; clear BK353; clear HB; have HO_354000 := n0_; have HO_354003 := n1_; have BK353 := n2_; have HB := n3_; clear n0_ n1_ n2_ n3_; (try clear hb); (try clear hb2); (try clear hk); (try clear hi); have hcz64_0 : w63.cell? ⟨gb353, 0, none⟩ = some (.slice Ao61 x354000_2.length co61) := (blk_cell BK353.out 0).trans rfl; have hcz64_1 : w63.cell? ⟨gb353, 1, none⟩ = some (.string (⟨#[]⟩ : ByteArray)) := (blk_cell BK353.out 1).trans rfl; have hcz64_2 : w63.cell? ⟨gb353, 2, none⟩ = some (.int .i64 a3) := (blk_cell BK353.out 2).trans rfl; have hcz64_3 : w63.cell? ⟨gb353, 3, none⟩ = some (.slice Ao62 x354003_3.length co62) := (blk_cell BK353.out 3).trans rfl; have hfz64_0 := blk_frozen BK353.out 0; have hfz64_1 := blk_frozen BK353.out 1; have hfz64_2 := blk_frozen BK353.out 2; have hfz64_3 := blk_frozen BK353.out 3) | (go_at_call 12; (with_reducible refine (gram_Text.calls _ _ x354000_2 (⟨#[]⟩ : ByteArray) a3 _ _ x354003_3 t361 _ (Tab.move htab (by repeat (first | (with_reducible first | exact HB.out | apply below_alloc | apply pw_below_drewN | apply below_drew1) | exact HB.out))) ?side1 ?side2 ?side3 ?side4 A52.out).mono ?_); (case side1 => repeat (first | exact (Kd.R_reads' HO_354000.out).2.2 | (with_reducible refine Kd.C_alloc ?_ _) | (with_reducible refine Kd.C_drewN ?_ _) | (with_reducible refine Kd.C_drew ?_))); (case side2 => exact (Kd.R_reads' HO_354000.out).2.1); (case side3 => repeat (first | exact (Kd.S_reads' HO_354003.out).2.2 | (with_reducible refine Kd.C_alloc ?_ _) | (with_reducible refine Kd.C_drewN ?_ _) | (with_reducible refine Kd.C_drew ?_))); (case side4 => exact (Kd.S_reads' HO_354003.out).2.1); rintro e w65 ⟨rfl, hb⟩; have n0_ := Aside0.mk (Kd.R_below (by (with_reducible repeat (first | apply Kd.R_alloc | apply Kd.R_drewN | apply Kd.R_drew)); exact HO_354000.out) hb); have n1_ := Aside0.mk (Kd.S_below (by (with_reducible repeat (first | apply Kd.S_alloc | apply Kd.S_drewN | apply Kd.S_drew)); exact HO_354003.out) hb); have n2_ := Aside0.mk (blk_below (g := gb353) (o := .cells #[.slice Ao61 x354000_2.length co61, .string (⟨#[]⟩ : ByteArray), .int .i64 a3, .slice Ao62 x354003_3.length co62] 25 (0, 0)) (by (with_reducible repeat (first | refine blk_drewN ?_ _ | refine blk_drew ?_ | refine blk_alloc ?_ _)); exact BK353.out) hb); have n3_ := Aside0.mk (below_step (by repeat (first | (with_reducible first | exact HB.out | apply below_alloc | apply pw_below_drewN | apply below_drew1 | refine below_set ?_ GE353.out) | exact HB.out)) hb); clear HO_354000; clear HO_354003; clear BK353; clear HB; have HO_354000 := n0_; have HO_354003 := n1_; have BK353 := n2_; have HB := n3_; clear n0_ n1_ n2_ n3_; (try clear hb); (try clear hb2); (try clear hk); (try clear hi)))
                                    go_ret
                                    exact ⟨by first | rfl | exact congrArg (fun b => Ending.returned (Value.bool b)) (isE_ _) | (simp [errW_none, errW_some] <;> rfl) | (simp [*, errW_none, errW_some] <;> rfl), by repeat (first | (with_reducible first | exact HB.out | apply below_alloc | apply pw_below_drewN | apply below_drew1 | refine below_set ?_ GE353.out) | exact HB.out)⟩
                                · rw [if_neg c51] at H
                                  have c51b0 : decide (a3 ≤ 9999) = false := decide_eq_false c51
                                  clear c51
                                  exact absurd ((Option.some.inj H).trans hr_.out) (by decide)
                              · replace c50 := Bool.eq_false_iff.mpr c50
                                subst c50
                                have H1 : (if a3 ≤ 9999 then (some false) else ((gram_Text.f x354000_2 (⟨#[]⟩ : ByteArray) a3 x354003_3).bind fun t362 => (if t362.toList = ([] : List UInt8) then (some (!(decide (a3 ≤ 9999)))) else (some (decide (a3 ≤ 9999)))))) = some r := by rw [if_neg (show ¬ (false = true) by decide)] at H; exact H
                                clear H
                                have H := H1
                                clear H1
                                by_cases c66 : a3 ≤ 9999
                                · rw [if_pos c66] at H
                                  have c66b0 : decide (a3 ≤ 9999) = true := decide_eq_true c66
                                  clear c66
                                  exact absurd ((Option.some.inj H).trans hr_.out) (by decide)
                                · rw [if_neg c66] at H
                                  have c66b0 : decide (a3 ≤ 9999) = false := decide_eq_false c66
                                  clear c66
                                  replace H := Option.bind_eq_some_iff.mp H
                                  obtain ⟨t362, A670, H⟩ := H
                                  replace H : (if t362.toList = ([] : List UInt8) then (some (!(decide (a3 ≤ 9999)))) else (some (decide (a3 ≤ 9999)))) = some r := H
                                  have A67 := Aside0.mk A670
                                  clear A670
                                  by_cases c68 : t362.toList = ([] : List UInt8)
                                  · rw [if_pos c68] at H
                                    have c68b0 : (t362.toList == ([] : List UInt8)) = true := beq_iff_eq.mpr c68
                                    have c68b1 : (t362.toList != ([] : List UInt8)) = false := bne_eq_false_iff_eq.mpr c68
                                    clear c68
                                    obtain rfl := Option.some.inj H
                                    have hcz69_0 : wr.cell? ⟨gb353, 0, none⟩ = some (u354000) := (blk_cell BK353.out 0).trans rfl
                                    have hcz69_1 : wr.cell? ⟨gb353, 1, none⟩ = some (.string (⟨#[]⟩ : ByteArray)) := (blk_cell BK353.out 1).trans rfl
                                    have hcz69_2 : wr.cell? ⟨gb353, 2, none⟩ = some (.int .i64 a3) := (blk_cell BK353.out 2).trans rfl
                                    have hcz69_3 : wr.cell? ⟨gb353, 3, none⟩ = some (u354003) := (blk_cell BK353.out 3).trans rfl
                                    have hfz69_0 := blk_frozen BK353.out 0
                                    have hfz69_1 := blk_frozen BK353.out 1
                                    have hfz69_2 := blk_frozen BK353.out 2
                                    have hfz69_3 := blk_frozen BK353.out 3
                                    obtain ⟨Ao70, co70, eo70⟩ := Kd.R_slice HO_354000.out
                                    subst eo70
                                    obtain ⟨Ao71, co71, eo71⟩ := Kd.S_slice HO_354003.out
                                    subst eo71
                                    go_wp2_with (first | ((with_reducible refine gate_callee (f := 10) rfl ?_); refine goesL_ (some 109) rfl rfl Tryd.func10 (by kernel_rfl) rfl #[.agg #[.slice Ao70 x354000_2.length co70, .string (⟨#[]⟩ : ByteArray), .int .i64 a3, .slice Ao71 x354003_3.length co71]] rfl (by (try simp only [List.map_toArray, List.map_cons, List.map_nil]); first | done | rfl | (simp only [List.length_drop, List.length_take]; rfl)) ?_; (with_reducible refine (gram_May.calls _ _ x354000_2 (⟨#[]⟩ : ByteArray) a3 _ _ x354003_3 false _ ?side1 ?side2 ?side3 ?side4 A49.out).mono ?_); (case side1 => repeat (first | exact (Kd.R_reads' HO_354000.out).2.2 | (with_reducible refine Kd.C_alloc ?_ _) | (with_reducible refine Kd.C_drewN ?_ _) | (with_reducible refine Kd.C_drew ?_))); (case side2 => exact (Kd.R_reads' HO_354000.out).2.1); (case side3 => repeat (first | exact (Kd.S_reads' HO_354003.out).2.2 | (with_reducible refine Kd.C_alloc ?_ _) | (with_reducible refine Kd.C_drewN ?_ _) | (with_reducible refine Kd.C_drew ?_))); (case side4 => exact (Kd.S_reads' HO_354003.out).2.1); rintro e w72 ⟨rfl, hb⟩; refine ⟨_, rfl, ?_⟩; have n0_ := Aside0.mk (Kd.R_below (by (with_reducible repeat (first | apply Kd.R_alloc | apply Kd.R_drewN | apply Kd.R_drew)); exact HO_354000.out) hb); have n1_ := Aside0.mk (Kd.S_below (by (with_reducible repeat (first | apply Kd.S_alloc | apply Kd.S_drewN | apply Kd.S_drew)); exact HO_354003.out) hb); have n2_ := Aside0.mk (blk_below (g := gb353) (o := .cells #[.slice Ao70 x354000_2.length co70, .string (⟨#[]⟩ : ByteArray), .int .i64 a3, .slice Ao71 x354003_3.length co71] 25 (0, 0)) (by (with_reducible repeat (first | refine blk_drewN ?_ _ | refine blk_drew ?_ | refine blk_alloc ?_ _)); exact BK353.out) hb); have n3_ := Aside0.mk (below_step (by repeat (first | (with_reducible first | exact HB.out | apply below_alloc | apply pw_below_drewN | apply below_drew1 | refine below_set ?_ GE353.out) | exact HB.out)) hb); clear HO_354000; clear HO_354003; clear BK353; clear HB; have HO_354000 := n0_; have HO_354003 := n1_; have BK353 := n2_; have HB := n3_; clear n0_ n1_ n2_ n3_; (try clear hb); (try clear hb2); (try clear hk); (try clear hi); have hcz73_0 : w72.cell? ⟨gb353, 0, none⟩ = some (.slice Ao70 x354000_2.length co70) := (blk_cell BK353.out 0).trans rfl; have hcz73_1 : w72.cell? ⟨gb353, 1, none⟩ = some (.string (⟨#[]⟩ : ByteArray)) := (blk_cell BK353.out 1).trans rfl; have hcz73_2 : w72.cell? ⟨gb353, 2, none⟩ = some (.int .i64 a3) := (blk_cell BK353.out 2).trans rfl; have hcz73_3 : w72.cell? ⟨gb353, 3, none⟩ = some (.slice Ao71 x354003_3.length co71) := (blk_cell BK353.out 3).trans rfl; have hfz73_0 := blk_frozen BK353.out 0; have hfz73_1 := blk_frozen BK353.out 1; have hfz73_2 := blk_frozen BK353.out 2; have hfz73_3 := blk_frozen BK353.out 3) | (go_at_call 12; (with_reducible refine (gram_Text.calls _ _ x354000_2 (⟨#[]⟩ : ByteArray) a3 _ _ x354003_3 t362 _ (Tab.move htab (by repeat (first | (with_reducible first | exact HB.out | apply below_alloc | apply pw_below_drewN | apply below_drew1) | exact HB.out))) ?side1 ?side2 ?side3 ?side4 A67.out).mono ?_); (case side1 => repeat (first | exact (Kd.R_reads' HO_354000.out).2.2 | (with_reducible refine Kd.C_alloc ?_ _) | (with_reducible refine Kd.C_drewN ?_ _) | (with_reducible refine Kd.C_drew ?_))); (case side2 => exact (Kd.R_reads' HO_354000.out).2.1); (case side3 => repeat (first | exact (Kd.S_reads' HO_354003.out).2.2 | (with_reducible refine Kd.C_alloc ?_ _) | (with_reducible refine Kd.C_drewN ?_ _) | (with_reducible refine Kd.C_drew ?_))); (case side4 => exact (Kd.S_reads' HO_354003.out).2.1); rintro e w74 ⟨rfl, hb⟩; have n0_ := Aside0.mk (Kd.R_below (by (with_reducible repeat (first | apply Kd.R_alloc | apply Kd.R_drewN | apply Kd.R_drew)); exact HO_354000.out) hb); have n1_ := Aside0.mk (Kd.S_below (by (with_reducible repeat (first | apply Kd.S_alloc | apply Kd.S_drewN | apply Kd.S_drew)); exact HO_354003.out) hb); have n2_ := Aside0.mk (blk_below (g := gb353) (o := .cells #[.slice Ao70 x354000_2.length co70, .string (⟨#[]⟩ : ByteArray), .int .i64 a3, .slice Ao71 x354003_3.length co71] 25 (0, 0)) (by (with_reducible repeat (first | refine blk_drewN ?_ _ | refine blk_drew ?_ | refine blk_alloc ?_ _)); exact BK353.out) hb); have n3_ := Aside0.mk (below_step (by repeat (first | (with_reducible first | exact HB.out | apply below_alloc | apply pw_below_drewN | apply below_drew1 | refine below_set ?_ GE353.out) | exact HB.out)) hb); clear HO_354000; clear HO_354003; clear BK353; clear HB; have HO_354000 := n0_; have HO_354003 := n1_; have BK353 := n2_; have HB := n3_; clear n0_ n1_ n2_ n3_; (try clear hb); (try clear hb2); (try clear hk); (try clear hi)))
                                    go_ret
                                    exact ⟨by first | rfl | exact congrArg (fun b => Ending.returned (Value.bool b)) (isE_ _) | (simp [errW_none, errW_some] <;> rfl) | (simp [*, errW_none, errW_some] <;> rfl), by repeat (first | (with_reducible first | exact HB.out | apply below_alloc | apply pw_below_drewN | apply below_drew1 | refine below_set ?_ GE353.out) | exact HB.out)⟩
                                  · rw [if_neg c68] at H
                                    have c68b0 : (t362.toList == ([] : List UInt8)) = false := beq_eq_false_iff_ne.mpr c68
                                    have c68b1 : (t362.toList != ([] : List UInt8)) = true := bne_iff_ne.mpr c68
                                    obtain rfl := Option.some.inj H
                                    have hcz75_0 : wr.cell? ⟨gb353, 0, none⟩ = some (u354000) := (blk_cell BK353.out 0).trans rfl
                                    have hcz75_1 : wr.cell? ⟨gb353, 1, none⟩ = some (.string (⟨#[]⟩ : ByteArray)) := (blk_cell BK353.out 1).trans rfl
                                    have hcz75_2 : wr.cell? ⟨gb353, 2, none⟩ = some (.int .i64 a3) := (blk_cell BK353.out 2).trans rfl
                                    have hcz75_3 : wr.cell? ⟨gb353, 3, none⟩ = some (u354003) := (blk_cell BK353.out 3).trans rfl
                                    have hfz75_0 := blk_frozen BK353.out 0
                                    have hfz75_1 := blk_frozen BK353.out 1
                                    have hfz75_2 := blk_frozen BK353.out 2
                                    have hfz75_3 := blk_frozen BK353.out 3
                                    obtain ⟨Ao76, co76, eo76⟩ := Kd.R_slice HO_354000.out
                                    subst eo76
                                    obtain ⟨Ao77, co77, eo77⟩ := Kd.S_slice HO_354003.out
                                    subst eo77
                                    go_wp2_with (first | ((with_reducible refine gate_callee (f := 10) rfl ?_); refine goesL_ (some 109) rfl rfl Tryd.func10 (by kernel_rfl) rfl #[.agg #[.slice Ao76 x354000_2.length co76, .string (⟨#[]⟩ : ByteArray), .int .i64 a3, .slice Ao77 x354003_3.length co77]] rfl (by (try simp only [List.map_toArray, List.map_cons, List.map_nil]); first | done | rfl | (simp only [List.length_drop, List.length_take]; rfl)) ?_; (with_reducible refine (gram_May.calls _ _ x354000_2 (⟨#[]⟩ : ByteArray) a3 _ _ x354003_3 false _ ?side1 ?side2 ?side3 ?side4 A49.out).mono ?_); (case side1 => repeat (first | exact (Kd.R_reads' HO_354000.out).2.2 | (with_reducible refine Kd.C_alloc ?_ _) | (with_reducible refine Kd.C_drewN ?_ _) | (with_reducible refine Kd.C_drew ?_))); (case side2 => exact (Kd.R_reads' HO_354000.out).2.1); (case side3 => repeat (first | exact (Kd.S_reads' HO_354003.out).2.2 | (with_reducible refine Kd.C_alloc ?_ _) | (with_reducible refine Kd.C_drewN ?_ _) | (with_reducible refine Kd.C_drew ?_))); (case side4 => exact (Kd.S_reads' HO_354003.out).2.1); rintro e w78 ⟨rfl, hb⟩; refine ⟨_, rfl, ?_⟩; have n0_ := Aside0.mk (Kd.R_below (by (with_reducible repeat (first | apply Kd.R_alloc | apply Kd.R_drewN | apply Kd.R_drew)); exact HO_354000.out) hb); have n1_ := Aside0.mk (Kd.S_below (by (with_reducible repeat (first | apply Kd.S_alloc | apply Kd.S_drewN | apply Kd.S_drew)); exact HO_354003.out) hb); have n2_ := Aside0.mk (blk_below (g := gb353) (o := .cells #[.slice Ao76 x354000_2.length co76, .string (⟨#[]⟩ : ByteArray), .int .i64 a3, .slice Ao77 x354003_3.length co77] 25 (0, 0)) (by (with_reducible repeat (first | refine blk_drewN ?_ _ | refine blk_drew ?_ | refine blk_alloc ?_ _)); exact BK353.out) hb); have n3_ := Aside0.mk (below_step (by repeat (first | (with_reducible first | exact HB.out | apply below_alloc | apply pw_below_drewN | apply below_drew1 | refine below_set ?_ GE353.out) | exact HB.out)) hb); clear HO_354000; clear HO_354003; clear BK353; clear HB; have HO_354000 := n0_; have HO_354003 := n1_; have BK353 := n2_; have HB := n3_; clear n0_ n1_ n2_ n3_; (try clear hb); (try clear hb2); (try clear hk); (try clear hi); have hcz79_0 : w78.cell? ⟨gb353, 0, none⟩ = some (.slice Ao76 x354000_2.length co76) := (blk_cell BK353.out 0).trans rfl; have hcz79_1 : w78.cell? ⟨gb353, 1, none⟩ = some (.string (⟨#[]⟩ : ByteArray)) := (blk_cell BK353.out 1).trans rfl; have hcz79_2 : w78.cell? ⟨gb353, 2, none⟩ = some (.int .i64 a3) := (blk_cell BK353.out 2).trans rfl; have hcz79_3 : w78.cell? ⟨gb353, 3, none⟩ = some (.slice Ao77 x354003_3.length co77) := (blk_cell BK353.out 3).trans rfl; have hfz79_0 := blk_frozen BK353.out 0; have hfz79_1 := blk_frozen BK353.out 1; have hfz79_2 := blk_frozen BK353.out 2; have hfz79_3 := blk_frozen BK353.out 3) | (go_at_call 12; (with_reducible refine (gram_Text.calls _ _ x354000_2 (⟨#[]⟩ : ByteArray) a3 _ _ x354003_3 t362 _ (Tab.move htab (by repeat (first | (with_reducible first | exact HB.out | apply below_alloc | apply pw_below_drewN | apply below_drew1) | exact HB.out))) ?side1 ?side2 ?side3 ?side4 A67.out).mono ?_); (case side1 => repeat (first | exact (Kd.R_reads' HO_354000.out).2.2 | (with_reducible refine Kd.C_alloc ?_ _) | (with_reducible refine Kd.C_drewN ?_ _) | (with_reducible refine Kd.C_drew ?_))); (case side2 => exact (Kd.R_reads' HO_354000.out).2.1); (case side3 => repeat (first | exact (Kd.S_reads' HO_354003.out).2.2 | (with_reducible refine Kd.C_alloc ?_ _) | (with_reducible refine Kd.C_drewN ?_ _) | (with_reducible refine Kd.C_drew ?_))); (case side4 => exact (Kd.S_reads' HO_354003.out).2.1); rintro e w80 ⟨rfl, hb⟩; have n0_ := Aside0.mk (Kd.R_below (by (with_reducible repeat (first | apply Kd.R_alloc | apply Kd.R_drewN | apply Kd.R_drew)); exact HO_354000.out) hb); have n1_ := Aside0.mk (Kd.S_below (by (with_reducible repeat (first | apply Kd.S_alloc | apply Kd.S_drewN | apply Kd.S_drew)); exact HO_354003.out) hb); have n2_ := Aside0.mk (blk_below (g := gb353) (o := .cells #[.slice Ao76 x354000_2.length co76, .string (⟨#[]⟩ : ByteArray), .int .i64 a3, .slice Ao77 x354003_3.length co77] 25 (0, 0)) (by (with_reducible repeat (first | refine blk_drewN ?_ _ | refine blk_drew ?_ | refine blk_alloc ?_ _)); exact BK353.out) hb); have n3_ := Aside0.mk (below_step (by repeat (first | (with_reducible first | exact HB.out | apply below_alloc | apply pw_below_drewN | apply below_drew1 | refine below_set ?_ GE353.out) | exact HB.out)) hb); clear HO_354000; clear HO_354003; clear BK353; clear HB; have HO_354000 := n0_; have HO_354003 := n1_; have BK353 := n2_; have HB := n3_; clear n0_ n1_ n2_ n3_; (try clear hb); (try clear hb2); (try clear hk); (try clear hi)))
                                    go_ret
                                    exact ⟨by first | rfl | exact congrArg (fun b => Ending.returned (Value.bool b)) (isE_ _) | (simp [errW_none, errW_some] <;> rfl) | (simp [*, errW_none, errW_some] <;> rfl), by repeat (first | (with_reducible first | exact HB.out | apply below_alloc | apply pw_below_drewN | apply below_drew1 | refine below_set ?_ GE353.out) | exact HB.out)⟩
                            · rw [if_neg c48] at H
                              have c48b0 : decide (0 ≤ a3) = false := decide_eq_false c48
                              clear c48
                              replace H := Option.bind_eq_some_iff.mp H
                              obtain ⟨t363, A810, H⟩ := H
                              replace H : (if t363 = true then (some false) else ((gram_Text.f x354000_2 (⟨#[]⟩ : ByteArray) a3 x354003_3).bind fun t364 => (some (!(t364.toList != ([] : List UInt8)))))) = some r := H
                              have A81 := Aside0.mk A810
                              clear A810
                              by_cases c82 : t363 = true
                              · subst c82
                                have H1 : (some false) = some r := by rw [if_pos rfl] at H; exact H
                                clear H
                                have H := H1
                                clear H1
                                exact absurd ((Option.some.inj H).trans hr_.out) (by decide)
                              · replace c82 := Bool.eq_false_iff.mpr c82
                                subst c82
                                have H1 : ((gram_Text.f x354000_2 (⟨#[]⟩ : ByteArray) a3 x354003_3).bind fun t364 => (some (!(t364.toList != ([] : List UInt8))))) = some r := by rw [if_neg (show ¬ (false = true) by decide)] at H; exact H
                                clear H
                                have H := H1
                                clear H1
                                replace H := Option.bind_eq_some_iff.mp H
                                obtain ⟨t364, A830, H⟩ := H
                                replace H : (some (!(t364.toList != ([] : List UInt8)))) = some r := H
                                have A83 := Aside0.mk A830
                                clear A830
                                obtain rfl := Option.some.inj H
                                have hcz84_0 : wr.cell? ⟨gb353, 0, none⟩ = some (u354000) := (blk_cell BK353.out 0).trans rfl
                                have hcz84_1 : wr.cell? ⟨gb353, 1, none⟩ = some (.string (⟨#[]⟩ : ByteArray)) := (blk_cell BK353.out 1).trans rfl
                                have hcz84_2 : wr.cell? ⟨gb353, 2, none⟩ = some (.int .i64 a3) := (blk_cell BK353.out 2).trans rfl
                                have hcz84_3 : wr.cell? ⟨gb353, 3, none⟩ = some (u354003) := (blk_cell BK353.out 3).trans rfl
                                have hfz84_0 := blk_frozen BK353.out 0
                                have hfz84_1 := blk_frozen BK353.out 1
                                have hfz84_2 := blk_frozen BK353.out 2
                                have hfz84_3 := blk_frozen BK353.out 3
                                obtain ⟨Ao85, co85, eo85⟩ := Kd.R_slice HO_354000.out
                                subst eo85
                                obtain ⟨Ao86, co86, eo86⟩ := Kd.S_slice HO_354003.out
                                subst eo86
                                go_wp2_with (first | ((with_reducible refine gate_callee (f := 10) rfl ?_); refine goesL_ (some 109) rfl rfl Tryd.func10 (by kernel_rfl) rfl #[.agg #[.slice Ao85 x354000_2.length co85, .string (⟨#[]⟩ : ByteArray), .int .i64 a3, .slice Ao86 x354003_3.length co86]] rfl (by (try simp only [List.map_toArray, List.map_cons, List.map_nil]); first | done | rfl | (simp only [List.length_drop, List.length_take]; rfl)) ?_; (with_reducible refine (gram_May.calls _ _ x354000_2 (⟨#[]⟩ : ByteArray) a3 _ _ x354003_3 false _ ?side1 ?side2 ?side3 ?side4 A81.out).mono ?_); (case side1 => repeat (first | exact (Kd.R_reads' HO_354000.out).2.2 | (with_reducible refine Kd.C_alloc ?_ _) | (with_reducible refine Kd.C_drewN ?_ _) | (with_reducible refine Kd.C_drew ?_))); (case side2 => exact (Kd.R_reads' HO_354000.out).2.1); (case side3 => repeat (first | exact (Kd.S_reads' HO_354003.out).2.2 | (with_reducible refine Kd.C_alloc ?_ _) | (with_reducible refine Kd.C_drewN ?_ _) | (with_reducible refine Kd.C_drew ?_))); (case side4 => exact (Kd.S_reads' HO_354003.out).2.1); rintro e w87 ⟨rfl, hb⟩; refine ⟨_, rfl, ?_⟩; have n0_ := Aside0.mk (Kd.R_below (by (with_reducible repeat (first | apply Kd.R_alloc | apply Kd.R_drewN | apply Kd.R_drew)); exact HO_354000.out) hb); have n1_ := Aside0.mk (Kd.S_below (by (with_reducible repeat (first | apply Kd.S_alloc | apply Kd.S_drewN | apply Kd.S_drew)); exact HO_354003.out) hb); have n2_ := Aside0.mk (blk_below (g := gb353) (o := .cells #[.slice Ao85 x354000_2.length co85, .string (⟨#[]⟩ : ByteArray), .int .i64 a3, .slice Ao86 x354003_3.length co86] 25 (0, 0)) (by (with_reducible repeat (first | refine blk_drewN ?_ _ | refine blk_drew ?_ | refine blk_alloc ?_ _)); exact BK353.out) hb); have n3_ := Aside0.mk (below_step (by repeat (first | (with_reducible first | exact HB.out | apply below_alloc | apply pw_below_drewN | apply below_drew1 | refine below_set ?_ GE353.out) | exact HB.out)) hb); clear HO_354000; clear HO_354003; clear BK353; clear HB; have HO_354000 := n0_; have HO_354003 := n1_; have BK353 := n2_; have HB := n3_; clear n0_ n1_ n2_ n3_; (try clear hb); (try clear hb2); (try clear hk); (try clear hi); have hcz88_0 : w87.cell? ⟨gb353, 0, none⟩ = some (.slice Ao85 x354000_2.length co85) := (blk_cell BK353.out 0).trans rfl; have hcz88_1 : w87.cell? ⟨gb353, 1, none⟩ = some (.string (⟨#[]⟩ : ByteArray)) := (blk_cell BK353.out 1).trans rfl; have hcz88_2 : w87.cell? ⟨gb353, 2, none⟩ = some (.int .i64 a3) := (blk_cell BK353.out 2).trans rfl; have hcz88_3 : w87.cell? ⟨gb353, 3, none⟩ = some (.slice Ao86 x354003_3.length co86) := (blk_cell BK353.out 3).trans rfl; have hfz88_0 := blk_frozen BK353.out 0; have hfz88_1 := blk_frozen BK353.out 1; have hfz88_2 := blk_frozen BK353.out 2; have hfz88_3 := blk_frozen BK353.out 3) | (go_at_call 12; (with_reducible refine (gram_Text.calls _ _ x354000_2 (⟨#[]⟩ : ByteArray) a3 _ _ x354003_3 t364 _ (Tab.move htab (by repeat (first | (with_reducible first | exact HB.out | apply below_alloc | apply pw_below_drewN | apply below_drew1) | exact HB.out))) ?side1 ?side2 ?side3 ?side4 A83.out).mono ?_); (case side1 => repeat (first | exact (Kd.R_reads' HO_354000.out).2.2 | (with_reducible refine Kd.C_alloc ?_ _) | (with_reducible refine Kd.C_drewN ?_ _) | (with_reducible refine Kd.C_drew ?_))); (case side2 => exact (Kd.R_reads' HO_354000.out).2.1); (case side3 => repeat (first | exact (Kd.S_reads' HO_354003.out).2.2 | (with_reducible refine Kd.C_alloc ?_ _) | (with_reducible refine Kd.C_drewN ?_ _) | (with_reducible refine Kd.C_drew ?_))); (case side4 => exact (Kd.S_reads' HO_354003.out).2.1); rintro e w89 ⟨rfl, hb⟩; have n0_ := Aside0.mk (Kd.R_below (by (with_reducible repeat (first | apply Kd.R_alloc | apply Kd.R_drewN | apply Kd.R_drew)); exact HO_354000.out) hb); have n1_ := Aside0.mk (Kd.S_below (by (with_reducible repeat (first | apply Kd.S_alloc | apply Kd.S_drewN | apply Kd.S_drew)); exact HO_354003.out) hb); have n2_ := Aside0.mk (blk_below (g := gb353) (o := .cells #[.slice Ao85 x354000_2.length co85, .string (⟨#[]⟩ : ByteArray), .int .i64 a3, .slice Ao86 x354003_3.length co86] 25 (0, 0)) (by (with_reducible repeat (first | refine blk_drewN ?_ _ | refine blk_drew ?_ | refine blk_alloc ?_ _)); exact BK353.out) hb); have n3_ := Aside0.mk (below_step (by repeat (first | (with_reducible first | exact HB.out | apply below_alloc | apply pw_below_drewN | apply below_drew1 | refine below_set ?_ GE353.out) | exact HB.out)) hb); clear HO_354000; clear HO_354003; clear BK353; clear HB; have HO_354000 := n0_; have HO_354003 := n1_; have BK353 := n2_; have HB := n3_; clear n0_ n1_ n2_ n3_; (try clear hb); (try clear hb2); (try clear hk); (try clear hi)))
                                go_ret
                                exact ⟨by first | rfl | exact congrArg (fun b => Ending.returned (Value.bool b)) (isE_ _) | (simp [errW_none, errW_some] <;> rfl) | (simp [*, errW_none, errW_some] <;> rfl), by repeat (first | (with_reducible first | exact HB.out | apply below_alloc | apply pw_below_drewN | apply below_drew1 | refine below_set ?_ GE353.out) | exact HB.out)⟩
                          · rw [if_neg c47] at H
                            have c47b0 : decide (a2 ≤ 20) = false := decide_eq_false c47
                            clear c47
                            by_cases c90 : a1 = 0
                            · rw [if_pos c90] at H
                              have c90b0 : (a1 == 0) = true := beq_iff_eq.mpr c90
                              have c90b1 : (a1 != 0) = false := bne_eq_false_iff_eq.mpr c90
                              clear c90
                              by_cases c91 : a3 ≥ 0
                              · rw [if_pos c91] at H
                                have c91b0 : decide (0 ≤ a3) = true := decide_eq_true c91
                                clear c91
                                replace H := Option.bind_eq_some_iff.mp H
                                obtain ⟨t365, A920, H⟩ := H
                                replace H : (if t365 = true then (if a3 ≤ 9999 then ((gram_Text.f x354000_2 (⟨#[]⟩ : ByteArray) a3 x354003_3).bind fun t366 => (if t366.toList = ([] : List UInt8) then (some (!(decide (a3 ≤ 9999)))) else (some (decide (a3 ≤ 9999))))) else (some false)) else (if a3 ≤ 9999 then (some false) else ((gram_Text.f x354000_2 (⟨#[]⟩ : ByteArray) a3 x354003_3).bind fun t367 => (if t367.toList = ([] : List UInt8) then (some (!(decide (a3 ≤ 9999)))) else (some (decide (a3 ≤ 9999))))))) = some r := H
                                have A92 := Aside0.mk A920
                                clear A920
                                by_cases c93 : t365 = true
                                · subst c93
                                  have H1 : (if a3 ≤ 9999 then ((gram_Text.f x354000_2 (⟨#[]⟩ : ByteArray) a3 x354003_3).bind fun t366 => (if t366.toList = ([] : List UInt8) then (some (!(decide (a3 ≤ 9999)))) else (some (decide (a3 ≤ 9999))))) else (some false)) = some r := by rw [if_pos rfl] at H; exact H
                                  clear H
                                  have H := H1
                                  clear H1
                                  by_cases c94 : a3 ≤ 9999
                                  · rw [if_pos c94] at H
                                    have c94b0 : decide (a3 ≤ 9999) = true := decide_eq_true c94
                                    clear c94
                                    replace H := Option.bind_eq_some_iff.mp H
                                    obtain ⟨t366, A950, H⟩ := H
                                    replace H : (if t366.toList = ([] : List UInt8) then (some (!(decide (a3 ≤ 9999)))) else (some (decide (a3 ≤ 9999)))) = some r := H
                                    have A95 := Aside0.mk A950
                                    clear A950
                                    by_cases c96 : t366.toList = ([] : List UInt8)
                                    · rw [if_pos c96] at H
                                      have c96b0 : (t366.toList == ([] : List UInt8)) = true := beq_iff_eq.mpr c96
                                      have c96b1 : (t366.toList != ([] : List UInt8)) = false := bne_eq_false_iff_eq.mpr c96
                                      clear c96
                                      obtain rfl := Option.some.inj H
                                      have hcz97_0 : wr.cell? ⟨gb353, 0, none⟩ = some (u354000) := (blk_cell BK353.out 0).trans rfl
                                      have hcz97_1 : wr.cell? ⟨gb353, 1, none⟩ = some (.string (⟨#[]⟩ : ByteArray)) := (blk_cell BK353.out 1).trans rfl
                                      have hcz97_2 : wr.cell? ⟨gb353, 2, none⟩ = some (.int .i64 a3) := (blk_cell BK353.out 2).trans rfl
                                      have hcz97_3 : wr.cell? ⟨gb353, 3, none⟩ = some (u354003) := (blk_cell BK353.out 3).trans rfl
                                      have hfz97_0 := blk_frozen BK353.out 0
                                      have hfz97_1 := blk_frozen BK353.out 1
                                      have hfz97_2 := blk_frozen BK353.out 2
                                      have hfz97_3 := blk_frozen BK353.out 3
                                      obtain ⟨Ao98, co98, eo98⟩ := Kd.R_slice HO_354000.out
                                      subst eo98
                                      obtain ⟨Ao99, co99, eo99⟩ := Kd.S_slice HO_354003.out
                                      subst eo99
                                      go_wp2_with (first | ((with_reducible refine gate_callee (f := 10) rfl ?_); refine goesL_ (some 109) rfl rfl Tryd.func10 (by kernel_rfl) rfl #[.agg #[.slice Ao98 x354000_2.length co98, .string (⟨#[]⟩ : ByteArray), .int .i64 a3, .slice Ao99 x354003_3.length co99]] rfl (by (try simp only [List.map_toArray, List.map_cons, List.map_nil]); first | done | rfl | (simp only [List.length_drop, List.length_take]; rfl)) ?_; (with_reducible refine (gram_May.calls _ _ x354000_2 (⟨#[]⟩ : ByteArray) a3 _ _ x354003_3 true _ ?side1 ?side2 ?side3 ?side4 A92.out).mono ?_); (case side1 => repeat (first | exact (Kd.R_reads' HO_354000.out).2.2 | (with_reducible refine Kd.C_alloc ?_ _) | (with_reducible refine Kd.C_drewN ?_ _) | (with_reducible refine Kd.C_drew ?_))); (case side2 => exact (Kd.R_reads' HO_354000.out).2.1); (case side3 => repeat (first | exact (Kd.S_reads' HO_354003.out).2.2 | (with_reducible refine Kd.C_alloc ?_ _) | (with_reducible refine Kd.C_drewN ?_ _) | (with_reducible refine Kd.C_drew ?_))); (case side4 => exact (Kd.S_reads' HO_354003.out).2.1); rintro e w100 ⟨rfl, hb⟩; refine ⟨_, rfl, ?_⟩; have n0_ := Aside0.mk (Kd.R_below (by (with_reducible repeat (first | apply Kd.R_alloc | apply Kd.R_drewN | apply Kd.R_drew)); exact HO_354000.out) hb); have n1_ := Aside0.mk (Kd.S_below (by (with_reducible repeat (first | apply Kd.S_alloc | apply Kd.S_drewN | apply Kd.S_drew)); exact HO_354003.out) hb); have n2_ := Aside0.mk (blk_below (g := gb353) (o := .cells #[.slice Ao98 x354000_2.length co98, .string (⟨#[]⟩ : ByteArray), .int .i64 a3, .slice Ao99 x354003_3.length co99] 25 (0, 0)) (by (with_reducible repeat (first | refine blk_drewN ?_ _ | refine blk_drew ?_ | refine blk_alloc ?_ _)); exact BK353.out) hb); have n3_ := Aside0.mk (below_step (by repeat (first | (with_reducible first | exact HB.out | apply below_alloc | apply pw_below_drewN | apply below_drew1 | refine below_set ?_ GE353.out) | exact HB.out)) hb); clear HO_354000; clear HO_354003; clear BK353; clear HB; have HO_354000 := n0_; have HO_354003 := n1_; have BK353 := n2_; have HB := n3_; clear n0_ n1_ n2_ n3_; (try clear hb); (try clear hb2); (try clear hk); (try clear hi); have hcz101_0 : w100.cell? ⟨gb353, 0, none⟩ = some (.slice Ao98 x354000_2.length co98) := (blk_cell BK353.out 0).trans rfl; have hcz101_1 : w100.cell? ⟨gb353, 1, none⟩ = some (.string (⟨#[]⟩ : ByteArray)) := (blk_cell BK353.out 1).trans rfl; have hcz101_2 : w100.cell? ⟨gb353, 2, none⟩ = some (.int .i64 a3) := (blk_cell BK353.out 2).trans rfl; have hcz101_3 : w100.cell? ⟨gb353, 3, none⟩ = some (.slice Ao99 x354003_3.length co99) := (blk_cell BK353.out 3).trans rfl; have hfz101_0 := blk_frozen BK353.out 0; have hfz101_1 := blk_frozen BK353.out 1; have hfz101_2 := blk_frozen BK353.out 2; have hfz101_3 := blk_frozen BK353.out 3) | (go_at_call 12; (with_reducible refine (gram_Text.calls _ _ x354000_2 (⟨#[]⟩ : ByteArray) a3 _ _ x354003_3 t366 _ (Tab.move htab (by repeat (first | (with_reducible first | exact HB.out | apply below_alloc | apply pw_below_drewN | apply below_drew1) | exact HB.out))) ?side1 ?side2 ?side3 ?side4 A95.out).mono ?_); (case side1 => repeat (first | exact (Kd.R_reads' HO_354000.out).2.2 | (with_reducible refine Kd.C_alloc ?_ _) | (with_reducible refine Kd.C_drewN ?_ _) | (with_reducible refine Kd.C_drew ?_))); (case side2 => exact (Kd.R_reads' HO_354000.out).2.1); (case side3 => repeat (first | exact (Kd.S_reads' HO_354003.out).2.2 | (with_reducible refine Kd.C_alloc ?_ _) | (with_reducible refine Kd.C_drewN ?_ _) | (with_reducible refine Kd.C_drew ?_))); (case side4 => exact (Kd.S_reads' HO_354003.out).2.1); rintro e w102 ⟨rfl, hb⟩; have n0_ := Aside0.mk (Kd.R_below (by (with_reducible repeat (first | apply Kd.R_alloc | apply Kd.R_drewN | apply Kd.R_drew)); exact HO_354000.out) hb); have n1_ := Aside0.mk (Kd.S_below (by (with_reducible repeat (first | apply Kd.S_alloc | apply Kd.S_drewN | apply Kd.S_drew)); exact HO_354003.out) hb); have n2_ := Aside0.mk (blk_below (g := gb353) (o := .cells #[.slice Ao98 x354000_2.length co98, .string (⟨#[]⟩ : ByteArray), .int .i64 a3, .slice Ao99 x354003_3.length co99] 25 (0, 0)) (by (with_reducible repeat (first | refine blk_drewN ?_ _ | refine blk_drew ?_ | refine blk_alloc ?_ _)); exact BK353.out) hb); have n3_ := Aside0.mk (below_step (by repeat (first | (with_reducible first | exact HB.out | apply below_alloc | apply pw_below_drewN | apply below_drew1 | refine below_set ?_ GE353.out) | exact HB.out)) hb); clear HO_354000; clear HO_354003; clear BK353; clear HB; have HO_354000 := n0_; have HO_354003 := n1_; have BK353 := n2_; have HB := n3_; clear n0_ n1_ n2_ n3_; (try clear hb); (try clear hb2); (try clear hk); (try clear hi)))
                                      go_ret
                                      exact ⟨by first | rfl | exact congrArg (fun b => Ending.returned (Value.bool b)) (isE_ _) | (simp [errW_none, errW_some] <;> rfl) | (simp [*, errW_none, errW_some] <;> rfl), by repeat (first | (with_reducible first | exact HB.out | apply below_alloc | apply pw_below_drewN | apply below_drew1 | refine below_set ?_ GE353.out) | exact HB.out)⟩
                                    · rw [if_neg c96] at H
                                      have c96b0 : (t366.toList == ([] : List UInt8)) = false := beq_eq_false_iff_ne.mpr c96
                                      have c96b1 : (t366.toList != ([] : List UInt8)) = true := bne_iff_ne.mpr c96
                                      obtain rfl := Option.some.inj H
                                      have hcz103_0 : wr.cell? ⟨gb353, 0, none⟩ = some (u354000) := (blk_cell BK353.out 0).trans rfl
                                      have hcz103_1 : wr.cell? ⟨gb353, 1, none⟩ = some (.string (⟨#[]⟩ : ByteArray)) := (blk_cell BK353.out 1).trans rfl
                                      have hcz103_2 : wr.cell? ⟨gb353, 2, none⟩ = some (.int .i64 a3) := (blk_cell BK353.out 2).trans rfl
                                      have hcz103_3 : wr.cell? ⟨gb353, 3, none⟩ = some (u354003) := (blk_cell BK353.out 3).trans rfl
                                      have hfz103_0 := blk_frozen BK353.out 0
                                      have hfz103_1 := blk_frozen BK353.out 1
                                      have hfz103_2 := blk_frozen BK353.out 2
                                      have hfz103_3 := blk_frozen BK353.out 3
                                      obtain ⟨Ao104, co104, eo104⟩ := Kd.R_slice HO_354000.out
                                      subst eo104
                                      obtain ⟨Ao105, co105, eo105⟩ := Kd.S_slice HO_354003.out
                                      subst eo105
                                      go_wp2_with (first | ((with_reducible refine gate_callee (f := 10) rfl ?_); refine goesL_ (some 109) rfl rfl Tryd.func10 (by kernel_rfl) rfl #[.agg #[.slice Ao104 x354000_2.length co104, .string (⟨#[]⟩ : ByteArray), .int .i64 a3, .slice Ao105 x354003_3.length co105]] rfl (by (try simp only [List.map_toArray, List.map_cons, List.map_nil]); first | done | rfl | (simp only [List.length_drop, List.length_take]; rfl)) ?_; (with_reducible refine (gram_May.calls _ _ x354000_2 (⟨#[]⟩ : ByteArray) a3 _ _ x354003_3 true _ ?side1 ?side2 ?side3 ?side4 A92.out).mono ?_); (case side1 => repeat (first | exact (Kd.R_reads' HO_354000.out).2.2 | (with_reducible refine Kd.C_alloc ?_ _) | (with_reducible refine Kd.C_drewN ?_ _) | (with_reducible refine Kd.C_drew ?_))); (case side2 => exact (Kd.R_reads' HO_354000.out).2.1); (case side3 => repeat (first | exact (Kd.S_reads' HO_354003.out).2.2 | (with_reducible refine Kd.C_alloc ?_ _) | (with_reducible refine Kd.C_drewN ?_ _) | (with_reducible refine Kd.C_drew ?_))); (case side4 => exact (Kd.S_reads' HO_354003.out).2.1); rintro e w106 ⟨rfl, hb⟩; refine ⟨_, rfl, ?_⟩; have n0_ := Aside0.mk (Kd.R_below (by (with_reducible repeat (first | apply Kd.R_alloc | apply Kd.R_drewN | apply Kd.R_drew)); exact HO_354000.out) hb); have n1_ := Aside0.mk (Kd.S_below (by (with_reducible repeat (first | apply Kd.S_alloc | apply Kd.S_drewN | apply Kd.S_drew)); exact HO_354003.out) hb); have n2_ := Aside0.mk (blk_below (g := gb353) (o := .cells #[.slice Ao104 x354000_2.length co104, .string (⟨#[]⟩ : ByteArray), .int .i64 a3, .slice Ao105 x354003_3.length co105] 25 (0, 0)) (by (with_reducible repeat (first | refine blk_drewN ?_ _ | refine blk_drew ?_ | refine blk_alloc ?_ _)); exact BK353.out) hb); have n3_ := Aside0.mk (below_step (by repeat (first | (with_reducible first | exact HB.out | apply below_alloc | apply pw_below_drewN | apply below_drew1 | refine below_set ?_ GE353.out) | exact HB.out)) hb); clear HO_354000; clear HO_354003; clear BK353; clear HB; have HO_354000 := n0_; have HO_354003 := n1_; have BK353 := n2_; have HB := n3_; clear n0_ n1_ n2_ n3_; (try clear hb); (try clear hb2); (try clear hk); (try clear hi); have hcz107_0 : w106.cell? ⟨gb353, 0, none⟩ = some (.slice Ao104 x354000_2.length co104) := (blk_cell BK353.out 0).trans rfl; have hcz107_1 : w106.cell? ⟨gb353, 1, none⟩ = some (.string (⟨#[]⟩ : ByteArray)) := (blk_cell BK353.out 1).trans rfl; have hcz107_2 : w106.cell? ⟨gb353, 2, none⟩ = some (.int .i64 a3) := (blk_cell BK353.out 2).trans rfl; have hcz107_3 : w106.cell? ⟨gb353, 3, none⟩ = some (.slice Ao105 x354003_3.length co105) := (blk_cell BK353.out 3).trans rfl; have hfz107_0 := blk_frozen BK353.out 0; have hfz107_1 := blk_frozen BK353.out 1; have hfz107_2 := blk_frozen BK353.out 2; have hfz107_3 := blk_frozen BK353.out 3) | (go_at_call 12; (with_reducible refine (gram_Text.calls _ _ x354000_2 (⟨#[]⟩ : ByteArray) a3 _ _ x354003_3 t366 _ (Tab.move htab (by repeat (first | (with_reducible first | exact HB.out | apply below_alloc | apply pw_below_drewN | apply below_drew1) | exact HB.out))) ?side1 ?side2 ?side3 ?side4 A95.out).mono ?_); (case side1 => repeat (first | exact (Kd.R_reads' HO_354000.out).2.2 | (with_reducible refine Kd.C_alloc ?_ _) | (with_reducible refine Kd.C_drewN ?_ _) | (with_reducible refine Kd.C_drew ?_))); (case side2 => exact (Kd.R_reads' HO_354000.out).2.1); (case side3 => repeat (first | exact (Kd.S_reads' HO_354003.out).2.2 | (with_reducible refine Kd.C_alloc ?_ _) | (with_reducible refine Kd.C_drewN ?_ _) | (with_reducible refine Kd.C_drew ?_))); (case side4 => exact (Kd.S_reads' HO_354003.out).2.1); rintro e w108 ⟨rfl, hb⟩; have n0_ := Aside0.mk (Kd.R_below (by (with_reducible repeat (first | apply Kd.R_alloc | apply Kd.R_drewN | apply Kd.R_drew)); exact HO_354000.out) hb); have n1_ := Aside0.mk (Kd.S_below (by (with_reducible repeat (first | apply Kd.S_alloc | apply Kd.S_drewN | apply Kd.S_drew)); exact HO_354003.out) hb); have n2_ := Aside0.mk (blk_below (g := gb353) (o := .cells #[.slice Ao104 x354000_2.length co104, .string (⟨#[]⟩ : ByteArray), .int .i64 a3, .slice Ao105 x354003_3.length co105] 25 (0, 0)) (by (with_reducible repeat (first | refine blk_drewN ?_ _ | refine blk_drew ?_ | refine blk_alloc ?_ _)); exact BK353.out) hb); have n3_ := Aside0.mk (below_step (by repeat (first | (with_reducible first | exact HB.out | apply below_alloc | apply pw_below_drewN | apply below_drew1 | refine below_set ?_ GE353.out) | exact HB.out)) hb); clear HO_354000; clear HO_354003; clear BK353; clear HB; have HO_354000 := n0_; have HO_354003 := n1_; have BK353 := n2_; have HB := n3_; clear n0_ n1_ n2_ n3_; (try clear hb); (try clear hb2); (try clear hk); (try clear hi)))
                                      go_ret
                                      exact ⟨by first | rfl | exact congrArg (fun b => Ending.returned (Value.bool b)) (isE_ _) | (simp [errW_none, errW_some] <;> rfl) | (simp [*, errW_none, errW_some] <;> rfl), by repeat (first | (with_reducible first | exact HB.out | apply below_alloc | apply pw_below_drewN | apply below_drew1 | refine below_set ?_ GE353.out) | exact HB.out)⟩
                                  · rw [if_neg c94] at H
                                    have c94b0 : decide (a3 ≤ 9999) = false := decide_eq_false c94
                                    clear c94
                                    exact absurd ((Option.some.inj H).trans hr_.out) (by decide)
                                · replace c93 := Bool.eq_false_iff.mpr c93
                                  subst c93
                                  have H1 : (if a3 ≤ 9999 then (some false) else ((gram_Text.f x354000_2 (⟨#[]⟩ : ByteArray) a3 x354003_3).bind fun t367 => (if t367.toList = ([] : List UInt8) then (some (!(decide (a3 ≤ 9999)))) else (some (decide (a3 ≤ 9999)))))) = some r := by rw [if_neg (show ¬ (false = true) by decide)] at H; exact H
                                  clear H
                                  have H := H1
                                  clear H1
                                  by_cases c109 : a3 ≤ 9999
                                  · rw [if_pos c109] at H
                                    have c109b0 : decide (a3 ≤ 9999) = true := decide_eq_true c109
                                    clear c109
                                    exact absurd ((Option.some.inj H).trans hr_.out) (by decide)
                                  · rw [if_neg c109] at H
                                    have c109b0 : decide (a3 ≤ 9999) = false := decide_eq_false c109
                                    clear c109
                                    replace H := Option.bind_eq_some_iff.mp H
                                    obtain ⟨t367, A1100, H⟩ := H
                                    replace H : (if t367.toList = ([] : List UInt8) then (some (!(decide (a3 ≤ 9999)))) else (some (decide (a3 ≤ 9999)))) = some r := H
                                    have A110 := Aside0.mk A1100
                                    clear A1100
                                    by_cases c111 : t367.toList = ([] : List UInt8)
                                    · rw [if_pos c111] at H
                                      have c111b0 : (t367.toList == ([] : List UInt8)) = true := beq_iff_eq.mpr c111
                                      have c111b1 : (t367.toList != ([] : List UInt8)) = false := bne_eq_false_iff_eq.mpr c111
                                      clear c111
                                      obtain rfl := Option.some.inj H
                                      have hcz112_0 : wr.cell? ⟨gb353, 0, none⟩ = some (u354000) := (blk_cell BK353.out 0).trans rfl
                                      have hcz112_1 : wr.cell? ⟨gb353, 1, none⟩ = some (.string (⟨#[]⟩ : ByteArray)) := (blk_cell BK353.out 1).trans rfl
                                      have hcz112_2 : wr.cell? ⟨gb353, 2, none⟩ = some (.int .i64 a3) := (blk_cell BK353.out 2).trans rfl
                                      have hcz112_3 : wr.cell? ⟨gb353, 3, none⟩ = some (u354003) := (blk_cell BK353.out 3).trans rfl
                                      have hfz112_0 := blk_frozen BK353.out 0
                                      have hfz112_1 := blk_frozen BK353.out 1
                                      have hfz112_2 := blk_frozen BK353.out 2
                                      have hfz112_3 := blk_frozen BK353.out 3
                                      obtain ⟨Ao113, co113, eo113⟩ := Kd.R_slice HO_354000.out
                                      subst eo113
                                      obtain ⟨Ao114, co114, eo114⟩ := Kd.S_slice HO_354003.out
                                      subst eo114
                                      go_wp2_with (first | ((with_reducible refine gate_callee (f := 10) rfl ?_); refine goesL_ (some 109) rfl rfl Tryd.func10 (by kernel_rfl) rfl #[.agg #[.slice Ao113 x354000_2.length co113, .string (⟨#[]⟩ : ByteArray), .int .i64 a3, .slice Ao114 x354003_3.length co114]] rfl (by (try simp only [List.map_toArray, List.map_cons, List.map_nil]); first | done | rfl | (simp only [List.length_drop, List.length_take]; rfl)) ?_; (with_reducible refine (gram_May.calls _ _ x354000_2 (⟨#[]⟩ : ByteArray) a3 _ _ x354003_3 false _ ?side1 ?side2 ?side3 ?side4 A92.out).mono ?_); (case side1 => repeat (first | exact (Kd.R_reads' HO_354000.out).2.2 | (with_reducible refine Kd.C_alloc ?_ _) | (with_reducible refine Kd.C_drewN ?_ _) | (with_reducible refine Kd.C_drew ?_))); (case side2 => exact (Kd.R_reads' HO_354000.out).2.1); (case side3 => repeat (first | exact (Kd.S_reads' HO_354003.out).2.2 | (with_reducible refine Kd.C_alloc ?_ _) | (with_reducible refine Kd.C_drewN ?_ _) | (with_reducible refine Kd.C_drew ?_))); (case side4 => exact (Kd.S_reads' HO_354003.out).2.1); rintro e w115 ⟨rfl, hb⟩; refine ⟨_, rfl, ?_⟩; have n0_ := Aside0.mk (Kd.R_below (by (with_reducible repeat (first | apply Kd.R_alloc | apply Kd.R_drewN | apply Kd.R_drew)); exact HO_354000.out) hb); have n1_ := Aside0.mk (Kd.S_below (by (with_reducible repeat (first | apply Kd.S_alloc | apply Kd.S_drewN | apply Kd.S_drew)); exact HO_354003.out) hb); have n2_ := Aside0.mk (blk_below (g := gb353) (o := .cells #[.slice Ao113 x354000_2.length co113, .string (⟨#[]⟩ : ByteArray), .int .i64 a3, .slice Ao114 x354003_3.length co114] 25 (0, 0)) (by (with_reducible repeat (first | refine blk_drewN ?_ _ | refine blk_drew ?_ | refine blk_alloc ?_ _)); exact BK353.out) hb); have n3_ := Aside0.mk (below_step (by repeat (first | (with_reducible first | exact HB.out | apply below_alloc | apply pw_below_drewN | apply below_drew1 | refine below_set ?_ GE353.out) | exact HB.out)) hb); clear HO_354000; clear HO_354003; clear BK353; clear HB; have HO_354000 := n0_; have HO_354003 := n1_; have BK353 := n2_; have HB := n3_; clear n0_ n1_ n2_ n3_; (try clear hb); (try clear hb2); (try clear hk); (try clear hi); have hcz116_0 : w115.cell? ⟨gb353, 0, none⟩ = some (.slice Ao113 x354000_2.length co113) := (blk_cell BK353.out 0).trans rfl; have hcz116_1 : w115.cell? ⟨gb353, 1, none⟩ = some (.string (⟨#[]⟩ : ByteArray)) := (blk_cell BK353.out 1).trans rfl; have hcz116_2 : w115.cell? ⟨gb353, 2, none⟩ = some (.int .i64 a3) := (blk_cell BK353.out 2).trans rfl; have hcz116_3 : w115.cell? ⟨gb353, 3, none⟩ = some (.slice Ao114 x354003_3.length co114) := (blk_cell BK353.out 3).trans rfl; have hfz116_0 := blk_frozen BK353.out 0; have hfz116_1 := blk_frozen BK353.out 1; have hfz116_2 := blk_frozen BK353.out 2; have hfz116_3 := blk_frozen BK353.out 3) | (go_at_call 12; (with_reducible refine (gram_Text.calls _ _ x354000_2 (⟨#[]⟩ : ByteArray) a3 _ _ x354003_3 t367 _ (Tab.move htab (by repeat (first | (with_reducible first | exact HB.out | apply below_alloc | apply pw_below_drewN | apply below_drew1) | exact HB.out))) ?side1 ?side2 ?side3 ?side4 A110.out).mono ?_); (case side1 => repeat (first | exact (Kd.R_reads' HO_354000.out).2.2 | (with_reducible refine Kd.C_alloc ?_ _) | (with_reducible refine Kd.C_drewN ?_ _) | (with_reducible refine Kd.C_drew ?_))); (case side2 => exact (Kd.R_reads' HO_354000.out).2.1); (case side3 => repeat (first | exact (Kd.S_reads' HO_354003.out).2.2 | (with_reducible refine Kd.C_alloc ?_ _) | (with_reducible refine Kd.C_drewN ?_ _) | (with_reducible refine Kd.C_drew ?_))); (case side4 => exact (Kd.S_reads' HO_354003.out).2.1); rintro e w117 ⟨rfl, hb⟩; have n0_ := Aside0.mk (Kd.R_below (by (with_reducible repeat (first | apply Kd.R_alloc | apply Kd.R_drewN | apply Kd.R_drew)); exact HO_354000.out) hb); have n1_ := Aside0.mk (Kd.S_below (by (with_reducible repeat (first | apply Kd.S_alloc | apply Kd.S_drewN | apply Kd.S_drew)); exact HO_354003.out) hb); have n2_ := Aside0.mk (blk_below (g := gb353) (o := .cells #[.slice Ao113 x354000_2.length co113, .string (⟨#[]⟩ : ByteArray), .int .i64 a3, .slice Ao114 x354003_3.length co114] 25 (0, 0)) (by (with_reducible repeat (first | refine blk_drewN ?_ _ | refine blk_drew ?_ | refine blk_alloc ?_ _)); exact BK353.out) hb); have n3_ := Aside0.mk (below_step (by repeat (first | (with_reducible first | exact HB.out | apply below_alloc | apply pw_below_drewN | apply below_drew1 | refine below_set ?_ GE353.out) | exact HB.out)) hb); clear HO_354000; clear HO_354003; clear BK353; clear HB; have HO_354000 := n0_; have HO_354003 := n1_; have BK353 := n2_; have HB := n3_; clear n0_ n1_ n2_ n3_; (try clear hb); (try clear hb2); (try clear hk); (try clear hi)))
                                      go_ret
                                      exact ⟨by first | rfl | exact congrArg (fun b => Ending.returned (Value.bool b)) (isE_ _) | (simp [errW_none, errW_some] <;> rfl) | (simp [*, errW_none, errW_some] <;> rfl), by repeat (first | (with_reducible first | exact HB.out | apply below_alloc | apply pw_below_drewN | apply below_drew1 | refine below_set ?_ GE353.out) | exact HB.out)⟩
                                    · rw [if_neg c111] at H
                                      have c111b0 : (t367.toList == ([] : List UInt8)) = false := beq_eq_false_iff_ne.mpr c111
                                      have c111b1 : (t367.toList != ([] : List UInt8)) = true := bne_iff_ne.mpr c111
                                      obtain rfl := Option.some.inj H
                                      have hcz118_0 : wr.cell? ⟨gb353, 0, none⟩ = some (u354000) := (blk_cell BK353.out 0).trans rfl
                                      have hcz118_1 : wr.cell? ⟨gb353, 1, none⟩ = some (.string (⟨#[]⟩ : ByteArray)) := (blk_cell BK353.out 1).trans rfl
                                      have hcz118_2 : wr.cell? ⟨gb353, 2, none⟩ = some (.int .i64 a3) := (blk_cell BK353.out 2).trans rfl
                                      have hcz118_3 : wr.cell? ⟨gb353, 3, none⟩ = some (u354003) := (blk_cell BK353.out 3).trans rfl
                                      have hfz118_0 := blk_frozen BK353.out 0
                                      have hfz118_1 := blk_frozen BK353.out 1
                                      have hfz118_2 := blk_frozen BK353.out 2
                                      have hfz118_3 := blk_frozen BK353.out 3
                                      obtain ⟨Ao119, co119, eo119⟩ := Kd.R_slice HO_354000.out
                                      subst eo119
                                      obtain ⟨Ao120, co120, eo120⟩ := Kd.S_slice HO_354003.out
                                      subst eo120
                                      go_wp2_with (first | ((with_reducible refine gate_callee (f := 10) rfl ?_); refine goesL_ (some 109) rfl rfl Tryd.func10 (by kernel_rfl) rfl #[.agg #[.slice Ao119 x354000_2.length co119, .string (⟨#[]⟩ : ByteArray), .int .i64 a3, .slice Ao120 x354003_3.length co120]] rfl (by (try simp only [List.map_toArray, List.map_cons, List.map_nil]); first | done | rfl | (simp only [List.length_drop, List.length_take]; rfl)) ?_; (with_reducible refine (gram_May.calls _ _ x354000_2 (⟨#[]⟩ : ByteArray) a3 _ _ x354003_3 false _ ?side1 ?side2 ?side3 ?side4 A92.out).mono ?_); (case side1 => repeat (first | exact (Kd.R_reads' HO_354000.out).2.2 | (with_reducible refine Kd.C_alloc ?_ _) | (with_reducible refine Kd.C_drewN ?_ _) | (with_reducible refine Kd.C_drew ?_))); (case side2 => exact (Kd.R_reads' HO_354000.out).2.1); (case side3 => repeat (first | exact (Kd.S_reads' HO_354003.out).2.2 | (with_reducible refine Kd.C_alloc ?_ _) | (with_reducible refine Kd.C_drewN ?_ _) | (with_reducible refine Kd.C_drew ?_))); (case side4 => exact (Kd.S_reads' HO_354003.out).2.1); rintro e w121 ⟨rfl, hb⟩; refine ⟨_, rfl, ?_⟩; have n0_ := Aside0.mk (Kd.R_below (by (with_reducible repeat (first | apply Kd.R_alloc | apply Kd.R_drewN | apply Kd.R_drew)); exact HO_354000.out) hb); have n1_ := Aside0.mk (Kd.S_below (by (with_reducible repeat (first | apply Kd.S_alloc | apply Kd.S_drewN | apply Kd.S_drew)); exact HO_354003.out) hb); have n2_ := Aside0.mk (blk_below (g := gb353) (o := .cells #[.slice Ao119 x354000_2.length co119, .string (⟨#[]⟩ : ByteArray), .int .i64 a3, .slice Ao120 x354003_3.length co120] 25 (0, 0)) (by (with_reducible repeat (first | refine blk_drewN ?_ _ | refine blk_drew ?_ | refine blk_alloc ?_ _)); exact BK353.out) hb); have n3_ := Aside0.mk (below_step (by repeat (first | (with_reducible first | exact HB.out | apply below_alloc | apply pw_below_drewN | apply below_drew1 | refine below_set ?_ GE353.out) | exact HB.out)) hb); clear HO_354000; clear HO_354003; clear BK353; clear HB; have HO_354000 := n0_; have HO_354003 := n1_; have BK353 := n2_; have HB := n3_; clear n0_ n1_ n2_ n3_; (try clear hb); (try clear hb2); (try clear hk); (try clear hi); have hcz122_0 : w121.cell? ⟨gb353, 0, none⟩ = some (.slice Ao119 x354000_2.length co119) := (blk_cell BK353.out 0).trans rfl; have hcz122_1 : w121.cell? ⟨gb353, 1, none⟩ = some (.string (⟨#[]⟩ : ByteArray)) := (blk_cell BK353.out 1).trans rfl; have hcz122_2 : w121.cell? ⟨gb353, 2, none⟩ = some (.int .i64 a3) := (blk_cell BK353.out 2).trans rfl; have hcz122_3 : w121.cell? ⟨gb353, 3, none⟩ = some (.slice Ao120 x354003_3.length co120) := (blk_cell BK353.out 3).trans rfl; have hfz122_0 := blk_frozen BK353.out 0; have hfz122_1 := blk_frozen BK353.out 1; have hfz122_2 := blk_frozen BK353.out 2; have hfz122_3 := blk_frozen BK353.out 3) | (go_at_call 12; (with_reducible refine (gram_Text.calls _ _ x354000_2 (⟨#[]⟩ : ByteArray) a3 _ _ x354003_3 t367 _ (Tab.move htab (by repeat (first | (with_reducible first | exact HB.out | apply below_alloc | apply pw_below_drewN | apply below_drew1) | exact HB.out))) ?side1 ?side2 ?side3 ?side4 A110.out).mono ?_); (case side1 => repeat (first | exact (Kd.R_reads' HO_354000.out).2.2 | (with_reducible refine Kd.C_alloc ?_ _) | (with_reducible refine Kd.C_drewN ?_ _) | (with_reducible refine Kd.C_drew ?_))); (case side2 => exact (Kd.R_reads' HO_354000.out).2.1); (case side3 => repeat (first | exact (Kd.S_reads' HO_354003.out).2.2 | (with_reducible refine Kd.C_alloc ?_ _) | (with_reducible refine Kd.C_drewN ?_ _) | (with_reducible refine Kd.C_drew ?_))); (case side4 => exact (Kd.S_reads' HO_354003.out).2.1); rintro e w123 ⟨rfl, hb⟩; have n0_ := Aside0.mk (Kd.R_below (by (with_reducible repeat (first | apply Kd.R_alloc | apply Kd.R_drewN | apply Kd.R_drew)); exact HO_354000.out) hb); have n1_ := Aside0.mk (Kd.S_below (by (with_reducible repeat (first | apply Kd.S_alloc | apply Kd.S_drewN | apply Kd.S_drew)); exact HO_354003.out) hb); have n2_ := Aside0.mk (blk_below (g := gb353) (o := .cells #[.slice Ao119 x354000_2.length co119, .string (⟨#[]⟩ : ByteArray), .int .i64 a3, .slice Ao120 x354003_3.length co120] 25 (0, 0)) (by (with_reducible repeat (first | refine blk_drewN ?_ _ | refine blk_drew ?_ | refine blk_alloc ?_ _)); exact BK353.out) hb); have n3_ := Aside0.mk (below_step (by repeat (first | (with_reducible first | exact HB.out | apply below_alloc | apply pw_below_drewN | apply below_drew1 | refine below_set ?_ GE353.out) | exact HB.out)) hb); clear HO_354000; clear HO_354003; clear BK353; clear HB; have HO_354000 := n0_; have HO_354003 := n1_; have BK353 := n2_; have HB := n3_; clear n0_ n1_ n2_ n3_; (try clear hb); (try clear hb2); (try clear hk); (try clear hi)))
                                      go_ret
                                      exact ⟨by first | rfl | exact congrArg (fun b => Ending.returned (Value.bool b)) (isE_ _) | (simp [errW_none, errW_some] <;> rfl) | (simp [*, errW_none, errW_some] <;> rfl), by repeat (first | (with_reducible first | exact HB.out | apply below_alloc | apply pw_below_drewN | apply below_drew1 | refine below_set ?_ GE353.out) | exact HB.out)⟩
                              · rw [if_neg c91] at H
                                have c91b0 : decide (0 ≤ a3) = false := decide_eq_false c91
                                clear c91
                                replace H := Option.bind_eq_some_iff.mp H
                                obtain ⟨t368, A1240, H⟩ := H
                                replace H : (if t368 = true then (some false) else ((gram_Text.f x354000_2 (⟨#[]⟩ : ByteArray) a3 x354003_3).bind fun t369 => (some (!(t369.toList != ([] : List UInt8)))))) = some r := H
                                have A124 := Aside0.mk A1240
                                clear A1240
                                by_cases c125 : t368 = true
                                · subst c125
                                  have H1 : (some false) = some r := by rw [if_pos rfl] at H; exact H
                                  clear H
                                  have H := H1
                                  clear H1
                                  exact absurd ((Option.some.inj H).trans hr_.out) (by decide)
                                · replace c125 := Bool.eq_false_iff.mpr c125
                                  subst c125
                                  have H1 : ((gram_Text.f x354000_2 (⟨#[]⟩ : ByteArray) a3 x354003_3).bind fun t369 => (some (!(t369.toList != ([] : List UInt8))))) = some r := by rw [if_neg (show ¬ (false = true) by decide)] at H; exact H
                                  clear H
                                  have H := H1
                                  clear H1
                                  replace H := Option.bind_eq_some_iff.mp H
                                  obtain ⟨t369, A1260, H⟩ := H
                                  replace H : (some (!(t369.toList != ([] : List UInt8)))) = some r := H
                                  have A126 := Aside0.mk A1260
                                  clear A1260
                                  obtain rfl := Option.some.inj H
                                  have hcz127_0 : wr.cell? ⟨gb353, 0, none⟩ = some (u354000) := (blk_cell BK353.out 0).trans rfl
                                  have hcz127_1 : wr.cell? ⟨gb353, 1, none⟩ = some (.string (⟨#[]⟩ : ByteArray)) := (blk_cell BK353.out 1).trans rfl
                                  have hcz127_2 : wr.cell? ⟨gb353, 2, none⟩ = some (.int .i64 a3) := (blk_cell BK353.out 2).trans rfl
                                  have hcz127_3 : wr.cell? ⟨gb353, 3, none⟩ = some (u354003) := (blk_cell BK353.out 3).trans rfl
                                  have hfz127_0 := blk_frozen BK353.out 0
                                  have hfz127_1 := blk_frozen BK353.out 1
                                  have hfz127_2 := blk_frozen BK353.out 2
                                  have hfz127_3 := blk_frozen BK353.out 3
                                  obtain ⟨Ao128, co128, eo128⟩ := Kd.R_slice HO_354000.out
                                  subst eo128
                                  obtain ⟨Ao129, co129, eo129⟩ := Kd.S_slice HO_354003.out
                                  subst eo129
                                  go_wp2_with (first | ((with_reducible refine gate_callee (f := 10) rfl ?_); refine goesL_ (some 109) rfl rfl Tryd.func10 (by kernel_rfl) rfl #[.agg #[.slice Ao128 x354000_2.length co128, .string (⟨#[]⟩ : ByteArray), .int .i64 a3, .slice Ao129 x354003_3.length co129]] rfl (by (try simp only [List.map_toArray, List.map_cons, List.map_nil]); first | done | rfl | (simp only [List.length_drop, List.length_take]; rfl)) ?_; (with_reducible refine (gram_May.calls _ _ x354000_2 (⟨#[]⟩ : ByteArray) a3 _ _ x354003_3 false _ ?side1 ?side2 ?side3 ?side4 A124.out).mono ?_); (case side1 => repeat (first | exact (Kd.R_reads' HO_354000.out).2.2 | (with_reducible refine Kd.C_alloc ?_ _) | (with_reducible refine Kd.C_drewN ?_ _) | (with_reducible refine Kd.C_drew ?_))); (case side2 => exact (Kd.R_reads' HO_354000.out).2.1); (case side3 => repeat (first | exact (Kd.S_reads' HO_354003.out).2.2 | (with_reducible refine Kd.C_alloc ?_ _) | (with_reducible refine Kd.C_drewN ?_ _) | (with_reducible refine Kd.C_drew ?_))); (case side4 => exact (Kd.S_reads' HO_354003.out).2.1); rintro e w130 ⟨rfl, hb⟩; refine ⟨_, rfl, ?_⟩; have n0_ := Aside0.mk (Kd.R_below (by (with_reducible repeat (first | apply Kd.R_alloc | apply Kd.R_drewN | apply Kd.R_drew)); exact HO_354000.out) hb); have n1_ := Aside0.mk (Kd.S_below (by (with_reducible repeat (first | apply Kd.S_alloc | apply Kd.S_drewN | apply Kd.S_drew)); exact HO_354003.out) hb); have n2_ := Aside0.mk (blk_below (g := gb353) (o := .cells #[.slice Ao128 x354000_2.length co128, .string (⟨#[]⟩ : ByteArray), .int .i64 a3, .slice Ao129 x354003_3.length co129] 25 (0, 0)) (by (with_reducible repeat (first | refine blk_drewN ?_ _ | refine blk_drew ?_ | refine blk_alloc ?_ _)); exact BK353.out) hb); have n3_ := Aside0.mk (below_step (by repeat (first | (with_reducible first | exact HB.out | apply below_alloc | apply pw_below_drewN | apply below_drew1 | refine below_set ?_ GE353.out) | exact HB.out)) hb); clear HO_354000; clear HO_354003; clear BK353; clear HB; have HO_354000 := n0_; have HO_354003 := n1_; have BK353 := n2_; have HB := n3_; clear n0_ n1_ n2_ n3_; (try clear hb); (try clear hb2); (try clear hk); (try clear hi); have hcz131_0 : w130.cell? ⟨gb353, 0, none⟩ = some (.slice Ao128 x354000_2.length co128) := (blk_cell BK353.out 0).trans rfl; have hcz131_1 : w130.cell? ⟨gb353, 1, none⟩ = some (.string (⟨#[]⟩ : ByteArray)) := (blk_cell BK353.out 1).trans rfl; have hcz131_2 : w130.cell? ⟨gb353, 2, none⟩ = some (.int .i64 a3) := (blk_cell BK353.out 2).trans rfl; have hcz131_3 : w130.cell? ⟨gb353, 3, none⟩ = some (.slice Ao129 x354003_3.length co129) := (blk_cell BK353.out 3).trans rfl; have hfz131_0 := blk_frozen BK353.out 0; have hfz131_1 := blk_frozen BK353.out 1; have hfz131_2 := blk_frozen BK353.out 2; have hfz131_3 := blk_frozen BK353.out 3) | (go_at_call 12; (with_reducible refine (gram_Text.calls _ _ x354000_2 (⟨#[]⟩ : ByteArray) a3 _ _ x354003_3 t369 _ (Tab.move htab (by repeat (first | (with_reducible first | exact HB.out | apply below_alloc | apply pw_below_drewN | apply below_drew1) | exact HB.out))) ?side1 ?side2 ?side3 ?side4 A126.out).mono ?_); (case side1 => repeat (first | exact (Kd.R_reads' HO_354000.out).2.2 | (with_reducible refine Kd.C_alloc ?_ _) | (with_reducible refine Kd.C_drewN ?_ _) | (with_reducible refine Kd.C_drew ?_))); (case side2 => exact (Kd.R_reads' HO_354000.out).2.1); (case side3 => repeat (first | exact (Kd.S_reads' HO_354003.out).2.2 | (with_reducible refine Kd.C_alloc ?_ _) | (with_reducible refine Kd.C_drewN ?_ _) | (with_reducible refine Kd.C_drew ?_))); (case side4 => exact (Kd.S_reads' HO_354003.out).2.1); rintro e w132 ⟨rfl, hb⟩; have n0_ := Aside0.mk (Kd.R_below (by (with_reducible repeat (first | apply Kd.R_alloc | apply Kd.R_drewN | apply Kd.R_drew)); exact HO_354000.out) hb); have n1_ := Aside0.mk (Kd.S_below (by (with_reducible repeat (first | apply Kd.S_alloc | apply Kd.S_drewN | apply Kd.S_drew)); exact HO_354003.out) hb); have n2_ := Aside0.mk (blk_below (g := gb353) (o := .cells #[.slice Ao128 x354000_2.length co128, .string (⟨#[]⟩ : ByteArray), .int .i64 a3, .slice Ao129 x354003_3.length co129] 25 (0, 0)) (by (with_reducible repeat (first | refine blk_drewN ?_ _ | refine blk_drew ?_ | refine blk_alloc ?_ _)); exact BK353.out) hb); have n3_ := Aside0.mk (below_step (by repeat (first | (with_reducible first | exact HB.out | apply below_alloc | apply pw_below_drewN | apply below_drew1 | refine below_set ?_ GE353.out) | exact HB.out)) hb); clear HO_354000; clear HO_354003; clear BK353; clear HB; have HO_354000 := n0_; have HO_354003 := n1_; have BK353 := n2_; have HB := n3_; clear n0_ n1_ n2_ n3_; (try clear hb); (try clear hb2); (try clear hk); (try clear hi)))
                                  go_ret
                                  exact ⟨by first | rfl | exact congrArg (fun b => Ending.returned (Value.bool b)) (isE_ _) | (simp [errW_none, errW_some] <;> rfl) | (simp [*, errW_none, errW_some] <;> rfl), by repeat (first | (with_reducible first | exact HB.out | apply below_alloc | apply pw_below_drewN | apply below_drew1 | refine below_set ?_ GE353.out) | exact HB.out)⟩
                            · rw [if_neg c90] at H
                              have c90b0 : (a1 == 0) = false := beq_eq_false_iff_ne.mpr c90
                              have c90b1 : (a1 != 0) = true := bne_iff_ne.mpr c90
                              replace H := Option.bind_eq_some_iff.mp H
                              obtain ⟨t370, A1330, H⟩ := H
                              replace H : (if t370 = true then (some false) else ((gram_Text.f x354000_2 (⟨#[]⟩ : ByteArray) a3 x354003_3).bind fun t371 => (some (!(t371.toList != ([] : List UInt8)))))) = some r := H
                              have A133 := Aside0.mk A1330
                              clear A1330
                              by_cases c134 : t370 = true
                              · subst c134
                                have H1 : (some false) = some r := by rw [if_pos rfl] at H; exact H
                                clear H
                                have H := H1
                                clear H1
                                exact absurd ((Option.some.inj H).trans hr_.out) (by decide)
                              · replace c134 := Bool.eq_false_iff.mpr c134
                                subst c134
                                have H1 : ((gram_Text.f x354000_2 (⟨#[]⟩ : ByteArray) a3 x354003_3).bind fun t371 => (some (!(t371.toList != ([] : List UInt8))))) = some r := by rw [if_neg (show ¬ (false = true) by decide)] at H; exact H
                                clear H
                                have H := H1
                                clear H1
                                replace H := Option.bind_eq_some_iff.mp H
                                obtain ⟨t371, A1350, H⟩ := H
                                replace H : (some (!(t371.toList != ([] : List UInt8)))) = some r := H
                                have A135 := Aside0.mk A1350
                                clear A1350
                                obtain rfl := Option.some.inj H
                                have hcz136_0 : wr.cell? ⟨gb353, 0, none⟩ = some (u354000) := (blk_cell BK353.out 0).trans rfl
                                have hcz136_1 : wr.cell? ⟨gb353, 1, none⟩ = some (.string (⟨#[]⟩ : ByteArray)) := (blk_cell BK353.out 1).trans rfl
                                have hcz136_2 : wr.cell? ⟨gb353, 2, none⟩ = some (.int .i64 a3) := (blk_cell BK353.out 2).trans rfl
                                have hcz136_3 : wr.cell? ⟨gb353, 3, none⟩ = some (u354003) := (blk_cell BK353.out 3).trans rfl
                                have hfz136_0 := blk_frozen BK353.out 0
                                have hfz136_1 := blk_frozen BK353.out 1
                                have hfz136_2 := blk_frozen BK353.out 2
                                have hfz136_3 := blk_frozen BK353.out 3
                                obtain ⟨Ao137, co137, eo137⟩ := Kd.R_slice HO_354000.out
                                subst eo137
                                obtain ⟨Ao138, co138, eo138⟩ := Kd.S_slice HO_354003.out
                                subst eo138
                                go_wp2_with (first | ((with_reducible refine gate_callee (f := 10) rfl ?_); refine goesL_ (some 109) rfl rfl Tryd.func10 (by kernel_rfl) rfl #[.agg #[.slice Ao137 x354000_2.length co137, .string (⟨#[]⟩ : ByteArray), .int .i64 a3, .slice Ao138 x354003_3.length co138]] rfl (by (try simp only [List.map_toArray, List.map_cons, List.map_nil]); first | done | rfl | (simp only [List.length_drop, List.length_take]; rfl)) ?_; (with_reducible refine (gram_May.calls _ _ x354000_2 (⟨#[]⟩ : ByteArray) a3 _ _ x354003_3 false _ ?side1 ?side2 ?side3 ?side4 A133.out).mono ?_); (case side1 => repeat (first | exact (Kd.R_reads' HO_354000.out).2.2 | (with_reducible refine Kd.C_alloc ?_ _) | (with_reducible refine Kd.C_drewN ?_ _) | (with_reducible refine Kd.C_drew ?_))); (case side2 => exact (Kd.R_reads' HO_354000.out).2.1); (case side3 => repeat (first | exact (Kd.S_reads' HO_354003.out).2.2 | (with_reducible refine Kd.C_alloc ?_ _) | (with_reducible refine Kd.C_drewN ?_ _) | (with_reducible refine Kd.C_drew ?_))); (case side4 => exact (Kd.S_reads' HO_354003.out).2.1); rintro e w139 ⟨rfl, hb⟩; refine ⟨_, rfl, ?_⟩; have n0_ := Aside0.mk (Kd.R_below (by (with_reducible repeat (first | apply Kd.R_alloc | apply Kd.R_drewN | apply Kd.R_drew)); exact HO_354000.out) hb); have n1_ := Aside0.mk (Kd.S_below (by (with_reducible repeat (first | apply Kd.S_alloc | apply Kd.S_drewN | apply Kd.S_drew)); exact HO_354003.out) hb); have n2_ := Aside0.mk (blk_below (g := gb353) (o := .cells #[.slice Ao137 x354000_2.length co137, .string (⟨#[]⟩ : ByteArray), .int .i64 a3, .slice Ao138 x354003_3.length co138] 25 (0, 0)) (by (with_reducible repeat (first | refine blk_drewN ?_ _ | refine blk_drew ?_ | refine blk_alloc ?_ _)); exact BK353.out) hb); have n3_ := Aside0.mk (below_step (by repeat (first | (with_reducible first | exact HB.out | apply below_alloc | apply pw_below_drewN | apply below_drew1 | refine below_set ?_ GE353.out) | exact HB.out)) hb); clear HO_354000; clear HO_354003; clear BK353; clear HB; have HO_354000 := n0_; have HO_354003 := n1_; have BK353 := n2_; have HB := n3_; clear n0_ n1_ n2_ n3_; (try clear hb); (try clear hb2); (try clear hk); (try clear hi); have hcz140_0 : w139.cell? ⟨gb353, 0, none⟩ = some (.slice Ao137 x354000_2.length co137) := (blk_cell BK353.out 0).trans rfl; have hcz140_1 : w139.cell? ⟨gb353, 1, none⟩ = some (.string (⟨#[]⟩ : ByteArray)) := (blk_cell BK353.out 1).trans rfl; have hcz140_2 : w139.cell? ⟨gb353, 2, none⟩ = some (.int .i64 a3) := (blk_cell BK353.out 2).trans rfl; have hcz140_3 : w139.cell? ⟨gb353, 3, none⟩ = some (.slice Ao138 x354003_3.length co138) := (blk_cell BK353.out 3).trans rfl; have hfz140_0 := blk_frozen BK353.out 0; have hfz140_1 := blk_frozen BK353.out 1; have hfz140_2 := blk_frozen BK353.out 2; have hfz140_3 := blk_frozen BK353.out 3) | (go_at_call 12; (with_reducible refine (gram_Text.calls _ _ x354000_2 (⟨#[]⟩ : ByteArray) a3 _ _ x354003_3 t371 _ (Tab.move htab (by repeat (first | (with_reducible first | exact HB.out | apply below_alloc | apply pw_below_drewN | apply below_drew1) | exact HB.out))) ?side1 ?side2 ?side3 ?side4 A135.out).mono ?_); (case side1 => repeat (first | exact (Kd.R_reads' HO_354000.out).2.2 | (with_reducible refine Kd.C_alloc ?_ _) | (with_reducible refine Kd.C_drewN ?_ _) | (with_reducible refine Kd.C_drew ?_))); (case side2 => exact (Kd.R_reads' HO_354000.out).2.1); (case side3 => repeat (first | exact (Kd.S_reads' HO_354003.out).2.2 | (with_reducible refine Kd.C_alloc ?_ _) | (with_reducible refine Kd.C_drewN ?_ _) | (with_reducible refine Kd.C_drew ?_))); (case side4 => exact (Kd.S_reads' HO_354003.out).2.1); rintro e w141 ⟨rfl, hb⟩; have n0_ := Aside0.mk (Kd.R_below (by (with_reducible repeat (first | apply Kd.R_alloc | apply Kd.R_drewN | apply Kd.R_drew)); exact HO_354000.out) hb); have n1_ := Aside0.mk (Kd.S_below (by (with_reducible repeat (first | apply Kd.S_alloc | apply Kd.S_drewN | apply Kd.S_drew)); exact HO_354003.out) hb); have n2_ := Aside0.mk (blk_below (g := gb353) (o := .cells #[.slice Ao137 x354000_2.length co137, .string (⟨#[]⟩ : ByteArray), .int .i64 a3, .slice Ao138 x354003_3.length co138] 25 (0, 0)) (by (with_reducible repeat (first | refine blk_drewN ?_ _ | refine blk_drew ?_ | refine blk_alloc ?_ _)); exact BK353.out) hb); have n3_ := Aside0.mk (below_step (by repeat (first | (with_reducible first | exact HB.out | apply below_alloc | apply pw_below_drewN | apply below_drew1 | refine below_set ?_ GE353.out) | exact HB.out)) hb); clear HO_354000; clear HO_354003; clear BK353; clear HB; have HO_354000 := n0_; have HO_354003 := n1_; have BK353 := n2_; have HB := n3_; clear n0_ n1_ n2_ n3_; (try clear hb); (try clear hb2); (try clear hk); (try clear hi)))
                                go_ret
                                exact ⟨by first | rfl | exact congrArg (fun b => Ending.returned (Value.bool b)) (isE_ _) | (simp [errW_none, errW_some] <;> rfl) | (simp [*, errW_none, errW_some] <;> rfl), by repeat (first | (with_reducible first | exact HB.out | apply below_alloc | apply pw_below_drewN | apply below_drew1 | refine below_set ?_ GE353.out) | exact HB.out)⟩
                        · rw [if_neg c46] at H
                          have c46b0 : decide (a1 ≤ 100) = false := decide_eq_false c46
                          clear c46
                          replace H := Option.bind_eq_some_iff.mp H
                          obtain ⟨t372, A1420, H⟩ := H
                          replace H : (if t372 = true then (some false) else ((gram_Text.f x354000_2 (⟨#[]⟩ : ByteArray) a3 x354003_3).bind fun t373 => (some (!(t373.toList != ([] : List UInt8)))))) = some r := H
                          have A142 := Aside0.mk A1420
                          clear A1420
                          by_cases c143 : t372 = true
                          · subst c143
                            have H1 : (some false) = some r := by rw [if_pos rfl] at H; exact H
                            clear H
                            have H := H1
                            clear H1
                            exact absurd ((Option.some.inj H).trans hr_.out) (by decide)
                          · replace c143 := Bool.eq_false_iff.mpr c143
                            subst c143
                            have H1 : ((gram_Text.f x354000_2 (⟨#[]⟩ : ByteArray) a3 x354003_3).bind fun t373 => (some (!(t373.toList != ([] : List UInt8))))) = some r := by rw [if_neg (show ¬ (false = true) by decide)] at H; exact H
                            clear H
                            have H := H1
                            clear H1
                            replace H := Option.bind_eq_some_iff.mp H
                            obtain ⟨t373, A1440, H⟩ := H
                            replace H : (some (!(t373.toList != ([] : List UInt8)))) = some r := H
                            have A144 := Aside0.mk A1440
                            clear A1440
                            obtain rfl := Option.some.inj H
                            have hcz145_0 : wr.cell? ⟨gb353, 0, none⟩ = some (u354000) := (blk_cell BK353.out 0).trans rfl
                            have hcz145_1 : wr.cell? ⟨gb353, 1, none⟩ = some (.string (⟨#[]⟩ : ByteArray)) := (blk_cell BK353.out 1).trans rfl
                            have hcz145_2 : wr.cell? ⟨gb353, 2, none⟩ = some (.int .i64 a3) := (blk_cell BK353.out 2).trans rfl
                            have hcz145_3 : wr.cell? ⟨gb353, 3, none⟩ = some (u354003) := (blk_cell BK353.out 3).trans rfl
                            have hfz145_0 := blk_frozen BK353.out 0
                            have hfz145_1 := blk_frozen BK353.out 1
                            have hfz145_2 := blk_frozen BK353.out 2
                            have hfz145_3 := blk_frozen BK353.out 3
                            obtain ⟨Ao146, co146, eo146⟩ := Kd.R_slice HO_354000.out
                            subst eo146
                            obtain ⟨Ao147, co147, eo147⟩ := Kd.S_slice HO_354003.out
                            subst eo147
                            go_wp2_with (first | ((with_reducible refine gate_callee (f := 10) rfl ?_); refine goesL_ (some 109) rfl rfl Tryd.func10 (by kernel_rfl) rfl #[.agg #[.slice Ao146 x354000_2.length co146, .string (⟨#[]⟩ : ByteArray), .int .i64 a3, .slice Ao147 x354003_3.length co147]] rfl (by (try simp only [List.map_toArray, List.map_cons, List.map_nil]); first | done | rfl | (simp only [List.length_drop, List.length_take]; rfl)) ?_; (with_reducible refine (gram_May.calls _ _ x354000_2 (⟨#[]⟩ : ByteArray) a3 _ _ x354003_3 false _ ?side1 ?side2 ?side3 ?side4 A142.out).mono ?_); (case side1 => repeat (first | exact (Kd.R_reads' HO_354000.out).2.2 | (with_reducible refine Kd.C_alloc ?_ _) | (with_reducible refine Kd.C_drewN ?_ _) | (with_reducible refine Kd.C_drew ?_))); (case side2 => exact (Kd.R_reads' HO_354000.out).2.1); (case side3 => repeat (first | exact (Kd.S_reads' HO_354003.out).2.2 | (with_reducible refine Kd.C_alloc ?_ _) | (with_reducible refine Kd.C_drewN ?_ _) | (with_reducible refine Kd.C_drew ?_))); (case side4 => exact (Kd.S_reads' HO_354003.out).2.1); rintro e w148 ⟨rfl, hb⟩; refine ⟨_, rfl, ?_⟩; have n0_ := Aside0.mk (Kd.R_below (by (with_reducible repeat (first | apply Kd.R_alloc | apply Kd.R_drewN | apply Kd.R_drew)); exact HO_354000.out) hb); have n1_ := Aside0.mk (Kd.S_below (by (with_reducible repeat (first | apply Kd.S_alloc | apply Kd.S_drewN | apply Kd.S_drew)); exact HO_354003.out) hb); have n2_ := Aside0.mk (blk_below (g := gb353) (o := .cells #[.slice Ao146 x354000_2.length co146, .string (⟨#[]⟩ : ByteArray), .int .i64 a3, .slice Ao147 x354003_3.length co147] 25 (0, 0)) (by (with_reducible repeat (first | refine blk_drewN ?_ _ | refine blk_drew ?_ | refine blk_alloc ?_ _)); exact BK353.out) hb); have n3_ := Aside0.mk (below_step (by repeat (first | (with_reducible first | exact HB.out | apply below_alloc | apply pw_below_drewN | apply below_drew1 | refine below_set ?_ GE353.out) | exact HB.out)) hb); clear HO_354000; clear HO_354003; clear BK353; clear HB; have HO_354000 := n0_; have HO_354003 := n1_; have BK353 := n2_; have HB := n3_; clear n0_ n1_ n2_ n3_; (try clear hb); (try clear hb2); (try clear hk); (try clear hi); have hcz149_0 : w148.cell? ⟨gb353, 0, none⟩ = some (.slice Ao146 x354000_2.length co146) := (blk_cell BK353.out 0).trans rfl; have hcz149_1 : w148.cell? ⟨gb353, 1, none⟩ = some (.string (⟨#[]⟩ : ByteArray)) := (blk_cell BK353.out 1).trans rfl; have hcz149_2 : w148.cell? ⟨gb353, 2, none⟩ = some (.int .i64 a3) := (blk_cell BK353.out 2).trans rfl; have hcz149_3 : w148.cell? ⟨gb353, 3, none⟩ = some (.slice Ao147 x354003_3.length co147) := (blk_cell BK353.out 3).trans rfl; have hfz149_0 := blk_frozen BK353.out 0; have hfz149_1 := blk_frozen BK353.out 1; have hfz149_2 := blk_frozen BK353.out 2; have hfz149_3 := blk_frozen BK353.out 3) | (go_at_call 12; (with_reducible refine (gram_Text.calls _ _ x354000_2 (⟨#[]⟩ : ByteArray) a3 _ _ x354003_3 t373 _ (Tab.move htab (by repeat (first | (with_reducible first | exact HB.out | apply below_alloc | apply pw_below_drewN | apply below_drew1) | exact HB.out))) ?side1 ?side2 ?side3 ?side4 A144.out).mono ?_); (case side1 => repeat (first | exact (Kd.R_reads' HO_354000.out).2.2 | (with_reducible refine Kd.C_alloc ?_ _) | (with_reducible refine Kd.C_drewN ?_ _) | (with_reducible refine Kd.C_drew ?_))); (case side2 => exact (Kd.R_reads' HO_354000.out).2.1); (case side3 => repeat (first | exact (Kd.S_reads' HO_354003.out).2.2 | (with_reducible refine Kd.C_alloc ?_ _) | (with_reducible refine Kd.C_drewN ?_ _) | (with_reducible refine Kd.C_drew ?_))); (case side4 => exact (Kd.S_reads' HO_354003.out).2.1); rintro e w150 ⟨rfl, hb⟩; have n0_ := Aside0.mk (Kd.R_below (by (with_reducible repeat (first | apply Kd.R_alloc | apply Kd.R_drewN | apply Kd.R_drew)); exact HO_354000.out) hb); have n1_ := Aside0.mk (Kd.S_below (by (with_reducible repeat (first | apply Kd.S_alloc | apply Kd.S_drewN | apply Kd.S_drew)); exact HO_354003.out) hb); have n2_ := Aside0.mk (blk_below (g := gb353) (o := .cells #[.slice Ao146 x354000_2.length co146, .string (⟨#[]⟩ : ByteArray), .int .i64 a3, .slice Ao147 x354003_3.length co147] 25 (0, 0)) (by (with_reducible repeat (first | refine blk_drewN ?_ _ | refine blk_drew ?_ | refine blk_alloc ?_ _)); exact BK353.out) hb); have n3_ := Aside0.mk (below_step (by repeat (first | (with_reducible first | exact HB.out | apply below_alloc | apply pw_below_drewN | apply below_drew1 | refine below_set ?_ GE353.out) | exact HB.out)) hb); clear HO_354000; clear HO_354003; clear BK353; clear HB; have HO_354000 := n0_; have HO_354003 := n1_; have BK353 := n2_; have HB := n3_; clear n0_ n1_ n2_ n3_; (try clear hb); (try clear hb2); (try clear hk); (try clear hi)))
                            go_ret
                            exact ⟨by first | rfl | exact congrArg (fun b => Ending.returned (Value.bool b)) (isE_ _) | (simp [errW_none, errW_some] <;> rfl) | (simp [*, errW_none, errW_some] <;> rfl), by repeat (first | (with_reducible first | exact HB.out | apply below_alloc | apply pw_below_drewN | apply below_drew1 | refine below_set ?_ GE353.out) | exact HB.out)⟩
                      · rw [if_neg c45] at H
                        have c45b0 : decide (a0 ≤ 40) = false := decide_eq_false c45
                        clear c45
                        replace H := Option.bind_eq_some_iff.mp H
                        obtain ⟨t374, A1510, H⟩ := H
                        replace H : (if t374 = true then (some false) else ((gram_Text.f x354000_2 (⟨#[]⟩ : ByteArray) a3 x354003_3).bind fun t375 => (some (!(t375.toList != ([] : List UInt8)))))) = some r := H
                        have A151 := Aside0.mk A1510
                        clear A1510
                        by_cases c152 : t374 = true
                        · subst c152
                          have H1 : (some false) = some r := by rw [if_pos rfl] at H; exact H
                          clear H
                          have H := H1
                          clear H1
                          exact absurd ((Option.some.inj H).trans hr_.out) (by decide)
                        · replace c152 := Bool.eq_false_iff.mpr c152
                          subst c152
                          have H1 : ((gram_Text.f x354000_2 (⟨#[]⟩ : ByteArray) a3 x354003_3).bind fun t375 => (some (!(t375.toList != ([] : List UInt8))))) = some r := by rw [if_neg (show ¬ (false = true) by decide)] at H; exact H
                          clear H
                          have H := H1
                          clear H1
                          replace H := Option.bind_eq_some_iff.mp H
                          obtain ⟨t375, A1530, H⟩ := H
                          replace H : (some (!(t375.toList != ([] : List UInt8)))) = some r := H
                          have A153 := Aside0.mk A1530
                          clear A1530
                          obtain rfl := Option.some.inj H
                          have hcz154_0 : wr.cell? ⟨gb353, 0, none⟩ = some (u354000) := (blk_cell BK353.out 0).trans rfl
                          have hcz154_1 : wr.cell? ⟨gb353, 1, none⟩ = some (.string (⟨#[]⟩ : ByteArray)) := (blk_cell BK353.out 1).trans rfl
                          have hcz154_2 : wr.cell? ⟨gb353, 2, none⟩ = some (.int .i64 a3) := (blk_cell BK353.out 2).trans rfl
                          have hcz154_3 : wr.cell? ⟨gb353, 3, none⟩ = some (u354003) := (blk_cell BK353.out 3).trans rfl
                          have hfz154_0 := blk_frozen BK353.out 0
                          have hfz154_1 := blk_frozen BK353.out 1
                          have hfz154_2 := blk_frozen BK353.out 2
                          have hfz154_3 := blk_frozen BK353.out 3
                          obtain ⟨Ao155, co155, eo155⟩ := Kd.R_slice HO_354000.out
                          subst eo155
                          obtain ⟨Ao156, co156, eo156⟩ := Kd.S_slice HO_354003.out
                          subst eo156
                          go_wp2_with (first | ((with_reducible refine gate_callee (f := 10) rfl ?_); refine goesL_ (some 109) rfl rfl Tryd.func10 (by kernel_rfl) rfl #[.agg #[.slice Ao155 x354000_2.length co155, .string (⟨#[]⟩ : ByteArray), .int .i64 a3, .slice Ao156 x354003_3.length co156]] rfl (by (try simp only [List.map_toArray, List.map_cons, List.map_nil]); first | done | rfl | (simp only [List.length_drop, List.length_take]; rfl)) ?_; (with_reducible refine (gram_May.calls _ _ x354000_2 (⟨#[]⟩ : ByteArray) a3 _ _ x354003_3 false _ ?side1 ?side2 ?side3 ?side4 A151.out).mono ?_); (case side1 => repeat (first | exact (Kd.R_reads' HO_354000.out).2.2 | (with_reducible refine Kd.C_alloc ?_ _) | (with_reducible refine Kd.C_drewN ?_ _) | (with_reducible refine Kd.C_drew ?_))); (case side2 => exact (Kd.R_reads' HO_354000.out).2.1); (case side3 => repeat (first | exact (Kd.S_reads' HO_354003.out).2.2 | (with_reducible refine Kd.C_alloc ?_ _) | (with_reducible refine Kd.C_drewN ?_ _) | (with_reducible refine Kd.C_drew ?_))); (case side4 => exact (Kd.S_reads' HO_354003.out).2.1); rintro e w157 ⟨rfl, hb⟩; refine ⟨_, rfl, ?_⟩; have n0_ := Aside0.mk (Kd.R_below (by (with_reducible repeat (first | apply Kd.R_alloc | apply Kd.R_drewN | apply Kd.R_drew)); exact HO_354000.out) hb); have n1_ := Aside0.mk (Kd.S_below (by (with_reducible repeat (first | apply Kd.S_alloc | apply Kd.S_drewN | apply Kd.S_drew)); exact HO_354003.out) hb); have n2_ := Aside0.mk (blk_below (g := gb353) (o := .cells #[.slice Ao155 x354000_2.length co155, .string (⟨#[]⟩ : ByteArray), .int .i64 a3, .slice Ao156 x354003_3.length co156] 25 (0, 0)) (by (with_reducible repeat (first | refine blk_drewN ?_ _ | refine blk_drew ?_ | refine blk_alloc ?_ _)); exact BK353.out) hb); have n3_ := Aside0.mk (below_step (by repeat (first | (with_reducible first | exact HB.out | apply below_alloc | apply pw_below_drewN | apply below_drew1 | refine below_set ?_ GE353.out) | exact HB.out)) hb); clear HO_354000; clear HO_354003; clear BK353; clear HB; have HO_354000 := n0_; have HO_354003 := n1_; have BK353 := n2_; have HB := n3_; clear n0_ n1_ n2_ n3_; (try clear hb); (try clear hb2); (try clear hk); (try clear hi); have hcz158_0 : w157.cell? ⟨gb353, 0, none⟩ = some (.slice Ao155 x354000_2.length co155) := (blk_cell BK353.out 0).trans rfl; have hcz158_1 : w157.cell? ⟨gb353, 1, none⟩ = some (.string (⟨#[]⟩ : ByteArray)) := (blk_cell BK353.out 1).trans rfl; have hcz158_2 : w157.cell? ⟨gb353, 2, none⟩ = some (.int .i64 a3) := (blk_cell BK353.out 2).trans rfl; have hcz158_3 : w157.cell? ⟨gb353, 3, none⟩ = some (.slice Ao156 x354003_3.length co156) := (blk_cell BK353.out 3).trans rfl; have hfz158_0 := blk_frozen BK353.out 0; have hfz158_1 := blk_frozen BK353.out 1; have hfz158_2 := blk_frozen BK353.out 2; have hfz158_3 := blk_frozen BK353.out 3) | (go_at_call 12; (with_reducible refine (gram_Text.calls _ _ x354000_2 (⟨#[]⟩ : ByteArray) a3 _ _ x354003_3 t375 _ (Tab.move htab (by repeat (first | (with_reducible first | exact HB.out | apply below_alloc | apply pw_below_drewN | apply below_drew1) | exact HB.out))) ?side1 ?side2 ?side3 ?side4 A153.out).mono ?_); (case side1 => repeat (first | exact (Kd.R_reads' HO_354000.out).2.2 | (with_reducible refine Kd.C_alloc ?_ _) | (with_reducible refine Kd.C_drewN ?_ _) | (with_reducible refine Kd.C_drew ?_))); (case side2 => exact (Kd.R_reads' HO_354000.out).2.1); (case side3 => repeat (first | exact (Kd.S_reads' HO_354003.out).2.2 | (with_reducible refine Kd.C_alloc ?_ _) | (with_reducible refine Kd.C_drewN ?_ _) | (with_reducible refine Kd.C_drew ?_))); (case side4 => exact (Kd.S_reads' HO_354003.out).2.1); rintro e w159 ⟨rfl, hb⟩; have n0_ := Aside0.mk (Kd.R_below (by (with_reducible repeat (first | apply Kd.R_alloc | apply Kd.R_drewN | apply Kd.R_drew)); exact HO_354000.out) hb); have n1_ := Aside0.mk (Kd.S_below (by (with_reducible repeat (first | apply Kd.S_alloc | apply Kd.S_drewN | apply Kd.S_drew)); exact HO_354003.out) hb); have n2_ := Aside0.mk (blk_below (g := gb353) (o := .cells #[.slice Ao155 x354000_2.length co155, .string (⟨#[]⟩ : ByteArray), .int .i64 a3, .slice Ao156 x354003_3.length co156] 25 (0, 0)) (by (with_reducible repeat (first | refine blk_drewN ?_ _ | refine blk_drew ?_ | refine blk_alloc ?_ _)); exact BK353.out) hb); have n3_ := Aside0.mk (below_step (by repeat (first | (with_reducible first | exact HB.out | apply below_alloc | apply pw_below_drewN | apply below_drew1 | refine below_set ?_ GE353.out) | exact HB.out)) hb); clear HO_354000; clear HO_354003; clear BK353; clear HB; have HO_354000 := n0_; have HO_354003 := n1_; have BK353 := n2_; have HB := n3_; clear n0_ n1_ n2_ n3_; (try clear hb); (try clear hb2); (try clear hk); (try clear hi)))
                          go_ret
                          exact ⟨by first | rfl | exact congrArg (fun b => Ending.returned (Value.bool b)) (isE_ _) | (simp [errW_none, errW_some] <;> rfl) | (simp [*, errW_none, errW_some] <;> rfl), by repeat (first | (with_reducible first | exact HB.out | apply below_alloc | apply pw_below_drewN | apply below_drew1 | refine below_set ?_ GE353.out) | exact HB.out)⟩
  · replace c6 := Bool.eq_false_iff.mpr c6
    subst c6
    have H1 : (some false) = some r := by rw [if_neg (show ¬ (false = true) by decide)] at H; exact H
    clear H
    have H := H1
    clear H1
    exact absurd ((Option.some.inj H).trans hr_.out) (by decide)

/-- THE ONE PURE STATEMENT of donatuslaw5_GramLimits: yours. -/
def donatuslaw5_GramLimits.Pure : Prop := ∀ (a0 : Int) (a1 : Int) (a2 : Int) (a3 : Int), (Lit.int .i64 a0).wf = true → (Lit.int .i64 a1).wf = true → (Lit.int .i64 a2).wf = true → (Lit.int .i64 a3).wf = true → ∃ k, donatuslaw5_GramLimits.f k a0 a1 a2 a3 = some true

end Go.Proofs.YteonnadhdmcloaaDoor.G
