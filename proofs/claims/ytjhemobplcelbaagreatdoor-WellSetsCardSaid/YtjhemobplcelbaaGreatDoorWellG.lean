/- well: the two sets are told alike. -/
import Derived.Test.YtjhemobplcelbaaGreatDoorWellF
namespace Go.Proofs.YtjhemobplcelbaaGreatDoor.U
open Go.RowKit Go.Proofs.YtjhemobplcelbaaGreatDoorW.PrintWords Go.Proofs.YtjhemobplcelbaaGreatDoorW.PrintLast Go.Proofs.YtjhemobplcelbaaGreatDoorW.PrintMore
set_option linter.unusedVariables false
set_option linter.unusedSimpArgs false
def TwoRows (W1 : World) (m : Nat) (a b : List Bool) (v v' : Value) (wx : World) : Prop := ∃ (g c g' c' : Nat), v = .slice (some ⟨g, 0, none⟩) m c ∧ v' = .slice (some ⟨g', 0, none⟩) m c' ∧ RowB wx W1.heap.size g m c a ∧ RowB wx W1.heap.size g' m c' b ∧ Below W1.heap.size W1 wx
def SetsRel (W : World) (m : Nat) (kq : Nat) (v : Value) (w' : World) : Prop := ∃ i : Nat, i + kq = m ∧ v = .int .i64 (i : Int) ∧ Below W.heap.size W w'
set_option maxRecDepth 100000 in
set_option maxHeartbeats 4000000 in
theorem sets_walk (w : World) (t n st : Nat) (ex : Int) (A4 A5 A6 A : Option Addr) (n4 c4 n5 c5 n6 c6 c : Nat) (rs : List SR) (hrs : Kd.C kSR w A rs.length rs) (hc : rs.length ≤ c) (hok : ∀ r ∈ rs.tail, okRule (t + 1 + n) r) (h0 : ∃ r0, rs.head? = some r0 ∧ r0.f0 < 0) (hall : ∀ r ∈ rs, ∀ x ∈ r.f1, 0 ≤ x ∧ x < ((t + 1 + n : Nat) : Int)) (ht : t + n ≤ 1000000) (hst : st < t + 1 + n) :
    Calls Tryz.prog 35 #[.agg #[.int .i64 (t : Int), .int .i64 (n : Int), .int .i64 (st : Int), .int .i64 ex, .slice A4 n4 c4, .slice A5 n5 c5, .slice A6 n6 c6, .slice A rs.length c]] w fun e w' => e = .returned (.bool true) ∧ Below w.heap.size w w' := by
  obtain ⟨ry, hry, hyl⟩ := fix_some (n := t + 1 + n) (passY rs.tail) (keptY hok) _ (y0 t n) (by simp [y0]; omega) (Nat.le_refl _)
  obtain ⟨rr, hrr, hrl⟩ := fix_some (n := t + 1 + n) (passR rs.tail) (keptR hok) _ (r0 t n st) (by simp [r0]) (Nat.le_refl _)
  have h1 : 1 ≤ rs.length := by
    obtain ⟨x, hx, _⟩ := h0
    cases rs with
    | nil => cases hx
    | cons _ _ => simp
  have hb := below_alloc (Below.refl w.heap.size w) (.cells #[.int .i64 (t : Int), .int .i64 (n : Int), .int .i64 (st : Int), .int .i64 ex, .slice A4 n4 c4, .slice A5 n5 c5, .slice A6 n6 c6, .slice A rs.length c] 32)
  have hx : SBox (w.alloc (.cells #[.int .i64 (t : Int), .int .i64 (n : Int), .int .i64 (st : Int), .int .i64 ex, .slice A4 n4 c4, .slice A5 n5 c5, .slice A6 n6 c6, .slice A rs.length c] 32)) w.heap.size t n st ex _ _ _ _ := SBox.new w
  have CY : Aside0 (∀ w', Below w.heap.size w w' → Calls Tryz.prog 58 #[.agg #[.int .i64 (t : Int), .int .i64 (n : Int), .int .i64 (st : Int), .int .i64 ex, .slice A4 n4 c4, .slice A5 n5 c5, .slice A6 n6 c6, .slice A rs.length c]] w' fun e w'' => ∃ g d, e = .returned (.slice (some ⟨g, 0, none⟩) (t + 1 + n) d) ∧ RowB w'' w'.heap.size g (t + 1 + n) d ry ∧ Below w'.heap.size w' w'') := ⟨fun w' hb => well_yields w' t n st ex A4 A5 A6 A n4 c4 n5 c5 n6 c6 c rs (Kd.C_below hrs hb) hc hok h0 hall ht ry hry⟩
  have CR : Aside0 (∀ w', Below w.heap.size w w' → Calls Tryz.prog 60 #[.agg #[.int .i64 (t : Int), .int .i64 (n : Int), .int .i64 (st : Int), .int .i64 ex, .slice A4 n4 c4, .slice A5 n5 c5, .slice A6 n6 c6, .slice A rs.length c]] w' fun e w'' => ∃ g d, e = .returned (.slice (some ⟨g, 0, none⟩) (t + 1 + n) d) ∧ RowB w'' w'.heap.size g (t + 1 + n) d rr ∧ Below w'.heap.size w' w'') := ⟨fun w' hb => well_reached w' t n st ex A4 A5 A6 A n4 c4 n5 c5 n6 c6 c rs (Kd.C_below hrs hb) hc hok h0 hall ht hst rr hrr⟩
  have DY : Aside0 (∀ w', Below w.heap.size w w' → Calls Tryz.prog 47 #[.agg #[.int .i64 (t : Int), .int .i64 (n : Int), .int .i64 (st : Int), .int .i64 ex, .slice A4 n4 c4, .slice A5 n5 c5, .slice A6 n6 c6, .slice A rs.length c]] w' fun e w'' => ∃ g d, e = .returned (.slice (some ⟨g, 0, none⟩) (t + 1 + n) d) ∧ RowB w'' w'.heap.size g (t + 1 + n) d ry ∧ Below w'.heap.size w' w'') := ⟨fun w' hb => ref_yields w' t n st ex A4 A5 A6 A n4 c4 n5 c5 n6 c6 c rs (Kd.C_below hrs hb) hc hok h1 ht ry hry⟩
  have DR : Aside0 (∀ w', Below w.heap.size w w' → Calls Tryz.prog 48 #[.agg #[.int .i64 (t : Int), .int .i64 (n : Int), .int .i64 (st : Int), .int .i64 ex, .slice A4 n4 c4, .slice A5 n5 c5, .slice A6 n6 c6, .slice A rs.length c]] w' fun e w'' => ∃ g d, e = .returned (.slice (some ⟨g, 0, none⟩) (t + 1 + n) d) ∧ RowB w'' w'.heap.size g (t + 1 + n) d rr ∧ Below w'.heap.size w' w'') := ⟨fun w' hb => ref_reached w' t n st ex A4 A5 A6 A n4 c4 n5 c5 n6 c6 c rs (Kd.C_below hrs hb) hc hok h1 ht hst rr hrr⟩
  obtain ⟨m, hm⟩ : ∃ m, m = t + 1 + n := ⟨_, rfl⟩
  rw [← hm] at CY CR DY DR hyl hrl
  have HM := Aside0.mk (And.intro hm (And.intro hyl (And.intro hrl ht)))
  clear hrs hc hok h0 hall ht hst hry hrr h1 hyl hrl hm
  go_enter Tryz.func35, Tryz.ntmps35
  go_upto_region 1 with fail
  generalize w.alloc (.cells #[.int .i64 (t : Int), .int .i64 (n : Int), .int .i64 (st : Int), .int .i64 ex, .slice A4 n4 c4, .slice A5 n5 c5, .slice A6 n6 c6, .slice A rs.length c] 32) = W1 at *
  obtain ⟨X, hX⟩ : ∃ X, X = w.heap.size := ⟨_, rfl⟩
  rw [← hX] at hx
  rw [← hX]
  have HX := Aside0.mk hx
  have HB := Aside0.mk hb
  clear hX hb hx
  have x0 := HX.out.c0
  have x1 := HX.out.c1
  have x2 := HX.out.c2
  have x3 := HX.out.c3
  have x4 := HX.out.c4
  have x5 := HX.out.c5
  have x6 := HX.out.c6
  have x7 := HX.out.c7
  go_cut [3, 4] (fun v3 v4 wx => TwoRows W1 m ry rr v3 v4 wx)
  case first =>
    go_region_with (first
      | (go_at_call 58; (with_reducible refine Calls.mono (CY.out _ (below_drew1 HB.out)) ?_); rintro e w5 ⟨g, d, rfl, hr5, hb5⟩; have hh : Below W1.heap.size W1 w5 := (below_drew1 (Below.refl _ _)).trans hb5; have H5 := Aside0.mk (And.intro hr5 hh); have HX5 := Aside0.mk (HX.out.move hh HX.out.lt); have HB5 := Aside0.mk (HB.out.trans (hh.mono HB.out.size)); clear hr5 hb5 hh; have z0 := HX5.out.c0; have z1 := HX5.out.c1; have z2 := HX5.out.c2; have z3 := HX5.out.c3; have z4 := HX5.out.c4; have z5 := HX5.out.c5; have z6 := HX5.out.c6; have z7 := HX5.out.c7)
      | (go_at_call 60; (with_reducible refine Calls.mono (CR.out _ HB5.out) ?_); rintro e w6 ⟨g', d', rfl, hr6, hb6⟩; have H6 := Aside0.mk (And.intro hr6 hb6); clear hr6 hb6))
    all_goals (go_wp2_with fail; go_meet; exact ⟨g, d, g', d', rfl, rfl, Kd.R_lower (H5.out.1.below H6.out.2) (below_drew1 (Below.refl W1.heap.size W1)).size, Kd.R_lower H6.out.1 H5.out.2.size, H5.out.2.trans (H6.out.2.mono H5.out.2.size)⟩)
  case rest =>
    obtain ⟨g, d, g', d', rfl, rfl, hr1, hr2, hb⟩ := hcut
    obtain ⟨W6, rfl⟩ : ∃ x, x = wc := ⟨_, rfl⟩
    have H6 := Aside0.mk (And.intro hr1 (And.intro hr2 hb))
    have HX6 := Aside0.mk (HX.out.move hb HX.out.lt)
    have HB6 := Aside0.mk (HB.out.trans (hb.mono HB.out.size))
    clear hr1 hr2 hb x0 x1 x2 x3 x4 x5 x6 x7
    have x0 := HX6.out.c0
    have x1 := HX6.out.c1
    have x2 := HX6.out.c2
    have x3 := HX6.out.c3
    have x4 := HX6.out.c4
    have x5 := HX6.out.c5
    have x6 := HX6.out.c6
    have x7 := HX6.out.c7
    go_upto_region 2 with fail
    go_cut [5, 6] (fun v5 v6 wx => TwoRows W6 m ry rr v5 v6 wx)
    case first =>
      go_region_with (first
        | (go_at_call 47; (with_reducible refine Calls.mono (DY.out _ (below_drew1 HB6.out)) ?_); rintro e w5 ⟨g5, d5, rfl, hr5, hb5⟩; have hh : Below W6.heap.size W6 w5 := (below_drew1 (Below.refl _ _)).trans hb5; have H5 := Aside0.mk (And.intro hr5 hh); have HX5 := Aside0.mk (HX6.out.move hh HX6.out.lt); have HB5 := Aside0.mk (HB6.out.trans (hh.mono HB6.out.size)); clear hr5 hb5 hh; have z0 := HX5.out.c0; have z1 := HX5.out.c1; have z2 := HX5.out.c2; have z3 := HX5.out.c3; have z4 := HX5.out.c4; have z5 := HX5.out.c5; have z6 := HX5.out.c6; have z7 := HX5.out.c7)
        | (go_at_call 48; (with_reducible refine Calls.mono (DR.out _ HB5.out) ?_); rintro e w6 ⟨g6, d6, rfl, hr6, hb6⟩; have H7 := Aside0.mk (And.intro hr6 hb6); clear hr6 hb6))
      all_goals (go_wp2_with fail; go_meet; exact ⟨g5, d5, g6, d6, rfl, rfl, Kd.R_lower (H5.out.1.below H7.out.2) (below_drew1 (Below.refl W6.heap.size W6)).size, Kd.R_lower H7.out.1 H5.out.2.size, H5.out.2.trans (H7.out.2.mono H5.out.2.size)⟩)
    case rest =>
      obtain ⟨g5, d5, g6, d6, rfl, rfl, hr5, hr6, hb⟩ := hcut
      obtain ⟨W9, rfl⟩ : ∃ x, x = wc := ⟨_, rfl⟩
      have H9 := Aside0.mk (And.intro (H6.out.1.below hb) (And.intro (H6.out.2.1.below hb) (And.intro hr5 hr6)))
      have HB9 := Aside0.mk (HB6.out.trans (hb.mono HB6.out.size))
      clear hr5 hr6 hb x0 x1 x2 x3 x4 x5 x6 x7 CY CR DY DR HX6 H6
      go_wp2_with fail
      go_loopg [7] m (fun kq v7 w' => SetsRel W9 m kq v7 w')
      case atStart => exact ⟨0, by omega, rfl, Below.refl _ _⟩
      case round =>
        obtain ⟨i, hi, rfl, hb⟩ := hrel
        have HI := Aside0.mk hi
        have HBB := Aside0.mk hb
        by_cases hil : i < m
        · have t1 : decide ((i : Int) < (m : Int)) = true := by simp; omega
          have hin : (i : Int) < (m : Int) := by omega
          have hmt : m ≤ 1000001 := by have := HM.out; omega
          have hly : i < ry.length := by have := HM.out; omega
          have hlr : i < rr.length := by have := HM.out; omega
          obtain ⟨p1, _⟩ := (H9.out.1.below hb).at_ i hly
          obtain ⟨p2, _⟩ := (H9.out.2.1.below hb).at_ i (by omega)
          obtain ⟨p3, _⟩ := (H9.out.2.2.1.below hb).at_ i (by omega)
          obtain ⟨p4, _⟩ := (H9.out.2.2.2.below hb).at_ i (by omega)
          generalize ry[i] = b1 at *
          generalize rr[i] = b2 at *
          clear hb
          go_upto_region 8 with fail
          go_quiet (fail)
          go_wp2_with fail
          go_roundg (gk - 1)
          case measure => have := HI.out; omega
          case rel => exact ⟨i + 1, by have := HI.out; omega, by go_num, pw_below_drewN HBB.out _⟩
        · have t1 : decide ((i : Int) < (m : Int)) = false := by simp; omega
          go_wp2_with fail
          go_ret
          exact ⟨rfl, HB9.out.trans (HBB.out.mono HB9.out.size)⟩
end Go.Proofs.YtjhemobplcelbaaGreatDoor.U
