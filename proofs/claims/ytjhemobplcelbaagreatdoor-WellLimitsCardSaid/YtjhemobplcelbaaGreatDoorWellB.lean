/- well: the reference's Yields. -/
import Derived.Test.YtjhemobplcelbaaGreatDoorWellA
namespace Go.Proofs.YtjhemobplcelbaaGreatDoor.U
open Go.RowKit Go.Proofs.YtjhemobplcelbaaGreatDoorW.PrintWords Go.Proofs.YtjhemobplcelbaaGreatDoorW.PrintLast Go.Proofs.YtjhemobplcelbaaGreatDoorW.PrintMore
set_option linter.unusedVariables false
set_option linter.unusedSimpArgs false
def y0 (t n : Nat) : List Bool := List.replicate t true ++ List.replicate (1 + n) false
def TokRel (W1 : World) (g m c t : Nat) (kq : Nat) (v : Value) (w' : World) : Prop := ∃ i : Nat, i + kq = t ∧ v = .int .i64 (i : Int) ∧ RowB w' W1.heap.size g m c (List.replicate i true ++ List.replicate (m - i) false) ∧ Below W1.heap.size W1 w'
theorem tok_step (i m : Nat) (h : i < m) : (List.replicate i true ++ List.replicate (m - i) false).set i true = List.replicate (i + 1) true ++ List.replicate (m - (i + 1)) false := by
  refine List.ext_getElem (by simp; omega) (fun j h1 h2 => ?_)
  rw [List.getElem_set]
  split
  · subst_vars
    rw [List.getElem_append_left (by simp), List.getElem_replicate]
  · rename_i hne
    by_cases hj : j < i
    · rw [List.getElem_append_left (by simpa using hj), List.getElem_append_left (by simp; omega), List.getElem_replicate, List.getElem_replicate]
    · rw [List.getElem_append_right (by simp; omega), List.getElem_append_right (by simp; omega), List.getElem_replicate, List.getElem_replicate]
/-- The outer loop: what is so far leads to r. -/
def OutRel (W1 : World) (g m c : Nat) (pass : List Bool → List Bool × Bool) (r : List Bool) (kq : Nat) (v : Value) (w' : World) : Prop := ∃ (y : List Bool) (more : Bool), v = .bool more ∧ RowB w' W1.heap.size g m c y ∧ (more = true → cnt y + 1 ≤ kq ∧ FixP pass y r) ∧ (more = false → y = r) ∧ Below W1.heap.size W1 w'
/-- The loop over the rules: from the i-th on. -/
def RulesRel (W1 : World) (g m c : Nat) (step : List Bool × Bool → SR → List Bool × Bool) (rs : List SR) (p : List Bool × Bool) (off : Nat) (kq : Nat) (v vm : Value) (w' : World) : Prop := ∃ (i : Nat) (q : List Bool × Bool), i + kq = rs.length ∧ v = .int .i64 ((i + off : Nat) : Int) ∧ vm = .bool q.2 ∧ RowB w' W1.heap.size g m c q.1 ∧ p = (rs.drop i).foldl step q ∧ Below W1.heap.size W1 w'
def AllRel (W1 : World) (g m c : Nat) (y : List Bool) (f1 : List Int) (kq : Nat) (v vm : Value) (w' : World) : Prop := ∃ (i : Nat) (b : Bool), i + kq = f1.length ∧ v = .int .i64 (i : Int) ∧ vm = .bool b ∧ RowB w' W1.heap.size g m c y ∧ (b && (f1.drop i).all (gt y)) = f1.all (gt y) ∧ Below W1.heap.size W1 w'
theorem gt_at {y : List Bool} {x : Int} (i : Nat) (hx : x = (i : Int)) (hi : i < y.length) : gt y x = y[i] := by subst hx; simp [gt, List.getD, hi]
theorem FixP.inv {pass : List Bool → List Bool × Bool} {y r : List Bool} (h : FixP pass y r) : ((pass y).2 = false → r = (pass y).1) ∧ ((pass y).2 = true → FixP pass (pass y).1 r) := by
  cases h with
  | stop h => exact ⟨fun _ => rfl, fun h2 => (by rw [h] at h2; cases h2)⟩
  | go h k => exact ⟨fun h2 => (by rw [h] at h2; cases h2), fun _ => k⟩
theorem tail_at {α : Type} (rs : List α) (i : Nat) (h : i < rs.tail.length) : ∃ h2 : i + 1 < rs.length, rs.tail[i] = rs[i + 1] := by
  cases rs with
  | nil => exact absurd h (Nat.not_lt_zero i)
  | cons r rs => exact ⟨by simpa using h, rfl⟩
set_option maxRecDepth 100000 in
set_option maxHeartbeats 4000000 in
theorem ref_yields (w : World) (t n st : Nat) (ex : Int) (A4 A5 A6 A : Option Addr) (n4 c4 n5 c5 n6 c6 c : Nat) (rs : List SR) (hrs : Kd.C kSR w A rs.length rs) (hc : rs.length ≤ c) (hok : ∀ r ∈ rs.tail, okRule (t + 1 + n) r) (h1 : 1 ≤ rs.length) (ht : t + n ≤ 1000000) (res : List Bool) (hres : FixP (passY rs.tail) (y0 t n) res) :
    Calls Tryz.prog 47 #[.agg #[.int .i64 (t : Int), .int .i64 (n : Int), .int .i64 (st : Int), .int .i64 ex, .slice A4 n4 c4, .slice A5 n5 c5, .slice A6 n6 c6, .slice A rs.length c]] w fun e w' => ∃ g d, e = .returned (.slice (some ⟨g, 0, none⟩) (t + 1 + n) d) ∧ RowB w' w.heap.size g (t + 1 + n) d res ∧ Below w.heap.size w w' := by
  have hb := below_alloc (Below.refl w.heap.size w) (.cells #[.int .i64 (t : Int), .int .i64 (n : Int), .int .i64 (st : Int), .int .i64 ex, .slice A4 n4 c4, .slice A5 n5 c5, .slice A6 n6 c6, .slice A rs.length c] 32)
  have hx : SBox (w.alloc (.cells #[.int .i64 (t : Int), .int .i64 (n : Int), .int .i64 (st : Int), .int .i64 ex, .slice A4 n4 c4, .slice A5 n5 c5, .slice A6 n6 c6, .slice A rs.length c] 32)) w.heap.size t n st ex _ _ _ _ := SBox.new w
  obtain ⟨m, hm⟩ : ∃ m, m = t + 1 + n := ⟨_, rfl⟩
  have hw1 : IntKind.i64.wrap ((t : Int) + 1) = ((t + 1 : Nat) : Int) := by rw [IntKind.wrap_i64]; omega
  have hw2 : IntKind.i64.wrap (((t + 1 : Nat) : Int) + (n : Int)) = (m : Int) := by rw [IntKind.wrap_i64]; omega
  have hw3 : IntKind.i64.wrap ((t : Int) + 1 + (n : Int)) = (m : Int) := by rw [IntKind.wrap_i64]; omega
  have HC := Aside0.mk (Kd.C_below hrs hb)
  have HOK := Aside0.mk (And.intro hok (And.intro h1 (And.intro ht hres)))
  have HM := Aside0.mk hm
  rw [← hm]
  clear hok h1 ht hres hrs hm
  go_enter Tryz.func47, Tryz.ntmps47
  go_upto_region 1 with fail
  generalize w.alloc (.cells #[.int .i64 (t : Int), .int .i64 (n : Int), .int .i64 (st : Int), .int .i64 ex, .slice A4 n4 c4, .slice A5 n5 c5, .slice A6 n6 c6, .slice A rs.length c] 32) = W1 at *
  obtain ⟨X, hX⟩ : ∃ X, X = w.heap.size := ⟨_, rfl⟩
  rw [← hX] at hx
  rw [← hX]
  have HX := Aside0.mk hx
  have HB := Aside0.mk hb
  have HXX := Aside0.mk hX
  have x0 := hx.c0
  have x1 := hx.c1
  clear hX hb hx
  go_wp2_with (first
    | ((with_reducible refine gate_dst (N := 15) rfl ?_); refine Kd.R_make Kd.bool (w0 := W1) W1.heap.size 4 rfl (N := 15) rfl 83 (.tmp 14) (.tmp 14) rfl (m : Int) ?hx1 ?hx2 Tryz.underlying83 (.bool false) 1 info4 rfl (by decide) (by decide) false (ok := fun _ => True) (okp := fun _ => True) rfl (fun _ h => h) trivial (by omega) (by have := HM.out; have := HOK.out.2.2.1; omega) (Below.refl _ _) (Nat.le_refl _) ?_; (case hx1 => go_simp); (case hx2 => go_simp); intro v1 w2 ho2 hb2 hg2 hn2; clear hg2 hn2; have HO := Aside0.mk ho2; have HB2 := Aside0.mk hb2; clear ho2 hb2))
  have hO2 : Kd.R Kd.bool 4 w2 W1.heap.size (fun _ => True) v1 (List.replicate m false) := by simpa using HO.out
  obtain ⟨g, cap, rfl, _, _, _⟩ := Kd.R_form hO2 (by have := HM.out; simp; omega)
  simp only [List.length_replicate] at hO2 ⊢
  have HR0 : Aside0 (RowB w2 W1.heap.size g m cap (List.replicate m false)) := ⟨hO2⟩
  have HTN := Aside0.mk HOK.out.2.2.1
  clear hO2 HO x0 x1
  have x0 := (HX.out.move HB2.out HX.out.lt).c0
  have htn := HTN.out
  go_wp2_with fail
  go_loopg [4] t (fun kq v4 w' => TokRel W1 g m cap t kq v4 w')
  case atStart => exact ⟨0, by omega, rfl, by simpa using HR0.out, HB2.out⟩
  case round =>
    obtain ⟨i, hi, rfl, hr, hb⟩ := hrel
    have HI := Aside0.mk hi
    have HR := Aside0.mk (And.intro hr hb)
    have z0 := (HX.out.move hb HX.out.lt).c0
    have hmt := HM.out
    clear x0
    by_cases hil : i < t
    · have t1 : decide ((i : Int) < (t : Int)) = true := by simp; omega
      obtain ⟨p1, p2⟩ := hr.at_ i (by simp; omega)
      have him : (i : Int) < (m : Int) := by omega
      clear hb
      go_wp2_with fail
      go_roundg (gk - 1)
      case measure => have := HI.out; omega
      case rel => exact ⟨i + 1, by have := HI.out; omega, by go_num, by rw [← tok_step i m (by omega)]; exact HR.out.1.set i (by simp; omega) true, HR.out.2.setCell (p := ⟨g, i, none⟩) HR.out.1.low _⟩
    · have t1 : decide ((i : Int) < (t : Int)) = false := by simp; omega
      have hit : i = t := by omega
      have hy0 : List.replicate i true ++ List.replicate (m - i) false = y0 t n := by rw [hit, hmt, show t + 1 + n - t = 1 + n by omega]; rfl
      rw [hy0] at hr
      have HY0 := Aside0.mk (And.intro hr hb)
      clear hi hr hb hy0 HR HI hit hmt
      go_wp2_with fail
      clear t1 z0 hil
      go_loopg [5] (cnt (y0 t n) + 1) (fun kq v5 w' => OutRel W1 g m cap (passY rs.tail) res kq v5 w')
      case atStart => exact ⟨y0 t n, true, rfl, HY0.out.1, fun _ => ⟨Nat.le_refl _, HOK.out.2.2.2⟩, fun h => (by cases h), HY0.out.2⟩
      case round =>
        obtain ⟨y, more, rfl, hr, hm1, hm2, hb⟩ := hrel
        have HY := Aside0.mk (And.intro hr hb)
        cases more with
        | false =>
          have hy := hm2 rfl
          subst hy
          clear hr hm1 hm2 hb
          go_wp2_with fail
          go_ret
          exact ⟨g, cap, rfl, Kd.R_lower HY.out.1 HB.out.size, HB.out.trans (HY.out.2.mono HB.out.size)⟩
        | true =>
          obtain ⟨hm3, hm4⟩ := hm1 rfl
          have HF := Aside0.mk (And.intro hm3 hm4)
          obtain ⟨gko, hgko⟩ : ∃ x, x = gk := ⟨_, rfl⟩
          have HGO := Aside0.mk hgko
          clear hgko
          have z7 := (HX.out.move hb HX.out.lt).c7
          have hrl : ((rs.tail.length + 1 : Nat) : Int) = (rs.length : Int) := by have := HOK.out.2.1; simp; omega
          clear hr hm1 hm2 hb hm3 hm4
          go_wp2_with fail
          go_loopg [5, 6] rs.tail.length (fun kq v5 v6 w' => RulesRel W1 g m cap stepY rs.tail (passY rs.tail y) 1 kq v6 v5 w')
          case atStart => exact ⟨0, (y, false), by omega, rfl, rfl, HY.out.1, rfl, HY.out.2⟩
          case round =>
            obtain ⟨i, q, hi, rfl, rfl, hr, hp, hb⟩ := hrel
            have HI := Aside0.mk hi
            have HQ := Aside0.mk (And.intro hr (And.intro hp hb))
            have z8 := (HX.out.move hb HX.out.lt).c7
            have hrl := hrl
            clear z7 hi hr hp hb
            by_cases hil : i < rs.tail.length
            · have t1 : decide (((i + 1 : Nat) : Int) < (rs.length : Int)) = true := by simp; omega
              obtain ⟨hi1, hri⟩ := tail_at rs i hil
              have hin : ((i + 1 : Nat) : Int) < (rs.length : Int) := by omega
              obtain ⟨ad, A1, c1, rfl, r0, r1, _, _, hl1, hrr⟩ := rule_at HC.out (i + 1) hi1
              obtain ⟨⟨hf0, hf1⟩, hfx⟩ := HOK.out.1 rs.tail[i] (List.getElem_mem hil)
              rw [hri] at hf0 hf1 hfx
              have HST : Aside0 (passY rs.tail y = (rs.tail.drop (i + 1)).foldl stepY (stepY q rs[i + 1])) := ⟨by rw [HQ.out.2.1, List.drop_eq_getElem_cons hil, List.foldl_cons, hri]⟩
              generalize rs[i + 1] = rr at *
              obtain ⟨rl, rt, rv, ra⟩ := rr
              simp only at r0 r1 hl1 hrr hf0 hf1 hfx
              obtain ⟨l0, rfl⟩ : ∃ l0 : Nat, rl = (l0 : Int) := ⟨rl.toNat, by omega⟩
              have HRW := Aside0.mk (And.intro hrr (And.intro hl1 hfx))
              have HRC := Aside0.mk (And.intro r0 r1)
              have r0 := pw_cell_below HQ.out.2.2 HRC.out.1
              have r1 := pw_cell_below HQ.out.2.2 HRC.out.2
              have HL0 : Aside0 (l0 < m) := ⟨by have := HM.out; omega⟩
              have HI1 := Aside0.mk (And.intro hi1 hil)
              clear hrr hl1 hfx hf0 hf1 hri
              obtain ⟨i1, he1⟩ : ∃ i1, i1 = i + 1 := ⟨_, rfl⟩
              have HE1 := Aside0.mk he1
              rw [← he1] at t1 hin r0 r1 hi1 HRC
              rw [← he1]
              obtain ⟨gkr, hgkr⟩ : ∃ x, x = gk := ⟨_, rfl⟩
              have HGR := Aside0.mk hgkr
              clear he1 hgkr
              go_wp2_with fail
              go_loopg [7, 8] rt.length (fun kq v7 v8 w' => AllRel W1 g m cap q.1 rt kq v8 v7 w')
              case atStart => exact ⟨0, true, by omega, rfl, rfl, HQ.out.1, by simp, HQ.out.2.2⟩
              case round =>
                obtain ⟨j, b, hj, rfl, rfl, hr, ha, hb⟩ := hrel
                have HJ := Aside0.mk hj
                have HA := Aside0.mk (And.intro hr (And.intro ha hb))
                have z9 := (HX.out.move hb HX.out.lt).c7
                have r0' := pw_cell_below hb HRC.out.1
                have r1' := pw_cell_below hb HRC.out.2
                have hjl := HRW.out.1.2.1
                clear z8 r0 r1 hj hr ha hb
                by_cases hjt : j < rt.length
                · have t2 : decide ((j : Int) < (rt.length : Int)) = true := by simp; omega
                  have hjt2 : (j : Int) < (rt.length : Int) := by omega
                  obtain ⟨bd, rfl, hc1⟩ := int_at HRW.out.1 j hjt
                  have hc2 := pw_cell_below HA.out.2.2 hc1
                  have hxr := HRW.out.2.2 rt[j] (List.getElem_mem hjt)
                  have hall : (rt.drop j).all (gt q.1) = (gt q.1 rt[j] && (rt.drop (j + 1)).all (gt q.1)) := by rw [List.drop_eq_getElem_cons hjt, List.all_cons]
                  have HAL := Aside0.mk hall
                  clear hall hc1
                  generalize rt[j] = x at *
                  obtain ⟨k, rfl⟩ : ∃ k : Nat, x = (k : Int) := ⟨x.toNat, by omega⟩
                  have hkm : k < m := by have := HM.out; omega
                  have hkm2 : (k : Int) < (m : Int) := by omega
                  have hql : k < q.1.length := by have := HA.out.1.len; omega
                  obtain ⟨p1, p2⟩ := HA.out.1.at_ k hql
                  have HG := Aside0.mk (gt_at (y := q.1) k rfl hql)
                  generalize q.1[k] = bk at *
                  clear hxr
                  cases b with
                  | false =>
                    go_wp2_with fail
                    go_roundg (gk - 1)
                    case measure => have := HJ.out; omega
                    case rel => exact ⟨j + 1, false, by have := HJ.out; omega, by go_num, rfl, HA.out.1, by have := HA.out.2.1; simpa using this, HA.out.2.2⟩
                  | true =>
                    go_wp2_with fail
                    go_roundg (gk - 1)
                    case measure => have := HJ.out; omega
                    case rel => exact ⟨j + 1, bk, by have := HJ.out; omega, by go_num, rfl, HA.out.1, by have := HA.out.2.1; rw [HAL.out, HG.out] at this; simpa using this, HA.out.2.2⟩
                · have t2 : decide ((j : Int) < (rt.length : Int)) = false := by simp; omega
                  have hb1 : b = rt.all (gt q.1) := by
                    have := HA.out.2.1
                    rw [List.drop_of_length_le (by omega)] at this
                    simpa using this
                  have hl0 := HL0.out
                  have hl02 : (l0 : Int) < (m : Int) := by omega
                  have hql : l0 < q.1.length := by have := HA.out.1.len; omega
                  obtain ⟨p1, p2⟩ := HA.out.1.at_ l0 hql
                  have HG := Aside0.mk (gt_at (y := q.1) l0 rfl hql)
                  generalize q.1[l0] = bl at *
                  have HS : Aside0 (stepY q ⟨(l0 : Int), rt, rv, ra⟩ = if (b && !bl) = true then (q.1.set l0 true, true) else q) := ⟨by unfold stepY; rw [HG.out, ← hb1]; rfl⟩
                  clear hb1
                  cases b with
                  | false =>
                    go_wp2_with fail
                    go_roundg (gkr - 1)
                    case measure => have := HI.out; have := HGR.out; have := HI1.out; omega
                    case rel => exact ⟨i + 1, q, by have := HI.out; have := HGR.out; have := HI1.out; omega, by have h1 := HE1.out; have h2 := HC.out.2.1; have h3 := HI1.out.1; congr 1; unfold wrap64; omega, rfl, HA.out.1, by rw [HST.out, HS.out]; rfl, HA.out.2.2⟩
                  | true =>
                    cases bl with
                    | true =>
                      go_wp2_with fail
                      go_roundg (gkr - 1)
                      case measure => have := HI.out; have := HGR.out; have := HI1.out; omega
                      case rel => exact ⟨i + 1, q, by have := HI.out; have := HGR.out; have := HI1.out; omega, by have h1 := HE1.out; have h2 := HC.out.2.1; have h3 := HI1.out.1; congr 1; unfold wrap64; omega, rfl, HA.out.1, by rw [HST.out, HS.out]; rfl, HA.out.2.2⟩
                    | false =>
                      go_wp2_with fail
                      go_roundg (gkr - 1)
                      case measure => have := HI.out; have := HGR.out; have := HI1.out; omega
                      case rel => exact ⟨i + 1, (q.1.set l0 true, true), by have := HI.out; have := HGR.out; have := HI1.out; omega, by have h1 := HE1.out; have h2 := HC.out.2.1; have h3 := HI1.out.1; congr 1; unfold wrap64; omega, rfl, HA.out.1.set l0 hql true, by rw [HST.out, HS.out]; rfl, HA.out.2.2.setCell (p := ⟨g, l0, none⟩) HA.out.1.low _⟩
            · have t1 : decide (((i + 1 : Nat) : Int) < (rs.length : Int)) = false := by simp; omega
              have hq : passY rs.tail y = q := by rw [HQ.out.2.1, List.drop_of_length_le (by omega)]; rfl
              have HP := Aside0.mk hq
              clear hq
              go_wp2_with fail
              go_roundg (gko - 1)
              case measure => have := HF.out.1; have := HGO.out; omega
              case rel =>
                have hk := keptY HOK.out.1 y (by have := HY.out.1.len; have := HM.out; omega)
                obtain ⟨i1, i2⟩ := HF.out.2.inv
                rw [HP.out] at hk i1 i2
                refine ⟨q.1, q.2, rfl, HQ.out.1, fun h => ⟨?_, i2 h⟩, fun h => (i1 h).symm, HQ.out.2.2⟩
                have h1 := HF.out.1
                have h2 := HGO.out
                rcases hk.2.2.2 h with h3 | h3
                · cases h3
                · simp only at h3; omega
end Go.Proofs.YtjhemobplcelbaaGreatDoor.U
