/- well: the reference's Reached. -/
import Derived.Test.YtjhemobplcelbaaGreatDoorWellB
namespace Go.Proofs.YtjhemobplcelbaaGreatDoor.U
open Go.RowKit Go.Proofs.YtjhemobplcelbaaGreatDoorW.PrintWords Go.Proofs.YtjhemobplcelbaaGreatDoorW.PrintLast Go.Proofs.YtjhemobplcelbaaGreatDoorW.PrintMore
set_option linter.unusedVariables false
set_option linter.unusedSimpArgs false
def r0 (t n st : Nat) : List Bool := (List.replicate (t + 1 + n) false).set st true
def InRel (W1 : World) (g m c : Nat) (l0 : Int) (rt : List Int) (q : List Bool × Bool) (kq : Nat) (v vm : Value) (w' : World) : Prop := ∃ (j : Nat) (q2 : List Bool × Bool), j + kq = rt.length ∧ v = .int .i64 (j : Int) ∧ vm = .bool q2.2 ∧ RowB w' W1.heap.size g m c q2.1 ∧ gt q2.1 l0 = gt q.1 l0 ∧ (gt q.1 l0 = true → rt.foldl setS q = (rt.drop j).foldl setS q2) ∧ (gt q.1 l0 = false → q2 = q) ∧ Below W1.heap.size W1 w'
theorem gt_set {y : List Bool} {i : Int} (h : gt y i = true) (k : Nat) : gt (y.set k true) i = true := by
  unfold gt at *
  rw [List.getD_eq_getElem?_getD] at *
  rw [List.getElem?_set]
  split
  · split
    · rfl
    · rename_i h1 h2; rw [← h1, List.getElem?_eq_none (by omega)] at h; exact h
  · exact h
set_option maxRecDepth 100000 in
set_option maxHeartbeats 4000000 in
theorem ref_reached (w : World) (t n st : Nat) (ex : Int) (A4 A5 A6 A : Option Addr) (n4 c4 n5 c5 n6 c6 c : Nat) (rs : List SR) (hrs : Kd.C kSR w A rs.length rs) (hc : rs.length ≤ c) (hok : ∀ r ∈ rs.tail, okRule (t + 1 + n) r) (h1 : 1 ≤ rs.length) (ht : t + n ≤ 1000000) (hst : st < t + 1 + n) (res : List Bool) (hres : FixP (passR rs.tail) (r0 t n st) res) :
    Calls Tryz.prog 48 #[.agg #[.int .i64 (t : Int), .int .i64 (n : Int), .int .i64 (st : Int), .int .i64 ex, .slice A4 n4 c4, .slice A5 n5 c5, .slice A6 n6 c6, .slice A rs.length c]] w fun e w' => ∃ g d, e = .returned (.slice (some ⟨g, 0, none⟩) (t + 1 + n) d) ∧ RowB w' w.heap.size g (t + 1 + n) d res ∧ Below w.heap.size w w' := by
  have hb := below_alloc (Below.refl w.heap.size w) (.cells #[.int .i64 (t : Int), .int .i64 (n : Int), .int .i64 (st : Int), .int .i64 ex, .slice A4 n4 c4, .slice A5 n5 c5, .slice A6 n6 c6, .slice A rs.length c] 32)
  have hx : SBox (w.alloc (.cells #[.int .i64 (t : Int), .int .i64 (n : Int), .int .i64 (st : Int), .int .i64 ex, .slice A4 n4 c4, .slice A5 n5 c5, .slice A6 n6 c6, .slice A rs.length c] 32)) w.heap.size t n st ex _ _ _ _ := SBox.new w
  obtain ⟨m, hm⟩ : ∃ m, m = t + 1 + n := ⟨_, rfl⟩
  have hw1 : IntKind.i64.wrap ((t : Int) + 1) = ((t + 1 : Nat) : Int) := by rw [IntKind.wrap_i64]; omega
  have hw2 : IntKind.i64.wrap (((t + 1 : Nat) : Int) + (n : Int)) = (m : Int) := by rw [IntKind.wrap_i64]; omega
  have hw3 : IntKind.i64.wrap ((t : Int) + 1 + (n : Int)) = (m : Int) := by rw [IntKind.wrap_i64]; omega
  have HC := Aside0.mk (Kd.C_below hrs hb)
  have HOK := Aside0.mk (And.intro hok (And.intro h1 (And.intro ht (And.intro hst hres))))
  have HM := Aside0.mk hm
  rw [← hm]
  clear hok h1 ht hst hres hrs hm
  go_enter Tryz.func48, Tryz.ntmps48
  go_upto_region 1 with fail
  generalize w.alloc (.cells #[.int .i64 (t : Int), .int .i64 (n : Int), .int .i64 (st : Int), .int .i64 ex, .slice A4 n4 c4, .slice A5 n5 c5, .slice A6 n6 c6, .slice A rs.length c] 32) = W1 at *
  obtain ⟨X, hX⟩ : ∃ X, X = w.heap.size := ⟨_, rfl⟩
  rw [← hX] at hx
  rw [← hX]
  have HX := Aside0.mk hx
  have HB := Aside0.mk hb
  have HXX := Aside0.mk hX
  have x0 := hx.c0
  have x1 := hx.c1
  clear hX hb hx
  go_upto_region 2 with (first
    | ((with_reducible refine gate_dst (N := 14) rfl ?_); refine Kd.R_make Kd.bool (w0 := W1) W1.heap.size 4 rfl (N := 14) rfl 83 (.tmp 13) (.tmp 13) rfl (m : Int) ?hx1 ?hx2 Tryz.underlying83 (.bool false) 1 info4 rfl (by decide) (by decide) false (ok := fun _ => True) (okp := fun _ => True) rfl (fun _ h => h) trivial (by omega) (by have := HM.out; have := HOK.out.2.2.1; omega) (Below.refl _ _) (Nat.le_refl _) ?_; (case hx1 => go_simp); (case hx2 => go_simp); intro v1 w2 ho2 hb2 hg2 hn2; clear hg2 hn2; have HO := Aside0.mk ho2; have HB2 := Aside0.mk hb2; clear ho2 hb2))
  have hO2 : Kd.R Kd.bool 4 w2 W1.heap.size (fun _ => True) v1 (List.replicate m false) := by simpa using HO.out
  obtain ⟨g, cap, rfl, _, _, _⟩ := Kd.R_form hO2 (by have := HM.out; simp; omega)
  simp only [List.length_replicate] at hO2 ⊢
  have hR0 : RowB w2 W1.heap.size g m cap (List.replicate m false) := hO2
  have hstm : st < m := by have := HOK.out.2.2.2.1; have := HM.out; omega
  have hstm2 : (st : Int) < (m : Int) := by omega
  obtain ⟨p1, p2⟩ := hR0.at_ st (by simpa using hstm)
  have HR1 : Aside0 (RowB (w2.setCell ⟨g, st, none⟩ (.bool true)) W1.heap.size g m cap (r0 t n st) ∧ Below W1.heap.size W1 (w2.setCell ⟨g, st, none⟩ (.bool true))) := ⟨by unfold r0; rw [← HM.out]; exact hR0.set st (by simpa using hstm) true, HB2.out.setCell (p := ⟨g, st, none⟩) hR0.low _⟩
  clear hO2 HO x0 x1
  have x2 := (HX.out.move HB2.out HX.out.lt).c2
  clear hR0
  go_wp2_with fail
  generalize w2.setCell ⟨g, st, none⟩ (.bool true) = W2 at *
  clear p1 p2 x2
  go_loopg [4] (cnt (r0 t n st) + 1) (fun kq v4 w' => OutRel W1 g m cap (passR rs.tail) res kq v4 w')
  case atStart => exact ⟨r0 t n st, true, rfl, HR1.out.1, fun _ => ⟨Nat.le_refl _, HOK.out.2.2.2.2⟩, fun h => (by cases h), HR1.out.2⟩
  case round =>
    obtain ⟨y, more, rfl, hr, hm1, hm2, hb⟩ := hrel
    have HY := Aside0.mk (And.intro hr hb)
    cases more with
    | false =>
      have hy := hm2 rfl
      subst hy
      clear hr hm1 hm2 hb
      go_wp2_with fail
      go_ret
      exact ⟨g, cap, rfl, Kd.R_lower HY.out.1 HB.out.size, HB.out.trans (HY.out.2.mono HB.out.size)⟩
    | true =>
      obtain ⟨hm3, hm4⟩ := hm1 rfl
      have HF := Aside0.mk (And.intro hm3 hm4)
      obtain ⟨gko, hgko⟩ : ∃ x, x = gk := ⟨_, rfl⟩
      have HGO := Aside0.mk hgko
      clear hgko
      have z7 := (HX.out.move hb HX.out.lt).c7
      have hrl : ((rs.tail.length + 1 : Nat) : Int) = (rs.length : Int) := by have := HOK.out.2.1; simp; omega
      clear hr hm1 hm2 hb hm3 hm4
      go_wp2_with fail
      go_loopg [4, 5] rs.tail.length (fun kq v4 v5 w' => RulesRel W1 g m cap stepR rs.tail (passR rs.tail y) 1 kq v5 v4 w')
      case atStart => exact ⟨0, (y, false), by omega, rfl, rfl, HY.out.1, rfl, HY.out.2⟩
      case round =>
        obtain ⟨i, q, hi, rfl, rfl, hr, hp, hb⟩ := hrel
        have HI := Aside0.mk hi
        have HQ := Aside0.mk (And.intro hr (And.intro hp hb))
        have z8 := (HX.out.move hb HX.out.lt).c7
        clear z7 hi hr hp hb
        by_cases hil : i < rs.tail.length
        · have t1 : decide (((i + 1 : Nat) : Int) < (rs.length : Int)) = true := by simp; omega
          obtain ⟨hi1, hri⟩ := tail_at rs i hil
          have hin : ((i + 1 : Nat) : Int) < (rs.length : Int) := by omega
          obtain ⟨ad, A1, c1, rfl, r0, r1, _, _, hl1, hrr⟩ := rule_at HC.out (i + 1) hi1
          obtain ⟨⟨hf0, hf1⟩, hfx⟩ := HOK.out.1 rs.tail[i] (List.getElem_mem hil)
          rw [hri] at hf0 hf1 hfx
          have HST : Aside0 (passR rs.tail y = (rs.tail.drop (i + 1)).foldl stepR (stepR q rs[i + 1])) := ⟨by rw [HQ.out.2.1, List.drop_eq_getElem_cons hil, List.foldl_cons, hri]⟩
          generalize rs[i + 1] = rr at *
          obtain ⟨rl, rt, rv, ra⟩ := rr
          simp only at r0 r1 hl1 hrr hf0 hf1 hfx
          obtain ⟨l0, rfl⟩ : ∃ l0 : Nat, rl = (l0 : Int) := ⟨rl.toNat, by omega⟩
          have HRW := Aside0.mk (And.intro hrr (And.intro hl1 hfx))
          have HRC := Aside0.mk (And.intro r0 r1)
          have HL0 : Aside0 (l0 < m) := ⟨by have := HM.out; omega⟩
          have HI1 := Aside0.mk (And.intro hi1 hil)
          clear hrr hl1 hfx hf0 hf1 hri r0 r1
          obtain ⟨i1, he1⟩ : ∃ i1, i1 = i + 1 := ⟨_, rfl⟩
          have HE1 := Aside0.mk he1
          rw [← he1] at t1 hin hi1 HRC
          rw [← he1]
          obtain ⟨gkr, hgkr⟩ : ∃ x, x = gk := ⟨_, rfl⟩
          have HGR := Aside0.mk hgkr
          clear he1 hgkr
          go_wp2_with fail
          go_loopg [4, 6] rt.length (fun kq v4 v6 w' => InRel W1 g m cap l0 rt q kq v6 v4 w')
          case atStart => exact ⟨0, q, by omega, rfl, rfl, HQ.out.1, rfl, fun _ => rfl, fun _ => rfl, HQ.out.2.2⟩
          case round =>
            obtain ⟨j, q2, hj, rfl, rfl, hr, ha, hb1, hb2, hb⟩ := hrel
            have HJ := Aside0.mk hj
            have HA := Aside0.mk (And.intro hr (And.intro ha (And.intro hb1 (And.intro hb2 hb))))
            have z9 := (HX.out.move hb HX.out.lt).c7
            have r0' := pw_cell_below hb HRC.out.1
            have r1' := pw_cell_below hb HRC.out.2
            have hjl := HRW.out.1.2.1
            have hl0 := HL0.out
            have hl02 : (l0 : Int) < (m : Int) := by omega
            have hql : l0 < q2.1.length := by have := hr.len; omega
            obtain ⟨p1, p2⟩ := hr.at_ l0 hql
            have HG := Aside0.mk (gt_at (y := q2.1) l0 rfl hql)
            generalize q2.1[l0] = bl at *
            have HGQ : Aside0 (gt q.1 (l0 : Int) = bl) := ⟨by rw [← ha]; exact HG.out⟩
            clear z8 hj hr ha hb1 hb2 hb
            cases bl with
            | false =>
              have HS : Aside0 (stepR q ⟨(l0 : Int), rt, rv, ra⟩ = q2) := ⟨by unfold stepR; rw [if_neg (by rw [HGQ.out]; decide), HA.out.2.2.2.1 HGQ.out]⟩
              go_wp2_with fail
              go_roundg (gkr - 1)
              case measure => have := HI.out; have := HGR.out; have := HI1.out; omega
              case rel => exact ⟨i + 1, q2, by have := HI.out; have := HGR.out; have := HI1.out; omega, by have h1 := HE1.out; have h2 := HC.out.2.1; have h3 := HI1.out.1; congr 1; unfold wrap64; omega, rfl, HA.out.1, by rw [HST.out, HS.out], HA.out.2.2.2.2⟩
            | true =>
              by_cases hjt : j < rt.length
              · have t2 : decide ((j : Int) < (rt.length : Int)) = true := by simp; omega
                have hjt2 : (j : Int) < (rt.length : Int) := by omega
                obtain ⟨bd, rfl, hc1⟩ := int_at HRW.out.1 j hjt
                have hc2 := pw_cell_below HA.out.2.2.2.2 hc1
                have hxr := HRW.out.2.2 rt[j] (List.getElem_mem hjt)
                have hall : (rt.drop j).foldl setS q2 = (rt.drop (j + 1)).foldl setS (setS q2 rt[j]) := by rw [List.drop_eq_getElem_cons hjt, List.foldl_cons]
                have HAL := Aside0.mk (And.intro hall hjt)
                clear hall hc1
                generalize rt[j] = x at *
                obtain ⟨k, rfl⟩ : ∃ k : Nat, x = (k : Int) := ⟨x.toNat, by omega⟩
                have hkm : k < m := by have := HM.out; omega
                have hkm2 : (k : Int) < (m : Int) := by omega
                have hqk : k < q2.1.length := by have := HA.out.1.len; omega
                obtain ⟨p3, p4⟩ := HA.out.1.at_ k hqk
                have HGK := Aside0.mk (gt_at (y := q2.1) k rfl hqk)
                generalize q2.1[k] = bk at *
                clear hxr
                cases bk with
                | true =>
                  have HS : Aside0 (setS q2 (k : Int) = q2) := ⟨by unfold setS; rw [if_pos HGK.out]⟩
                  go_wp2_with fail
                  go_roundg (gk - 1)
                  case measure => have := HJ.out; have := HAL.out.2; omega
                  case rel => exact ⟨j + 1, q2, by have := HJ.out; have := HAL.out.2; omega, by go_num, rfl, HA.out.1, HA.out.2.1, fun h => by rw [HA.out.2.2.1 h, HAL.out.1, HS.out], HA.out.2.2.2.1, HA.out.2.2.2.2⟩
                | false =>
                  have HS : Aside0 (setS q2 (k : Int) = (q2.1.set k true, true)) := ⟨by unfold setS; rw [if_neg (by rw [HGK.out]; decide)]; rfl⟩
                  go_wp2_with fail
                  go_roundg (gk - 1)
                  case measure => have := HJ.out; have := HAL.out.2; omega
                  case rel => exact ⟨j + 1, (q2.1.set k true, true), by have := HJ.out; have := HAL.out.2; omega, by go_num, rfl, HA.out.1.set k hqk true, by rw [HGQ.out]; exact gt_set HG.out k, fun h => by rw [HA.out.2.2.1 h, HAL.out.1, HS.out], fun h => (by rw [HGQ.out] at h; cases h), HA.out.2.2.2.2.setCell (p := ⟨g, k, none⟩) HA.out.1.low _⟩
              · have t2 : decide ((j : Int) < (rt.length : Int)) = false := by simp; omega
                have HS : Aside0 (stepR q ⟨(l0 : Int), rt, rv, ra⟩ = q2) := ⟨by unfold stepR; rw [if_pos HGQ.out]; have := HA.out.2.2.1 HGQ.out; rw [List.drop_of_length_le (by omega)] at this; exact this⟩
                go_wp2_with fail
                go_roundg (gkr - 1)
                case measure => have := HI.out; have := HGR.out; have := HI1.out; omega
                case rel => exact ⟨i + 1, q2, by have := HI.out; have := HGR.out; have := HI1.out; omega, by have h1 := HE1.out; have h2 := HC.out.2.1; have h3 := HI1.out.1; congr 1; unfold wrap64; omega, rfl, HA.out.1, by rw [HST.out, HS.out], HA.out.2.2.2.2⟩
        · have t1 : decide (((i + 1 : Nat) : Int) < (rs.length : Int)) = false := by simp; omega
          have hq : passR rs.tail y = q := by rw [HQ.out.2.1, List.drop_of_length_le (by omega)]; rfl
          have HP := Aside0.mk hq
          clear hq
          go_wp2_with fail
          go_roundg (gko - 1)
          case measure => have := HF.out.1; have := HGO.out; omega
          case rel =>
            have hk := keptR HOK.out.1 y (by have := HY.out.1.len; have := HM.out; omega)
            obtain ⟨i1, i2⟩ := HF.out.2.inv
            rw [HP.out] at hk i1 i2
            refine ⟨q.1, q.2, rfl, HQ.out.1, fun h => ⟨?_, i2 h⟩, fun h => (i1 h).symm, HQ.out.2.2⟩
            have h1 := HF.out.1
            have h2 := HGO.out
            rcases hk.2.2.2 h with h3 | h3
            · cases h3
            · simp only at h3; omega
end Go.Proofs.YtjhemobplcelbaaGreatDoor.U
