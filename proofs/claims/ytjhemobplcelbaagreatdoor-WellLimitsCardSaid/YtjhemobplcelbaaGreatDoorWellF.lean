/- well: the program's Reached, walked. -/
import Derived.Test.YtjhemobplcelbaaGreatDoorWellE
namespace Go.Proofs.YtjhemobplcelbaaGreatDoor.U
open Go.RowKit Go.Proofs.YtjhemobplcelbaaGreatDoorW.PrintWords Go.Proofs.YtjhemobplcelbaaGreatDoorW.PrintLast Go.Proofs.YtjhemobplcelbaaGreatDoorW.PrintMore
set_option linter.unusedVariables false
set_option linter.unusedSimpArgs false
def stepV (q : List Bool × Bool) (r : SR) : List Bool × Bool := if r.f0 < 0 then q else stepR q r
theorem foldl_V : ∀ (rs : List SR) (q : List Bool × Bool), (∀ r ∈ rs, 0 ≤ r.f0) → rs.foldl stepV q = rs.foldl stepR q := by
  intro rs
  induction rs with
  | nil => intro q _; rfl
  | cons r rs ih =>
    intro q h
    rw [List.foldl_cons, List.foldl_cons, ih _ (fun r hr => h r (List.mem_cons_of_mem _ hr))]
    have := h r List.mem_cons_self
    unfold stepV
    rw [if_neg (by omega)]
theorem pass_V {rs : List SR} {m : Nat} (y : List Bool) (h0 : ∃ r0, rs.head? = some r0 ∧ r0.f0 < 0) (hok : ∀ r ∈ rs.tail, okRule m r) : rs.foldl stepV (y, false) = passR rs.tail y := by
  obtain ⟨r0, h0, hn⟩ := h0
  cases rs with
  | nil => cases h0
  | cons r rs =>
    cases h0
    rw [List.foldl_cons, List.tail_cons, foldl_V rs _ (fun r hr => (hok r hr).1.1)]
    unfold stepV
    rw [if_pos hn]
    rfl
/-- The box of a rule. -/
structure RuBox (W : World) (R : Nat) (rl : Int) (v : Value) (rv ra : Int) : Prop where
  heap : W.heap[R]? = some (.cells #[.int .i64 rl, v, .int .i64 rv, .int .i64 ra] 81 (0, 0))
section
variable {W W' : World} {R B g m c : Nat} {rl rv ra : Int} {v : Value}
theorem RuBox.c0 (h : RuBox W R rl v rv ra) : W.cell? ⟨R, 0, none⟩ = some (.int .i64 rl) := by simp [World.cell?, h.heap]
theorem RuBox.c1 (h : RuBox W R rl v rv ra) : W.cell? ⟨R, 1, none⟩ = some v := by simp [World.cell?, h.heap]
theorem RuBox.far (h : RuBox W R rl v rv ra) {k : Nat} (hL : R ≠ k) (j : Nat) (u : Value) : RuBox (W.setCell ⟨k, j, none⟩ u) R rl v rv ra := ⟨(Below.heap_setCell W ⟨k, j, none⟩ u R hL).trans h.heap⟩
theorem RuBox.ne (h : RuBox W R rl v rv ra) {base n cc : Nat} {y : List Bool} (hr : RowB W base g n cc y) : R ≠ g := by
  rintro rfl
  obtain ⟨cells, hc⟩ := Kd.R_typed hr R (by simp [Value.ownBlock])
  have := hc.symm.trans h.heap
  simp at this
end
def InRelW (W1 : World) (g m c : Nat) (rl : Int) (rt : List Int) (q : List Bool × Bool) (kq : Nat) (v vm : Value) (w' : World) : Prop := ∃ (j : Nat) (q2 : List Bool × Bool), j + kq = rt.length ∧ v = .int .i64 (j : Int) ∧ vm = .bool q2.2 ∧ RowB w' W1.heap.size g m c q2.1 ∧ gt q2.1 rl = gt q.1 rl ∧ (0 ≤ rl → gt q.1 rl = true → rt.foldl setS q = (rt.drop j).foldl setS q2) ∧ (rl < 0 ∨ gt q.1 rl = false → q2 = q) ∧ Below W1.heap.size W1 w'
set_option maxRecDepth 100000 in
set_option maxHeartbeats 4000000 in
theorem well_reached (w : World) (t n st : Nat) (ex : Int) (A4 A5 A6 A : Option Addr) (n4 c4 n5 c5 n6 c6 c : Nat) (rs : List SR) (hrs : Kd.C kSR w A rs.length rs) (hc : rs.length ≤ c) (hok : ∀ r ∈ rs.tail, okRule (t + 1 + n) r) (h0 : ∃ r0, rs.head? = some r0 ∧ r0.f0 < 0) (hall : ∀ r ∈ rs, ∀ x ∈ r.f1, 0 ≤ x ∧ x < ((t + 1 + n : Nat) : Int)) (ht : t + n ≤ 1000000) (hst : st < t + 1 + n) (res : List Bool) (hres : FixP (passR rs.tail) (r0 t n st) res) :
    Calls Tryz.prog 60 #[.agg #[.int .i64 (t : Int), .int .i64 (n : Int), .int .i64 (st : Int), .int .i64 ex, .slice A4 n4 c4, .slice A5 n5 c5, .slice A6 n6 c6, .slice A rs.length c]] w fun e w' => ∃ g d, e = .returned (.slice (some ⟨g, 0, none⟩) (t + 1 + n) d) ∧ RowB w' w.heap.size g (t + 1 + n) d res ∧ Below w.heap.size w w' := by
  have hb := below_alloc (Below.refl w.heap.size w) (.cells #[.int .i64 (t : Int), .int .i64 (n : Int), .int .i64 (st : Int), .int .i64 ex, .slice A4 n4 c4, .slice A5 n5 c5, .slice A6 n6 c6, .slice A rs.length c] 32)
  have hx : SBox (w.alloc (.cells #[.int .i64 (t : Int), .int .i64 (n : Int), .int .i64 (st : Int), .int .i64 ex, .slice A4 n4 c4, .slice A5 n5 c5, .slice A6 n6 c6, .slice A rs.length c] 32)) w.heap.size t n st ex _ _ _ _ := SBox.new w
  obtain ⟨m, hm⟩ : ∃ m, m = t + 1 + n := ⟨_, rfl⟩
  have hw1 : IntKind.i64.wrap ((t : Int) + 1) = ((t + 1 : Nat) : Int) := by rw [IntKind.wrap_i64]; omega
  have hw2 : IntKind.i64.wrap (((t + 1 : Nat) : Int) + (n : Int)) = (m : Int) := by rw [IntKind.wrap_i64]; omega
  have hw3 : IntKind.i64.wrap ((t : Int) + 1 + (n : Int)) = (m : Int) := by rw [IntKind.wrap_i64]; omega
  have HC := Aside0.mk (Kd.C_below hrs hb)
  rw [← hm] at hall
  have HOK := Aside0.mk (And.intro hok (And.intro h0 (And.intro ht (And.intro hst hres))))
  have HALL := Aside0.mk hall
  have HM := Aside0.mk hm
  rw [← hm]
  clear hok h0 hall ht hst hres hrs hm
  go_enter Tryz.func60, Tryz.ntmps60
  go_upto_region 1 with fail
  generalize w.alloc (.cells #[.int .i64 (t : Int), .int .i64 (n : Int), .int .i64 (st : Int), .int .i64 ex, .slice A4 n4 c4, .slice A5 n5 c5, .slice A6 n6 c6, .slice A rs.length c] 32) = W1 at *
  obtain ⟨X, hX⟩ : ∃ X, X = w.heap.size := ⟨_, rfl⟩
  rw [← hX] at hx
  rw [← hX]
  have HX := Aside0.mk hx
  have HB := Aside0.mk hb
  have HXX := Aside0.mk hX
  have x0 := hx.c0
  have x1 := hx.c1
  clear hX hb hx
  go_upto_region 2 with (first
    | ((with_reducible refine gate_dst (N := 15) rfl ?_); refine Kd.R_make Kd.bool (w0 := W1) W1.heap.size 4 rfl (N := 15) rfl 83 (.tmp 14) (.tmp 14) rfl (m : Int) ?hx1 ?hx2 Tryz.underlying83 (.bool false) 1 info4 rfl (by decide) (by decide) false (ok := fun _ => True) (okp := fun _ => True) rfl (fun _ h => h) trivial (by omega) (by have := HM.out; have := HOK.out.2.2.1; omega) (Below.refl _ _) (Nat.le_refl _) ?_; (case hx1 => go_simp); (case hx2 => go_simp); intro v1 w2 ho2 hb2 hg2 hn2; clear hg2 hn2; have HO := Aside0.mk ho2; have HB2 := Aside0.mk hb2; clear ho2 hb2))
  have hO2 : Kd.R Kd.bool 4 w2 W1.heap.size (fun _ => True) v1 (List.replicate m false) := by simpa using HO.out
  obtain ⟨g, cap, rfl, _, _, _⟩ := Kd.R_form hO2 (by have := HM.out; simp; omega)
  simp only [List.length_replicate] at hO2 ⊢
  have hR0 : RowB w2 W1.heap.size g m cap (List.replicate m false) := hO2
  have hstm : st < m := by have := HOK.out.2.2.2.1; have := HM.out; omega
  have hstm2 : (st : Int) < (m : Int) := by omega
  obtain ⟨p1, p2⟩ := hR0.at_ st (by simpa using hstm)
  have HR1 : Aside0 (RowB (w2.setCell ⟨g, st, none⟩ (.bool true)) W1.heap.size g m cap (r0 t n st) ∧ Below W1.heap.size W1 (w2.setCell ⟨g, st, none⟩ (.bool true))) := ⟨by unfold r0; rw [← HM.out]; exact hR0.set st (by simpa using hstm) true, HB2.out.setCell (p := ⟨g, st, none⟩) hR0.low _⟩
  clear hO2 HO x0 x1
  have x2 := (HX.out.move HB2.out HX.out.lt).c2
  clear hR0
  go_wp2_with fail
  generalize w2.setCell ⟨g, st, none⟩ (.bool true) = W2 at *
  clear p1 p2 x2
  go_loopg [4] (cnt (r0 t n st) + 1) (fun kq v4 w' => OutRel W1 g m cap (passR rs.tail) res kq v4 w')
  case atStart => exact ⟨r0 t n st, true, rfl, HR1.out.1, fun _ => ⟨Nat.le_refl _, HOK.out.2.2.2.2⟩, fun h => (by cases h), HR1.out.2⟩
  case round =>
    obtain ⟨y, more, rfl, hr, hm1, hm2, hb⟩ := hrel
    have HY := Aside0.mk (And.intro hr hb)
    cases more with
    | false =>
      have hy := hm2 rfl
      subst hy
      clear hr hm1 hm2 hb
      go_wp2_with fail
      go_ret
      exact ⟨g, cap, rfl, Kd.R_lower HY.out.1 HB.out.size, HB.out.trans (HY.out.2.mono HB.out.size)⟩
    | true =>
      obtain ⟨hm3, hm4⟩ := hm1 rfl
      have HF := Aside0.mk (And.intro hm3 hm4)
      obtain ⟨gko, hgko⟩ : ∃ x, x = gk := ⟨_, rfl⟩
      have HGO := Aside0.mk hgko
      clear hgko
      have z7 := (HX.out.move hb HX.out.lt).c7
      clear hr hm1 hm2 hb hm3 hm4
      go_wp2_with fail
      go_loopg [4, 24] rs.length (fun kq v4 v24 w' => RulesRel W1 g m cap stepV rs (passR rs.tail y) 0 kq v24 v4 w')
      case atStart => exact ⟨0, (y, false), by omega, rfl, rfl, HY.out.1, (pass_V y HOK.out.2.1 HOK.out.1).symm, HY.out.2⟩
      case round =>
        obtain ⟨i, q, hi, hv, rfl, hr, hp, hb⟩ := hrel
        rw [Nat.add_zero] at hv
        subst hv
        have HI := Aside0.mk hi
        have HQ := Aside0.mk (And.intro hr (And.intro hp hb))
        clear z7 hi hr hp hb
        by_cases hil : i < rs.length
        · have t1 : decide ((i : Int) < (rs.length : Int)) = true := by simp; omega
          have hin : (i : Int) < (rs.length : Int) := by omega
          obtain ⟨ad, A1, c1, rfl, r0, r1, r2, r3, hl1, hrr⟩ := rule_at HC.out i hil
          have hor := head_or HOK.out.2.1 HOK.out.1 rs[i] (List.getElem_mem hil)
          have hfx := HALL.out rs[i] (List.getElem_mem hil)
          have HST : Aside0 (passR rs.tail y = (rs.drop (i + 1)).foldl stepV (stepV q rs[i])) := ⟨by rw [HQ.out.2.1, List.drop_eq_getElem_cons hil, List.foldl_cons]⟩
          generalize rs[i] = rr at *
          obtain ⟨rl, rt, rv, ra⟩ := rr
          simp only at r0 r1 r2 r3 hl1 hrr hor hfx
          have r0 := pw_cell_below HQ.out.2.2 r0
          have r1 := pw_cell_below HQ.out.2.2 r1
          have r2 := pw_cell_below HQ.out.2.2 r2
          have r3 := pw_cell_below HQ.out.2.2 r3
          have hb6 := below_alloc (Below.refl wr.heap.size wr) (.cells #[.int .i64 rl, .slice A1 rt.length c1, .int .i64 rv, .int .i64 ra] 81)
          have hR6 : RuBox (wr.alloc (.cells #[.int .i64 rl, .slice A1 rt.length c1, .int .i64 rv, .int .i64 ra] 81)) wr.heap.size rl (.slice A1 rt.length c1) rv ra := ⟨heap_alloc_new wr _⟩
          have k1 := hR6.c1
          have hrl2 : rl < 0 ∨ 0 ≤ rl ∧ rl < (m : Int) := by
            rcases hor with h | h
            · exact .inl h
            · have := HM.out; have := h.1; simp only at this; omega
          have H6 := Aside0.mk (And.intro (HQ.out.1.below hb6) (And.intro (HQ.out.2.2.trans (hb6.mono HQ.out.2.2.size)) hR6))
          have HRW := Aside0.mk (And.intro hrr (And.intro hfx hrl2))
          have HIL := Aside0.mk hil
          have hql := HC.out.2.1
          obtain ⟨gkr, hgkr⟩ : ∃ x, x = gk := ⟨_, rfl⟩
          have HGR := Aside0.mk hgkr
          clear hb6 hrr hfx hor hl1 hR6 hrl2 hil hgkr
          go_upto_region 9 with fail
          generalize wr.alloc (.cells #[.int .i64 rl, .slice A1 rt.length c1, .int .i64 rv, .int .i64 ra] 81) = W6 at *
          generalize wr.heap.size = R at *
          clear r0 r1 r2 r3
          go_wp2_with fail
          go_loopg [4, 31] rt.length (fun kq v4 v31 w' => InRelW W1 g m cap rl rt q kq v31 v4 w' ∧ RuBox w' R rl (.slice A1 rt.length c1) rv ra)
          case atStart => exact ⟨⟨0, q, by omega, rfl, rfl, H6.out.1, rfl, fun _ _ => rfl, fun _ => rfl, H6.out.2.1⟩, H6.out.2.2⟩
          case round =>
            obtain ⟨⟨j, q2, hj, rfl, rfl, hr, ha, hb1, hb2, hb⟩, hR⟩ := hrel
            have HJ := Aside0.mk hj
            have HA := Aside0.mk (And.intro hr (And.intro ha (And.intro hb1 (And.intro hb2 (And.intro hb hR)))))
            have k0 := hR.c0
            have hjl := HRW.out.1.2.1
            clear k1 hj hr ha hb1 hb2 hb hR
            by_cases hjt : j < rt.length
            · have t2 : decide ((j : Int) < (rt.length : Int)) = true := by simp; omega
              have hjt2 : (j : Int) < (rt.length : Int) := by omega
              obtain ⟨bd, rfl, hc1⟩ := int_at HRW.out.1 j hjt
              have hc2 := pw_cell_below HA.out.2.2.2.2.1 hc1
              have hxr := HRW.out.2.1 rt[j] (List.getElem_mem hjt)
              have hall : (rt.drop j).foldl setS q2 = (rt.drop (j + 1)).foldl setS (setS q2 rt[j]) := by rw [List.drop_eq_getElem_cons hjt, List.foldl_cons]
              have HAL := Aside0.mk (And.intro hall hjt)
              clear hall hc1
              generalize rt[j] = x at *
              by_cases hneg : rl < 0
              · have t3 : decide (rl ≥ 0) = false := by simp; omega
                have HN := Aside0.mk hneg
                clear hxr hneg
                go_wp2_with fail
                go_roundg (gk - 1)
                case measure => have := HJ.out; have := HAL.out.2; omega
                case rel => exact ⟨⟨j + 1, q2, by have := HJ.out; have := HAL.out.2; omega, by have h3 := HAL.out.2; first | rfl | (congr 1; unfold wrap64; omega), rfl, HA.out.1, HA.out.2.1, fun h _ => absurd h (by have := HN.out; omega), HA.out.2.2.2.1, HA.out.2.2.2.2.1⟩, HA.out.2.2.2.2.2⟩
              · obtain ⟨l0, hl0e⟩ : ∃ l0 : Nat, rl = (l0 : Int) := ⟨rl.toNat, by omega⟩
                have hl02 : (l0 : Int) < (m : Int) := by have := HRW.out.2.2; omega
                have hql0 : l0 < q2.1.length := by have := HA.out.1.len; omega
                obtain ⟨p1, p2⟩ := HA.out.1.at_ l0 hql0
                have HG := Aside0.mk (gt_at (y := q2.1) l0 hl0e hql0)
                generalize q2.1[l0] = bl at *
                have HL0 := Aside0.mk (And.intro hl0e hneg)
                rw [hl0e] at k0
                have t3 : decide ((l0 : Int) ≥ 0) = true := by simp
                clear hneg hl0e
                cases bl with
                | false =>
                  have HGQ : Aside0 (gt q.1 rl = false) := ⟨by rw [← HA.out.2.1]; exact HG.out⟩
                  clear hxr
                  go_wp2_with fail
                  go_roundg (gk - 1)
                  case measure => have := HJ.out; have := HAL.out.2; omega
                  case rel => exact ⟨⟨j + 1, q2, by have := HJ.out; have := HAL.out.2; omega, by have h3 := HAL.out.2; first | rfl | (congr 1; unfold wrap64; omega), rfl, HA.out.1, HA.out.2.1, fun _ h => (by rw [HGQ.out] at h; cases h), HA.out.2.2.2.1, HA.out.2.2.2.2.1⟩, HA.out.2.2.2.2.2⟩
                | true =>
                  have HGQ : Aside0 (gt q.1 rl = true) := ⟨by rw [← HA.out.2.1]; exact HG.out⟩
                  obtain ⟨k, rfl⟩ : ∃ k : Nat, x = (k : Int) := ⟨x.toNat, by omega⟩
                  have hkm2 : (k : Int) < (m : Int) := hxr.2
                  have hqk : k < q2.1.length := by have := HA.out.1.len; omega
                  obtain ⟨p3, p4⟩ := HA.out.1.at_ k hqk
                  have HGK := Aside0.mk (gt_at (y := q2.1) k rfl hqk)
                  generalize q2.1[k] = bk at *
                  clear hxr
                  cases bk with
                  | true =>
                    have HS : Aside0 (setS q2 (k : Int) = q2) := ⟨by unfold setS; rw [if_pos HGK.out]⟩
                    go_wp2_with fail
                    go_roundg (gk - 1)
                    case measure => have := HJ.out; have := HAL.out.2; omega
                    case rel => exact ⟨⟨j + 1, q2, by have := HJ.out; have := HAL.out.2; omega, by have h3 := HAL.out.2; first | rfl | (congr 1; unfold wrap64; omega), rfl, HA.out.1, HA.out.2.1, fun h h2 => by rw [HA.out.2.2.1 h h2, HAL.out.1, HS.out], HA.out.2.2.2.1, HA.out.2.2.2.2.1⟩, HA.out.2.2.2.2.2⟩
                  | false =>
                    have HS : Aside0 (setS q2 (k : Int) = (q2.1.set k true, true)) := ⟨by unfold setS; rw [if_neg (by rw [HGK.out]; decide)]; rfl⟩
                    go_wp2_with fail
                    go_roundg (gk - 1)
                    case measure => have := HJ.out; have := HAL.out.2; omega
                    case rel => exact ⟨⟨j + 1, (q2.1.set k true, true), by have := HJ.out; have := HAL.out.2; omega, by have h3 := HAL.out.2; first | rfl | (congr 1; unfold wrap64; omega), rfl, HA.out.1.set k hqk true, by rw [HGQ.out]; exact gt_set HG.out k, fun h h2 => by rw [HA.out.2.2.1 h h2, HAL.out.1, HS.out], fun h => absurd h (by rw [HGQ.out]; have := HL0.out.2; simp; omega), HA.out.2.2.2.2.1.setCell (p := ⟨g, k, none⟩) HA.out.1.low _⟩, HA.out.2.2.2.2.2.far (HA.out.2.2.2.2.2.ne HA.out.1) k _⟩
            · have t2 : decide ((j : Int) < (rt.length : Int)) = false := by simp; omega
              have HS : Aside0 (stepV q ⟨rl, rt, rv, ra⟩ = q2) := ⟨by
                unfold stepV
                by_cases hn : rl < 0
                · rw [if_pos hn, HA.out.2.2.2.1 (.inl hn)]
                · rw [if_neg hn]
                  unfold stepR
                  cases hg : gt q.1 rl with
                  | true =>
                    rw [if_pos rfl]
                    have := HA.out.2.2.1 (by omega) hg
                    rw [List.drop_of_length_le (by omega)] at this
                    exact this
                  | false => rw [if_neg (by decide), HA.out.2.2.2.1 (.inr hg)]⟩
              go_wp2_with fail
              go_roundg (gkr - 1)
              case measure => have := HI.out; have := HGR.out; have := HIL.out; omega
              case rel => exact ⟨i + 1, q2, by have := HI.out; have := HGR.out; have := HIL.out; omega, by have h3 := HIL.out; first | rfl | (congr 1; unfold wrap64; omega), rfl, HA.out.1, by rw [HST.out, HS.out], HA.out.2.2.2.2.1⟩
        · have t1 : decide ((i : Int) < (rs.length : Int)) = false := by simp; omega
          have hq : passR rs.tail y = q := by rw [HQ.out.2.1, List.drop_of_length_le (by omega)]; rfl
          have HP := Aside0.mk hq
          clear hq
          go_wp2_with fail
          go_roundg (gko - 1)
          case measure => have := HF.out.1; have := HGO.out; omega
          case rel =>
            have hk := keptR HOK.out.1 y (by have := HY.out.1.len; have := HM.out; omega)
            obtain ⟨i1, i2⟩ := HF.out.2.inv
            rw [HP.out] at hk i1 i2
            refine ⟨q.1, q.2, rfl, HQ.out.1, fun h => ⟨?_, i2 h⟩, fun h => (i1 h).symm, HQ.out.2.2⟩
            have h1 := HF.out.1
            have h2 := HGO.out
            rcases hk.2.2.2 h with h3 | h3
            · cases h3
            · simp only at h3; omega
end Go.Proofs.YtjhemobplcelbaaGreatDoor.U
