/- wof: EqSpec of the reference at two Specs that read the same (printed by mk_ni.py). -/
import Derived.Test.YtjhemobplcelbaaGreatDoorNofH
namespace Go.Proofs.YtjhemobplcelbaaGreatDoor.O
open Go.RowKit Go.Proofs.YtjhemobplcelbaaGreatDoorW.PrintWords Go.Proofs.YtjhemobplcelbaaGreatDoorW.PrintLast Go.Proofs.YtjhemobplcelbaaGreatDoorW.PrintMore
open Go.Proofs.YtjhemobplcelbaaGreatDoor.U (SR kSR rule_at int_at)
set_option linter.unusedVariables false
set_option linter.unusedSimpArgs false
def EiRel (w : World) (len : Nat) (kq : Nat) (v : Value) (w' : World) : Prop := ∃ i : Nat, i + kq = len ∧ v = .int .i64 (i : Int) ∧ Below w.heap.size w w'
set_option maxRecDepth 100000 in
set_option maxHeartbeats 4000000 in
theorem eqints_calls (w : World) (A A' : Option Addr) (c c' : Nat) (l : List Int) (h : Kd.C (Kd.int .i64) w A l.length l) (h' : Kd.C (Kd.int .i64) w A' l.length l) :
    Calls Tryz.prog 23 #[.slice A l.length c, .slice A' l.length c'] w fun e w' => e = .returned (.bool true) ∧ Below w.heap.size w w' := by
  have H := Aside0.mk (And.intro h h')
  have hql : l.length ≤ 9223372036854775807 := h.2.1
  clear h h'
  go_enter Tryz.func23, Tryz.ntmps23
  have HW := Aside0.mk (Below.refl w.heap.size w)
  go_upto_region 3 with fail
  go_wp2_with fail
  go_loopg [5] l.length (fun kq v5 w' => EiRel w l.length kq v5 w')
  case atStart => exact ⟨0, by omega, rfl, HW.out⟩
  case round =>
    obtain ⟨i, hi, rfl, hb⟩ := hrel
    have HI := Aside0.mk hi
    have HBr := Aside0.mk hb
    clear hi hb
    by_cases hil : i < l.length
    · have t1 : decide ((i : Int) < (l.length : Int)) = true := by simp; omega
      obtain ⟨ad, rfl, hc⟩ := int_at H.out.1 i hil
      obtain ⟨bd, rfl, hc'⟩ := int_at H.out.2 i hil
      have hc2 := pw_cell_below HBr.out hc
      have hc3 := pw_cell_below HBr.out hc'
      have hin : (i : Int) < (l.length : Int) := by omega
      generalize l[i] = x at *
      clear hc hc'
      go_upto_region 6 with fail
      go_quiet (fail)
      have H3 := Aside0.mk (HBr.out.trans ((drawn_below ⟨nq, rfl⟩ : Below wr.heap.size wr (wr.drewN nq)).mono HBr.out.size))
      go_wp2_with fail
      go_roundg (gk - 1)
      case measure => have := HI.out; omega
      case rel => exact ⟨i + 1, by have := HI.out; omega, by go_num, H3.out⟩
    · have t1 : decide ((i : Int) < (l.length : Int)) = false := by simp; omega
      go_wp2_with fail
      go_ret
      exact ⟨rfl, HBr.out⟩
set_option maxRecDepth 100000 in
set_option maxHeartbeats 8000000 in
theorem eqspec_same (w : World) (t n st ex : Int) (A4 A5 A6 A7 B4 B5 B6 B7 : Option Addr) (c4 c5 c6 c7 d4 d5 d6 d7 : Nat) (names : List ByteArray) (lv sa : List Int) (rs : List SR)
    (h4 : Kd.C Kd.string w A4 names.length names) (h4' : Kd.C Kd.string w B4 names.length names) (h5 : Kd.C (Kd.int .i64) w A5 lv.length lv) (h5' : Kd.C (Kd.int .i64) w B5 lv.length lv) (h6 : Kd.C (Kd.int .i64) w A6 sa.length sa) (h6' : Kd.C (Kd.int .i64) w B6 sa.length sa) (h7 : Kd.C kSR w A7 rs.length rs) (h7' : Kd.C kSR w B7 rs.length rs) :
    Calls Tryz.prog 39 #[.agg #[.int .i64 t, .int .i64 n, .int .i64 st, .int .i64 ex, .slice A4 names.length c4, .slice A5 lv.length c5, .slice A6 sa.length c6, .slice A7 rs.length c7], .agg #[.int .i64 t, .int .i64 n, .int .i64 st, .int .i64 ex, .slice B4 names.length d4, .slice B5 lv.length d5, .slice B6 sa.length d6, .slice B7 rs.length d7]] w fun e w' => e = .returned (.bool true) ∧ Below w.heap.size w w' := by
  obtain ⟨X, Y, hX, hY, b1, b2, hb⟩ := boxes2 w #[.int .i64 t, .int .i64 n, .int .i64 st, .int .i64 ex, .slice A4 names.length c4, .slice A5 lv.length c5, .slice A6 sa.length c6, .slice A7 rs.length c7] #[.int .i64 t, .int .i64 n, .int .i64 st, .int .i64 ex, .slice B4 names.length d4, .slice B5 lv.length d5, .slice B6 sa.length d6, .slice B7 rs.length d7] 32 32
  have HL := Aside0.mk (And.intro (Kd.C_below h4 hb) (And.intro (Kd.C_below h4' hb) (And.intro (Kd.C_below h7 hb) (Kd.C_below h7' hb))))
  have HI2 := Aside0.mk (And.intro (Kd.C_below h5 hb) (And.intro (Kd.C_below h5' hb) (And.intro (Kd.C_below h6 hb) (Kd.C_below h6' hb))))
  have hql : names.length ≤ 9223372036854775807 := h4.2.1
  have hqr : rs.length ≤ 9223372036854775807 := h7.2.1
  clear h4 h4' h5 h5' h6 h6' h7 h7'
  go_enter Tryz.func39, Tryz.ntmps39
  go_upto_region 1 with fail
  rw [← hY]
  rw [← hX]
  generalize (w.alloc (.cells #[.int .i64 t, .int .i64 n, .int .i64 st, .int .i64 ex, .slice A4 names.length c4, .slice A5 lv.length c5, .slice A6 sa.length c6, .slice A7 rs.length c7] 32)).alloc (.cells #[.int .i64 t, .int .i64 n, .int .i64 st, .int .i64 ex, .slice B4 names.length d4, .slice B5 lv.length d5, .slice B6 sa.length d6, .slice B7 rs.length d7] 32) = W2 at *
  have HB := Aside0.mk hb
  have HX := Aside0.mk (And.intro b1 b2)
  clear hX hY hb
  have x0 := b1.c 0 rfl
  have x1 := b1.c 1 rfl
  have x2 := b1.c 2 rfl
  have x3 := b1.c 3 rfl
  have x4 := b1.c 4 rfl
  have x5 := b1.c 5 rfl
  have x6 := b1.c 6 rfl
  have x7 := b1.c 7 rfl
  have y0 := b2.c 0 rfl
  have y1 := b2.c 1 rfl
  have y2 := b2.c 2 rfl
  have y3 := b2.c 3 rfl
  have y4 := b2.c 4 rfl
  have y5 := b2.c 5 rfl
  have y6 := b2.c 6 rfl
  have y7 := b2.c 7 rfl
  clear b1 b2
  have C1 := Aside0.mk (eqints_calls W2 A5 B5 c5 d5 lv HI2.out.1 HI2.out.2.1)
  go_upto_region 3 with (first
    | (go_at_call 23; (with_reducible refine Calls.mono C1.out ?_); rintro e w3 ⟨rfl, hd⟩; have H3 := Aside0.mk hd; have C2 := Aside0.mk (eqints_calls w3 A6 B6 c6 d6 sa (Kd.C_below HI2.out.2.2.1 hd) (Kd.C_below HI2.out.2.2.2 hd)); have x6' := (HX.out.1.move hd HX.out.1.lt).c 6 rfl; have y6' := (HX.out.2.move hd HX.out.2.lt).c 6 rfl; clear hd)
    | (go_at_call 23; (with_reducible refine Calls.mono C2.out ?_); rintro e w4 ⟨rfl, hd⟩; have H4 := Aside0.mk (H3.out.trans (hd.mono H3.out.size)); have x7' := (HX.out.1.move H4.out HX.out.1.lt).c 7 rfl; have y7' := (HX.out.2.move H4.out HX.out.2.lt).c 7 rfl; clear hd))
  clear x0 x1 x2 x3 x4 x5 x6 x7 y0 y1 y2 y3 y4 y5 y6 y7 x6' y6' x7' y7'
  go_wp2_with fail
  go_loopg [5] names.length (fun kq v5 w' => EiRel W2 names.length kq v5 w')
  case atStart => exact ⟨0, by omega, rfl, H4.out⟩
  case round =>
    obtain ⟨i, hi, rfl, hb⟩ := hrel
    have HI := Aside0.mk hi
    have HR := Aside0.mk hb
    have HXr := Aside0.mk (HX.out.1.move hb HX.out.1.lt)
    have HYr := Aside0.mk (HX.out.2.move hb HX.out.2.lt)
    clear hi hb
    have x4 := HXr.out.c 4 rfl
    have y4 := HYr.out.c 4 rfl
    by_cases hil : i < names.length
    · have t1 : decide ((i : Int) < (names.length : Int)) = true := by simp; omega
      obtain ⟨ad, e1, hc⟩ := str_at HL.out.1 i hil
      obtain ⟨bd, e2, hc'⟩ := str_at HL.out.2.1 i hil
      subst e1
      subst e2
      have hc2 := pw_cell_below HR.out hc
      have hc3 := pw_cell_below HR.out hc'
      have hin : (i : Int) < (names.length : Int) := by omega
      generalize names[i] = s at *
      clear hc hc'
      go_upto_region 6 with fail
      go_quiet (fail)
      have H3' := Aside0.mk (HR.out.trans ((drawn_below ⟨nq, rfl⟩ : Below wr.heap.size wr (wr.drewN nq)).mono HR.out.size))
      go_wp2_with fail
      go_roundg (gk - 1)
      case measure => have := HI.out; omega
      case rel => exact ⟨i + 1, by have := HI.out; omega, by go_num, H3'.out⟩
    · have t1 : decide ((i : Int) < (names.length : Int)) = false := by simp; omega
      obtain ⟨Wo, rfl⟩ : ∃ W, W = wr := ⟨_, rfl⟩
      obtain ⟨gko, hgko⟩ : ∃ x, x = gk := ⟨_, rfl⟩
      clear hgko
      go_wp2_with fail
      go_loopg [6] rs.length (fun kq v6 w' => EiRel W2 rs.length kq v6 w')
      case atStart => exact ⟨0, by omega, rfl, HR.out⟩
      case round =>
      obtain ⟨j, hj, rfl, hb⟩ := hrel
      have HJ := Aside0.mk hj
      have HR := Aside0.mk hb
      have HXr := Aside0.mk (HX.out.1.move hb HX.out.1.lt)
      have HYr := Aside0.mk (HX.out.2.move hb HX.out.2.lt)
      clear hj hb
      have x7 := HXr.out.c 7 rfl
      by_cases hjl : j < rs.length
      · have t2 : decide ((j : Int) < (rs.length : Int)) = true := by simp; omega
        obtain ⟨ad, R1, k1, e1, q0', q1', q2', q3', hk1, hr1⟩ := rule_at HL.out.2.2.1 j hjl
        obtain ⟨bd, R2, k2, e2, p0', p1', p2', p3', hk2, hr2⟩ := rule_at HL.out.2.2.2 j hjl
        subst e1
        subst e2
        have q0 := pw_cell_below HR.out q0'
        have q1 := pw_cell_below HR.out q1'
        have q2 := pw_cell_below HR.out q2'
        have q3 := pw_cell_below HR.out q3'
        have p0 := pw_cell_below HR.out p0'
        have p1 := pw_cell_below HR.out p1'
        have p2 := pw_cell_below HR.out p2'
        have p3 := pw_cell_below HR.out p3'
        have HRR := Aside0.mk (And.intro (Kd.C_below hr1 HR.out) (Kd.C_below hr2 HR.out))
        have hjn : (j : Int) < (rs.length : Int) := by omega
        generalize rs[j] = x at *
        clear q0' q1' q2' q3' p0' p1' p2' p3' hr1 hr2 hk1 hk2
        go_upto_region 11 with fail
        clear x7
        go_cut [7, 8] (fun v7 v8 wx => ∃ P Q, v7 = .pointer (some ⟨P, 0, none⟩) ∧ v8 = .pointer (some ⟨Q, 0, none⟩) ∧ Bx wx P #[.int .i64 x.f0, .slice R1 x.f1.length k1, .int .i64 x.f2, .int .i64 x.f3] 81 ∧ Bx wx Q #[.int .i64 x.f0, .slice R2 x.f1.length k2, .int .i64 x.f2, .int .i64 x.f3] 81 ∧ Below wr.heap.size wr wx)
        case first =>
          have hS0 : Below wr.heap.size wr wr.drew := below_drew1 (Below.refl _ _)
          refine t_begin (fun w' => Below wr.heap.size wr w') (fun j => ([] : List Nat).contains j) (by kernel_rfl) ?_
          have hdr : wr.heap.size ≤ wr.drew.heap.size := Nat.le_refl _
          generalize wr.drew = W0 at *
          refine t_take (i := 0) (n := 4) (ls := []) (v := ?_) rfl rfl (by kernel_rfl) (by kernel_rfl) (by kernel_rfl) (by kernel_rfl) (by kernel_rfl) (fun _ _ _ h => h) (Or.inl ⟨by rfl, ?_⟩) hS0 ?_
          rotate_left
          · intro w' hS'
            go_simp
            (try with_reducible rfl)
          simp only [Act.put, List.setIfInBounds_toArray, List.set_cons_zero, List.set_cons_succ]
          refine t_take (i := 1) (n := 4) (ls := []) (v := ?_) rfl rfl (by kernel_rfl) (by kernel_rfl) (by kernel_rfl) (by kernel_rfl) (by kernel_rfl) (fun _ _ _ h => h) (Or.inl ⟨by rfl, ?_⟩) hS0 ?_
          rotate_left
          · intro w' hS'
            have x7 := (HXr.out.move hS' HXr.out.lt).c 7 rfl
            go_simp
            (try with_reducible rfl)
          simp only [Act.put, List.setIfInBounds_toArray, List.set_cons_zero, List.set_cons_succ]
          refine t_take (i := 2) (n := 4) (ls := []) (v := ?_) rfl rfl (by kernel_rfl) (by kernel_rfl) (by kernel_rfl) (by kernel_rfl) (by kernel_rfl) (fun _ _ _ h => h) (Or.inl ⟨by rfl, ?_⟩) hS0 ?_
          rotate_left
          · intro w' hS'
            go_simp
            (try with_reducible rfl)
          simp only [Act.put, List.setIfInBounds_toArray, List.set_cons_zero, List.set_cons_succ]
          refine t_take (i := 3) (n := 4) (ls := []) (v := ?_) rfl rfl (by kernel_rfl) (by kernel_rfl) (by kernel_rfl) (by kernel_rfl) (by kernel_rfl) (fun _ _ _ h => h) (Or.inl ⟨by rfl, ?_⟩) hS0 ?_
          rotate_left
          · intro w' hS'
            go_simp
            (try with_reducible rfl)
          simp only [Act.put, List.setIfInBounds_toArray, List.set_cons_zero, List.set_cons_succ]
          refine t_take (i := 4) (n := 4) (ls := []) (v := ?_) rfl rfl (by kernel_rfl) (by kernel_rfl) (by kernel_rfl) (by kernel_rfl) (by kernel_rfl) (fun _ _ _ h => h) (Or.inl ⟨by rfl, ?_⟩) hS0 ?_
          rotate_left
          · intro w' hS'
            have r0 := pw_cell_below hS' q0
            have r1 := pw_cell_below hS' q1
            have r2 := pw_cell_below hS' q2
            have r3 := pw_cell_below hS' q3
            go_simp
            (try with_reducible rfl)
          simp only [Act.put, List.setIfInBounds_toArray, List.set_cons_zero, List.set_cons_succ]
          refine t_take (i := 5) (n := 4) (ls := []) (v := ?_) rfl rfl (by kernel_rfl) (by kernel_rfl) (by kernel_rfl) (by kernel_rfl) (by kernel_rfl) (fun _ _ _ h => h) (Or.inl ⟨by rfl, ?_⟩) hS0 ?_
          rotate_left
          · intro w' hS'
            go_simp
            (try with_reducible rfl)
          simp only [Act.put, List.setIfInBounds_toArray, List.set_cons_zero, List.set_cons_succ]
          refine t_take (i := 6) (n := 4) (ls := []) (v := ?_) rfl rfl (by kernel_rfl) (by kernel_rfl) (by kernel_rfl) (by kernel_rfl) (by kernel_rfl) (fun _ _ _ h => h) (Or.inl ⟨by rfl, ?_⟩) hS0 ?_
          rotate_left
          · intro w' hS'
            have y7 := (HYr.out.move hS' HYr.out.lt).c 7 rfl
            go_simp
            (try with_reducible rfl)
          simp only [Act.put, List.setIfInBounds_toArray, List.set_cons_zero, List.set_cons_succ]
          refine t_take (i := 7) (n := 4) (ls := []) (v := ?_) rfl rfl (by kernel_rfl) (by kernel_rfl) (by kernel_rfl) (by kernel_rfl) (by kernel_rfl) (fun _ _ _ h => h) (Or.inl ⟨by rfl, ?_⟩) hS0 ?_
          rotate_left
          · intro w' hS'
            go_simp
            (try with_reducible rfl)
          simp only [Act.put, List.setIfInBounds_toArray, List.set_cons_zero, List.set_cons_succ]
          refine t_take (i := 8) (n := 4) (ls := []) (v := ?_) rfl rfl (by kernel_rfl) (by kernel_rfl) (by kernel_rfl) (by kernel_rfl) (by kernel_rfl) (fun _ _ _ h => h) (Or.inl ⟨by rfl, ?_⟩) hS0 ?_
          rotate_left
          · intro w' hS'
            go_simp
            (try with_reducible rfl)
          simp only [Act.put, List.setIfInBounds_toArray, List.set_cons_zero, List.set_cons_succ]
          refine t_take (i := 9) (n := 4) (ls := []) (v := ?_) rfl rfl (by kernel_rfl) (by kernel_rfl) (by kernel_rfl) (by kernel_rfl) (by kernel_rfl) (fun _ _ _ h => h) (Or.inl ⟨by rfl, ?_⟩) hS0 ?_
          rotate_left
          · intro w' hS'
            have r0 := pw_cell_below hS' p0
            have r1 := pw_cell_below hS' p1
            have r2 := pw_cell_below hS' p2
            have r3 := pw_cell_below hS' p3
            go_simp
            (try with_reducible rfl)
          simp only [Act.put, List.setIfInBounds_toArray, List.set_cons_zero, List.set_cons_succ]
          refine t_two (i := 10) (j := 11) (by kernel_rfl) ?_ ?_
          · have HWW := HR
            refine t_step rfl (fun K hK => ?_)
            go_simp
            refine hK.out _ _ (fun _ => below_alloc hS0 _) ?_
            clear hK K
            (try simp only [Act.put, List.setIfInBounds_toArray, List.set_cons_zero, List.set_cons_succ])
            refine t_one (i := 11) (by kernel_rfl) ?_
            refine t_step rfl (fun K hK => ?_)
            go_simp
            refine hK.out _ _ (fun _ => below_alloc (below_alloc hS0 _) _) ?_
            clear hK K
            (try simp only [Act.put, List.setIfInBounds_toArray, List.set_cons_zero, List.set_cons_succ])
            obtain ⟨P0, Q0, hP, hQ, z1, z2, hz⟩ := boxes2 W0 #[.int .i64 0, .slice none 0 0, .int .i64 0, .int .i64 0] #[.int .i64 0, .slice none 0 0, .int .i64 0, .int .i64 0] 81 81
            rw [← hQ]
            rw [← hP]
            have hPQ : P0 ≠ Q0 := by omega
            have hQP : Q0 ≠ P0 := by omega
            have hlP : wr.heap.size ≤ P0 := by omega
            have hlQ : wr.heap.size ≤ Q0 := by omega
            have HZ := Aside0.mk (And.intro z1 (And.intro z2 (hS0.trans (hz.mono hdr))))
            generalize (W0.alloc (.cells #[.int .i64 0, .slice none 0 0, .int .i64 0, .int .i64 0] 81)).alloc (.cells #[.int .i64 0, .slice none 0 0, .int .i64 0, .int .i64 0] 81) = Wz at *
            have HPE := Aside0.mk hP
            have HPQ := Aside0.mk (And.intro hPQ (And.intro hlP hlQ))
            clear hP hQ hz z1 z2 hlP hlQ
            have z0 := HZ.out.1.c 0 rfl
            have z1 := HZ.out.1.c 1 rfl
            have z2 := HZ.out.1.c 2 rfl
            have z3 := HZ.out.1.c 3 rfl
            have zf := fun k => HZ.out.1.fz k
            have u0 := HZ.out.2.1.c 0 rfl
            have u1 := HZ.out.2.1.c 1 rfl
            have u2 := HZ.out.2.1.c 2 rfl
            have u3 := HZ.out.2.1.c 3 rfl
            have uf := fun k => HZ.out.2.1.fz k
            have HE1 : Aside0 (Below wr.heap.size wr (put4 Wz P0 (.int .i64 x.f0) (.slice R1 x.f1.length k1) (.int .i64 x.f2) (.int .i64 x.f3))) := ⟨put4_below HZ.out.2.2 HPQ.out.2.1⟩
            have HE : Aside0 (Bx (put4 (put4 Wz P0 (.int .i64 x.f0) (.slice R1 x.f1.length k1) (.int .i64 x.f2) (.int .i64 x.f3)) Q0 (.int .i64 x.f0) (.slice R2 x.f1.length k2) (.int .i64 x.f2) (.int .i64 x.f3)) P0 #[.int .i64 x.f0, .slice R1 x.f1.length k1, .int .i64 x.f2, .int .i64 x.f3] 81 ∧ Bx (put4 (put4 Wz P0 (.int .i64 x.f0) (.slice R1 x.f1.length k1) (.int .i64 x.f2) (.int .i64 x.f3)) Q0 (.int .i64 x.f0) (.slice R2 x.f1.length k2) (.int .i64 x.f2) (.int .i64 x.f3)) Q0 #[.int .i64 x.f0, .slice R2 x.f1.length k2, .int .i64 x.f2, .int .i64 x.f3] 81 ∧ Below wr.heap.size wr (put4 (put4 Wz P0 (.int .i64 x.f0) (.slice R1 x.f1.length k1) (.int .i64 x.f2) (.int .i64 x.f3)) Q0 (.int .i64 x.f0) (.slice R2 x.f1.length k2) (.int .i64 x.f2) (.int .i64 x.f3))) := ⟨⟨(put4_far hPQ).trans (put4_bx HZ.out.1).heap⟩, put4_bx ⟨(put4_far hQP).trans HZ.out.2.1.heap⟩, put4_below (put4_below HZ.out.2.2 HPQ.out.2.1) HPQ.out.2.2⟩
            refine t_one (i := 12) (by kernel_rfl) ?_
            refine t_step rfl (fun K hK => ?_)
            go_simp
            refine hK.out _ _ (fun _ => by first | exact HE1.out | (rw [HPE.out]; exact HE1.out)) ?_
            clear hK K
            (try simp only [Act.put, List.setIfInBounds_toArray, List.set_cons_zero, List.set_cons_succ])
            refine t_one (i := 13) (by kernel_rfl) ?_
            refine t_step rfl (fun K hK => ?_)
            go_simp
            refine hK.out _ _ (fun _ => by first | exact HE.out.2.2 | (rw [HPE.out]; exact HE.out.2.2)) ?_
            clear hK K
            (try simp only [Act.put, List.setIfInBounds_toArray, List.set_cons_zero, List.set_cons_succ])
            refine t_done (by kernel_rfl) ?_
            go_wp2_with fail
            go_meet
            exact ⟨P0, Q0, rfl, rfl, HE.out.1, HE.out.2.1, HE.out.2.2⟩
          · have HWW := HR
            refine t_step rfl (fun K hK => ?_)
            go_simp
            refine hK.out _ _ (fun _ => below_alloc hS0 _) ?_
            clear hK K
            (try simp only [Act.put, List.setIfInBounds_toArray, List.set_cons_zero, List.set_cons_succ])
            refine t_one (i := 10) (by kernel_rfl) ?_
            refine t_step rfl (fun K hK => ?_)
            go_simp
            refine hK.out _ _ (fun _ => below_alloc (below_alloc hS0 _) _) ?_
            clear hK K
            (try simp only [Act.put, List.setIfInBounds_toArray, List.set_cons_zero, List.set_cons_succ])
            obtain ⟨P0, Q0, hP, hQ, z1, z2, hz⟩ := boxes2 W0 #[.int .i64 0, .slice none 0 0, .int .i64 0, .int .i64 0] #[.int .i64 0, .slice none 0 0, .int .i64 0, .int .i64 0] 81 81
            rw [← hQ]
            rw [← hP]
            have hPQ : P0 ≠ Q0 := by omega
            have hQP : Q0 ≠ P0 := by omega
            have hlP : wr.heap.size ≤ P0 := by omega
            have hlQ : wr.heap.size ≤ Q0 := by omega
            have HZ := Aside0.mk (And.intro z1 (And.intro z2 (hS0.trans (hz.mono hdr))))
            generalize (W0.alloc (.cells #[.int .i64 0, .slice none 0 0, .int .i64 0, .int .i64 0] 81)).alloc (.cells #[.int .i64 0, .slice none 0 0, .int .i64 0, .int .i64 0] 81) = Wz at *
            have HPE := Aside0.mk hP
            have HPQ := Aside0.mk (And.intro hPQ (And.intro hlP hlQ))
            clear hP hQ hz z1 z2 hlP hlQ
            have z0 := HZ.out.1.c 0 rfl
            have z1 := HZ.out.1.c 1 rfl
            have z2 := HZ.out.1.c 2 rfl
            have z3 := HZ.out.1.c 3 rfl
            have zf := fun k => HZ.out.1.fz k
            have u0 := HZ.out.2.1.c 0 rfl
            have u1 := HZ.out.2.1.c 1 rfl
            have u2 := HZ.out.2.1.c 2 rfl
            have u3 := HZ.out.2.1.c 3 rfl
            have uf := fun k => HZ.out.2.1.fz k
            have HE1 : Aside0 (Below wr.heap.size wr (put4 Wz Q0 (.int .i64 x.f0) (.slice R1 x.f1.length k1) (.int .i64 x.f2) (.int .i64 x.f3))) := ⟨put4_below HZ.out.2.2 HPQ.out.2.2⟩
            have HE : Aside0 (Bx (put4 (put4 Wz Q0 (.int .i64 x.f0) (.slice R1 x.f1.length k1) (.int .i64 x.f2) (.int .i64 x.f3)) P0 (.int .i64 x.f0) (.slice R2 x.f1.length k2) (.int .i64 x.f2) (.int .i64 x.f3)) Q0 #[.int .i64 x.f0, .slice R1 x.f1.length k1, .int .i64 x.f2, .int .i64 x.f3] 81 ∧ Bx (put4 (put4 Wz Q0 (.int .i64 x.f0) (.slice R1 x.f1.length k1) (.int .i64 x.f2) (.int .i64 x.f3)) P0 (.int .i64 x.f0) (.slice R2 x.f1.length k2) (.int .i64 x.f2) (.int .i64 x.f3)) P0 #[.int .i64 x.f0, .slice R2 x.f1.length k2, .int .i64 x.f2, .int .i64 x.f3] 81 ∧ Below wr.heap.size wr (put4 (put4 Wz Q0 (.int .i64 x.f0) (.slice R1 x.f1.length k1) (.int .i64 x.f2) (.int .i64 x.f3)) P0 (.int .i64 x.f0) (.slice R2 x.f1.length k2) (.int .i64 x.f2) (.int .i64 x.f3))) := ⟨⟨(put4_far hQP).trans (put4_bx HZ.out.2.1).heap⟩, put4_bx ⟨(put4_far hPQ).trans HZ.out.1.heap⟩, put4_below (put4_below HZ.out.2.2 HPQ.out.2.2) HPQ.out.2.1⟩
            refine t_one (i := 12) (by kernel_rfl) ?_
            refine t_step rfl (fun K hK => ?_)
            go_simp
            refine hK.out _ _ (fun _ => by first | exact HE1.out | (rw [HPE.out]; exact HE1.out)) ?_
            clear hK K
            (try simp only [Act.put, List.setIfInBounds_toArray, List.set_cons_zero, List.set_cons_succ])
            refine t_one (i := 13) (by kernel_rfl) ?_
            refine t_step rfl (fun K hK => ?_)
            go_simp
            refine hK.out _ _ (fun _ => by first | exact HE.out.2.2 | (rw [HPE.out]; exact HE.out.2.2)) ?_
            clear hK K
            (try simp only [Act.put, List.setIfInBounds_toArray, List.set_cons_zero, List.set_cons_succ])
            refine t_done (by kernel_rfl) ?_
            go_wp2_with fail
            go_meet
            exact ⟨Q0, P0, rfl, rfl, HE.out.1, HE.out.2.1, HE.out.2.2⟩
        case rest =>
          obtain ⟨P, Q, rfl, rfl, hp, hq, hbc⟩ := hcut
          have HPc := Aside0.mk (And.intro hp hq)
          have HBc := Aside0.mk (HR.out.trans (hbc.mono HR.out.size))
          have C3 := Aside0.mk (eqints_calls wc R1 R2 k1 k2 x.f1 (Kd.C_below HRR.out.1 hbc) (Kd.C_below HRR.out.2 hbc))
          have g0 := hp.c 0 rfl
          have g1 := hp.c 1 rfl
          have g2 := hp.c 2 rfl
          have g3 := hp.c 3 rfl
          have h0 := hq.c 0 rfl
          have h1 := hq.c 1 rfl
          have h2 := hq.c 2 rfl
          have h3 := hq.c 3 rfl
          clear hp hq hbc q0 q1 q2 q3 p0 p1 p2 p3
          go_wp2_with (first
            | (go_at_call 23; (with_reducible refine Calls.mono C3.out ?_); rintro e w8 ⟨rfl, hd⟩; have HB8 := Aside0.mk (HBc.out.trans (hd.mono HBc.out.size)); have g2' := (HPc.out.1.move hd HPc.out.1.lt).c 2 rfl; have g3' := (HPc.out.1.move hd HPc.out.1.lt).c 3 rfl; have h2' := (HPc.out.2.move hd HPc.out.2.lt).c 2 rfl; have h3' := (HPc.out.2.move hd HPc.out.2.lt).c 3 rfl; clear hd))
          go_roundg (gk - 1)
          case measure => have := HJ.out; omega
          case rel => exact ⟨j + 1, by have := HJ.out; omega, by go_num, HB8.out⟩
      · have t2 : decide ((j : Int) < (rs.length : Int)) = false := by simp; omega
        go_wp2_with fail
        go_ret
        exact ⟨rfl, HB.out.trans (HR.out.mono HB.out.size)⟩
end Go.Proofs.YtjhemobplcelbaaGreatDoor.O
