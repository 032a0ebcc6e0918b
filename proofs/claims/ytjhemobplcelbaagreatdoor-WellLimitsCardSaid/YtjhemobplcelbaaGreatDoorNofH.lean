/- wof: well.Of: it answers what the reference's Of answers (printed by mk_nh.py out of OfG). -/
import Derived.Test.YtjhemobplcelbaaGreatDoorNofG
import Derived.Test.YtjhemobplcelbaaGreatDoorWellE
import Derived.Test.YtjhemobplcelbaaGreatDoorWellF
namespace Go.Proofs.YtjhemobplcelbaaGreatDoor.O
open Go.RowKit Go.Proofs.YtjhemobplcelbaaGreatDoorW.PrintWords Go.Proofs.YtjhemobplcelbaaGreatDoorW.PrintLast Go.Proofs.YtjhemobplcelbaaGreatDoorW.PrintMore
open Go.Proofs.YtjhemobplcelbaaGreatDoor.U (SR kSR kSR_mkM okRule FixP passY passR y0 r0 well_yields well_reached)
open Go.Proofs.YtjhemobplcelbaaGreatDoor.M (rmayB)
set_option linter.unusedVariables false
set_option linter.unusedSimpArgs false
set_option maxRecDepth 100000 in
set_option maxHeartbeats 8000000 in
theorem wof_calls (w : World) (A : Option Addr) (c : Nat) (ts : List STk) (st : ByteArray) (ex : Int) (A2 : Option Addr) (c2 : Nat) (rs : List SRu) (hts : Kd.C kTk w A ts.length ts) (hct : ts.length ≤ c) (hrs : Kd.C kRu w A2 rs.length rs) (hc2 : rs.length ≤ c2)
    (hl1 : ts.length ≤ 100000) (hl2 : rs.length ≤ 100000) (hrn : ∀ r ∈ rs, r.f1.length ≤ 100000) :
    Calls Tryz.prog 37 #[.agg #[.slice A ts.length c, .string st, .int .i64 ex, .slice A2 rs.length c2]] w (OfPost w ts st ex rs) := by
  have HL := Aside0.mk (And.intro hts hrs)
  have CM : ∀ w', Aside0 (Below w.heap.size w w' → Calls Tryz.prog 61 #[.agg #[.slice A ts.length c, .string st, .int .i64 ex, .slice A2 rs.length c2]] w' fun e w'' => e = .returned (.bool (rmayB ts st ex rs)) ∧ Below w'.heap.size w' w'') := fun w' => ⟨fun hb => by have h := M.may_calls w' A c ts st ex A2 c2 rs (Kd.C_below hts hb) hct hl1 (Kd.C_below hrs hb) (by omega) (fun r hr => by have := hrn r hr; omega); rwa [← M.may_eq] at h⟩
  have CL : ∀ w', Aside0 (Below w.heap.size w w' → Calls Tryz.prog 62 #[.agg #[.slice A ts.length c, .string st, .int .i64 ex, .slice A2 rs.length c2]] w' fun e w'' => e = .returned (.bool (longB ts rs)) ∧ Below w'.heap.size w' w'') := fun w' => ⟨fun hb => wgreat_calls w' A c ts st ex A2 c2 rs (Kd.C_below hrs hb) hc2 (by omega)⟩
  have CN : ∀ w', Aside0 (Below w.heap.size w w' → Calls Tryz.prog 63 #[.agg #[.slice A ts.length c, .string st, .int .i64 ex, .slice A2 rs.length c2], .string (startS st rs)] w' fun e w'' => ∃ b, e = .returned (.bool b) ∧ (b = true ↔ namedOk ts st rs) ∧ Below w'.heap.size w' w'') := fun w' => ⟨fun hb => (wnamed_calls w' A c ts st ex A2 c2 rs (startS st rs) (Kd.C_below hts hb) (Kd.C_below hrs hb) hc2 (by omega)).mono (fun e w'' h => ⟨_, h.1, wnamed_iff, h.2⟩)⟩
  have CF : ∀ w', Aside0 (Below w.heap.size w w' → Calls Tryz.prog 64 #[.agg #[.slice A ts.length c, .string st, .int .i64 ex, .slice A2 rs.length c2]] w' fun e w'' => ∃ v, e = .returned v ∧ Kd.R Kd.string 9 w'' w'.heap.size (fun _ => True) v (leftsF rs) ∧ Below w'.heap.size w' w'') := fun w' => ⟨fun hb => wlefts_calls w' A ts.length c st ex A2 c2 rs (Kd.C_below hrs hb) hc2 (by omega)⟩
  clear hts hrs hrn
  go_enter Tryz.func37, Tryz.ntmps37
  go_upto_region 1 with fail
  obtain ⟨X, V, hX, hV, b1, b2, hb⟩ := boxes2 w #[.slice A ts.length c, .string st, .int .i64 ex, .slice A2 rs.length c2] #[.int .i64 0, .int .i64 0, .int .i64 0, .int .i64 0, .slice none 0 0, .slice none 0 0, .slice none 0 0, .slice none 0 0] 25 32
  rw [← hV]
  rw [← hX]
  generalize (w.alloc (.cells #[.slice A ts.length c, .string st, .int .i64 ex, .slice A2 rs.length c2] 25)).alloc (.cells #[.int .i64 0, .int .i64 0, .int .i64 0, .int .i64 0, .slice none 0 0, .slice none 0 0, .slice none 0 0, .slice none 0 0] 32) = W2 at *
  have HV : Aside0 (w.heap.size ≤ V ∧ X < V) := ⟨by omega⟩
  have HX := Aside0.mk (And.intro b1 b2)
  have HB := Aside0.mk hb
  clear hX hV hb
  have x0 := b1.c 0 rfl
  have x1 := b1.c 1 rfl
  have x2 := b1.c 2 rfl
  have x3 := b1.c 3 rfl
  clear b1 b2
  obtain ⟨bm, hbm⟩ : ∃ b, rmayB ts st ex rs = b := ⟨_, rfl⟩
  have HM := Aside0.mk hbm
  rw [hbm] at CM
  clear hbm
  cases bm with
  | false =>
    go_wp2_with (first
      | (go_at_call 61; (with_reducible refine Calls.mono ((CM _).out HB.out) ?_); rintro e w3 ⟨rfl, hb3⟩; have H3 := Aside0.mk (HB.out.trans (hb3.mono HB.out.size)); have HV3 := Aside0.mk (HX.out.2.move hb3 HX.out.2.lt); clear hb3; have g0 := HV3.out.c 0 rfl; have g1 := HV3.out.c 1 rfl; have g2 := HV3.out.c 2 rfl; have g3 := HV3.out.c 3 rfl; have g4 := HV3.out.c 4 rfl; have g5 := HV3.out.c 5 rfl; have g6 := HV3.out.c 6 rfl; have g7 := HV3.out.c 7 rfl; have gf := fun k => HV3.out.fz k))
    refine bodyPost_ret (results_cell_tmp rfl _ _ V 32 #[.int .i64 0, .int .i64 0, .int .i64 0, .int .i64 0, .slice none 0 0, .slice none 0 0, .slice none 0 0, .slice none 0 0] _ (.int .i64 1) rfl rfl (put8_bx HV3.out).heap Tryz.underlying32 rfl (by kernel_rfl)) rfl ?_
    exact ⟨zeroSp, 1, rfl, .inl ⟨HM.out, rfl⟩, fun _ => rfl, fun h => absurd h (by decide), put8_below H3.out HV.out.1⟩
  | true =>
    go_upto_region 3 with (first
      | (go_at_call 61; (with_reducible refine Calls.mono ((CM _).out HB.out) ?_); rintro e w3 ⟨rfl, hb3⟩; have H3 := Aside0.mk (HB.out.trans (hb3.mono HB.out.size)); have HX3 := Aside0.mk (And.intro (HX.out.1.move hb3 HX.out.1.lt) (HX.out.2.move hb3 HX.out.2.lt)); clear hb3))
    clear HX HB x0 x1 x2 x3 CM
    have x0 := HX3.out.1.c 0 rfl
    have x1 := HX3.out.1.c 1 rfl
    have x2 := HX3.out.1.c 2 rfl
    have x3 := HX3.out.1.c 3 rfl
    obtain ⟨bm, hbm⟩ : ∃ b, longB ts rs = b := ⟨_, rfl⟩
    have HG := Aside0.mk hbm
    rw [hbm] at CL
    clear hbm
    cases bm with
    | true =>
      go_wp2_with (first
        | (go_at_call 62; (with_reducible refine Calls.mono ((CL _).out H3.out) ?_); rintro e w4 ⟨rfl, hb3⟩; have H4 := Aside0.mk (H3.out.trans (hb3.mono H3.out.size)); have HV3 := Aside0.mk (HX3.out.2.move hb3 HX3.out.2.lt); clear hb3; have g0 := HV3.out.c 0 rfl; have g1 := HV3.out.c 1 rfl; have g2 := HV3.out.c 2 rfl; have g3 := HV3.out.c 3 rfl; have g4 := HV3.out.c 4 rfl; have g5 := HV3.out.c 5 rfl; have g6 := HV3.out.c 6 rfl; have g7 := HV3.out.c 7 rfl; have gf := fun k => HV3.out.fz k))
      refine bodyPost_ret (results_cell_tmp rfl _ _ V 32 #[.int .i64 0, .int .i64 0, .int .i64 0, .int .i64 0, .slice none 0 0, .slice none 0 0, .slice none 0 0, .slice none 0 0] _ (.int .i64 6) rfl rfl (put8_bx HV3.out).heap Tryz.underlying32 rfl (by kernel_rfl)) rfl ?_
      exact ⟨zeroSp, 6, rfl, .inr (.inl ⟨HM.out, HG.out, rfl⟩), fun _ => rfl, fun h => absurd h (by decide), put8_below H4.out HV.out.1⟩
    | false =>
      go_upto_region 5 with (first
        | (go_at_call 62; (with_reducible refine Calls.mono ((CL _).out H3.out) ?_); rintro e w4 ⟨rfl, hb3⟩; have H4 := Aside0.mk (H3.out.trans (hb3.mono H3.out.size)); have HX4 := Aside0.mk (And.intro (HX3.out.1.move hb3 HX3.out.1.lt) (HX3.out.2.move hb3 HX3.out.2.lt)); clear hb3))
      clear HX3 H3 x0 x1 x2 x3 CL
      have x0 := HX4.out.1.c 0 rfl
      have x1 := HX4.out.1.c 1 rfl
      have x2 := HX4.out.1.c 2 rfl
      have x3 := HX4.out.1.c 3 rfl
      go_upto_region 6 with fail
      go_cut [30] (fun v30 wx => v30 = .bool (st.toList.isEmpty && decide (0 < rs.length)) ∧ wx = w4)
      case first =>
        by_cases h5 : st.toList = []
        · have t5 : st.toList.isEmpty = true := by rw [h5]; rfl
          by_cases h0 : 0 < rs.length
          · have t6 : decide ((rs.length : Int) > 0) = true := by simp; omega
            have HE : Aside0 ((st.toList.isEmpty && decide (0 < rs.length)) = true) := ⟨by rw [t5, decide_eq_true h0]; rfl⟩
            clear h5
            go_wp2_with fail
            go_meet
            exact ⟨by first | rw [HE.out] | rw [decide_eq_true h0] | rw [decide_eq_false h0], rfl⟩
          · have t6 : decide ((rs.length : Int) > 0) = false := decide_eq_false (by omega)
            have HE : Aside0 ((st.toList.isEmpty && decide (0 < rs.length)) = false) := ⟨by rw [decide_eq_false h0]; simp⟩
            clear h5
            go_wp2_with fail
            go_meet
            exact ⟨by first | rw [HE.out] | rw [decide_eq_true h0] | rw [decide_eq_false h0], rfl⟩
        · have t5 : st.toList.isEmpty = false := by simpa using h5
          have HE : Aside0 ((st.toList.isEmpty && decide (0 < rs.length)) = false) := ⟨by rw [t5]; rfl⟩
          clear h5
          go_wp2_with fail
          go_meet
          exact ⟨by first | rw [HE.out] | rw [decide_eq_true h0] | rw [decide_eq_false h0], rfl⟩
      case rest =>
      obtain ⟨rfl, hwc⟩ := hcut
      have hw2 := hwc.symm
      subst hw2
      obtain ⟨be, hbe⟩ : ∃ b, b = (st.toList.isEmpty && decide (0 < rs.length)) := ⟨_, rfl⟩
      rw [← hbe]
      have HBE := Aside0.mk hbe
      clear hbe
      go_upto_if 30 with fail
      go_cut [4] (fun v4 wx => v4 = .string (startS st rs) ∧ wx = w4)
      case first =>
        cases be with
        | true =>
          have h00 : st.toList.isEmpty = true ∧ 0 < rs.length := by have h1 := HBE.out; simp only [Bool.true_eq, Bool.and_eq_true, decide_eq_true_eq] at h1; exact h1
          have h0 : 0 < rs.length := h00.2
          obtain ⟨ad0, A10, c10, e10, q0, _, _, _, _⟩ := ru_at (Kd.C_below HL.out.2 H4.out) 0 h0
          have HS0 : Aside0 (rs[0].f0 = startS st rs) := ⟨by
            unfold startS
            rw [if_pos ⟨toList_eq.1 (by rw [List.isEmpty_iff.1 h00.1, toList_nil]), h0⟩]
            cases rs with
            | nil => exact absurd h0 (by simp)
            | cons r rs => rfl⟩
          rw [HS0.out, Nat.zero_mul, Addr.add_zero'] at q0
          have hln : (0 : Int) < (rs.length : Int) := by omega
          generalize startS st rs = s0 at *
          subst e10
          clear h00
          go_wp2_with fail
          go_meet
          exact ⟨rfl, rfl⟩
        | false =>
          have HS0 : Aside0 (st = startS st rs) := ⟨by
            have h1 := HBE.out
            unfold startS
            rw [if_neg]
            rintro ⟨h2, h3⟩
            have h4 : (⟨#[]⟩ : ByteArray).toList.isEmpty = true := by rw [toList_nil]; rfl
            rw [h2, decide_eq_true h3, h4] at h1
            cases h1⟩
          go_wp2_with fail
          go_meet
          exact ⟨by rw [← HS0.out], rfl⟩
      case rest =>
      obtain ⟨rfl, hwc⟩ := hcut
      have hw2 := hwc.symm
      subst hw2
      have CN4 := (CN _).out H4.out
      by_cases hnk : namedOk ts st rs
      · have CN5 : Aside0 (Calls Tryz.prog 63 #[.agg #[.slice A ts.length c, .string st, .int .i64 ex, .slice A2 rs.length c2], .string (startS st rs)] w4 fun e w' => e = .returned (.bool true) ∧ Below w4.heap.size w4 w') := ⟨CN4.mono (fun e w' ⟨b, he, hb, hw⟩ => ⟨by rw [he, hb.2 hnk], hw⟩)⟩
        have HNK := Aside0.mk hnk
        clear CN4 CN hnk
        go_upto_region 10 with (first
          | (go_at_call 63; (with_reducible refine Calls.mono CN5.out ?_); rintro e w5 ⟨rfl, hb3⟩; have H5 := Aside0.mk (H4.out.trans (hb3.mono H4.out.size)); have HX5 := Aside0.mk (And.intro (HX4.out.1.move hb3 HX4.out.1.lt) (HX4.out.2.move hb3 HX4.out.2.lt)); clear hb3))
        clear HX4 H4 x0 x1 x2 x3 CN5
        have x0 := HX5.out.1.c 0 rfl
        have x1 := HX5.out.1.c 1 rfl
        have x2 := HX5.out.1.c 2 rfl
        have x3 := HX5.out.1.c 3 rfl
        go_upto_region 11 with (first
          | (go_at_call 64; (with_reducible refine Calls.mono ((CF _).out H5.out) ?_); rintro e w6 ⟨v, rfl, ho, hb3⟩; obtain ⟨Al, cl, rfl⟩ := Kd.R_slice ho; obtain ⟨_, _, elq, hcl, hrl⟩ := Kd.R_reads ho; injection elq with ea _ ec; subst ea ec; have HLF := Aside0.mk (And.intro hrl hcl); have H6 := Aside0.mk (H5.out.trans (hb3.mono H5.out.size)); have HX6 := Aside0.mk (And.intro (HX5.out.1.move hb3 HX5.out.1.lt) (HX5.out.2.move hb3 HX5.out.2.lt)); clear hb3 ho hcl hrl))
        clear HX5 H5 x0 x1 x2 x3 CF
        have x0 := HX6.out.1.c 0 rfl
        have x1 := HX6.out.1.c 1 rfl
        have x2 := HX6.out.1.c 2 rfl
        have x3 := HX6.out.1.c 3 rfl
        go_upto_region 12 with fail
        have hbA := below_alloc (Below.refl w6.heap.size w6) (.cells #[.int .i64 ts.length, .int .i64 (leftsF rs).length, .int .i64 0, .int .i64 ex, .slice none 0 0, .slice none 0 0, .slice none 0 0, .slice none 0 0] 32)
        have hxB := Bx.new w6 #[.int .i64 ts.length, .int .i64 (leftsF rs).length, .int .i64 0, .int .i64 ex, .slice none 0 0, .slice none 0 0, .slice none 0 0, .slice none 0 0] 32
        obtain ⟨B, hB⟩ : ∃ B, B = w6.heap.size := ⟨_, rfl⟩
        rw [← hB] at hxB
        rw [← hB]
        have H7 := Aside0.mk (And.intro hxB hbA)
        have HBB := Aside0.mk hB
        generalize w6.alloc (.cells #[.int .i64 ts.length, .int .i64 (leftsF rs).length, .int .i64 0, .int .i64 ex, .slice none 0 0, .slice none 0 0, .slice none 0 0, .slice none 0 0] 32) = W7 at *
        clear hbA hxB hB x0 x1 x2 x3
        have x0 := (HX6.out.1.move H7.out.2 HX6.out.1.lt).c 0 rfl
        go_wp2_with fail
        go_loopg [54] ts.length (fun kq v6 w' => TcRel w6 B ts ts.length (leftsF rs).length ex kq v6 w')
        case atStart => exact ⟨0, _, _, _, by omega, rfl, H7.out.1, R3.nil _ _ _, H7.out.2⟩
        case round =>
          obtain ⟨i, v4, v5, v6, hi, rfl, hbx, hr, hbw⟩ := hrel
          have HI := Aside0.mk hi
          have HR := Aside0.mk hr
          have HBX := Aside0.mk hbx
          have HBW := Aside0.mk hbw
          clear hi hr hbx hbw x0
          by_cases hil : i < ts.length
          · have t1 : decide ((i : Int) < (ts.length : Int)) = true := by simp; omega
            have hin : (i : Int) < (ts.length : Int) := by omega
            obtain ⟨ad, e1, q0, q1, q2⟩ := tok_at HL.out.1 i hil
            have HB0 : Aside0 (Below w.heap.size w wr) := ⟨H6.out.trans (HBW.out.mono H6.out.size)⟩
            have HQ : Aside0 (wr.cell? (ad.add (i * 3)) = some (.string ts[i].f0) ∧ wr.cell? ⟨(ad.add (i * 3)).block, (ad.add (i * 3)).off + 1, none⟩ = some (.int .i64 ts[i].f1) ∧ wr.cell? ⟨(ad.add (i * 3)).block, (ad.add (i * 3)).off + 2, none⟩ = some (.int .i64 ts[i].f2)) := ⟨pw_cell_below HB0.out q0, pw_cell_below HB0.out q1, pw_cell_below HB0.out q2⟩
            have HTK : Aside0 ((ts.take (i + 1)).map STk.f0 = (ts.take i).map STk.f0 ++ [ts[i].f0] ∧ (ts.take (i + 1)).map STk.f1 = (ts.take i).map STk.f1 ++ [ts[i].f1] ∧ (ts.take (i + 1)).map STk.f2 = (ts.take i).map STk.f2 ++ [ts[i].f2]) := ⟨by rw [List.take_succ_eq_append_getElem hil]; simp only [List.map_append, List.map_cons, List.map_nil, and_self]⟩
            have HIL := Aside0.mk hil
            generalize ts[i] = tk at *
            obtain ⟨s0, s1, s2⟩ := tk
            simp only at HQ HTK
            subst e1
            have hla : ((ts.take i).map STk.f0).length ≤ 100000 := by simp; omega
            have hlb : ((ts.take i).map STk.f1).length ≤ 100000 := by simp; omega
            have hlc : ((ts.take i).map STk.f2).length ≤ 100000 := by simp; omega
            generalize (ts.take i).map STk.f0 = la at *
            generalize (ts.take i).map STk.f1 = lb at *
            generalize (ts.take i).map STk.f2 = lc at *
            have HQ0 := Aside0.mk (And.intro q0 (And.intro q1 q2))
            clear q0 q1 q2
            have HBL : Aside0 (w6.heap.size ≤ B) := ⟨Nat.le_of_eq HBB.out.symm⟩
            obtain ⟨A4, c4, rfl⟩ := Kd.R_slice HR.out.r4
            obtain ⟨A5, c5, rfl⟩ := Kd.R_slice HR.out.r5
            obtain ⟨A6, c6, rfl⟩ := Kd.R_slice HR.out.r6
            have q0 := HQ.out.1
            have q1 := HQ.out.2.1
            have q2 := HQ.out.2.2
            go_upto_region 15 with fail
            obtain ⟨T, hT⟩ : ∃ T, T = wr.heap.size := ⟨_, rfl⟩
            have hxT := Bx.new wr #[.string s0, .int .i64 s1, .int .i64 s2] 71
            rw [← hT] at hxT
            rw [← hT]
            have HQ3 : Aside0 (Q3 B T w6 #[.int .i64 ts.length, .int .i64 (leftsF rs).length, .int .i64 0, .int .i64 ex, .slice A4 la.length c4, .slice A5 lb.length c5, .slice A6 lc.length c6, .slice none 0 0] #[.string s0, .int .i64 s1, .int .i64 s2] (wr.alloc (.cells #[.string s0, .int .i64 s1, .int .i64 s2] 71)) (.slice A4 la.length c4) (.slice A5 lb.length c5) (.slice A6 lc.length c6) la lb lc) := ⟨HR.out.below (below_alloc (Below.refl _ _) _), HBX.out.onto _, hxT, below_alloc HBW.out _, fun he => by have := Kd.R_lt HR.out.r4 T he.symm; omega, fun he => by have := Kd.R_lt HR.out.r5 T he.symm; omega, fun he => by have := Kd.R_lt HR.out.r6 T he.symm; omega⟩
            generalize wr.alloc (.cells #[.string s0, .int .i64 s1, .int .i64 s2] 71) = W14 at *
            clear q0 q1 q2 hxT hT HQ HQ0 HR HBX HBW
            have hS0 : Bx W14.drew B #[.int .i64 ts.length, .int .i64 (leftsF rs).length, .int .i64 0, .int .i64 ex, .slice A4 la.length c4, .slice A5 lb.length c5, .slice A6 lc.length c6, .slice none 0 0] 32 ∧ Bx W14.drew T #[.string s0, .int .i64 s1, .int .i64 s2] 71 := ⟨HQ3.out.bx.drew, HQ3.out.tx.drew⟩
            refine t_begin (fun w' => Bx w' B #[.int .i64 ts.length, .int .i64 (leftsF rs).length, .int .i64 0, .int .i64 ex, .slice A4 la.length c4, .slice A5 lb.length c5, .slice A6 lc.length c6, .slice none 0 0] 32 ∧ Bx w' T #[.string s0, .int .i64 s1, .int .i64 s2] 71) (fun j => [19, 20, 21, 22, 23].contains j) (by kernel_rfl) ?_
            refine t_take (i := 0) (n := 24) (ls := [19, 20, 21, 22, 23]) (v := ?_) rfl rfl (by kernel_rfl) (by kernel_rfl) (by kernel_rfl) (by kernel_rfl) (by kernel_rfl) (fun _ _ _ h => h) (Or.inl ⟨by rfl, ?_⟩) hS0 ?_
            rotate_left
            · intro w' hS'
              go_simp
              (try with_reducible rfl)
            simp only [Act.put, List.setIfInBounds_toArray, List.set_cons_zero, List.set_cons_succ]
            refine t_take (i := 1) (n := 24) (ls := [19, 20, 21, 22, 23]) (v := ?_) rfl rfl (by kernel_rfl) (by kernel_rfl) (by kernel_rfl) (by kernel_rfl) (by kernel_rfl) (fun _ _ _ h => h) (Or.inl ⟨by rfl, ?_⟩) hS0 ?_
            rotate_left
            · intro w' hS'
              have b4 := hS'.1.c 4 rfl
              have b5 := hS'.1.c 5 rfl
              have b6 := hS'.1.c 6 rfl
              go_simp
              (try with_reducible rfl)
            simp only [Act.put, List.setIfInBounds_toArray, List.set_cons_zero, List.set_cons_succ]
            refine t_take (i := 2) (n := 24) (ls := [19, 20, 21, 22, 23]) (v := ?_) rfl rfl (by kernel_rfl) (by kernel_rfl) (by kernel_rfl) (by kernel_rfl) (by kernel_rfl) (fun _ _ _ h => h) (Or.inl ⟨by rfl, ?_⟩) hS0 ?_
            rotate_left
            · intro w' hS'
              go_simp
              (try with_reducible rfl)
            simp only [Act.put, List.setIfInBounds_toArray, List.set_cons_zero, List.set_cons_succ]
            refine t_take (i := 3) (n := 24) (ls := [19, 20, 21, 22, 23]) (v := ?_) rfl rfl (by kernel_rfl) (by kernel_rfl) (by kernel_rfl) (by kernel_rfl) (by kernel_rfl) (fun _ _ _ h => h) (Or.inl ⟨by rfl, ?_⟩) hS0 ?_
            rotate_left
            · intro w' hS'
              have d0 := hS'.2.c 0 rfl
              have d1 := hS'.2.c 1 rfl
              have d2 := hS'.2.c 2 rfl
              go_simp
              (try with_reducible rfl)
            simp only [Act.put, List.setIfInBounds_toArray, List.set_cons_zero, List.set_cons_succ]
            refine t_take (i := 6) (n := 24) (ls := [19, 20, 21, 22, 23]) (v := ?_) rfl rfl (by kernel_rfl) (by kernel_rfl) (by kernel_rfl) (by kernel_rfl) (by kernel_rfl) (fun _ _ _ h => h) (Or.inl ⟨by rfl, ?_⟩) hS0 ?_
            rotate_left
            · intro w' hS'
              go_simp
              (try with_reducible rfl)
            simp only [Act.put, List.setIfInBounds_toArray, List.set_cons_zero, List.set_cons_succ]
            refine t_take (i := 7) (n := 24) (ls := [19, 20, 21, 22, 23]) (v := ?_) rfl rfl (by kernel_rfl) (by kernel_rfl) (by kernel_rfl) (by kernel_rfl) (by kernel_rfl) (fun _ _ _ h => h) (Or.inl ⟨by rfl, ?_⟩) hS0 ?_
            rotate_left
            · intro w' hS'
              have b4 := hS'.1.c 4 rfl
              have b5 := hS'.1.c 5 rfl
              have b6 := hS'.1.c 6 rfl
              go_simp
              (try with_reducible rfl)
            simp only [Act.put, List.setIfInBounds_toArray, List.set_cons_zero, List.set_cons_succ]
            refine t_take (i := 8) (n := 24) (ls := [19, 20, 21, 22, 23]) (v := ?_) rfl rfl (by kernel_rfl) (by kernel_rfl) (by kernel_rfl) (by kernel_rfl) (by kernel_rfl) (fun _ _ _ h => h) (Or.inl ⟨by rfl, ?_⟩) hS0 ?_
            rotate_left
            · intro w' hS'
              go_simp
              (try with_reducible rfl)
            simp only [Act.put, List.setIfInBounds_toArray, List.set_cons_zero, List.set_cons_succ]
            refine t_take (i := 9) (n := 24) (ls := [19, 20, 21, 22, 23]) (v := ?_) rfl rfl (by kernel_rfl) (by kernel_rfl) (by kernel_rfl) (by kernel_rfl) (by kernel_rfl) (fun _ _ _ h => h) (Or.inl ⟨by rfl, ?_⟩) hS0 ?_
            rotate_left
            · intro w' hS'
              have d0 := hS'.2.c 0 rfl
              have d1 := hS'.2.c 1 rfl
              have d2 := hS'.2.c 2 rfl
              go_simp
              (try with_reducible rfl)
            simp only [Act.put, List.setIfInBounds_toArray, List.set_cons_zero, List.set_cons_succ]
            refine t_take (i := 12) (n := 24) (ls := [19, 20, 21, 22, 23]) (v := ?_) rfl rfl (by kernel_rfl) (by kernel_rfl) (by kernel_rfl) (by kernel_rfl) (by kernel_rfl) (fun _ _ _ h => h) (Or.inl ⟨by rfl, ?_⟩) hS0 ?_
            rotate_left
            · intro w' hS'
              go_simp
              (try with_reducible rfl)
            simp only [Act.put, List.setIfInBounds_toArray, List.set_cons_zero, List.set_cons_succ]
            refine t_take (i := 13) (n := 24) (ls := [19, 20, 21, 22, 23]) (v := ?_) rfl rfl (by kernel_rfl) (by kernel_rfl) (by kernel_rfl) (by kernel_rfl) (by kernel_rfl) (fun _ _ _ h => h) (Or.inl ⟨by rfl, ?_⟩) hS0 ?_
            rotate_left
            · intro w' hS'
              have b4 := hS'.1.c 4 rfl
              have b5 := hS'.1.c 5 rfl
              have b6 := hS'.1.c 6 rfl
              go_simp
              (try with_reducible rfl)
            simp only [Act.put, List.setIfInBounds_toArray, List.set_cons_zero, List.set_cons_succ]
            refine t_take (i := 14) (n := 24) (ls := [19, 20, 21, 22, 23]) (v := ?_) rfl rfl (by kernel_rfl) (by kernel_rfl) (by kernel_rfl) (by kernel_rfl) (by kernel_rfl) (fun _ _ _ h => h) (Or.inl ⟨by rfl, ?_⟩) hS0 ?_
            rotate_left
            · intro w' hS'
              go_simp
              (try with_reducible rfl)
            simp only [Act.put, List.setIfInBounds_toArray, List.set_cons_zero, List.set_cons_succ]
            refine t_take (i := 15) (n := 24) (ls := [19, 20, 21, 22, 23]) (v := ?_) rfl rfl (by kernel_rfl) (by kernel_rfl) (by kernel_rfl) (by kernel_rfl) (by kernel_rfl) (fun _ _ _ h => h) (Or.inl ⟨by rfl, ?_⟩) hS0 ?_
            rotate_left
            · intro w' hS'
              have d0 := hS'.2.c 0 rfl
              have d1 := hS'.2.c 1 rfl
              have d2 := hS'.2.c 2 rfl
              go_simp
              (try with_reducible rfl)
            simp only [Act.put, List.setIfInBounds_toArray, List.set_cons_zero, List.set_cons_succ]
            have HQd := Aside0.mk HQ3.out.drew
            clear hS0 HQ3
            generalize W14.drew = V0 at *
            refine t_three (i := 4) (j := 10) (l := 16) (by kernel_rfl) ?_ ?_ ?_
            · refine t_step rfl (fun K hK => ?_)
              go_simp
              refine hK.out _ _ (fun _ => ⟨(HQd.out.onto _).bx, (HQd.out.onto _).tx⟩) ?_
              clear hK K
              (try simp only [Act.put, List.setIfInBounds_toArray, List.set_cons_zero, List.set_cons_succ])
              have HQ1_ := Aside0.mk (HQd.out.onto (.cells #[.string s0] 9))
              have HN1 := Aside0.mk (Lit.new HQd.out.r3 (.string s0) 9)
              obtain ⟨p1, hp1⟩ : ∃ p, p = V0.heap.size := ⟨_, rfl⟩
              rw [← hp1] at HN1
              rw [← hp1]
              clear hp1
              generalize V0.alloc (.cells #[.string s0] 9) = V1 at *
              refine t_three (i := 5) (j := 10) (l := 16) (by kernel_rfl) ?_ ?_ ?_
              · refine t_step rfl (fun K hK => ?_)
                refine app4 (by rfl) (.tmp 59) (.tmp 62) rfl (by rfl) (by rfl) HQ1_.out HN1.out (by omega) ?_
                intro A2 c2 V2 hq2 hk2
                refine hK.out _ _ (fun _ => ⟨hq2.bx, hq2.tx⟩) ?_
                clear hK K
                (try simp only [Act.put, List.setIfInBounds_toArray, List.set_cons_zero, List.set_cons_succ])
                have HQ2_ := Aside0.mk hq2
                clear hq2 hk2
                refine t_take (i := 18) (n := 24) (ls := [19, 20, 21, 22, 23]) (v := ?_) rfl rfl (by kernel_rfl) (by kernel_rfl) (by kernel_rfl) (by kernel_rfl) (by kernel_rfl) (fun _ _ _ h => h) (Or.inl ⟨by rfl, ?_⟩) ⟨HQ2_.out.bx, HQ2_.out.tx⟩ ?_
                rotate_left
                · intro w' hS'
                  go_simp
                  (try with_reducible rfl)
                simp only [Act.put, List.setIfInBounds_toArray, List.set_cons_zero, List.set_cons_succ]
                refine t_two (i := 10) (j := 16) (by kernel_rfl) ?_ ?_
                · refine t_step rfl (fun K hK => ?_)
                  go_simp
                  refine hK.out _ _ (fun _ => ⟨(HQ2_.out.onto _).bx, (HQ2_.out.onto _).tx⟩) ?_
                  clear hK K
                  (try simp only [Act.put, List.setIfInBounds_toArray, List.set_cons_zero, List.set_cons_succ])
                  have HQ3_ := Aside0.mk (HQ2_.out.onto (.cells #[.int .i64 s1] 3))
                  have HN3 := Aside0.mk (Lit.new HQ2_.out.r3 (.int .i64 s1) 3)
                  obtain ⟨p3, hp3⟩ : ∃ p, p = V2.heap.size := ⟨_, rfl⟩
                  rw [← hp3] at HN3
                  rw [← hp3]
                  clear hp3
                  generalize V2.alloc (.cells #[.int .i64 s1] 3) = V3 at *
                  refine t_two (i := 11) (j := 16) (by kernel_rfl) ?_ ?_
                  · refine t_step rfl (fun K hK => ?_)
                    refine app5 (by rfl) (.tmp 65) (.tmp 68) rfl (by rfl) (by rfl) HQ3_.out HN3.out (by omega) ?_
                    intro A4 c4 V4 hq4 hk4
                    refine hK.out _ _ (fun _ => ⟨hq4.bx, hq4.tx⟩) ?_
                    clear hK K
                    (try simp only [Act.put, List.setIfInBounds_toArray, List.set_cons_zero, List.set_cons_succ])
                    have HQ4_ := Aside0.mk hq4
                    clear hq4 hk4
                    refine t_one (i := 16) (by kernel_rfl) ?_
                    refine t_step rfl (fun K hK => ?_)
                    go_simp
                    refine hK.out _ _ (fun _ => ⟨(HQ4_.out.onto _).bx, (HQ4_.out.onto _).tx⟩) ?_
                    clear hK K
                    (try simp only [Act.put, List.setIfInBounds_toArray, List.set_cons_zero, List.set_cons_succ])
                    have HQ5_ := Aside0.mk (HQ4_.out.onto (.cells #[.int .i64 s2] 3))
                    have HN5 := Aside0.mk (Lit.new HQ4_.out.r3 (.int .i64 s2) 3)
                    obtain ⟨p5, hp5⟩ : ∃ p, p = V4.heap.size := ⟨_, rfl⟩
                    rw [← hp5] at HN5
                    rw [← hp5]
                    clear hp5
                    generalize V4.alloc (.cells #[.int .i64 s2] 3) = V5 at *
                    refine t_one (i := 17) (by kernel_rfl) ?_
                    refine t_step rfl (fun K hK => ?_)
                    refine app6 (by rfl) (.tmp 71) (.tmp 74) rfl (by rfl) (by rfl) HQ5_.out HN5.out (by omega) ?_
                    intro A6 c6 V6 hq6 hk6
                    refine hK.out _ _ (fun _ => ⟨hq6.bx, hq6.tx⟩) ?_
                    clear hK K
                    (try simp only [Act.put, List.setIfInBounds_toArray, List.set_cons_zero, List.set_cons_succ])
                    have HQ6_ := Aside0.mk hq6
                    clear hq6 hk6
                    have y4 := HQ6_.out.bx.c 4 rfl
                    have y5 := HQ6_.out.bx.c 5 rfl
                    have y6 := HQ6_.out.bx.c 6 rfl
                    have yf := fun k => HQ6_.out.bx.fz k
                    refine t_one (i := 19) (by kernel_rfl) (t_step rfl (fun K hK => ?_))
                    go_simp
                    refine hK.out _ _ (fun h => absurd h (by decide)) ?_
                    clear hK K
                    (try simp only [Act.put, List.setIfInBounds_toArray, List.set_cons_zero, List.set_cons_succ])
                    refine t_one (i := 20) (by kernel_rfl) (t_step rfl (fun K hK => ?_))
                    go_simp
                    refine hK.out _ _ (fun h => absurd h (by decide)) ?_
                    clear hK K
                    (try simp only [Act.put, List.setIfInBounds_toArray, List.set_cons_zero, List.set_cons_succ])
                    refine t_one (i := 21) (by kernel_rfl) (t_step rfl (fun K hK => ?_))
                    go_simp
                    refine hK.out _ _ (fun h => absurd h (by decide)) ?_
                    clear hK K
                    (try simp only [Act.put, List.setIfInBounds_toArray, List.set_cons_zero, List.set_cons_succ])
                    refine t_one (i := 22) (by kernel_rfl) (t_step rfl (fun K hK => ?_))
                    go_simp
                    refine hK.out _ _ (fun h => absurd h (by decide)) ?_
                    clear hK K
                    (try simp only [Act.put, List.setIfInBounds_toArray, List.set_cons_zero, List.set_cons_succ])
                    refine t_one (i := 23) (by kernel_rfl) (t_step rfl (fun K hK => ?_))
                    go_simp
                    refine hK.out _ _ (fun h => absurd h (by decide)) ?_
                    clear hK K
                    (try simp only [Act.put, List.setIfInBounds_toArray, List.set_cons_zero, List.set_cons_succ])
                    refine t_done (by kernel_rfl) ?_
                    have HE := Aside0.mk (And.intro (((HQ6_.out.bx.put 4 (.slice A2 (la ++ [s0]).length c2)).put 5 (.slice A4 (lb ++ [s1]).length c4)).put 6 (.slice A6 (lc ++ [s2]).length c6)) (And.intro (((HQ6_.out.r3.far 4 (.slice A2 (la ++ [s0]).length c2)).far 5 (.slice A4 (lb ++ [s1]).length c4)).far 6 (.slice A6 (lc ++ [s2]).length c6)) (((HQ6_.out.bw.setCell (p := ⟨B, 4, none⟩) HBL.out (.slice A2 (la ++ [s0]).length c2)).setCell (p := ⟨B, 5, none⟩) HBL.out (.slice A4 (lb ++ [s1]).length c4)).setCell (p := ⟨B, 6, none⟩) HBL.out (.slice A6 (lc ++ [s2]).length c6))))
                    clear y4 y5 y6 yf
                    go_wp2_with fail
                    go_roundg (gk - 1)
                    case measure => have := HI.out; have := HIL.out; omega
                    case rel =>
                      rw [show la.length + 1 = (la ++ [s0]).length by simp, show lb.length + 1 = (lb ++ [s1]).length by simp, show lc.length + 1 = (lc ++ [s2]).length by simp]
                      exact ⟨i + 1, _, _, _, by have := HI.out; have := HIL.out; omega, by have h1 := HIL.out; first | rfl | go_num | (congr 1; unfold wrap64; omega), HE.out.1, by rw [HTK.out.1, HTK.out.2.1, HTK.out.2.2]; exact HE.out.2.1, HE.out.2.2⟩
                  · refine t_step rfl (fun K hK => ?_)
                    go_simp
                    refine hK.out _ _ (fun _ => ⟨(HQ3_.out.onto _).bx, (HQ3_.out.onto _).tx⟩) ?_
                    clear hK K
                    (try simp only [Act.put, List.setIfInBounds_toArray, List.set_cons_zero, List.set_cons_succ])
                    have HQ7_ := Aside0.mk (HQ3_.out.onto (.cells #[.int .i64 s2] 3))
                    have HN7 := Aside0.mk (Lit.new HQ3_.out.r3 (.int .i64 s2) 3)
                    have HN3_7 := Aside0.mk (HN3.out.onto (.cells #[.int .i64 s2] 3))
                    obtain ⟨p7, hp7⟩ : ∃ p, p = V3.heap.size := ⟨_, rfl⟩
                    rw [← hp7] at HN7
                    rw [← hp7]
                    clear hp7
                    generalize V3.alloc (.cells #[.int .i64 s2] 3) = V7 at *
                    refine t_one (i := 11) (by kernel_rfl) ?_
                    refine t_step rfl (fun K hK => ?_)
                    refine app5 (by rfl) (.tmp 65) (.tmp 68) rfl (by rfl) (by rfl) HQ7_.out HN3_7.out (by omega) ?_
                    intro A8 c8 V8 hq8 hk8
                    refine hK.out _ _ (fun _ => ⟨hq8.bx, hq8.tx⟩) ?_
                    clear hK K
                    (try simp only [Act.put, List.setIfInBounds_toArray, List.set_cons_zero, List.set_cons_succ])
                    have HQ8_ := Aside0.mk hq8
                    have HN7_8 := Aside0.mk (hk8 _ _ HN7.out)
                    clear hq8 hk8
                    refine t_one (i := 17) (by kernel_rfl) ?_
                    refine t_step rfl (fun K hK => ?_)
                    refine app6 (by rfl) (.tmp 71) (.tmp 74) rfl (by rfl) (by rfl) HQ8_.out HN7_8.out (by omega) ?_
                    intro A9 c9 V9 hq9 hk9
                    refine hK.out _ _ (fun _ => ⟨hq9.bx, hq9.tx⟩) ?_
                    clear hK K
                    (try simp only [Act.put, List.setIfInBounds_toArray, List.set_cons_zero, List.set_cons_succ])
                    have HQ9_ := Aside0.mk hq9
                    clear hq9 hk9
                    have y4 := HQ9_.out.bx.c 4 rfl
                    have y5 := HQ9_.out.bx.c 5 rfl
                    have y6 := HQ9_.out.bx.c 6 rfl
                    have yf := fun k => HQ9_.out.bx.fz k
                    refine t_one (i := 19) (by kernel_rfl) (t_step rfl (fun K hK => ?_))
                    go_simp
                    refine hK.out _ _ (fun h => absurd h (by decide)) ?_
                    clear hK K
                    (try simp only [Act.put, List.setIfInBounds_toArray, List.set_cons_zero, List.set_cons_succ])
                    refine t_one (i := 20) (by kernel_rfl) (t_step rfl (fun K hK => ?_))
                    go_simp
                    refine hK.out _ _ (fun h => absurd h (by decide)) ?_
                    clear hK K
                    (try simp only [Act.put, List.setIfInBounds_toArray, List.set_cons_zero, List.set_cons_succ])
                    refine t_one (i := 21) (by kernel_rfl) (t_step rfl (fun K hK => ?_))
                    go_simp
                    refine hK.out _ _ (fun h => absurd h (by decide)) ?_
                    clear hK K
                    (try simp only [Act.put, List.setIfInBounds_toArray, List.set_cons_zero, List.set_cons_succ])
                    refine t_one (i := 22) (by kernel_rfl) (t_step rfl (fun K hK => ?_))
                    go_simp
                    refine hK.out _ _ (fun h => absurd h (by decide)) ?_
                    clear hK K
                    (try simp only [Act.put, List.setIfInBounds_toArray, List.set_cons_zero, List.set_cons_succ])
                    refine t_one (i := 23) (by kernel_rfl) (t_step rfl (fun K hK => ?_))
                    go_simp
                    refine hK.out _ _ (fun h => absurd h (by decide)) ?_
                    clear hK K
                    (try simp only [Act.put, List.setIfInBounds_toArray, List.set_cons_zero, List.set_cons_succ])
                    refine t_done (by kernel_rfl) ?_
                    have HE := Aside0.mk (And.intro (((HQ9_.out.bx.put 4 (.slice A2 (la ++ [s0]).length c2)).put 5 (.slice A8 (lb ++ [s1]).length c8)).put 6 (.slice A9 (lc ++ [s2]).length c9)) (And.intro (((HQ9_.out.r3.far 4 (.slice A2 (la ++ [s0]).length c2)).far 5 (.slice A8 (lb ++ [s1]).length c8)).far 6 (.slice A9 (lc ++ [s2]).length c9)) (((HQ9_.out.bw.setCell (p := ⟨B, 4, none⟩) HBL.out (.slice A2 (la ++ [s0]).length c2)).setCell (p := ⟨B, 5, none⟩) HBL.out (.slice A8 (lb ++ [s1]).length c8)).setCell (p := ⟨B, 6, none⟩) HBL.out (.slice A9 (lc ++ [s2]).length c9))))
                    clear y4 y5 y6 yf
                    go_wp2_with fail
                    go_roundg (gk - 1)
                    case measure => have := HI.out; have := HIL.out; omega
                    case rel =>
                      rw [show la.length + 1 = (la ++ [s0]).length by simp, show lb.length + 1 = (lb ++ [s1]).length by simp, show lc.length + 1 = (lc ++ [s2]).length by simp]
                      exact ⟨i + 1, _, _, _, by have := HI.out; have := HIL.out; omega, by have h1 := HIL.out; first | rfl | go_num | (congr 1; unfold wrap64; omega), HE.out.1, by rw [HTK.out.1, HTK.out.2.1, HTK.out.2.2]; exact HE.out.2.1, HE.out.2.2⟩
                · refine t_step rfl (fun K hK => ?_)
                  go_simp
                  refine hK.out _ _ (fun _ => ⟨(HQ2_.out.onto _).bx, (HQ2_.out.onto _).tx⟩) ?_
                  clear hK K
                  (try simp only [Act.put, List.setIfInBounds_toArray, List.set_cons_zero, List.set_cons_succ])
                  have HQ10_ := Aside0.mk (HQ2_.out.onto (.cells #[.int .i64 s2] 3))
                  have HN10 := Aside0.mk (Lit.new HQ2_.out.r3 (.int .i64 s2) 3)
                  obtain ⟨p10, hp10⟩ : ∃ p, p = V2.heap.size := ⟨_, rfl⟩
                  rw [← hp10] at HN10
                  rw [← hp10]
                  clear hp10
                  generalize V2.alloc (.cells #[.int .i64 s2] 3) = V10 at *
                  refine t_one (i := 10) (by kernel_rfl) ?_
                  refine t_step rfl (fun K hK => ?_)
                  go_simp
                  refine hK.out _ _ (fun _ => ⟨(HQ10_.out.onto _).bx, (HQ10_.out.onto _).tx⟩) ?_
                  clear hK K
                  (try simp only [Act.put, List.setIfInBounds_toArray, List.set_cons_zero, List.set_cons_succ])
                  have HQ11_ := Aside0.mk (HQ10_.out.onto (.cells #[.int .i64 s1] 3))
                  have HN11 := Aside0.mk (Lit.new HQ10_.out.r3 (.int .i64 s1) 3)
                  have HN10_11 := Aside0.mk (HN10.out.onto (.cells #[.int .i64 s1] 3))
                  obtain ⟨p11, hp11⟩ : ∃ p, p = V10.heap.size := ⟨_, rfl⟩
                  rw [← hp11] at HN11
                  rw [← hp11]
                  clear hp11
                  generalize V10.alloc (.cells #[.int .i64 s1] 3) = V11 at *
                  refine t_one (i := 11) (by kernel_rfl) ?_
                  refine t_step rfl (fun K hK => ?_)
                  refine app5 (by rfl) (.tmp 65) (.tmp 68) rfl (by rfl) (by rfl) HQ11_.out HN11.out (by omega) ?_
                  intro A12 c12 V12 hq12 hk12
                  refine hK.out _ _ (fun _ => ⟨hq12.bx, hq12.tx⟩) ?_
                  clear hK K
                  (try simp only [Act.put, List.setIfInBounds_toArray, List.set_cons_zero, List.set_cons_succ])
                  have HQ12_ := Aside0.mk hq12
                  have HN10_11_12 := Aside0.mk (hk12 _ _ HN10_11.out)
                  clear hq12 hk12
                  refine t_one (i := 17) (by kernel_rfl) ?_
                  refine t_step rfl (fun K hK => ?_)
                  refine app6 (by rfl) (.tmp 71) (.tmp 74) rfl (by rfl) (by rfl) HQ12_.out HN10_11_12.out (by omega) ?_
                  intro A13 c13 V13 hq13 hk13
                  refine hK.out _ _ (fun _ => ⟨hq13.bx, hq13.tx⟩) ?_
                  clear hK K
                  (try simp only [Act.put, List.setIfInBounds_toArray, List.set_cons_zero, List.set_cons_succ])
                  have HQ13_ := Aside0.mk hq13
                  clear hq13 hk13
                  have y4 := HQ13_.out.bx.c 4 rfl
                  have y5 := HQ13_.out.bx.c 5 rfl
                  have y6 := HQ13_.out.bx.c 6 rfl
                  have yf := fun k => HQ13_.out.bx.fz k
                  refine t_one (i := 19) (by kernel_rfl) (t_step rfl (fun K hK => ?_))
                  go_simp
                  refine hK.out _ _ (fun h => absurd h (by decide)) ?_
                  clear hK K
                  (try simp only [Act.put, List.setIfInBounds_toArray, List.set_cons_zero, List.set_cons_succ])
                  refine t_one (i := 20) (by kernel_rfl) (t_step rfl (fun K hK => ?_))
                  go_simp
                  refine hK.out _ _ (fun h => absurd h (by decide)) ?_
                  clear hK K
                  (try simp only [Act.put, List.setIfInBounds_toArray, List.set_cons_zero, List.set_cons_succ])
                  refine t_one (i := 21) (by kernel_rfl) (t_step rfl (fun K hK => ?_))
                  go_simp
                  refine hK.out _ _ (fun h => absurd h (by decide)) ?_
                  clear hK K
                  (try simp only [Act.put, List.setIfInBounds_toArray, List.set_cons_zero, List.set_cons_succ])
                  refine t_one (i := 22) (by kernel_rfl) (t_step rfl (fun K hK => ?_))
                  go_simp
                  refine hK.out _ _ (fun h => absurd h (by decide)) ?_
                  clear hK K
                  (try simp only [Act.put, List.setIfInBounds_toArray, List.set_cons_zero, List.set_cons_succ])
                  refine t_one (i := 23) (by kernel_rfl) (t_step rfl (fun K hK => ?_))
                  go_simp
                  refine hK.out _ _ (fun h => absurd h (by decide)) ?_
                  clear hK K
                  (try simp only [Act.put, List.setIfInBounds_toArray, List.set_cons_zero, List.set_cons_succ])
                  refine t_done (by kernel_rfl) ?_
                  have HE := Aside0.mk (And.intro (((HQ13_.out.bx.put 4 (.slice A2 (la ++ [s0]).length c2)).put 5 (.slice A12 (lb ++ [s1]).length c12)).put 6 (.slice A13 (lc ++ [s2]).length c13)) (And.intro (((HQ13_.out.r3.far 4 (.slice A2 (la ++ [s0]).length c2)).far 5 (.slice A12 (lb ++ [s1]).length c12)).far 6 (.slice A13 (lc ++ [s2]).length c13)) (((HQ13_.out.bw.setCell (p := ⟨B, 4, none⟩) HBL.out (.slice A2 (la ++ [s0]).length c2)).setCell (p := ⟨B, 5, none⟩) HBL.out (.slice A12 (lb ++ [s1]).length c12)).setCell (p := ⟨B, 6, none⟩) HBL.out (.slice A13 (lc ++ [s2]).length c13))))
                  clear y4 y5 y6 yf
                  go_wp2_with fail
                  go_roundg (gk - 1)
                  case measure => have := HI.out; have := HIL.out; omega
                  case rel =>
                    rw [show la.length + 1 = (la ++ [s0]).length by simp, show lb.length + 1 = (lb ++ [s1]).length by simp, show lc.length + 1 = (lc ++ [s2]).length by simp]
                    exact ⟨i + 1, _, _, _, by have := HI.out; have := HIL.out; omega, by have h1 := HIL.out; first | rfl | go_num | (congr 1; unfold wrap64; omega), HE.out.1, by rw [HTK.out.1, HTK.out.2.1, HTK.out.2.2]; exact HE.out.2.1, HE.out.2.2⟩
              · refine t_step rfl (fun K hK => ?_)
                go_simp
                refine hK.out _ _ (fun _ => ⟨(HQ1_.out.onto _).bx, (HQ1_.out.onto _).tx⟩) ?_
                clear hK K
                (try simp only [Act.put, List.setIfInBounds_toArray, List.set_cons_zero, List.set_cons_succ])
                have HQ14_ := Aside0.mk (HQ1_.out.onto (.cells #[.int .i64 s1] 3))
                have HN14 := Aside0.mk (Lit.new HQ1_.out.r3 (.int .i64 s1) 3)
                have HN1_14 := Aside0.mk (HN1.out.onto (.cells #[.int .i64 s1] 3))
                obtain ⟨p14, hp14⟩ : ∃ p, p = V1.heap.size := ⟨_, rfl⟩
                rw [← hp14] at HN14
                rw [← hp14]
                clear hp14
                generalize V1.alloc (.cells #[.int .i64 s1] 3) = V14 at *
                refine t_two (i := 5) (j := 16) (by kernel_rfl) ?_ ?_
                · refine t_step rfl (fun K hK => ?_)
                  refine app4 (by rfl) (.tmp 59) (.tmp 62) rfl (by rfl) (by rfl) HQ14_.out HN1_14.out (by omega) ?_
                  intro A15 c15 V15 hq15 hk15
                  refine hK.out _ _ (fun _ => ⟨hq15.bx, hq15.tx⟩) ?_
                  clear hK K
                  (try simp only [Act.put, List.setIfInBounds_toArray, List.set_cons_zero, List.set_cons_succ])
                  have HQ15_ := Aside0.mk hq15
                  have HN14_15 := Aside0.mk (hk15 _ _ HN14.out)
                  clear hq15 hk15
                  refine t_take (i := 18) (n := 24) (ls := [19, 20, 21, 22, 23]) (v := ?_) rfl rfl (by kernel_rfl) (by kernel_rfl) (by kernel_rfl) (by kernel_rfl) (by kernel_rfl) (fun _ _ _ h => h) (Or.inl ⟨by rfl, ?_⟩) ⟨HQ15_.out.bx, HQ15_.out.tx⟩ ?_
                  rotate_left
                  · intro w' hS'
                    go_simp
                    (try with_reducible rfl)
                  simp only [Act.put, List.setIfInBounds_toArray, List.set_cons_zero, List.set_cons_succ]
                  refine t_two (i := 11) (j := 16) (by kernel_rfl) ?_ ?_
                  · refine t_step rfl (fun K hK => ?_)
                    refine app5 (by rfl) (.tmp 65) (.tmp 68) rfl (by rfl) (by rfl) HQ15_.out HN14_15.out (by omega) ?_
                    intro A16 c16 V16 hq16 hk16
                    refine hK.out _ _ (fun _ => ⟨hq16.bx, hq16.tx⟩) ?_
                    clear hK K
                    (try simp only [Act.put, List.setIfInBounds_toArray, List.set_cons_zero, List.set_cons_succ])
                    have HQ16_ := Aside0.mk hq16
                    clear hq16 hk16
                    refine t_one (i := 16) (by kernel_rfl) ?_
                    refine t_step rfl (fun K hK => ?_)
                    go_simp
                    refine hK.out _ _ (fun _ => ⟨(HQ16_.out.onto _).bx, (HQ16_.out.onto _).tx⟩) ?_
                    clear hK K
                    (try simp only [Act.put, List.setIfInBounds_toArray, List.set_cons_zero, List.set_cons_succ])
                    have HQ17_ := Aside0.mk (HQ16_.out.onto (.cells #[.int .i64 s2] 3))
                    have HN17 := Aside0.mk (Lit.new HQ16_.out.r3 (.int .i64 s2) 3)
                    obtain ⟨p17, hp17⟩ : ∃ p, p = V16.heap.size := ⟨_, rfl⟩
                    rw [← hp17] at HN17
                    rw [← hp17]
                    clear hp17
                    generalize V16.alloc (.cells #[.int .i64 s2] 3) = V17 at *
                    refine t_one (i := 17) (by kernel_rfl) ?_
                    refine t_step rfl (fun K hK => ?_)
                    refine app6 (by rfl) (.tmp 71) (.tmp 74) rfl (by rfl) (by rfl) HQ17_.out HN17.out (by omega) ?_
                    intro A18 c18 V18 hq18 hk18
                    refine hK.out _ _ (fun _ => ⟨hq18.bx, hq18.tx⟩) ?_
                    clear hK K
                    (try simp only [Act.put, List.setIfInBounds_toArray, List.set_cons_zero, List.set_cons_succ])
                    have HQ18_ := Aside0.mk hq18
                    clear hq18 hk18
                    have y4 := HQ18_.out.bx.c 4 rfl
                    have y5 := HQ18_.out.bx.c 5 rfl
                    have y6 := HQ18_.out.bx.c 6 rfl
                    have yf := fun k => HQ18_.out.bx.fz k
                    refine t_one (i := 19) (by kernel_rfl) (t_step rfl (fun K hK => ?_))
                    go_simp
                    refine hK.out _ _ (fun h => absurd h (by decide)) ?_
                    clear hK K
                    (try simp only [Act.put, List.setIfInBounds_toArray, List.set_cons_zero, List.set_cons_succ])
                    refine t_one (i := 20) (by kernel_rfl) (t_step rfl (fun K hK => ?_))
                    go_simp
                    refine hK.out _ _ (fun h => absurd h (by decide)) ?_
                    clear hK K
                    (try simp only [Act.put, List.setIfInBounds_toArray, List.set_cons_zero, List.set_cons_succ])
                    refine t_one (i := 21) (by kernel_rfl) (t_step rfl (fun K hK => ?_))
                    go_simp
                    refine hK.out _ _ (fun h => absurd h (by decide)) ?_
                    clear hK K
                    (try simp only [Act.put, List.setIfInBounds_toArray, List.set_cons_zero, List.set_cons_succ])
                    refine t_one (i := 22) (by kernel_rfl) (t_step rfl (fun K hK => ?_))
                    go_simp
                    refine hK.out _ _ (fun h => absurd h (by decide)) ?_
                    clear hK K
                    (try simp only [Act.put, List.setIfInBounds_toArray, List.set_cons_zero, List.set_cons_succ])
                    refine t_one (i := 23) (by kernel_rfl) (t_step rfl (fun K hK => ?_))
                    go_simp
                    refine hK.out _ _ (fun h => absurd h (by decide)) ?_
                    clear hK K
                    (try simp only [Act.put, List.setIfInBounds_toArray, List.set_cons_zero, List.set_cons_succ])
                    refine t_done (by kernel_rfl) ?_
                    have HE := Aside0.mk (And.intro (((HQ18_.out.bx.put 4 (.slice A15 (la ++ [s0]).length c15)).put 5 (.slice A16 (lb ++ [s1]).length c16)).put 6 (.slice A18 (lc ++ [s2]).length c18)) (And.intro (((HQ18_.out.r3.far 4 (.slice A15 (la ++ [s0]).length c15)).far 5 (.slice A16 (lb ++ [s1]).length c16)).far 6 (.slice A18 (lc ++ [s2]).length c18)) (((HQ18_.out.bw.setCell (p := ⟨B, 4, none⟩) HBL.out (.slice A15 (la ++ [s0]).length c15)).setCell (p := ⟨B, 5, none⟩) HBL.out (.slice A16 (lb ++ [s1]).length c16)).setCell (p := ⟨B, 6, none⟩) HBL.out (.slice A18 (lc ++ [s2]).length c18))))
                    clear y4 y5 y6 yf
                    go_wp2_with fail
                    go_roundg (gk - 1)
                    case measure => have := HI.out; have := HIL.out; omega
                    case rel =>
                      rw [show la.length + 1 = (la ++ [s0]).length by simp, show lb.length + 1 = (lb ++ [s1]).length by simp, show lc.length + 1 = (lc ++ [s2]).length by simp]
                      exact ⟨i + 1, _, _, _, by have := HI.out; have := HIL.out; omega, by have h1 := HIL.out; first | rfl | go_num | (congr 1; unfold wrap64; omega), HE.out.1, by rw [HTK.out.1, HTK.out.2.1, HTK.out.2.2]; exact HE.out.2.1, HE.out.2.2⟩
                  · refine t_step rfl (fun K hK => ?_)
                    go_simp
                    refine hK.out _ _ (fun _ => ⟨(HQ15_.out.onto _).bx, (HQ15_.out.onto _).tx⟩) ?_
                    clear hK K
                    (try simp only [Act.put, List.setIfInBounds_toArray, List.set_cons_zero, List.set_cons_succ])
                    have HQ19_ := Aside0.mk (HQ15_.out.onto (.cells #[.int .i64 s2] 3))
                    have HN19 := Aside0.mk (Lit.new HQ15_.out.r3 (.int .i64 s2) 3)
                    have HN14_15_19 := Aside0.mk (HN14_15.out.onto (.cells #[.int .i64 s2] 3))
                    obtain ⟨p19, hp19⟩ : ∃ p, p = V15.heap.size := ⟨_, rfl⟩
                    rw [← hp19] at HN19
                    rw [← hp19]
                    clear hp19
                    generalize V15.alloc (.cells #[.int .i64 s2] 3) = V19 at *
                    refine t_one (i := 11) (by kernel_rfl) ?_
                    refine t_step rfl (fun K hK => ?_)
                    refine app5 (by rfl) (.tmp 65) (.tmp 68) rfl (by rfl) (by rfl) HQ19_.out HN14_15_19.out (by omega) ?_
                    intro A20 c20 V20 hq20 hk20
                    refine hK.out _ _ (fun _ => ⟨hq20.bx, hq20.tx⟩) ?_
                    clear hK K
                    (try simp only [Act.put, List.setIfInBounds_toArray, List.set_cons_zero, List.set_cons_succ])
                    have HQ20_ := Aside0.mk hq20
                    have HN19_20 := Aside0.mk (hk20 _ _ HN19.out)
                    clear hq20 hk20
                    refine t_one (i := 17) (by kernel_rfl) ?_
                    refine t_step rfl (fun K hK => ?_)
                    refine app6 (by rfl) (.tmp 71) (.tmp 74) rfl (by rfl) (by rfl) HQ20_.out HN19_20.out (by omega) ?_
                    intro A21 c21 V21 hq21 hk21
                    refine hK.out _ _ (fun _ => ⟨hq21.bx, hq21.tx⟩) ?_
                    clear hK K
                    (try simp only [Act.put, List.setIfInBounds_toArray, List.set_cons_zero, List.set_cons_succ])
                    have HQ21_ := Aside0.mk hq21
                    clear hq21 hk21
                    have y4 := HQ21_.out.bx.c 4 rfl
                    have y5 := HQ21_.out.bx.c 5 rfl
                    have y6 := HQ21_.out.bx.c 6 rfl
                    have yf := fun k => HQ21_.out.bx.fz k
                    refine t_one (i := 19) (by kernel_rfl) (t_step rfl (fun K hK => ?_))
                    go_simp
                    refine hK.out _ _ (fun h => absurd h (by decide)) ?_
                    clear hK K
                    (try simp only [Act.put, List.setIfInBounds_toArray, List.set_cons_zero, List.set_cons_succ])
                    refine t_one (i := 20) (by kernel_rfl) (t_step rfl (fun K hK => ?_))
                    go_simp
                    refine hK.out _ _ (fun h => absurd h (by decide)) ?_
                    clear hK K
                    (try simp only [Act.put, List.setIfInBounds_toArray, List.set_cons_zero, List.set_cons_succ])
                    refine t_one (i := 21) (by kernel_rfl) (t_step rfl (fun K hK => ?_))
                    go_simp
                    refine hK.out _ _ (fun h => absurd h (by decide)) ?_
                    clear hK K
                    (try simp only [Act.put, List.setIfInBounds_toArray, List.set_cons_zero, List.set_cons_succ])
                    refine t_one (i := 22) (by kernel_rfl) (t_step rfl (fun K hK => ?_))
                    go_simp
                    refine hK.out _ _ (fun h => absurd h (by decide)) ?_
                    clear hK K
                    (try simp only [Act.put, List.setIfInBounds_toArray, List.set_cons_zero, List.set_cons_succ])
                    refine t_one (i := 23) (by kernel_rfl) (t_step rfl (fun K hK => ?_))
                    go_simp
                    refine hK.out _ _ (fun h => absurd h (by decide)) ?_
                    clear hK K
                    (try simp only [Act.put, List.setIfInBounds_toArray, List.set_cons_zero, List.set_cons_succ])
                    refine t_done (by kernel_rfl) ?_
                    have HE := Aside0.mk (And.intro (((HQ21_.out.bx.put 4 (.slice A15 (la ++ [s0]).length c15)).put 5 (.slice A20 (lb ++ [s1]).length c20)).put 6 (.slice A21 (lc ++ [s2]).length c21)) (And.intro (((HQ21_.out.r3.far 4 (.slice A15 (la ++ [s0]).length c15)).far 5 (.slice A20 (lb ++ [s1]).length c20)).far 6 (.slice A21 (lc ++ [s2]).length c21)) (((HQ21_.out.bw.setCell (p := ⟨B, 4, none⟩) HBL.out (.slice A15 (la ++ [s0]).length c15)).setCell (p := ⟨B, 5, none⟩) HBL.out (.slice A20 (lb ++ [s1]).length c20)).setCell (p := ⟨B, 6, none⟩) HBL.out (.slice A21 (lc ++ [s2]).length c21))))
                    clear y4 y5 y6 yf
                    go_wp2_with fail
                    go_roundg (gk - 1)
                    case measure => have := HI.out; have := HIL.out; omega
                    case rel =>
                      rw [show la.length + 1 = (la ++ [s0]).length by simp, show lb.length + 1 = (lb ++ [s1]).length by simp, show lc.length + 1 = (lc ++ [s2]).length by simp]
                      exact ⟨i + 1, _, _, _, by have := HI.out; have := HIL.out; omega, by have h1 := HIL.out; first | rfl | go_num | (congr 1; unfold wrap64; omega), HE.out.1, by rw [HTK.out.1, HTK.out.2.1, HTK.out.2.2]; exact HE.out.2.1, HE.out.2.2⟩
                · refine t_step rfl (fun K hK => ?_)
                  go_simp
                  refine hK.out _ _ (fun _ => ⟨(HQ14_.out.onto _).bx, (HQ14_.out.onto _).tx⟩) ?_
                  clear hK K
                  (try simp only [Act.put, List.setIfInBounds_toArray, List.set_cons_zero, List.set_cons_succ])
                  have HQ22_ := Aside0.mk (HQ14_.out.onto (.cells #[.int .i64 s2] 3))
                  have HN22 := Aside0.mk (Lit.new HQ14_.out.r3 (.int .i64 s2) 3)
                  have HN1_14_22 := Aside0.mk (HN1_14.out.onto (.cells #[.int .i64 s2] 3))
                  have HN14_22 := Aside0.mk (HN14.out.onto (.cells #[.int .i64 s2] 3))
                  obtain ⟨p22, hp22⟩ : ∃ p, p = V14.heap.size := ⟨_, rfl⟩
                  rw [← hp22] at HN22
                  rw [← hp22]
                  clear hp22
                  generalize V14.alloc (.cells #[.int .i64 s2] 3) = V22 at *
                  refine t_one (i := 5) (by kernel_rfl) ?_
                  refine t_step rfl (fun K hK => ?_)
                  refine app4 (by rfl) (.tmp 59) (.tmp 62) rfl (by rfl) (by rfl) HQ22_.out HN1_14_22.out (by omega) ?_
                  intro A23 c23 V23 hq23 hk23
                  refine hK.out _ _ (fun _ => ⟨hq23.bx, hq23.tx⟩) ?_
                  clear hK K
                  (try simp only [Act.put, List.setIfInBounds_toArray, List.set_cons_zero, List.set_cons_succ])
                  have HQ23_ := Aside0.mk hq23
                  have HN14_22_23 := Aside0.mk (hk23 _ _ HN14_22.out)
                  have HN22_23 := Aside0.mk (hk23 _ _ HN22.out)
                  clear hq23 hk23
                  refine t_take (i := 18) (n := 24) (ls := [19, 20, 21, 22, 23]) (v := ?_) rfl rfl (by kernel_rfl) (by kernel_rfl) (by kernel_rfl) (by kernel_rfl) (by kernel_rfl) (fun _ _ _ h => h) (Or.inl ⟨by rfl, ?_⟩) ⟨HQ23_.out.bx, HQ23_.out.tx⟩ ?_
                  rotate_left
                  · intro w' hS'
                    go_simp
                    (try with_reducible rfl)
                  simp only [Act.put, List.setIfInBounds_toArray, List.set_cons_zero, List.set_cons_succ]
                  refine t_one (i := 11) (by kernel_rfl) ?_
                  refine t_step rfl (fun K hK => ?_)
                  refine app5 (by rfl) (.tmp 65) (.tmp 68) rfl (by rfl) (by rfl) HQ23_.out HN14_22_23.out (by omega) ?_
                  intro A24 c24 V24 hq24 hk24
                  refine hK.out _ _ (fun _ => ⟨hq24.bx, hq24.tx⟩) ?_
                  clear hK K
                  (try simp only [Act.put, List.setIfInBounds_toArray, List.set_cons_zero, List.set_cons_succ])
                  have HQ24_ := Aside0.mk hq24
                  have HN22_23_24 := Aside0.mk (hk24 _ _ HN22_23.out)
                  clear hq24 hk24
                  refine t_one (i := 17) (by kernel_rfl) ?_
                  refine t_step rfl (fun K hK => ?_)
                  refine app6 (by rfl) (.tmp 71) (.tmp 74) rfl (by rfl) (by rfl) HQ24_.out HN22_23_24.out (by omega) ?_
                  intro A25 c25 V25 hq25 hk25
                  refine hK.out _ _ (fun _ => ⟨hq25.bx, hq25.tx⟩) ?_
                  clear hK K
                  (try simp only [Act.put, List.setIfInBounds_toArray, List.set_cons_zero, List.set_cons_succ])
                  have HQ25_ := Aside0.mk hq25
                  clear hq25 hk25
                  have y4 := HQ25_.out.bx.c 4 rfl
                  have y5 := HQ25_.out.bx.c 5 rfl
                  have y6 := HQ25_.out.bx.c 6 rfl
                  have yf := fun k => HQ25_.out.bx.fz k
                  refine t_one (i := 19) (by kernel_rfl) (t_step rfl (fun K hK => ?_))
                  go_simp
                  refine hK.out _ _ (fun h => absurd h (by decide)) ?_
                  clear hK K
                  (try simp only [Act.put, List.setIfInBounds_toArray, List.set_cons_zero, List.set_cons_succ])
                  refine t_one (i := 20) (by kernel_rfl) (t_step rfl (fun K hK => ?_))
                  go_simp
                  refine hK.out _ _ (fun h => absurd h (by decide)) ?_
                  clear hK K
                  (try simp only [Act.put, List.setIfInBounds_toArray, List.set_cons_zero, List.set_cons_succ])
                  refine t_one (i := 21) (by kernel_rfl) (t_step rfl (fun K hK => ?_))
                  go_simp
                  refine hK.out _ _ (fun h => absurd h (by decide)) ?_
                  clear hK K
                  (try simp only [Act.put, List.setIfInBounds_toArray, List.set_cons_zero, List.set_cons_succ])
                  refine t_one (i := 22) (by kernel_rfl) (t_step rfl (fun K hK => ?_))
                  go_simp
                  refine hK.out _ _ (fun h => absurd h (by decide)) ?_
                  clear hK K
                  (try simp only [Act.put, List.setIfInBounds_toArray, List.set_cons_zero, List.set_cons_succ])
                  refine t_one (i := 23) (by kernel_rfl) (t_step rfl (fun K hK => ?_))
                  go_simp
                  refine hK.out _ _ (fun h => absurd h (by decide)) ?_
                  clear hK K
                  (try simp only [Act.put, List.setIfInBounds_toArray, List.set_cons_zero, List.set_cons_succ])
                  refine t_done (by kernel_rfl) ?_
                  have HE := Aside0.mk (And.intro (((HQ25_.out.bx.put 4 (.slice A23 (la ++ [s0]).length c23)).put 5 (.slice A24 (lb ++ [s1]).length c24)).put 6 (.slice A25 (lc ++ [s2]).length c25)) (And.intro (((HQ25_.out.r3.far 4 (.slice A23 (la ++ [s0]).length c23)).far 5 (.slice A24 (lb ++ [s1]).length c24)).far 6 (.slice A25 (lc ++ [s2]).length c25)) (((HQ25_.out.bw.setCell (p := ⟨B, 4, none⟩) HBL.out (.slice A23 (la ++ [s0]).length c23)).setCell (p := ⟨B, 5, none⟩) HBL.out (.slice A24 (lb ++ [s1]).length c24)).setCell (p := ⟨B, 6, none⟩) HBL.out (.slice A25 (lc ++ [s2]).length c25))))
                  clear y4 y5 y6 yf
                  go_wp2_with fail
                  go_roundg (gk - 1)
                  case measure => have := HI.out; have := HIL.out; omega
                  case rel =>
                    rw [show la.length + 1 = (la ++ [s0]).length by simp, show lb.length + 1 = (lb ++ [s1]).length by simp, show lc.length + 1 = (lc ++ [s2]).length by simp]
                    exact ⟨i + 1, _, _, _, by have := HI.out; have := HIL.out; omega, by have h1 := HIL.out; first | rfl | go_num | (congr 1; unfold wrap64; omega), HE.out.1, by rw [HTK.out.1, HTK.out.2.1, HTK.out.2.2]; exact HE.out.2.1, HE.out.2.2⟩
              · refine t_step rfl (fun K hK => ?_)
                go_simp
                refine hK.out _ _ (fun _ => ⟨(HQ1_.out.onto _).bx, (HQ1_.out.onto _).tx⟩) ?_
                clear hK K
                (try simp only [Act.put, List.setIfInBounds_toArray, List.set_cons_zero, List.set_cons_succ])
                have HQ26_ := Aside0.mk (HQ1_.out.onto (.cells #[.int .i64 s2] 3))
                have HN26 := Aside0.mk (Lit.new HQ1_.out.r3 (.int .i64 s2) 3)
                have HN1_26 := Aside0.mk (HN1.out.onto (.cells #[.int .i64 s2] 3))
                obtain ⟨p26, hp26⟩ : ∃ p, p = V1.heap.size := ⟨_, rfl⟩
                rw [← hp26] at HN26
                rw [← hp26]
                clear hp26
                generalize V1.alloc (.cells #[.int .i64 s2] 3) = V26 at *
                refine t_two (i := 5) (j := 10) (by kernel_rfl) ?_ ?_
                · refine t_step rfl (fun K hK => ?_)
                  refine app4 (by rfl) (.tmp 59) (.tmp 62) rfl (by rfl) (by rfl) HQ26_.out HN1_26.out (by omega) ?_
                  intro A27 c27 V27 hq27 hk27
                  refine hK.out _ _ (fun _ => ⟨hq27.bx, hq27.tx⟩) ?_
                  clear hK K
                  (try simp only [Act.put, List.setIfInBounds_toArray, List.set_cons_zero, List.set_cons_succ])
                  have HQ27_ := Aside0.mk hq27
                  have HN26_27 := Aside0.mk (hk27 _ _ HN26.out)
                  clear hq27 hk27
                  refine t_take (i := 18) (n := 24) (ls := [19, 20, 21, 22, 23]) (v := ?_) rfl rfl (by kernel_rfl) (by kernel_rfl) (by kernel_rfl) (by kernel_rfl) (by kernel_rfl) (fun _ _ _ h => h) (Or.inl ⟨by rfl, ?_⟩) ⟨HQ27_.out.bx, HQ27_.out.tx⟩ ?_
                  rotate_left
                  · intro w' hS'
                    go_simp
                    (try with_reducible rfl)
                  simp only [Act.put, List.setIfInBounds_toArray, List.set_cons_zero, List.set_cons_succ]
                  refine t_one (i := 10) (by kernel_rfl) ?_
                  refine t_step rfl (fun K hK => ?_)
                  go_simp
                  refine hK.out _ _ (fun _ => ⟨(HQ27_.out.onto _).bx, (HQ27_.out.onto _).tx⟩) ?_
                  clear hK K
                  (try simp only [Act.put, List.setIfInBounds_toArray, List.set_cons_zero, List.set_cons_succ])
                  have HQ28_ := Aside0.mk (HQ27_.out.onto (.cells #[.int .i64 s1] 3))
                  have HN28 := Aside0.mk (Lit.new HQ27_.out.r3 (.int .i64 s1) 3)
                  have HN26_27_28 := Aside0.mk (HN26_27.out.onto (.cells #[.int .i64 s1] 3))
                  obtain ⟨p28, hp28⟩ : ∃ p, p = V27.heap.size := ⟨_, rfl⟩
                  rw [← hp28] at HN28
                  rw [← hp28]
                  clear hp28
                  generalize V27.alloc (.cells #[.int .i64 s1] 3) = V28 at *
                  refine t_one (i := 11) (by kernel_rfl) ?_
                  refine t_step rfl (fun K hK => ?_)
                  refine app5 (by rfl) (.tmp 65) (.tmp 68) rfl (by rfl) (by rfl) HQ28_.out HN28.out (by omega) ?_
                  intro A29 c29 V29 hq29 hk29
                  refine hK.out _ _ (fun _ => ⟨hq29.bx, hq29.tx⟩) ?_
                  clear hK K
                  (try simp only [Act.put, List.setIfInBounds_toArray, List.set_cons_zero, List.set_cons_succ])
                  have HQ29_ := Aside0.mk hq29
                  have HN26_27_28_29 := Aside0.mk (hk29 _ _ HN26_27_28.out)
                  clear hq29 hk29
                  refine t_one (i := 17) (by kernel_rfl) ?_
                  refine t_step rfl (fun K hK => ?_)
                  refine app6 (by rfl) (.tmp 71) (.tmp 74) rfl (by rfl) (by rfl) HQ29_.out HN26_27_28_29.out (by omega) ?_
                  intro A30 c30 V30 hq30 hk30
                  refine hK.out _ _ (fun _ => ⟨hq30.bx, hq30.tx⟩) ?_
                  clear hK K
                  (try simp only [Act.put, List.setIfInBounds_toArray, List.set_cons_zero, List.set_cons_succ])
                  have HQ30_ := Aside0.mk hq30
                  clear hq30 hk30
                  have y4 := HQ30_.out.bx.c 4 rfl
                  have y5 := HQ30_.out.bx.c 5 rfl
                  have y6 := HQ30_.out.bx.c 6 rfl
                  have yf := fun k => HQ30_.out.bx.fz k
                  refine t_one (i := 19) (by kernel_rfl) (t_step rfl (fun K hK => ?_))
                  go_simp
                  refine hK.out _ _ (fun h => absurd h (by decide)) ?_
                  clear hK K
                  (try simp only [Act.put, List.setIfInBounds_toArray, List.set_cons_zero, List.set_cons_succ])
                  refine t_one (i := 20) (by kernel_rfl) (t_step rfl (fun K hK => ?_))
                  go_simp
                  refine hK.out _ _ (fun h => absurd h (by decide)) ?_
                  clear hK K
                  (try simp only [Act.put, List.setIfInBounds_toArray, List.set_cons_zero, List.set_cons_succ])
                  refine t_one (i := 21) (by kernel_rfl) (t_step rfl (fun K hK => ?_))
                  go_simp
                  refine hK.out _ _ (fun h => absurd h (by decide)) ?_
                  clear hK K
                  (try simp only [Act.put, List.setIfInBounds_toArray, List.set_cons_zero, List.set_cons_succ])
                  refine t_one (i := 22) (by kernel_rfl) (t_step rfl (fun K hK => ?_))
                  go_simp
                  refine hK.out _ _ (fun h => absurd h (by decide)) ?_
                  clear hK K
                  (try simp only [Act.put, List.setIfInBounds_toArray, List.set_cons_zero, List.set_cons_succ])
                  refine t_one (i := 23) (by kernel_rfl) (t_step rfl (fun K hK => ?_))
                  go_simp
                  refine hK.out _ _ (fun h => absurd h (by decide)) ?_
                  clear hK K
                  (try simp only [Act.put, List.setIfInBounds_toArray, List.set_cons_zero, List.set_cons_succ])
                  refine t_done (by kernel_rfl) ?_
                  have HE := Aside0.mk (And.intro (((HQ30_.out.bx.put 4 (.slice A27 (la ++ [s0]).length c27)).put 5 (.slice A29 (lb ++ [s1]).length c29)).put 6 (.slice A30 (lc ++ [s2]).length c30)) (And.intro (((HQ30_.out.r3.far 4 (.slice A27 (la ++ [s0]).length c27)).far 5 (.slice A29 (lb ++ [s1]).length c29)).far 6 (.slice A30 (lc ++ [s2]).length c30)) (((HQ30_.out.bw.setCell (p := ⟨B, 4, none⟩) HBL.out (.slice A27 (la ++ [s0]).length c27)).setCell (p := ⟨B, 5, none⟩) HBL.out (.slice A29 (lb ++ [s1]).length c29)).setCell (p := ⟨B, 6, none⟩) HBL.out (.slice A30 (lc ++ [s2]).length c30))))
                  clear y4 y5 y6 yf
                  go_wp2_with fail
                  go_roundg (gk - 1)
                  case measure => have := HI.out; have := HIL.out; omega
                  case rel =>
                    rw [show la.length + 1 = (la ++ [s0]).length by simp, show lb.length + 1 = (lb ++ [s1]).length by simp, show lc.length + 1 = (lc ++ [s2]).length by simp]
                    exact ⟨i + 1, _, _, _, by have := HI.out; have := HIL.out; omega, by have h1 := HIL.out; first | rfl | go_num | (congr 1; unfold wrap64; omega), HE.out.1, by rw [HTK.out.1, HTK.out.2.1, HTK.out.2.2]; exact HE.out.2.1, HE.out.2.2⟩
                · refine t_step rfl (fun K hK => ?_)
                  go_simp
                  refine hK.out _ _ (fun _ => ⟨(HQ26_.out.onto _).bx, (HQ26_.out.onto _).tx⟩) ?_
                  clear hK K
                  (try simp only [Act.put, List.setIfInBounds_toArray, List.set_cons_zero, List.set_cons_succ])
                  have HQ31_ := Aside0.mk (HQ26_.out.onto (.cells #[.int .i64 s1] 3))
                  have HN31 := Aside0.mk (Lit.new HQ26_.out.r3 (.int .i64 s1) 3)
                  have HN1_26_31 := Aside0.mk (HN1_26.out.onto (.cells #[.int .i64 s1] 3))
                  have HN26_31 := Aside0.mk (HN26.out.onto (.cells #[.int .i64 s1] 3))
                  obtain ⟨p31, hp31⟩ : ∃ p, p = V26.heap.size := ⟨_, rfl⟩
                  rw [← hp31] at HN31
                  rw [← hp31]
                  clear hp31
                  generalize V26.alloc (.cells #[.int .i64 s1] 3) = V31 at *
                  refine t_one (i := 5) (by kernel_rfl) ?_
                  refine t_step rfl (fun K hK => ?_)
                  refine app4 (by rfl) (.tmp 59) (.tmp 62) rfl (by rfl) (by rfl) HQ31_.out HN1_26_31.out (by omega) ?_
                  intro A32 c32 V32 hq32 hk32
                  refine hK.out _ _ (fun _ => ⟨hq32.bx, hq32.tx⟩) ?_
                  clear hK K
                  (try simp only [Act.put, List.setIfInBounds_toArray, List.set_cons_zero, List.set_cons_succ])
                  have HQ32_ := Aside0.mk hq32
                  have HN26_31_32 := Aside0.mk (hk32 _ _ HN26_31.out)
                  have HN31_32 := Aside0.mk (hk32 _ _ HN31.out)
                  clear hq32 hk32
                  refine t_take (i := 18) (n := 24) (ls := [19, 20, 21, 22, 23]) (v := ?_) rfl rfl (by kernel_rfl) (by kernel_rfl) (by kernel_rfl) (by kernel_rfl) (by kernel_rfl) (fun _ _ _ h => h) (Or.inl ⟨by rfl, ?_⟩) ⟨HQ32_.out.bx, HQ32_.out.tx⟩ ?_
                  rotate_left
                  · intro w' hS'
                    go_simp
                    (try with_reducible rfl)
                  simp only [Act.put, List.setIfInBounds_toArray, List.set_cons_zero, List.set_cons_succ]
                  refine t_one (i := 11) (by kernel_rfl) ?_
                  refine t_step rfl (fun K hK => ?_)
                  refine app5 (by rfl) (.tmp 65) (.tmp 68) rfl (by rfl) (by rfl) HQ32_.out HN31_32.out (by omega) ?_
                  intro A33 c33 V33 hq33 hk33
                  refine hK.out _ _ (fun _ => ⟨hq33.bx, hq33.tx⟩) ?_
                  clear hK K
                  (try simp only [Act.put, List.setIfInBounds_toArray, List.set_cons_zero, List.set_cons_succ])
                  have HQ33_ := Aside0.mk hq33
                  have HN26_31_32_33 := Aside0.mk (hk33 _ _ HN26_31_32.out)
                  clear hq33 hk33
                  refine t_one (i := 17) (by kernel_rfl) ?_
                  refine t_step rfl (fun K hK => ?_)
                  refine app6 (by rfl) (.tmp 71) (.tmp 74) rfl (by rfl) (by rfl) HQ33_.out HN26_31_32_33.out (by omega) ?_
                  intro A34 c34 V34 hq34 hk34
                  refine hK.out _ _ (fun _ => ⟨hq34.bx, hq34.tx⟩) ?_
                  clear hK K
                  (try simp only [Act.put, List.setIfInBounds_toArray, List.set_cons_zero, List.set_cons_succ])
                  have HQ34_ := Aside0.mk hq34
                  clear hq34 hk34
                  have y4 := HQ34_.out.bx.c 4 rfl
                  have y5 := HQ34_.out.bx.c 5 rfl
                  have y6 := HQ34_.out.bx.c 6 rfl
                  have yf := fun k => HQ34_.out.bx.fz k
                  refine t_one (i := 19) (by kernel_rfl) (t_step rfl (fun K hK => ?_))
                  go_simp
                  refine hK.out _ _ (fun h => absurd h (by decide)) ?_
                  clear hK K
                  (try simp only [Act.put, List.setIfInBounds_toArray, List.set_cons_zero, List.set_cons_succ])
                  refine t_one (i := 20) (by kernel_rfl) (t_step rfl (fun K hK => ?_))
                  go_simp
                  refine hK.out _ _ (fun h => absurd h (by decide)) ?_
                  clear hK K
                  (try simp only [Act.put, List.setIfInBounds_toArray, List.set_cons_zero, List.set_cons_succ])
                  refine t_one (i := 21) (by kernel_rfl) (t_step rfl (fun K hK => ?_))
                  go_simp
                  refine hK.out _ _ (fun h => absurd h (by decide)) ?_
                  clear hK K
                  (try simp only [Act.put, List.setIfInBounds_toArray, List.set_cons_zero, List.set_cons_succ])
                  refine t_one (i := 22) (by kernel_rfl) (t_step rfl (fun K hK => ?_))
                  go_simp
                  refine hK.out _ _ (fun h => absurd h (by decide)) ?_
                  clear hK K
                  (try simp only [Act.put, List.setIfInBounds_toArray, List.set_cons_zero, List.set_cons_succ])
                  refine t_one (i := 23) (by kernel_rfl) (t_step rfl (fun K hK => ?_))
                  go_simp
                  refine hK.out _ _ (fun h => absurd h (by decide)) ?_
                  clear hK K
                  (try simp only [Act.put, List.setIfInBounds_toArray, List.set_cons_zero, List.set_cons_succ])
                  refine t_done (by kernel_rfl) ?_
                  have HE := Aside0.mk (And.intro (((HQ34_.out.bx.put 4 (.slice A32 (la ++ [s0]).length c32)).put 5 (.slice A33 (lb ++ [s1]).length c33)).put 6 (.slice A34 (lc ++ [s2]).length c34)) (And.intro (((HQ34_.out.r3.far 4 (.slice A32 (la ++ [s0]).length c32)).far 5 (.slice A33 (lb ++ [s1]).length c33)).far 6 (.slice A34 (lc ++ [s2]).length c34)) (((HQ34_.out.bw.setCell (p := ⟨B, 4, none⟩) HBL.out (.slice A32 (la ++ [s0]).length c32)).setCell (p := ⟨B, 5, none⟩) HBL.out (.slice A33 (lb ++ [s1]).length c33)).setCell (p := ⟨B, 6, none⟩) HBL.out (.slice A34 (lc ++ [s2]).length c34))))
                  clear y4 y5 y6 yf
                  go_wp2_with fail
                  go_roundg (gk - 1)
                  case measure => have := HI.out; have := HIL.out; omega
                  case rel =>
                    rw [show la.length + 1 = (la ++ [s0]).length by simp, show lb.length + 1 = (lb ++ [s1]).length by simp, show lc.length + 1 = (lc ++ [s2]).length by simp]
                    exact ⟨i + 1, _, _, _, by have := HI.out; have := HIL.out; omega, by have h1 := HIL.out; first | rfl | go_num | (congr 1; unfold wrap64; omega), HE.out.1, by rw [HTK.out.1, HTK.out.2.1, HTK.out.2.2]; exact HE.out.2.1, HE.out.2.2⟩
            · refine t_step rfl (fun K hK => ?_)
              go_simp
              refine hK.out _ _ (fun _ => ⟨(HQd.out.onto _).bx, (HQd.out.onto _).tx⟩) ?_
              clear hK K
              (try simp only [Act.put, List.setIfInBounds_toArray, List.set_cons_zero, List.set_cons_succ])
              have HQ35_ := Aside0.mk (HQd.out.onto (.cells #[.int .i64 s1] 3))
              have HN35 := Aside0.mk (Lit.new HQd.out.r3 (.int .i64 s1) 3)
              obtain ⟨p35, hp35⟩ : ∃ p, p = V0.heap.size := ⟨_, rfl⟩
              rw [← hp35] at HN35
              rw [← hp35]
              clear hp35
              generalize V0.alloc (.cells #[.int .i64 s1] 3) = V35 at *
              refine t_two (i := 4) (j := 16) (by kernel_rfl) ?_ ?_
              · refine t_step rfl (fun K hK => ?_)
                go_simp
                refine hK.out _ _ (fun _ => ⟨(HQ35_.out.onto _).bx, (HQ35_.out.onto _).tx⟩) ?_
                clear hK K
                (try simp only [Act.put, List.setIfInBounds_toArray, List.set_cons_zero, List.set_cons_succ])
                have HQ36_ := Aside0.mk (HQ35_.out.onto (.cells #[.string s0] 9))
                have HN36 := Aside0.mk (Lit.new HQ35_.out.r3 (.string s0) 9)
                have HN35_36 := Aside0.mk (HN35.out.onto (.cells #[.string s0] 9))
                obtain ⟨p36, hp36⟩ : ∃ p, p = V35.heap.size := ⟨_, rfl⟩
                rw [← hp36] at HN36
                rw [← hp36]
                clear hp36
                generalize V35.alloc (.cells #[.string s0] 9) = V36 at *
                refine t_two (i := 5) (j := 16) (by kernel_rfl) ?_ ?_
                · refine t_step rfl (fun K hK => ?_)
                  refine app4 (by rfl) (.tmp 59) (.tmp 62) rfl (by rfl) (by rfl) HQ36_.out HN36.out (by omega) ?_
                  intro A37 c37 V37 hq37 hk37
                  refine hK.out _ _ (fun _ => ⟨hq37.bx, hq37.tx⟩) ?_
                  clear hK K
                  (try simp only [Act.put, List.setIfInBounds_toArray, List.set_cons_zero, List.set_cons_succ])
                  have HQ37_ := Aside0.mk hq37
                  have HN35_36_37 := Aside0.mk (hk37 _ _ HN35_36.out)
                  clear hq37 hk37
                  refine t_take (i := 18) (n := 24) (ls := [19, 20, 21, 22, 23]) (v := ?_) rfl rfl (by kernel_rfl) (by kernel_rfl) (by kernel_rfl) (by kernel_rfl) (by kernel_rfl) (fun _ _ _ h => h) (Or.inl ⟨by rfl, ?_⟩) ⟨HQ37_.out.bx, HQ37_.out.tx⟩ ?_
                  rotate_left
                  · intro w' hS'
                    go_simp
                    (try with_reducible rfl)
                  simp only [Act.put, List.setIfInBounds_toArray, List.set_cons_zero, List.set_cons_succ]
                  refine t_two (i := 11) (j := 16) (by kernel_rfl) ?_ ?_
                  · refine t_step rfl (fun K hK => ?_)
                    refine app5 (by rfl) (.tmp 65) (.tmp 68) rfl (by rfl) (by rfl) HQ37_.out HN35_36_37.out (by omega) ?_
                    intro A38 c38 V38 hq38 hk38
                    refine hK.out _ _ (fun _ => ⟨hq38.bx, hq38.tx⟩) ?_
                    clear hK K
                    (try simp only [Act.put, List.setIfInBounds_toArray, List.set_cons_zero, List.set_cons_succ])
                    have HQ38_ := Aside0.mk hq38
                    clear hq38 hk38
                    refine t_one (i := 16) (by kernel_rfl) ?_
                    refine t_step rfl (fun K hK => ?_)
                    go_simp
                    refine hK.out _ _ (fun _ => ⟨(HQ38_.out.onto _).bx, (HQ38_.out.onto _).tx⟩) ?_
                    clear hK K
                    (try simp only [Act.put, List.setIfInBounds_toArray, List.set_cons_zero, List.set_cons_succ])
                    have HQ39_ := Aside0.mk (HQ38_.out.onto (.cells #[.int .i64 s2] 3))
                    have HN39 := Aside0.mk (Lit.new HQ38_.out.r3 (.int .i64 s2) 3)
                    obtain ⟨p39, hp39⟩ : ∃ p, p = V38.heap.size := ⟨_, rfl⟩
                    rw [← hp39] at HN39
                    rw [← hp39]
                    clear hp39
                    generalize V38.alloc (.cells #[.int .i64 s2] 3) = V39 at *
                    refine t_one (i := 17) (by kernel_rfl) ?_
                    refine t_step rfl (fun K hK => ?_)
                    refine app6 (by rfl) (.tmp 71) (.tmp 74) rfl (by rfl) (by rfl) HQ39_.out HN39.out (by omega) ?_
                    intro A40 c40 V40 hq40 hk40
                    refine hK.out _ _ (fun _ => ⟨hq40.bx, hq40.tx⟩) ?_
                    clear hK K
                    (try simp only [Act.put, List.setIfInBounds_toArray, List.set_cons_zero, List.set_cons_succ])
                    have HQ40_ := Aside0.mk hq40
                    clear hq40 hk40
                    have y4 := HQ40_.out.bx.c 4 rfl
                    have y5 := HQ40_.out.bx.c 5 rfl
                    have y6 := HQ40_.out.bx.c 6 rfl
                    have yf := fun k => HQ40_.out.bx.fz k
                    refine t_one (i := 19) (by kernel_rfl) (t_step rfl (fun K hK => ?_))
                    go_simp
                    refine hK.out _ _ (fun h => absurd h (by decide)) ?_
                    clear hK K
                    (try simp only [Act.put, List.setIfInBounds_toArray, List.set_cons_zero, List.set_cons_succ])
                    refine t_one (i := 20) (by kernel_rfl) (t_step rfl (fun K hK => ?_))
                    go_simp
                    refine hK.out _ _ (fun h => absurd h (by decide)) ?_
                    clear hK K
                    (try simp only [Act.put, List.setIfInBounds_toArray, List.set_cons_zero, List.set_cons_succ])
                    refine t_one (i := 21) (by kernel_rfl) (t_step rfl (fun K hK => ?_))
                    go_simp
                    refine hK.out _ _ (fun h => absurd h (by decide)) ?_
                    clear hK K
                    (try simp only [Act.put, List.setIfInBounds_toArray, List.set_cons_zero, List.set_cons_succ])
                    refine t_one (i := 22) (by kernel_rfl) (t_step rfl (fun K hK => ?_))
                    go_simp
                    refine hK.out _ _ (fun h => absurd h (by decide)) ?_
                    clear hK K
                    (try simp only [Act.put, List.setIfInBounds_toArray, List.set_cons_zero, List.set_cons_succ])
                    refine t_one (i := 23) (by kernel_rfl) (t_step rfl (fun K hK => ?_))
                    go_simp
                    refine hK.out _ _ (fun h => absurd h (by decide)) ?_
                    clear hK K
                    (try simp only [Act.put, List.setIfInBounds_toArray, List.set_cons_zero, List.set_cons_succ])
                    refine t_done (by kernel_rfl) ?_
                    have HE := Aside0.mk (And.intro (((HQ40_.out.bx.put 4 (.slice A37 (la ++ [s0]).length c37)).put 5 (.slice A38 (lb ++ [s1]).length c38)).put 6 (.slice A40 (lc ++ [s2]).length c40)) (And.intro (((HQ40_.out.r3.far 4 (.slice A37 (la ++ [s0]).length c37)).far 5 (.slice A38 (lb ++ [s1]).length c38)).far 6 (.slice A40 (lc ++ [s2]).length c40)) (((HQ40_.out.bw.setCell (p := ⟨B, 4, none⟩) HBL.out (.slice A37 (la ++ [s0]).length c37)).setCell (p := ⟨B, 5, none⟩) HBL.out (.slice A38 (lb ++ [s1]).length c38)).setCell (p := ⟨B, 6, none⟩) HBL.out (.slice A40 (lc ++ [s2]).length c40))))
                    clear y4 y5 y6 yf
                    go_wp2_with fail
                    go_roundg (gk - 1)
                    case measure => have := HI.out; have := HIL.out; omega
                    case rel =>
                      rw [show la.length + 1 = (la ++ [s0]).length by simp, show lb.length + 1 = (lb ++ [s1]).length by simp, show lc.length + 1 = (lc ++ [s2]).length by simp]
                      exact ⟨i + 1, _, _, _, by have := HI.out; have := HIL.out; omega, by have h1 := HIL.out; first | rfl | go_num | (congr 1; unfold wrap64; omega), HE.out.1, by rw [HTK.out.1, HTK.out.2.1, HTK.out.2.2]; exact HE.out.2.1, HE.out.2.2⟩
                  · refine t_step rfl (fun K hK => ?_)
                    go_simp
                    refine hK.out _ _ (fun _ => ⟨(HQ37_.out.onto _).bx, (HQ37_.out.onto _).tx⟩) ?_
                    clear hK K
                    (try simp only [Act.put, List.setIfInBounds_toArray, List.set_cons_zero, List.set_cons_succ])
                    have HQ41_ := Aside0.mk (HQ37_.out.onto (.cells #[.int .i64 s2] 3))
                    have HN41 := Aside0.mk (Lit.new HQ37_.out.r3 (.int .i64 s2) 3)
                    have HN35_36_37_41 := Aside0.mk (HN35_36_37.out.onto (.cells #[.int .i64 s2] 3))
                    obtain ⟨p41, hp41⟩ : ∃ p, p = V37.heap.size := ⟨_, rfl⟩
                    rw [← hp41] at HN41
                    rw [← hp41]
                    clear hp41
                    generalize V37.alloc (.cells #[.int .i64 s2] 3) = V41 at *
                    refine t_one (i := 11) (by kernel_rfl) ?_
                    refine t_step rfl (fun K hK => ?_)
                    refine app5 (by rfl) (.tmp 65) (.tmp 68) rfl (by rfl) (by rfl) HQ41_.out HN35_36_37_41.out (by omega) ?_
                    intro A42 c42 V42 hq42 hk42
                    refine hK.out _ _ (fun _ => ⟨hq42.bx, hq42.tx⟩) ?_
                    clear hK K
                    (try simp only [Act.put, List.setIfInBounds_toArray, List.set_cons_zero, List.set_cons_succ])
                    have HQ42_ := Aside0.mk hq42
                    have HN41_42 := Aside0.mk (hk42 _ _ HN41.out)
                    clear hq42 hk42
                    refine t_one (i := 17) (by kernel_rfl) ?_
                    refine t_step rfl (fun K hK => ?_)
                    refine app6 (by rfl) (.tmp 71) (.tmp 74) rfl (by rfl) (by rfl) HQ42_.out HN41_42.out (by omega) ?_
                    intro A43 c43 V43 hq43 hk43
                    refine hK.out _ _ (fun _ => ⟨hq43.bx, hq43.tx⟩) ?_
                    clear hK K
                    (try simp only [Act.put, List.setIfInBounds_toArray, List.set_cons_zero, List.set_cons_succ])
                    have HQ43_ := Aside0.mk hq43
                    clear hq43 hk43
                    have y4 := HQ43_.out.bx.c 4 rfl
                    have y5 := HQ43_.out.bx.c 5 rfl
                    have y6 := HQ43_.out.bx.c 6 rfl
                    have yf := fun k => HQ43_.out.bx.fz k
                    refine t_one (i := 19) (by kernel_rfl) (t_step rfl (fun K hK => ?_))
                    go_simp
                    refine hK.out _ _ (fun h => absurd h (by decide)) ?_
                    clear hK K
                    (try simp only [Act.put, List.setIfInBounds_toArray, List.set_cons_zero, List.set_cons_succ])
                    refine t_one (i := 20) (by kernel_rfl) (t_step rfl (fun K hK => ?_))
                    go_simp
                    refine hK.out _ _ (fun h => absurd h (by decide)) ?_
                    clear hK K
                    (try simp only [Act.put, List.setIfInBounds_toArray, List.set_cons_zero, List.set_cons_succ])
                    refine t_one (i := 21) (by kernel_rfl) (t_step rfl (fun K hK => ?_))
                    go_simp
                    refine hK.out _ _ (fun h => absurd h (by decide)) ?_
                    clear hK K
                    (try simp only [Act.put, List.setIfInBounds_toArray, List.set_cons_zero, List.set_cons_succ])
                    refine t_one (i := 22) (by kernel_rfl) (t_step rfl (fun K hK => ?_))
                    go_simp
                    refine hK.out _ _ (fun h => absurd h (by decide)) ?_
                    clear hK K
                    (try simp only [Act.put, List.setIfInBounds_toArray, List.set_cons_zero, List.set_cons_succ])
                    refine t_one (i := 23) (by kernel_rfl) (t_step rfl (fun K hK => ?_))
                    go_simp
                    refine hK.out _ _ (fun h => absurd h (by decide)) ?_
                    clear hK K
                    (try simp only [Act.put, List.setIfInBounds_toArray, List.set_cons_zero, List.set_cons_succ])
                    refine t_done (by kernel_rfl) ?_
                    have HE := Aside0.mk (And.intro (((HQ43_.out.bx.put 4 (.slice A37 (la ++ [s0]).length c37)).put 5 (.slice A42 (lb ++ [s1]).length c42)).put 6 (.slice A43 (lc ++ [s2]).length c43)) (And.intro (((HQ43_.out.r3.far 4 (.slice A37 (la ++ [s0]).length c37)).far 5 (.slice A42 (lb ++ [s1]).length c42)).far 6 (.slice A43 (lc ++ [s2]).length c43)) (((HQ43_.out.bw.setCell (p := ⟨B, 4, none⟩) HBL.out (.slice A37 (la ++ [s0]).length c37)).setCell (p := ⟨B, 5, none⟩) HBL.out (.slice A42 (lb ++ [s1]).length c42)).setCell (p := ⟨B, 6, none⟩) HBL.out (.slice A43 (lc ++ [s2]).length c43))))
                    clear y4 y5 y6 yf
                    go_wp2_with fail
                    go_roundg (gk - 1)
                    case measure => have := HI.out; have := HIL.out; omega
                    case rel =>
                      rw [show la.length + 1 = (la ++ [s0]).length by simp, show lb.length + 1 = (lb ++ [s1]).length by simp, show lc.length + 1 = (lc ++ [s2]).length by simp]
                      exact ⟨i + 1, _, _, _, by have := HI.out; have := HIL.out; omega, by have h1 := HIL.out; first | rfl | go_num | (congr 1; unfold wrap64; omega), HE.out.1, by rw [HTK.out.1, HTK.out.2.1, HTK.out.2.2]; exact HE.out.2.1, HE.out.2.2⟩
                · refine t_step rfl (fun K hK => ?_)
                  go_simp
                  refine hK.out _ _ (fun _ => ⟨(HQ36_.out.onto _).bx, (HQ36_.out.onto _).tx⟩) ?_
                  clear hK K
                  (try simp only [Act.put, List.setIfInBounds_toArray, List.set_cons_zero, List.set_cons_succ])
                  have HQ44_ := Aside0.mk (HQ36_.out.onto (.cells #[.int .i64 s2] 3))
                  have HN44 := Aside0.mk (Lit.new HQ36_.out.r3 (.int .i64 s2) 3)
                  have HN35_36_44 := Aside0.mk (HN35_36.out.onto (.cells #[.int .i64 s2] 3))
                  have HN36_44 := Aside0.mk (HN36.out.onto (.cells #[.int .i64 s2] 3))
                  obtain ⟨p44, hp44⟩ : ∃ p, p = V36.heap.size := ⟨_, rfl⟩
                  rw [← hp44] at HN44
                  rw [← hp44]
                  clear hp44
                  generalize V36.alloc (.cells #[.int .i64 s2] 3) = V44 at *
                  refine t_one (i := 5) (by kernel_rfl) ?_
                  refine t_step rfl (fun K hK => ?_)
                  refine app4 (by rfl) (.tmp 59) (.tmp 62) rfl (by rfl) (by rfl) HQ44_.out HN36_44.out (by omega) ?_
                  intro A45 c45 V45 hq45 hk45
                  refine hK.out _ _ (fun _ => ⟨hq45.bx, hq45.tx⟩) ?_
                  clear hK K
                  (try simp only [Act.put, List.setIfInBounds_toArray, List.set_cons_zero, List.set_cons_succ])
                  have HQ45_ := Aside0.mk hq45
                  have HN35_36_44_45 := Aside0.mk (hk45 _ _ HN35_36_44.out)
                  have HN44_45 := Aside0.mk (hk45 _ _ HN44.out)
                  clear hq45 hk45
                  refine t_take (i := 18) (n := 24) (ls := [19, 20, 21, 22, 23]) (v := ?_) rfl rfl (by kernel_rfl) (by kernel_rfl) (by kernel_rfl) (by kernel_rfl) (by kernel_rfl) (fun _ _ _ h => h) (Or.inl ⟨by rfl, ?_⟩) ⟨HQ45_.out.bx, HQ45_.out.tx⟩ ?_
                  rotate_left
                  · intro w' hS'
                    go_simp
                    (try with_reducible rfl)
                  simp only [Act.put, List.setIfInBounds_toArray, List.set_cons_zero, List.set_cons_succ]
                  refine t_one (i := 11) (by kernel_rfl) ?_
                  refine t_step rfl (fun K hK => ?_)
                  refine app5 (by rfl) (.tmp 65) (.tmp 68) rfl (by rfl) (by rfl) HQ45_.out HN35_36_44_45.out (by omega) ?_
                  intro A46 c46 V46 hq46 hk46
                  refine hK.out _ _ (fun _ => ⟨hq46.bx, hq46.tx⟩) ?_
                  clear hK K
                  (try simp only [Act.put, List.setIfInBounds_toArray, List.set_cons_zero, List.set_cons_succ])
                  have HQ46_ := Aside0.mk hq46
                  have HN44_45_46 := Aside0.mk (hk46 _ _ HN44_45.out)
                  clear hq46 hk46
                  refine t_one (i := 17) (by kernel_rfl) ?_
                  refine t_step rfl (fun K hK => ?_)
                  refine app6 (by rfl) (.tmp 71) (.tmp 74) rfl (by rfl) (by rfl) HQ46_.out HN44_45_46.out (by omega) ?_
                  intro A47 c47 V47 hq47 hk47
                  refine hK.out _ _ (fun _ => ⟨hq47.bx, hq47.tx⟩) ?_
                  clear hK K
                  (try simp only [Act.put, List.setIfInBounds_toArray, List.set_cons_zero, List.set_cons_succ])
                  have HQ47_ := Aside0.mk hq47
                  clear hq47 hk47
                  have y4 := HQ47_.out.bx.c 4 rfl
                  have y5 := HQ47_.out.bx.c 5 rfl
                  have y6 := HQ47_.out.bx.c 6 rfl
                  have yf := fun k => HQ47_.out.bx.fz k
                  refine t_one (i := 19) (by kernel_rfl) (t_step rfl (fun K hK => ?_))
                  go_simp
                  refine hK.out _ _ (fun h => absurd h (by decide)) ?_
                  clear hK K
                  (try simp only [Act.put, List.setIfInBounds_toArray, List.set_cons_zero, List.set_cons_succ])
                  refine t_one (i := 20) (by kernel_rfl) (t_step rfl (fun K hK => ?_))
                  go_simp
                  refine hK.out _ _ (fun h => absurd h (by decide)) ?_
                  clear hK K
                  (try simp only [Act.put, List.setIfInBounds_toArray, List.set_cons_zero, List.set_cons_succ])
                  refine t_one (i := 21) (by kernel_rfl) (t_step rfl (fun K hK => ?_))
                  go_simp
                  refine hK.out _ _ (fun h => absurd h (by decide)) ?_
                  clear hK K
                  (try simp only [Act.put, List.setIfInBounds_toArray, List.set_cons_zero, List.set_cons_succ])
                  refine t_one (i := 22) (by kernel_rfl) (t_step rfl (fun K hK => ?_))
                  go_simp
                  refine hK.out _ _ (fun h => absurd h (by decide)) ?_
                  clear hK K
                  (try simp only [Act.put, List.setIfInBounds_toArray, List.set_cons_zero, List.set_cons_succ])
                  refine t_one (i := 23) (by kernel_rfl) (t_step rfl (fun K hK => ?_))
                  go_simp
                  refine hK.out _ _ (fun h => absurd h (by decide)) ?_
                  clear hK K
                  (try simp only [Act.put, List.setIfInBounds_toArray, List.set_cons_zero, List.set_cons_succ])
                  refine t_done (by kernel_rfl) ?_
                  have HE := Aside0.mk (And.intro (((HQ47_.out.bx.put 4 (.slice A45 (la ++ [s0]).length c45)).put 5 (.slice A46 (lb ++ [s1]).length c46)).put 6 (.slice A47 (lc ++ [s2]).length c47)) (And.intro (((HQ47_.out.r3.far 4 (.slice A45 (la ++ [s0]).length c45)).far 5 (.slice A46 (lb ++ [s1]).length c46)).far 6 (.slice A47 (lc ++ [s2]).length c47)) (((HQ47_.out.bw.setCell (p := ⟨B, 4, none⟩) HBL.out (.slice A45 (la ++ [s0]).length c45)).setCell (p := ⟨B, 5, none⟩) HBL.out (.slice A46 (lb ++ [s1]).length c46)).setCell (p := ⟨B, 6, none⟩) HBL.out (.slice A47 (lc ++ [s2]).length c47))))
                  clear y4 y5 y6 yf
                  go_wp2_with fail
                  go_roundg (gk - 1)
                  case measure => have := HI.out; have := HIL.out; omega
                  case rel =>
                    rw [show la.length + 1 = (la ++ [s0]).length by simp, show lb.length + 1 = (lb ++ [s1]).length by simp, show lc.length + 1 = (lc ++ [s2]).length by simp]
                    exact ⟨i + 1, _, _, _, by have := HI.out; have := HIL.out; omega, by have h1 := HIL.out; first | rfl | go_num | (congr 1; unfold wrap64; omega), HE.out.1, by rw [HTK.out.1, HTK.out.2.1, HTK.out.2.2]; exact HE.out.2.1, HE.out.2.2⟩
              · refine t_step rfl (fun K hK => ?_)
                go_simp
                refine hK.out _ _ (fun _ => ⟨(HQ35_.out.onto _).bx, (HQ35_.out.onto _).tx⟩) ?_
                clear hK K
                (try simp only [Act.put, List.setIfInBounds_toArray, List.set_cons_zero, List.set_cons_succ])
                have HQ48_ := Aside0.mk (HQ35_.out.onto (.cells #[.int .i64 s2] 3))
                have HN48 := Aside0.mk (Lit.new HQ35_.out.r3 (.int .i64 s2) 3)
                have HN35_48 := Aside0.mk (HN35.out.onto (.cells #[.int .i64 s2] 3))
                obtain ⟨p48, hp48⟩ : ∃ p, p = V35.heap.size := ⟨_, rfl⟩
                rw [← hp48] at HN48
                rw [← hp48]
                clear hp48
                generalize V35.alloc (.cells #[.int .i64 s2] 3) = V48 at *
                refine t_one (i := 4) (by kernel_rfl) ?_
                refine t_step rfl (fun K hK => ?_)
                go_simp
                refine hK.out _ _ (fun _ => ⟨(HQ48_.out.onto _).bx, (HQ48_.out.onto _).tx⟩) ?_
                clear hK K
                (try simp only [Act.put, List.setIfInBounds_toArray, List.set_cons_zero, List.set_cons_succ])
                have HQ49_ := Aside0.mk (HQ48_.out.onto (.cells #[.string s0] 9))
                have HN49 := Aside0.mk (Lit.new HQ48_.out.r3 (.string s0) 9)
                have HN35_48_49 := Aside0.mk (HN35_48.out.onto (.cells #[.string s0] 9))
                have HN48_49 := Aside0.mk (HN48.out.onto (.cells #[.string s0] 9))
                obtain ⟨p49, hp49⟩ : ∃ p, p = V48.heap.size := ⟨_, rfl⟩
                rw [← hp49] at HN49
                rw [← hp49]
                clear hp49
                generalize V48.alloc (.cells #[.string s0] 9) = V49 at *
                refine t_one (i := 5) (by kernel_rfl) ?_
                refine t_step rfl (fun K hK => ?_)
                refine app4 (by rfl) (.tmp 59) (.tmp 62) rfl (by rfl) (by rfl) HQ49_.out HN49.out (by omega) ?_
                intro A50 c50 V50 hq50 hk50
                refine hK.out _ _ (fun _ => ⟨hq50.bx, hq50.tx⟩) ?_
                clear hK K
                (try simp only [Act.put, List.setIfInBounds_toArray, List.set_cons_zero, List.set_cons_succ])
                have HQ50_ := Aside0.mk hq50
                have HN35_48_49_50 := Aside0.mk (hk50 _ _ HN35_48_49.out)
                have HN48_49_50 := Aside0.mk (hk50 _ _ HN48_49.out)
                clear hq50 hk50
                refine t_take (i := 18) (n := 24) (ls := [19, 20, 21, 22, 23]) (v := ?_) rfl rfl (by kernel_rfl) (by kernel_rfl) (by kernel_rfl) (by kernel_rfl) (by kernel_rfl) (fun _ _ _ h => h) (Or.inl ⟨by rfl, ?_⟩) ⟨HQ50_.out.bx, HQ50_.out.tx⟩ ?_
                rotate_left
                · intro w' hS'
                  go_simp
                  (try with_reducible rfl)
                simp only [Act.put, List.setIfInBounds_toArray, List.set_cons_zero, List.set_cons_succ]
                refine t_one (i := 11) (by kernel_rfl) ?_
                refine t_step rfl (fun K hK => ?_)
                refine app5 (by rfl) (.tmp 65) (.tmp 68) rfl (by rfl) (by rfl) HQ50_.out HN35_48_49_50.out (by omega) ?_
                intro A51 c51 V51 hq51 hk51
                refine hK.out _ _ (fun _ => ⟨hq51.bx, hq51.tx⟩) ?_
                clear hK K
                (try simp only [Act.put, List.setIfInBounds_toArray, List.set_cons_zero, List.set_cons_succ])
                have HQ51_ := Aside0.mk hq51
                have HN48_49_50_51 := Aside0.mk (hk51 _ _ HN48_49_50.out)
                clear hq51 hk51
                refine t_one (i := 17) (by kernel_rfl) ?_
                refine t_step rfl (fun K hK => ?_)
                refine app6 (by rfl) (.tmp 71) (.tmp 74) rfl (by rfl) (by rfl) HQ51_.out HN48_49_50_51.out (by omega) ?_
                intro A52 c52 V52 hq52 hk52
                refine hK.out _ _ (fun _ => ⟨hq52.bx, hq52.tx⟩) ?_
                clear hK K
                (try simp only [Act.put, List.setIfInBounds_toArray, List.set_cons_zero, List.set_cons_succ])
                have HQ52_ := Aside0.mk hq52
                clear hq52 hk52
                have y4 := HQ52_.out.bx.c 4 rfl
                have y5 := HQ52_.out.bx.c 5 rfl
                have y6 := HQ52_.out.bx.c 6 rfl
                have yf := fun k => HQ52_.out.bx.fz k
                refine t_one (i := 19) (by kernel_rfl) (t_step rfl (fun K hK => ?_))
                go_simp
                refine hK.out _ _ (fun h => absurd h (by decide)) ?_
                clear hK K
                (try simp only [Act.put, List.setIfInBounds_toArray, List.set_cons_zero, List.set_cons_succ])
                refine t_one (i := 20) (by kernel_rfl) (t_step rfl (fun K hK => ?_))
                go_simp
                refine hK.out _ _ (fun h => absurd h (by decide)) ?_
                clear hK K
                (try simp only [Act.put, List.setIfInBounds_toArray, List.set_cons_zero, List.set_cons_succ])
                refine t_one (i := 21) (by kernel_rfl) (t_step rfl (fun K hK => ?_))
                go_simp
                refine hK.out _ _ (fun h => absurd h (by decide)) ?_
                clear hK K
                (try simp only [Act.put, List.setIfInBounds_toArray, List.set_cons_zero, List.set_cons_succ])
                refine t_one (i := 22) (by kernel_rfl) (t_step rfl (fun K hK => ?_))
                go_simp
                refine hK.out _ _ (fun h => absurd h (by decide)) ?_
                clear hK K
                (try simp only [Act.put, List.setIfInBounds_toArray, List.set_cons_zero, List.set_cons_succ])
                refine t_one (i := 23) (by kernel_rfl) (t_step rfl (fun K hK => ?_))
                go_simp
                refine hK.out _ _ (fun h => absurd h (by decide)) ?_
                clear hK K
                (try simp only [Act.put, List.setIfInBounds_toArray, List.set_cons_zero, List.set_cons_succ])
                refine t_done (by kernel_rfl) ?_
                have HE := Aside0.mk (And.intro (((HQ52_.out.bx.put 4 (.slice A50 (la ++ [s0]).length c50)).put 5 (.slice A51 (lb ++ [s1]).length c51)).put 6 (.slice A52 (lc ++ [s2]).length c52)) (And.intro (((HQ52_.out.r3.far 4 (.slice A50 (la ++ [s0]).length c50)).far 5 (.slice A51 (lb ++ [s1]).length c51)).far 6 (.slice A52 (lc ++ [s2]).length c52)) (((HQ52_.out.bw.setCell (p := ⟨B, 4, none⟩) HBL.out (.slice A50 (la ++ [s0]).length c50)).setCell (p := ⟨B, 5, none⟩) HBL.out (.slice A51 (lb ++ [s1]).length c51)).setCell (p := ⟨B, 6, none⟩) HBL.out (.slice A52 (lc ++ [s2]).length c52))))
                clear y4 y5 y6 yf
                go_wp2_with fail
                go_roundg (gk - 1)
                case measure => have := HI.out; have := HIL.out; omega
                case rel =>
                  rw [show la.length + 1 = (la ++ [s0]).length by simp, show lb.length + 1 = (lb ++ [s1]).length by simp, show lc.length + 1 = (lc ++ [s2]).length by simp]
                  exact ⟨i + 1, _, _, _, by have := HI.out; have := HIL.out; omega, by have h1 := HIL.out; first | rfl | go_num | (congr 1; unfold wrap64; omega), HE.out.1, by rw [HTK.out.1, HTK.out.2.1, HTK.out.2.2]; exact HE.out.2.1, HE.out.2.2⟩
            · refine t_step rfl (fun K hK => ?_)
              go_simp
              refine hK.out _ _ (fun _ => ⟨(HQd.out.onto _).bx, (HQd.out.onto _).tx⟩) ?_
              clear hK K
              (try simp only [Act.put, List.setIfInBounds_toArray, List.set_cons_zero, List.set_cons_succ])
              have HQ53_ := Aside0.mk (HQd.out.onto (.cells #[.int .i64 s2] 3))
              have HN53 := Aside0.mk (Lit.new HQd.out.r3 (.int .i64 s2) 3)
              obtain ⟨p53, hp53⟩ : ∃ p, p = V0.heap.size := ⟨_, rfl⟩
              rw [← hp53] at HN53
              rw [← hp53]
              clear hp53
              generalize V0.alloc (.cells #[.int .i64 s2] 3) = V53 at *
              refine t_two (i := 4) (j := 10) (by kernel_rfl) ?_ ?_
              · refine t_step rfl (fun K hK => ?_)
                go_simp
                refine hK.out _ _ (fun _ => ⟨(HQ53_.out.onto _).bx, (HQ53_.out.onto _).tx⟩) ?_
                clear hK K
                (try simp only [Act.put, List.setIfInBounds_toArray, List.set_cons_zero, List.set_cons_succ])
                have HQ54_ := Aside0.mk (HQ53_.out.onto (.cells #[.string s0] 9))
                have HN54 := Aside0.mk (Lit.new HQ53_.out.r3 (.string s0) 9)
                have HN53_54 := Aside0.mk (HN53.out.onto (.cells #[.string s0] 9))
                obtain ⟨p54, hp54⟩ : ∃ p, p = V53.heap.size := ⟨_, rfl⟩
                rw [← hp54] at HN54
                rw [← hp54]
                clear hp54
                generalize V53.alloc (.cells #[.string s0] 9) = V54 at *
                refine t_two (i := 5) (j := 10) (by kernel_rfl) ?_ ?_
                · refine t_step rfl (fun K hK => ?_)
                  refine app4 (by rfl) (.tmp 59) (.tmp 62) rfl (by rfl) (by rfl) HQ54_.out HN54.out (by omega) ?_
                  intro A55 c55 V55 hq55 hk55
                  refine hK.out _ _ (fun _ => ⟨hq55.bx, hq55.tx⟩) ?_
                  clear hK K
                  (try simp only [Act.put, List.setIfInBounds_toArray, List.set_cons_zero, List.set_cons_succ])
                  have HQ55_ := Aside0.mk hq55
                  have HN53_54_55 := Aside0.mk (hk55 _ _ HN53_54.out)
                  clear hq55 hk55
                  refine t_take (i := 18) (n := 24) (ls := [19, 20, 21, 22, 23]) (v := ?_) rfl rfl (by kernel_rfl) (by kernel_rfl) (by kernel_rfl) (by kernel_rfl) (by kernel_rfl) (fun _ _ _ h => h) (Or.inl ⟨by rfl, ?_⟩) ⟨HQ55_.out.bx, HQ55_.out.tx⟩ ?_
                  rotate_left
                  · intro w' hS'
                    go_simp
                    (try with_reducible rfl)
                  simp only [Act.put, List.setIfInBounds_toArray, List.set_cons_zero, List.set_cons_succ]
                  refine t_one (i := 10) (by kernel_rfl) ?_
                  refine t_step rfl (fun K hK => ?_)
                  go_simp
                  refine hK.out _ _ (fun _ => ⟨(HQ55_.out.onto _).bx, (HQ55_.out.onto _).tx⟩) ?_
                  clear hK K
                  (try simp only [Act.put, List.setIfInBounds_toArray, List.set_cons_zero, List.set_cons_succ])
                  have HQ56_ := Aside0.mk (HQ55_.out.onto (.cells #[.int .i64 s1] 3))
                  have HN56 := Aside0.mk (Lit.new HQ55_.out.r3 (.int .i64 s1) 3)
                  have HN53_54_55_56 := Aside0.mk (HN53_54_55.out.onto (.cells #[.int .i64 s1] 3))
                  obtain ⟨p56, hp56⟩ : ∃ p, p = V55.heap.size := ⟨_, rfl⟩
                  rw [← hp56] at HN56
                  rw [← hp56]
                  clear hp56
                  generalize V55.alloc (.cells #[.int .i64 s1] 3) = V56 at *
                  refine t_one (i := 11) (by kernel_rfl) ?_
                  refine t_step rfl (fun K hK => ?_)
                  refine app5 (by rfl) (.tmp 65) (.tmp 68) rfl (by rfl) (by rfl) HQ56_.out HN56.out (by omega) ?_
                  intro A57 c57 V57 hq57 hk57
                  refine hK.out _ _ (fun _ => ⟨hq57.bx, hq57.tx⟩) ?_
                  clear hK K
                  (try simp only [Act.put, List.setIfInBounds_toArray, List.set_cons_zero, List.set_cons_succ])
                  have HQ57_ := Aside0.mk hq57
                  have HN53_54_55_56_57 := Aside0.mk (hk57 _ _ HN53_54_55_56.out)
                  clear hq57 hk57
                  refine t_one (i := 17) (by kernel_rfl) ?_
                  refine t_step rfl (fun K hK => ?_)
                  refine app6 (by rfl) (.tmp 71) (.tmp 74) rfl (by rfl) (by rfl) HQ57_.out HN53_54_55_56_57.out (by omega) ?_
                  intro A58 c58 V58 hq58 hk58
                  refine hK.out _ _ (fun _ => ⟨hq58.bx, hq58.tx⟩) ?_
                  clear hK K
                  (try simp only [Act.put, List.setIfInBounds_toArray, List.set_cons_zero, List.set_cons_succ])
                  have HQ58_ := Aside0.mk hq58
                  clear hq58 hk58
                  have y4 := HQ58_.out.bx.c 4 rfl
                  have y5 := HQ58_.out.bx.c 5 rfl
                  have y6 := HQ58_.out.bx.c 6 rfl
                  have yf := fun k => HQ58_.out.bx.fz k
                  refine t_one (i := 19) (by kernel_rfl) (t_step rfl (fun K hK => ?_))
                  go_simp
                  refine hK.out _ _ (fun h => absurd h (by decide)) ?_
                  clear hK K
                  (try simp only [Act.put, List.setIfInBounds_toArray, List.set_cons_zero, List.set_cons_succ])
                  refine t_one (i := 20) (by kernel_rfl) (t_step rfl (fun K hK => ?_))
                  go_simp
                  refine hK.out _ _ (fun h => absurd h (by decide)) ?_
                  clear hK K
                  (try simp only [Act.put, List.setIfInBounds_toArray, List.set_cons_zero, List.set_cons_succ])
                  refine t_one (i := 21) (by kernel_rfl) (t_step rfl (fun K hK => ?_))
                  go_simp
                  refine hK.out _ _ (fun h => absurd h (by decide)) ?_
                  clear hK K
                  (try simp only [Act.put, List.setIfInBounds_toArray, List.set_cons_zero, List.set_cons_succ])
                  refine t_one (i := 22) (by kernel_rfl) (t_step rfl (fun K hK => ?_))
                  go_simp
                  refine hK.out _ _ (fun h => absurd h (by decide)) ?_
                  clear hK K
                  (try simp only [Act.put, List.setIfInBounds_toArray, List.set_cons_zero, List.set_cons_succ])
                  refine t_one (i := 23) (by kernel_rfl) (t_step rfl (fun K hK => ?_))
                  go_simp
                  refine hK.out _ _ (fun h => absurd h (by decide)) ?_
                  clear hK K
                  (try simp only [Act.put, List.setIfInBounds_toArray, List.set_cons_zero, List.set_cons_succ])
                  refine t_done (by kernel_rfl) ?_
                  have HE := Aside0.mk (And.intro (((HQ58_.out.bx.put 4 (.slice A55 (la ++ [s0]).length c55)).put 5 (.slice A57 (lb ++ [s1]).length c57)).put 6 (.slice A58 (lc ++ [s2]).length c58)) (And.intro (((HQ58_.out.r3.far 4 (.slice A55 (la ++ [s0]).length c55)).far 5 (.slice A57 (lb ++ [s1]).length c57)).far 6 (.slice A58 (lc ++ [s2]).length c58)) (((HQ58_.out.bw.setCell (p := ⟨B, 4, none⟩) HBL.out (.slice A55 (la ++ [s0]).length c55)).setCell (p := ⟨B, 5, none⟩) HBL.out (.slice A57 (lb ++ [s1]).length c57)).setCell (p := ⟨B, 6, none⟩) HBL.out (.slice A58 (lc ++ [s2]).length c58))))
                  clear y4 y5 y6 yf
                  go_wp2_with fail
                  go_roundg (gk - 1)
                  case measure => have := HI.out; have := HIL.out; omega
                  case rel =>
                    rw [show la.length + 1 = (la ++ [s0]).length by simp, show lb.length + 1 = (lb ++ [s1]).length by simp, show lc.length + 1 = (lc ++ [s2]).length by simp]
                    exact ⟨i + 1, _, _, _, by have := HI.out; have := HIL.out; omega, by have h1 := HIL.out; first | rfl | go_num | (congr 1; unfold wrap64; omega), HE.out.1, by rw [HTK.out.1, HTK.out.2.1, HTK.out.2.2]; exact HE.out.2.1, HE.out.2.2⟩
                · refine t_step rfl (fun K hK => ?_)
                  go_simp
                  refine hK.out _ _ (fun _ => ⟨(HQ54_.out.onto _).bx, (HQ54_.out.onto _).tx⟩) ?_
                  clear hK K
                  (try simp only [Act.put, List.setIfInBounds_toArray, List.set_cons_zero, List.set_cons_succ])
                  have HQ59_ := Aside0.mk (HQ54_.out.onto (.cells #[.int .i64 s1] 3))
                  have HN59 := Aside0.mk (Lit.new HQ54_.out.r3 (.int .i64 s1) 3)
                  have HN53_54_59 := Aside0.mk (HN53_54.out.onto (.cells #[.int .i64 s1] 3))
                  have HN54_59 := Aside0.mk (HN54.out.onto (.cells #[.int .i64 s1] 3))
                  obtain ⟨p59, hp59⟩ : ∃ p, p = V54.heap.size := ⟨_, rfl⟩
                  rw [← hp59] at HN59
                  rw [← hp59]
                  clear hp59
                  generalize V54.alloc (.cells #[.int .i64 s1] 3) = V59 at *
                  refine t_one (i := 5) (by kernel_rfl) ?_
                  refine t_step rfl (fun K hK => ?_)
                  refine app4 (by rfl) (.tmp 59) (.tmp 62) rfl (by rfl) (by rfl) HQ59_.out HN54_59.out (by omega) ?_
                  intro A60 c60 V60 hq60 hk60
                  refine hK.out _ _ (fun _ => ⟨hq60.bx, hq60.tx⟩) ?_
                  clear hK K
                  (try simp only [Act.put, List.setIfInBounds_toArray, List.set_cons_zero, List.set_cons_succ])
                  have HQ60_ := Aside0.mk hq60
                  have HN53_54_59_60 := Aside0.mk (hk60 _ _ HN53_54_59.out)
                  have HN59_60 := Aside0.mk (hk60 _ _ HN59.out)
                  clear hq60 hk60
                  refine t_take (i := 18) (n := 24) (ls := [19, 20, 21, 22, 23]) (v := ?_) rfl rfl (by kernel_rfl) (by kernel_rfl) (by kernel_rfl) (by kernel_rfl) (by kernel_rfl) (fun _ _ _ h => h) (Or.inl ⟨by rfl, ?_⟩) ⟨HQ60_.out.bx, HQ60_.out.tx⟩ ?_
                  rotate_left
                  · intro w' hS'
                    go_simp
                    (try with_reducible rfl)
                  simp only [Act.put, List.setIfInBounds_toArray, List.set_cons_zero, List.set_cons_succ]
                  refine t_one (i := 11) (by kernel_rfl) ?_
                  refine t_step rfl (fun K hK => ?_)
                  refine app5 (by rfl) (.tmp 65) (.tmp 68) rfl (by rfl) (by rfl) HQ60_.out HN59_60.out (by omega) ?_
                  intro A61 c61 V61 hq61 hk61
                  refine hK.out _ _ (fun _ => ⟨hq61.bx, hq61.tx⟩) ?_
                  clear hK K
                  (try simp only [Act.put, List.setIfInBounds_toArray, List.set_cons_zero, List.set_cons_succ])
                  have HQ61_ := Aside0.mk hq61
                  have HN53_54_59_60_61 := Aside0.mk (hk61 _ _ HN53_54_59_60.out)
                  clear hq61 hk61
                  refine t_one (i := 17) (by kernel_rfl) ?_
                  refine t_step rfl (fun K hK => ?_)
                  refine app6 (by rfl) (.tmp 71) (.tmp 74) rfl (by rfl) (by rfl) HQ61_.out HN53_54_59_60_61.out (by omega) ?_
                  intro A62 c62 V62 hq62 hk62
                  refine hK.out _ _ (fun _ => ⟨hq62.bx, hq62.tx⟩) ?_
                  clear hK K
                  (try simp only [Act.put, List.setIfInBounds_toArray, List.set_cons_zero, List.set_cons_succ])
                  have HQ62_ := Aside0.mk hq62
                  clear hq62 hk62
                  have y4 := HQ62_.out.bx.c 4 rfl
                  have y5 := HQ62_.out.bx.c 5 rfl
                  have y6 := HQ62_.out.bx.c 6 rfl
                  have yf := fun k => HQ62_.out.bx.fz k
                  refine t_one (i := 19) (by kernel_rfl) (t_step rfl (fun K hK => ?_))
                  go_simp
                  refine hK.out _ _ (fun h => absurd h (by decide)) ?_
                  clear hK K
                  (try simp only [Act.put, List.setIfInBounds_toArray, List.set_cons_zero, List.set_cons_succ])
                  refine t_one (i := 20) (by kernel_rfl) (t_step rfl (fun K hK => ?_))
                  go_simp
                  refine hK.out _ _ (fun h => absurd h (by decide)) ?_
                  clear hK K
                  (try simp only [Act.put, List.setIfInBounds_toArray, List.set_cons_zero, List.set_cons_succ])
                  refine t_one (i := 21) (by kernel_rfl) (t_step rfl (fun K hK => ?_))
                  go_simp
                  refine hK.out _ _ (fun h => absurd h (by decide)) ?_
                  clear hK K
                  (try simp only [Act.put, List.setIfInBounds_toArray, List.set_cons_zero, List.set_cons_succ])
                  refine t_one (i := 22) (by kernel_rfl) (t_step rfl (fun K hK => ?_))
                  go_simp
                  refine hK.out _ _ (fun h => absurd h (by decide)) ?_
                  clear hK K
                  (try simp only [Act.put, List.setIfInBounds_toArray, List.set_cons_zero, List.set_cons_succ])
                  refine t_one (i := 23) (by kernel_rfl) (t_step rfl (fun K hK => ?_))
                  go_simp
                  refine hK.out _ _ (fun h => absurd h (by decide)) ?_
                  clear hK K
                  (try simp only [Act.put, List.setIfInBounds_toArray, List.set_cons_zero, List.set_cons_succ])
                  refine t_done (by kernel_rfl) ?_
                  have HE := Aside0.mk (And.intro (((HQ62_.out.bx.put 4 (.slice A60 (la ++ [s0]).length c60)).put 5 (.slice A61 (lb ++ [s1]).length c61)).put 6 (.slice A62 (lc ++ [s2]).length c62)) (And.intro (((HQ62_.out.r3.far 4 (.slice A60 (la ++ [s0]).length c60)).far 5 (.slice A61 (lb ++ [s1]).length c61)).far 6 (.slice A62 (lc ++ [s2]).length c62)) (((HQ62_.out.bw.setCell (p := ⟨B, 4, none⟩) HBL.out (.slice A60 (la ++ [s0]).length c60)).setCell (p := ⟨B, 5, none⟩) HBL.out (.slice A61 (lb ++ [s1]).length c61)).setCell (p := ⟨B, 6, none⟩) HBL.out (.slice A62 (lc ++ [s2]).length c62))))
                  clear y4 y5 y6 yf
                  go_wp2_with fail
                  go_roundg (gk - 1)
                  case measure => have := HI.out; have := HIL.out; omega
                  case rel =>
                    rw [show la.length + 1 = (la ++ [s0]).length by simp, show lb.length + 1 = (lb ++ [s1]).length by simp, show lc.length + 1 = (lc ++ [s2]).length by simp]
                    exact ⟨i + 1, _, _, _, by have := HI.out; have := HIL.out; omega, by have h1 := HIL.out; first | rfl | go_num | (congr 1; unfold wrap64; omega), HE.out.1, by rw [HTK.out.1, HTK.out.2.1, HTK.out.2.2]; exact HE.out.2.1, HE.out.2.2⟩
              · refine t_step rfl (fun K hK => ?_)
                go_simp
                refine hK.out _ _ (fun _ => ⟨(HQ53_.out.onto _).bx, (HQ53_.out.onto _).tx⟩) ?_
                clear hK K
                (try simp only [Act.put, List.setIfInBounds_toArray, List.set_cons_zero, List.set_cons_succ])
                have HQ63_ := Aside0.mk (HQ53_.out.onto (.cells #[.int .i64 s1] 3))
                have HN63 := Aside0.mk (Lit.new HQ53_.out.r3 (.int .i64 s1) 3)
                have HN53_63 := Aside0.mk (HN53.out.onto (.cells #[.int .i64 s1] 3))
                obtain ⟨p63, hp63⟩ : ∃ p, p = V53.heap.size := ⟨_, rfl⟩
                rw [← hp63] at HN63
                rw [← hp63]
                clear hp63
                generalize V53.alloc (.cells #[.int .i64 s1] 3) = V63 at *
                refine t_one (i := 4) (by kernel_rfl) ?_
                refine t_step rfl (fun K hK => ?_)
                go_simp
                refine hK.out _ _ (fun _ => ⟨(HQ63_.out.onto _).bx, (HQ63_.out.onto _).tx⟩) ?_
                clear hK K
                (try simp only [Act.put, List.setIfInBounds_toArray, List.set_cons_zero, List.set_cons_succ])
                have HQ64_ := Aside0.mk (HQ63_.out.onto (.cells #[.string s0] 9))
                have HN64 := Aside0.mk (Lit.new HQ63_.out.r3 (.string s0) 9)
                have HN53_63_64 := Aside0.mk (HN53_63.out.onto (.cells #[.string s0] 9))
                have HN63_64 := Aside0.mk (HN63.out.onto (.cells #[.string s0] 9))
                obtain ⟨p64, hp64⟩ : ∃ p, p = V63.heap.size := ⟨_, rfl⟩
                rw [← hp64] at HN64
                rw [← hp64]
                clear hp64
                generalize V63.alloc (.cells #[.string s0] 9) = V64 at *
                refine t_one (i := 5) (by kernel_rfl) ?_
                refine t_step rfl (fun K hK => ?_)
                refine app4 (by rfl) (.tmp 59) (.tmp 62) rfl (by rfl) (by rfl) HQ64_.out HN64.out (by omega) ?_
                intro A65 c65 V65 hq65 hk65
                refine hK.out _ _ (fun _ => ⟨hq65.bx, hq65.tx⟩) ?_
                clear hK K
                (try simp only [Act.put, List.setIfInBounds_toArray, List.set_cons_zero, List.set_cons_succ])
                have HQ65_ := Aside0.mk hq65
                have HN53_63_64_65 := Aside0.mk (hk65 _ _ HN53_63_64.out)
                have HN63_64_65 := Aside0.mk (hk65 _ _ HN63_64.out)
                clear hq65 hk65
                refine t_take (i := 18) (n := 24) (ls := [19, 20, 21, 22, 23]) (v := ?_) rfl rfl (by kernel_rfl) (by kernel_rfl) (by kernel_rfl) (by kernel_rfl) (by kernel_rfl) (fun _ _ _ h => h) (Or.inl ⟨by rfl, ?_⟩) ⟨HQ65_.out.bx, HQ65_.out.tx⟩ ?_
                rotate_left
                · intro w' hS'
                  go_simp
                  (try with_reducible rfl)
                simp only [Act.put, List.setIfInBounds_toArray, List.set_cons_zero, List.set_cons_succ]
                refine t_one (i := 11) (by kernel_rfl) ?_
                refine t_step rfl (fun K hK => ?_)
                refine app5 (by rfl) (.tmp 65) (.tmp 68) rfl (by rfl) (by rfl) HQ65_.out HN63_64_65.out (by omega) ?_
                intro A66 c66 V66 hq66 hk66
                refine hK.out _ _ (fun _ => ⟨hq66.bx, hq66.tx⟩) ?_
                clear hK K
                (try simp only [Act.put, List.setIfInBounds_toArray, List.set_cons_zero, List.set_cons_succ])
                have HQ66_ := Aside0.mk hq66
                have HN53_63_64_65_66 := Aside0.mk (hk66 _ _ HN53_63_64_65.out)
                clear hq66 hk66
                refine t_one (i := 17) (by kernel_rfl) ?_
                refine t_step rfl (fun K hK => ?_)
                refine app6 (by rfl) (.tmp 71) (.tmp 74) rfl (by rfl) (by rfl) HQ66_.out HN53_63_64_65_66.out (by omega) ?_
                intro A67 c67 V67 hq67 hk67
                refine hK.out _ _ (fun _ => ⟨hq67.bx, hq67.tx⟩) ?_
                clear hK K
                (try simp only [Act.put, List.setIfInBounds_toArray, List.set_cons_zero, List.set_cons_succ])
                have HQ67_ := Aside0.mk hq67
                clear hq67 hk67
                have y4 := HQ67_.out.bx.c 4 rfl
                have y5 := HQ67_.out.bx.c 5 rfl
                have y6 := HQ67_.out.bx.c 6 rfl
                have yf := fun k => HQ67_.out.bx.fz k
                refine t_one (i := 19) (by kernel_rfl) (t_step rfl (fun K hK => ?_))
                go_simp
                refine hK.out _ _ (fun h => absurd h (by decide)) ?_
                clear hK K
                (try simp only [Act.put, List.setIfInBounds_toArray, List.set_cons_zero, List.set_cons_succ])
                refine t_one (i := 20) (by kernel_rfl) (t_step rfl (fun K hK => ?_))
                go_simp
                refine hK.out _ _ (fun h => absurd h (by decide)) ?_
                clear hK K
                (try simp only [Act.put, List.setIfInBounds_toArray, List.set_cons_zero, List.set_cons_succ])
                refine t_one (i := 21) (by kernel_rfl) (t_step rfl (fun K hK => ?_))
                go_simp
                refine hK.out _ _ (fun h => absurd h (by decide)) ?_
                clear hK K
                (try simp only [Act.put, List.setIfInBounds_toArray, List.set_cons_zero, List.set_cons_succ])
                refine t_one (i := 22) (by kernel_rfl) (t_step rfl (fun K hK => ?_))
                go_simp
                refine hK.out _ _ (fun h => absurd h (by decide)) ?_
                clear hK K
                (try simp only [Act.put, List.setIfInBounds_toArray, List.set_cons_zero, List.set_cons_succ])
                refine t_one (i := 23) (by kernel_rfl) (t_step rfl (fun K hK => ?_))
                go_simp
                refine hK.out _ _ (fun h => absurd h (by decide)) ?_
                clear hK K
                (try simp only [Act.put, List.setIfInBounds_toArray, List.set_cons_zero, List.set_cons_succ])
                refine t_done (by kernel_rfl) ?_
                have HE := Aside0.mk (And.intro (((HQ67_.out.bx.put 4 (.slice A65 (la ++ [s0]).length c65)).put 5 (.slice A66 (lb ++ [s1]).length c66)).put 6 (.slice A67 (lc ++ [s2]).length c67)) (And.intro (((HQ67_.out.r3.far 4 (.slice A65 (la ++ [s0]).length c65)).far 5 (.slice A66 (lb ++ [s1]).length c66)).far 6 (.slice A67 (lc ++ [s2]).length c67)) (((HQ67_.out.bw.setCell (p := ⟨B, 4, none⟩) HBL.out (.slice A65 (la ++ [s0]).length c65)).setCell (p := ⟨B, 5, none⟩) HBL.out (.slice A66 (lb ++ [s1]).length c66)).setCell (p := ⟨B, 6, none⟩) HBL.out (.slice A67 (lc ++ [s2]).length c67))))
                clear y4 y5 y6 yf
                go_wp2_with fail
                go_roundg (gk - 1)
                case measure => have := HI.out; have := HIL.out; omega
                case rel =>
                  rw [show la.length + 1 = (la ++ [s0]).length by simp, show lb.length + 1 = (lb ++ [s1]).length by simp, show lc.length + 1 = (lc ++ [s2]).length by simp]
                  exact ⟨i + 1, _, _, _, by have := HI.out; have := HIL.out; omega, by have h1 := HIL.out; first | rfl | go_num | (congr 1; unfold wrap64; omega), HE.out.1, by rw [HTK.out.1, HTK.out.2.1, HTK.out.2.2]; exact HE.out.2.1, HE.out.2.2⟩
          · have t1 : decide ((i : Int) < (ts.length : Int)) = false := by simp; omega
            have hit : i = ts.length := by have := HI.out; omega
            have hr := HR.out
            rw [hit, List.take_length] at hr
            have HR1 := Aside0.mk hr
            obtain ⟨A4, c4, rfl⟩ := Kd.R_slice HR.out.r4
            have y4 := HBX.out.c 4 rfl
            have HBO := Aside0.mk (below_alloc (Below.refl wr.heap.size wr) (.cells #[.string ⟨#[]⟩] 9))
            have hlt := (long_no HG.out).2.1
            have hll := (long_no HG.out).2.2.2
            have hla : ((ts.take i).map STk.f0).length ≤ 12 := by simp; omega
            have HLA : Aside0 ((ts.take i).map STk.f0 = ts.map STk.f0) := ⟨by rw [hit, List.take_length]⟩
            have HLR := Aside0.mk (Kd.C_below HLF.out.1 HBW.out)
            generalize (ts.take i).map STk.f0 = la at *
            clear hr hit
            have HBL : Aside0 (w6.heap.size ≤ B) := ⟨Nat.le_of_eq HBB.out.symm⟩
            go_upto_region 18 with (first
              | (at_builtin; refine Kd.R_append Kd.string (w0 := w6) w6.heap.size rfl (.tmp 81) (.tmp 82) 28 9 (.string ⟨#[]⟩) 16 rfl Tryz.underlying28 infoS rfl (by decide) (by omega) _ la (⟨#[]⟩ : ByteArray) [.string ⟨#[]⟩] (fun x => x ≠ B ∧ some x ≠ v5.ownBlock ∧ some x ≠ v6.ownBlock) (fun _ => False) rfl rfl (show Kd.M Kd.string _ _ _ (⟨#[]⟩ : ByteArray) [.string ⟨#[]⟩] from rfl) (fun _ h => h.elim) (HR.out.fresh4 HBX.out.lt (Nat.le_refl _)) HR.out.r4 HBW.out HBW.out.size (by omega) ?_; intro v2 w9 ho hb9 hg hat; obtain ⟨A9, c9, e9⟩ := Kd.R_slice ho; subst e9; rw [show (la ++ [(⟨#[]⟩ : ByteArray)]).length = la.length + 1 from by simp] at ho hat; have HX9 := Aside0.mk (Bx.grown HBX.out hg HR.out.b4); have HR9 := Aside0.mk (R3.put4 HR.out ho hg hat); have HB9 := Aside0.mk hb9; have HL9 := Aside0.mk (Kd.C_below HLF.out.1 hb9); clear ho hb9 hg hat)
              | (at_builtin; refine Kd.R_append_rows Kd.string (w0 := w6) w6.heap.size rfl (.tmp 83) (.tmp 84) 28 9 (.string ⟨#[]⟩) 16 rfl Tryz.underlying28 infoS rfl (by decide) (by omega) (.slice A9 (la.length + 1) c9) (la ++ [(⟨#[]⟩ : ByteArray)]) (leftsF rs) Al (leftsF rs).length cl (fun x => x ≠ B ∧ some x ≠ v5.ownBlock ∧ some x ≠ v6.ownBlock) (fun _ => False) rfl rfl HR9.out.r4 HL9.out (fun _ _ h => h) (fun _ h => h.elim) (HR9.out.fresh4 HX9.out.lt (Nat.le_refl _)) HB9.out HB9.out.size (by simp; omega) ?_; intro v3 w10 ho hb10 hg hat; obtain ⟨A10, c10, e10⟩ := Kd.R_slice ho; subst e10; have HX10 := Aside0.mk (Bx.grown HX9.out hg HR9.out.b4); have HR10 := Aside0.mk (R3.put4 HR9.out ho hg hat); have HB10 := Aside0.mk hb10; have g1 := HX10.out.c 4 rfl; have g2 := HX10.out.fz 4; clear ho hb10 hg hat))
            have hn4 : la.length + ((leftsF rs).length + 1) = (namesF ts rs).length := by rw [names_len, HLA.out]; simp; omega
            rw [hn4]
            have hnn : la ++ [(⟨#[]⟩ : ByteArray)] ++ leftsF rs = namesF ts rs := by rw [HLA.out]; rfl
            have hl5 : (ts.take i).map STk.f1 = ts.map STk.f1 := by rw [List.take_of_length_le (by omega)]
            have hl6 : (ts.take i).map STk.f2 = ts.map STk.f2 := by rw [List.take_of_length_le (by omega)]
            have hr10 := HR10.out
            rw [hnn, hl5, hl6] at hr10
            have H15 : Aside0 (Bx (w10.setCell ⟨B, 4, none⟩ (.slice A10 (namesF ts rs).length c10)) B #[.int .i64 ts.length, .int .i64 (leftsF rs).length, .int .i64 0, .int .i64 ex, .slice A10 (namesF ts rs).length c10, v5, v6, .slice none 0 0] 32 ∧ R3 w6.heap.size B (w10.setCell ⟨B, 4, none⟩ (.slice A10 (namesF ts rs).length c10)) (.slice A10 (namesF ts rs).length c10) v5 v6 (namesF ts rs) (ts.map STk.f1) (ts.map STk.f2) ∧ Below w6.heap.size w6 (w10.setCell ⟨B, 4, none⟩ (.slice A10 (namesF ts rs).length c10))) := ⟨HX10.out.put 4 _, hr10.far 4 _, HB10.out.setCell (p := ⟨B, 4, none⟩) HBL.out _⟩
            generalize w10.setCell ⟨B, 4, none⟩ (.slice A10 (namesF ts rs).length c10) = W15 at *
            clear hn4 hnn hl5 hl6 hr10 HX10 HR10 HB10 g1 g2 HX9 HR9 HB9 HL9 y4 hla t1 hil HLR
            obtain ⟨A5, c5, ev5⟩ := Kd.R_slice H15.out.2.1.r5
            obtain ⟨A6, c6, ev6⟩ := Kd.R_slice H15.out.2.1.r6
            rw [List.length_map] at ev5 ev6
            subst ev5
            subst ev6
            have hsk := start_ok HNK.out
            obtain ⟨q, hq⟩ : ∃ q, q = startF ts st rs := ⟨_, rfl⟩
            have hss := start_same HM.out HNK.out
            rw [← hq] at hsk hss
            have HQS := Aside0.mk (And.intro hq hsk)
            obtain ⟨_, hcn4, hn4⟩ := Kd.R_reads' H15.out.2.1.r4
            have CNU := number_calls W15 ts.length (leftsF rs).length 0 ex A10 c10 (namesF ts rs) (.slice A5 ts.length c5) (.slice A6 ts.length c6) (.slice none 0 0) (startS st rs) hn4 hcn4 (by rw [names_len]; have := lefts_pos HNK.out.2.1; omega) (by rw [names_len]; have := long_no HG.out; omega)
            rw [hss] at CNU
            have CNU' := Aside0.mk CNU
            have b0 := H15.out.1.c 0 rfl
            have b1 := H15.out.1.c 1 rfl
            have b2 := H15.out.1.c 2 rfl
            have b3 := H15.out.1.c 3 rfl
            have b4 := H15.out.1.c 4 rfl
            have b5 := H15.out.1.c 5 rfl
            have b6 := H15.out.1.c 6 rfl
            have b7 := H15.out.1.c 7 rfl
            clear hq hsk hss hcn4 hn4 CNU
            go_upto_region 19 with (first
              | (go_at_call 65; (with_reducible refine Calls.mono CNU'.out ?_); rintro e w18 ⟨rfl, hd⟩; have HD18 := Aside0.mk hd; have y2 := (H15.out.1.move hd H15.out.1.lt).c 2 rfl; have f2 := (H15.out.1.move hd H15.out.1.lt).fz 2; clear hd))
            have H18 : Aside0 (Bx (w18.setCell ⟨B, 2, none⟩ (.int .i64 q)) B #[.int .i64 ts.length, .int .i64 (leftsF rs).length, .int .i64 q, .int .i64 ex, .slice A10 (namesF ts rs).length c10, .slice A5 ts.length c5, .slice A6 ts.length c6, .slice none 0 0] 32 ∧ R3 w6.heap.size B (w18.setCell ⟨B, 2, none⟩ (.int .i64 q)) (.slice A10 (namesF ts rs).length c10) (.slice A5 ts.length c5) (.slice A6 ts.length c6) (namesF ts rs) (ts.map STk.f1) (ts.map STk.f2) ∧ Below w6.heap.size w6 (w18.setCell ⟨B, 2, none⟩ (.int .i64 q))) := ⟨(H15.out.1.move HD18.out H15.out.1.lt).put 2 _, (H15.out.2.1.below HD18.out).far 2 _, (H15.out.2.2.trans (HD18.out.mono H15.out.2.2.size)).setCell (p := ⟨B, 2, none⟩) HBL.out _⟩
            generalize w18.setCell ⟨B, 2, none⟩ (.int .i64 q) = W20 at *
            clear y2 f2 b0 b1 b2 b3 b4 b5 b6 b7 CNU' HD18 H15
            have y2 := H18.out.1.c 2 rfl
            have y7 := fun o1 o2 => ((H18.out.1.onto o1).onto o2).c 7 rfl
            have f7 := fun o1 o2 => ((H18.out.1.onto o1).onto o2).fz 7
            go_upto_region 20 with fail
            have hb2 : Below W20.heap.size W20 ((W20.alloc (.cells #[.int .i64 q] 3)).alloc (.cells #[.int .i64 (-1), .slice (some ⟨W20.heap.size, 0, none⟩) 1 1, .int .i64 0, .int .i64 0] 81)) := below_alloc (below_alloc (Below.refl _ _) _) _
            have H21 : Aside0 (Bx (((W20.alloc (.cells #[.int .i64 q] 3)).alloc (.cells #[.int .i64 (-1), .slice (some ⟨W20.heap.size, 0, none⟩) 1 1, .int .i64 0, .int .i64 0] 81)).setCell ⟨B, 7, none⟩ (.slice (some ⟨W20.heap.size + 1, 0, none⟩) 1 1)) B #[.int .i64 ts.length, .int .i64 (leftsF rs).length, .int .i64 q, .int .i64 ex, .slice A10 (namesF ts rs).length c10, .slice A5 ts.length c5, .slice A6 ts.length c6, .slice (some ⟨W20.heap.size + 1, 0, none⟩) 1 1] 32 ∧ R4 w6.heap.size B W20.heap.size (((W20.alloc (.cells #[.int .i64 q] 3)).alloc (.cells #[.int .i64 (-1), .slice (some ⟨W20.heap.size, 0, none⟩) 1 1, .int .i64 0, .int .i64 0] 81)).setCell ⟨B, 7, none⟩ (.slice (some ⟨W20.heap.size + 1, 0, none⟩) 1 1)) (.slice A10 (namesF ts rs).length c10) (.slice A5 ts.length c5) (.slice A6 ts.length c6) (.slice (some ⟨W20.heap.size + 1, 0, none⟩) 1 1) (namesF ts rs) (ts.map STk.f1) (ts.map STk.f2) [⟨-1, [q], 0, 0⟩] ∧ Below w6.heap.size w6 (((W20.alloc (.cells #[.int .i64 q] 3)).alloc (.cells #[.int .i64 (-1), .slice (some ⟨W20.heap.size, 0, none⟩) 1 1, .int .i64 0, .int .i64 0] 81)).setCell ⟨B, 7, none⟩ (.slice (some ⟨W20.heap.size + 1, 0, none⟩) 1 1)) ∧ W20.heap.size ≤ (((W20.alloc (.cells #[.int .i64 q] 3)).alloc (.cells #[.int .i64 (-1), .slice (some ⟨W20.heap.size, 0, none⟩) 1 1, .int .i64 0, .int .i64 0] 81)).setCell ⟨B, 7, none⟩ (.slice (some ⟨W20.heap.size + 1, 0, none⟩) 1 1)).heap.size) := ⟨((H18.out.1.onto _).onto _).put 7 _, R4.far ⟨((R4.of H18.out.2.1 H18.out.1.lt).below hb2).r4, ((R4.of H18.out.2.1 H18.out.1.lt).below hb2).r5, ((R4.of H18.out.2.1 H18.out.1.lt).below hb2).r6, lit_rules q H18.out.2.2.size, H18.out.1.lt⟩ 7 _, (H18.out.2.2.trans (hb2.mono H18.out.2.2.size)).setCell (p := ⟨B, 7, none⟩) HBL.out _, by rw [World.size_setCell]; exact hb2.size⟩
            generalize ((W20.alloc (.cells #[.int .i64 q] 3)).alloc (.cells #[.int .i64 (-1), .slice (some ⟨W20.heap.size, 0, none⟩) 1 1, .int .i64 0, .int .i64 0] 81)).setCell ⟨B, 7, none⟩ (.slice (some ⟨W20.heap.size + 1, 0, none⟩) 1 1) = W21 at *
            obtain ⟨A9, hA9⟩ : ∃ A, A = (some ⟨W20.heap.size + 1, 0, none⟩ : Option Addr) := ⟨_, rfl⟩
            rw [← hA9] at H21
            clear y2 y7 f7 hb2 hA9 H18
            have x3 := (HX6.out.1.move H21.out.2.2.1 HX6.out.1.lt).c 3 rfl
            go_wp2_with fail
            go_loopg [100] rs.length (fun kq v8 w' => RcRel w6 B W20.heap.size ts (namesF ts rs) rs ts.length (leftsF rs).length q ex (.slice A10 (namesF ts rs).length c10) (.slice A5 ts.length c5) (.slice A6 ts.length c6) kq v8 w')
            case atStart => exact ⟨0, _, by omega, rfl, H21.out.1, H21.out.2.1, H21.out.2.2.1, H21.out.2.2.2⟩
            case round =>
                  obtain ⟨j, v7', hj, rfl, hbx, hr, hbw, hN⟩ := hrel
                  have HJ := Aside0.mk hj
                  have HRr := Aside0.mk hr
                  have HBr := Aside0.mk hbx
                  have HWr := Aside0.mk (And.intro hbw hN)
                  have HXr := Aside0.mk (HX6.out.1.move hbw HX6.out.1.lt)
                  clear hj hr hbx hbw hN x3
                  by_cases hjl : j < rs.length
                  · have t1 : decide ((j : Int) < (rs.length : Int)) = true := by simp; omega
                    have hjn : (j : Int) < (rs.length : Int) := by omega
                    obtain ⟨ad2, A1, c1, e1, r0, r1, r2, hl1, hrr⟩ := ru_at HL.out.2 j hjl
                    have HTK : Aside0 ((⟨-1, [q], 0, 0⟩ :: (rs.take (j + 1)).map (ruleF ts (namesF ts rs)) : List SR) = (⟨-1, [q], 0, 0⟩ :: (rs.take j).map (ruleF ts (namesF ts rs)) : List SR) ++ [ruleF ts (namesF ts rs) rs[j]]) := ⟨by rw [List.take_succ_eq_append_getElem hjl, List.map_append]; rfl⟩
                    have hr6 : rs[j].f1.length ≤ 6 := (long_no HG.out).1 _ (List.getElem_mem hjl)
                    have HJL := Aside0.mk hjl
                    obtain ⟨A7, c7, ev7⟩ := Kd.R_slice HRr.out.r7
                    subst ev7
                    obtain ⟨_, hcn4, hn4⟩ := Kd.R_reads' HRr.out.r4
                    obtain ⟨l7, hl7⟩ : ∃ l, l = (⟨-1, [q], 0, 0⟩ :: (rs.take j).map (ruleF ts (namesF ts rs)) : List SR) := ⟨_, rfl⟩
                    have hlen7 : l7.length ≤ 31 := by have := (long_no HG.out).2.2.1; rw [hl7]; simp; omega
                    rw [← hl7] at HRr HBr HTK
                    have hn5 := (Kd.R_reads' HRr.out.r5).2.2
                    have hn6 := (Kd.R_reads' HRr.out.r6).2.2
                    rw [List.length_map] at hn5 hn6
                    have HB0 : Aside0 (Below w.heap.size w wr) := ⟨H6.out.trans (HWr.out.1.mono H6.out.size)⟩
                    have CR : ∀ w', Aside0 (Below wr.heap.size wr w' → Calls Tryz.prog 66 #[.agg #[.int .i64 ts.length, .int .i64 (leftsF rs).length, .int .i64 q, .int .i64 ex, .slice A10 (namesF ts rs).length c10, .slice A5 ts.length c5, .slice A6 ts.length c6, .slice A7 l7.length c7], .agg #[.slice A ts.length c, .string st, .int .i64 ex, .slice A2 rs.length c2], .agg #[.string rs[j].f0, .slice A1 rs[j].f1.length c1, .string rs[j].f2]] w' fun e w'' => ∃ A' c', e = .returned (.agg #[.int .i64 (ruleF ts (namesF ts rs) rs[j]).f0, .slice A' (ruleF ts (namesF ts rs) rs[j]).f1.length c', .int .i64 (ruleF ts (namesF ts rs) rs[j]).f2, .int .i64 (ruleF ts (namesF ts rs) rs[j]).f3]) ∧ Kd.R (Kd.int .i64) 3 w'' w'.heap.size (fun _ => True) (.slice A' (ruleF ts (namesF ts rs) rs[j]).f1.length c') (ruleF ts (namesF ts rs) rs[j]).f1 ∧ Below w'.heap.size w' w'') := fun w' => ⟨fun hb => by
                      have hbw : Below w.heap.size w w' := HB0.out.trans (hb.mono HB0.out.size)
                      have h := wrule_calls w' A c ts st ex A2 rs.length c2 (leftsF rs).length q ex A10 A5 A6 c10 c5 c6 (.slice A7 l7.length c7) (namesF ts rs) A1 c1 rs[j] (Kd.C_below HL.out.1 hbw) (Kd.C_below hn4 hb) hcn4 (by rw [names_len]; have := lefts_pos HNK.out.2.1; omega) (by rw [names_len]; have := long_no HG.out; omega) (Kd.C_below hn5 hb) (Kd.C_below hn6 hb) (Kd.C_below hrr hbw) (by omega)
                      rw [rule_same HM.out HNK.out _ (List.getElem_mem hjl)] at h
                      exact h⟩
                    have q0 := pw_cell_below HB0.out r0
                    have q1 := pw_cell_below HB0.out r1
                    have q2 := pw_cell_below HB0.out r2
                    obtain ⟨rx, hrx⟩ : ∃ rx, rx = ruleF ts (namesF ts rs) rs[j] := ⟨_, rfl⟩
                    rw [← hrx] at CR HTK
                    clear hrx r0 r1 r2 hl7 hl1 hr6 hn4 hcn4 hn5 hn6 hrr
                    generalize rs[j] = rr at *
                    obtain ⟨rl, rt, rp⟩ := rr
                    simp only at CR q0 q1 q2
                    subst e1
                    obtain ⟨rf0, rf1, rf2, rf3⟩ := rx
                    simp only at CR
                    go_upto_region 23 with fail
                    obtain ⟨T, hT⟩ : ∃ T, T = wr.heap.size := ⟨_, rfl⟩
                    have hxT := Bx.new wr #[.string rl, .slice A1 rt.length c1, .string rp] 73
                    rw [← hT] at hxT
                    rw [← hT]
                    have hbT : Below wr.heap.size wr (wr.alloc (.cells #[.string rl, .slice A1 rt.length c1, .string rp] 73)) := below_alloc (Below.refl _ _) _
                    have HT := Aside0.mk (And.intro hxT (And.intro (HBr.out.onto (.cells #[.string rl, .slice A1 rt.length c1, .string rp] 73)) hbT))
                    have HRT := Aside0.mk (HRr.out.below hbT)
                    have HBT := Aside0.mk hbT
                    have HTE := Aside0.mk hT
                    have hNT : W20.heap.size ≤ (wr.alloc (.cells #[.string rl, .slice A1 rt.length c1, .string rp] 73)).heap.size := Nat.le_trans HWr.out.2 hbT.size
                    have HNT := Aside0.mk hNT
                    have HWT := Aside0.mk (HWr.out.1.trans (hbT.mono HWr.out.1.size))
                    generalize wr.alloc (.cells #[.string rl, .slice A1 rt.length c1, .string rp] 73) = W22 at *
                    clear hT hxT hbT q0 q1 q2 hNT
                    have hS0 : Bx W22.drew B #[.int .i64 ts.length, .int .i64 (leftsF rs).length, .int .i64 q, .int .i64 ex, .slice A10 (namesF ts rs).length c10, .slice A5 ts.length c5, .slice A6 ts.length c6, .slice A7 l7.length c7] 32 ∧ Bx W22.drew T #[.string rl, .slice A1 rt.length c1, .string rp] 73 ∧ Below w6.heap.size w6 W22.drew := ⟨HT.out.2.1.drew, HT.out.1.drew, below_drew1 HWT.out⟩
                    refine region_begin (fun w' => Bx w' B #[.int .i64 ts.length, .int .i64 (leftsF rs).length, .int .i64 q, .int .i64 ex, .slice A10 (namesF ts rs).length c10, .slice A5 ts.length c5, .slice A6 ts.length c6, .slice A7 l7.length c7] 32 ∧ Bx w' T #[.string rl, .slice A1 rt.length c1, .string rp] 73 ∧ Below w6.heap.size w6 w') 9 (by kernel_rfl) ?_
                    refine take_first (i := 0) (v := ?_) rfl (by kernel_rfl) (by kernel_rfl) (by kernel_rfl) (by kernel_rfl) (fun _ _ _ h => h) (Or.inl ⟨by rfl, ?_⟩) hS0 ?_
                    rotate_left
                    · intro w' hS'
                      go_simp
                      (try with_reducible rfl)
                    simp only [Act.put, List.setIfInBounds_toArray, List.set_cons_zero, List.set_cons_succ]
                    refine take_first (i := 1) (v := ?_) rfl (by kernel_rfl) (by kernel_rfl) (by kernel_rfl) (by kernel_rfl) (fun _ _ _ h => h) (Or.inl ⟨by rfl, ?_⟩) hS0 ?_
                    rotate_left
                    · intro w' hS'
                      have b7 := hS'.1.c 7 rfl
                      go_simp
                      (try with_reducible rfl)
                    simp only [Act.put, List.setIfInBounds_toArray, List.set_cons_zero, List.set_cons_succ]
                    refine take_first (i := 2) (v := ?_) rfl (by kernel_rfl) (by kernel_rfl) (by kernel_rfl) (by kernel_rfl) (fun _ _ _ h => h) (Or.inl ⟨by rfl, ?_⟩) hS0 ?_
                    rotate_left
                    · intro w' hS'
                      have b0 := hS'.1.c 0 rfl
                      have b1 := hS'.1.c 1 rfl
                      have b2 := hS'.1.c 2 rfl
                      have b3 := hS'.1.c 3 rfl
                      have b4 := hS'.1.c 4 rfl
                      have b5 := hS'.1.c 5 rfl
                      have b6 := hS'.1.c 6 rfl
                      have b7 := hS'.1.c 7 rfl
                      go_simp
                      (try with_reducible rfl)
                    simp only [Act.put, List.setIfInBounds_toArray, List.set_cons_zero, List.set_cons_succ]
                    refine take_first (i := 3) (v := ?_) rfl (by kernel_rfl) (by kernel_rfl) (by kernel_rfl) (by kernel_rfl) (fun _ _ _ h => h) (Or.inl ⟨by rfl, ?_⟩) hS0 ?_
                    rotate_left
                    · intro w' hS'
                      have x0 := (HX6.out.1.move hS'.2.2 HX6.out.1.lt).c 0 rfl
                      have x1 := (HX6.out.1.move hS'.2.2 HX6.out.1.lt).c 1 rfl
                      have x2 := (HX6.out.1.move hS'.2.2 HX6.out.1.lt).c 2 rfl
                      have x3 := (HX6.out.1.move hS'.2.2 HX6.out.1.lt).c 3 rfl
                      go_simp
                      (try with_reducible rfl)
                    simp only [Act.put, List.setIfInBounds_toArray, List.set_cons_zero, List.set_cons_succ]
                    refine take_first (i := 4) (v := ?_) rfl (by kernel_rfl) (by kernel_rfl) (by kernel_rfl) (by kernel_rfl) (fun _ _ _ h => h) (Or.inl ⟨by rfl, ?_⟩) hS0 ?_
                    rotate_left
                    · intro w' hS'
                      have d0 := hS'.2.1.c 0 rfl
                      have d1 := hS'.2.1.c 1 rfl
                      have d2 := hS'.2.1.c 2 rfl
                      go_simp
                      (try with_reducible rfl)
                    simp only [Act.put, List.setIfInBounds_toArray, List.set_cons_zero, List.set_cons_succ]
                    refine one_next (i := 5) (by kernel_rfl) rfl (fun K hK => ?_)
                    refine step_call (by rfl) (f := 66) (args := #[.agg #[.int .i64 ts.length, .int .i64 (leftsF rs).length, .int .i64 q, .int .i64 ex, .slice A10 (namesF ts rs).length c10, .slice A5 ts.length c5, .slice A6 ts.length c6, .slice A7 l7.length c7], .agg #[.slice A ts.length c, .string st, .int .i64 ex, .slice (some ad2) rs.length c2], .agg #[.string rl, .slice A1 rt.length c1, .string rp]]) (by go_simp) ?_
                    with_reducible refine Calls.mono ((CR _).out ?_) ?_
                    · exact below_drew1 HBT.out
                    rintro e w5 ⟨A', c', rfl, hR5, hb5⟩
                    refine ⟨_, rfl, ?_⟩
                    have hb5w : Below W22.heap.size W22 w5 := (below_drew1 (Below.refl _ _)).trans hb5
                    have H5 := Aside0.mk (And.intro (Kd.R_lower (base' := W22.heap.size) hR5 (Nat.le_refl _)) hb5w)
                    have HX5 := Aside0.mk (HT.out.2.1.move hb5w HT.out.2.1.lt)
                    have HT5 := Aside0.mk (HT.out.1.move hb5w HT.out.1.lt)
                    have HW5 : Aside0 (Below w6.heap.size w6 w5) := ⟨HWT.out.trans (hb5w.mono HWT.out.size)⟩
                    clear hR5 hb5 hb5w hS0
                    refine hK.out _ _ (fun _ => ⟨HX5.out, HT5.out, HW5.out⟩) ?_
                    clear hK K
                    try simp only [Act.put, List.setIfInBounds_toArray, List.set_cons_zero, List.set_cons_succ]
                    refine one_next (i := 6) (by kernel_rfl) rfl (fun K hK => ?_)
                    go_simp
                    refine hK.out _ _ (fun _ => ⟨HX5.out.onto _, HT5.out.onto _, below_alloc HW5.out _⟩) ?_
                    clear hK K
                    try simp only [Act.put, List.setIfInBounds_toArray, List.set_cons_zero, List.set_cons_succ]
                    refine one_next (i := 7) (by kernel_rfl) rfl (fun K hK => ?_)
                    refine Kd.R_append_rows_step kSR (w0 := w6) w6.heap.size (by rfl) (.tmp 105) (.tmp 110) 30 81 (.agg #[.int .i64 0, .slice none 0 0, .int .i64 0, .int .i64 0]) 48 rfl Tryz.underlying30 infoSR rfl (by decide) (by omega) (.slice A7 l7.length c7) l7 [(⟨rf0, rf1, rf2, rf3⟩ : SR)] _ 1 1 (fun x => W20.heap.size ≤ x) (fun x => W22.heap.size ≤ x) (by rfl) (by rfl) (Kd.R_below (Kd.R_below HRT.out.r7 H5.out.2) (show Below w5.heap.size w5 _ from (by repeat (first | (with_reducible first | exact Below.refl _ _ | apply below_alloc | apply below_drew1) | exact Below.refl _ _)))) (one_rule (okp := fun x => W22.heap.size ≤ x) (kSR_mkM _ _ _ (⟨rf0, rf1, rf2, rf3⟩ : SR) (Kd.R_below (Kd.R_lower (Kd.R_mono (Kd.R_bound H5.out.1) (fun x hx => hx.2.1)) HWT.out.size) (show Below w5.heap.size w5 _ from (by repeat (first | (with_reducible first | exact Below.refl _ _ | apply below_alloc | apply below_drew1) | exact Below.refl _ _))))) (by first | exact lit_row _ _ _ | exact lit_row2 _ _ _)) (fun _ _ h => h) (fun x hx => ⟨Nat.le_trans HNT.out hx, fun he => by have := Kd.R_lt HRT.out.r7 x he.symm; omega⟩) (fun x hx => Nat.le_trans HNT.out (Nat.le_trans (H5.out.2.trans ((show Below w5.heap.size w5 _ from (by repeat (first | (with_reducible first | exact Below.refl _ _ | apply below_alloc | apply below_drew1) | exact Below.refl _ _))).mono H5.out.2.size)).size hx)) (HWT.out.trans ((H5.out.2.trans ((show Below w5.heap.size w5 _ from (by repeat (first | (with_reducible first | exact Below.refl _ _ | apply below_alloc | apply below_drew1) | exact Below.refl _ _))).mono H5.out.2.size)).mono HWT.out.size)) (Nat.le_trans HWT.out.size (H5.out.2.trans ((show Below w5.heap.size w5 _ from (by repeat (first | (with_reducible first | exact Below.refl _ _ | apply below_alloc | apply below_drew1) | exact Below.refl _ _))).mono H5.out.2.size)).size) (by omega) ?_
                    intro v1 w9 ho hb9 hg hat
                    obtain ⟨A9, c9, e9⟩ := Kd.R_slice ho
                    subst e9
                    have HX9 := Aside0.mk (Bx.grown (HX5.out.move (show Below w5.heap.size w5 _ from (by repeat (first | (with_reducible first | exact Below.refl _ _ | apply below_alloc | apply below_drew1) | exact Below.refl _ _))) HX5.out.lt) hg HRT.out.b7)
                    have HR9 := Aside0.mk (R4.put7 ((HRT.out.below H5.out.2).below (show Below w5.heap.size w5 _ from (by repeat (first | (with_reducible first | exact Below.refl _ _ | apply below_alloc | apply below_drew1) | exact Below.refl _ _)))) ho hg hat)
                    have HB9 := Aside0.mk (And.intro hb9 (Nat.le_trans (H5.out.2.trans ((show Below w5.heap.size w5 _ from (by repeat (first | (with_reducible first | exact Below.refl _ _ | apply below_alloc | apply below_drew1) | exact Below.refl _ _))).mono H5.out.2.size)).size hg.size))
                    have g1 := HX9.out.c 7 rfl
                    have g2 := HX9.out.fz 7
                    have HT9 := Aside0.mk (Bx.grown (HT5.out.move (show Below w5.heap.size w5 _ from (by repeat (first | (with_reducible first | exact Below.refl _ _ | apply below_alloc | apply below_drew1) | exact Below.refl _ _))) HT5.out.lt) hg (fun he => by have h1 := Kd.R_lt HRr.out.r7 T he.symm; have h2 := HTE.out; omega))
                    clear ho hb9 hg hat
                    refine hK.out _ _ (fun _ => ⟨HX9.out, HT9.out, HB9.out.1⟩) ?_
                    clear hK K
                    try simp only [Act.put, List.setIfInBounds_toArray, List.set_cons_zero, List.set_cons_succ]
                    refine one_next (i := 8) (by kernel_rfl) rfl (fun K hK => ?_)
                    go_simp
                    refine hK.out _ _ (fun _ => ⟨HX9.out, HT9.out, HB9.out.1⟩) ?_
                    clear hK K
                    try simp only [Act.put, List.setIfInBounds_toArray, List.set_cons_zero, List.set_cons_succ]
                    refine one_next (i := 9) (by kernel_rfl) rfl (fun K hK => ?_)
                    go_simp
                    refine hK.out _ _ (fun h => absurd rfl h) ?_
                    clear hK K
                    refine all_done (by kernel_rfl) ?_
                    try simp only [Act.put, List.setIfInBounds_toArray, List.set_cons_zero, List.set_cons_succ]
                    go_wp2_with fail
                    go_roundg (gk - 1)
                    case measure => have := HJ.out; have := HJL.out; omega
                    case rel =>
                      rw [show l7.length + 1 = (l7 ++ [(⟨rf0, rf1, rf2, rf3⟩ : SR)]).length by simp]
                      exact ⟨j + 1, _, by have := HJ.out; have := HJL.out; omega, by have h1 := HJL.out; first | rfl | go_num | (congr 1; unfold wrap64; omega), HX9.out.put 7 _, by rw [HTK.out]; exact HR9.out.far 7 _, HB9.out.1.setCell (p := ⟨B, 7, none⟩) HBL.out _, by rw [World.size_setCell]; have := HB9.out.2; have := HNT.out; omega⟩
                  · have t1 : decide ((j : Int) < (rs.length : Int)) = false := by simp; omega
                    have hrl : (⟨-1, [q], 0, 0⟩ :: (rs.take j).map (ruleF ts (namesF ts rs)) : List SR) = rulesF ts st rs := by rw [List.take_of_length_le (by omega), HQS.out.1]; rfl
                    rw [hrl] at HRr
                    obtain ⟨A7, c7, ev7⟩ := Kd.R_slice HRr.out.r7
                    subst ev7
                    obtain ⟨_, hcn4, hn4⟩ := Kd.R_reads' HRr.out.r4
                    have hcn5 := (Kd.R_reads' HRr.out.r5).2.1
                    have hn5 := (Kd.R_reads' HRr.out.r5).2.2
                    have hcn6 := (Kd.R_reads' HRr.out.r6).2.1
                    have hn6 := (Kd.R_reads' HRr.out.r6).2.2
                    obtain ⟨_, hcn7, hn7⟩ := Kd.R_reads' HRr.out.r7
                    have hok := rules_ok HNK.out
                    have hll := (long_no HG.out)
                    have hall : ∀ r ∈ rulesF ts st rs, ∀ x ∈ r.f1, 0 ≤ x ∧ x < ((ts.length + 1 + (leftsF rs).length : Nat) : Int) := by
                      intro r hr x hx
                      simp only [rulesF, List.mem_cons] at hr
                      rcases hr with rfl | hr
                      · have h1 := start_ok HNK.out
                        rw [List.mem_singleton.1 hx]
                        omega
                      · exact (hok r (by simpa [rulesF] using hr)).2 x hx
                    obtain ⟨sq, hsq⟩ : ∃ s : Nat, q = (s : Int) := ⟨q.toNat, by have := HQS.out.2; omega⟩
                    have hsq2 : sq < ts.length + 1 + (leftsF rs).length := by have := HQS.out.2; omega
                    obtain ⟨ry, hry, hyl⟩ := U.fix_some (n := ts.length + 1 + (leftsF rs).length) (passY (rulesF ts st rs).tail) (U.keptY hok) _ (y0 ts.length (leftsF rs).length) (by simp [y0]; omega) (Nat.le_refl _)
                    obtain ⟨rr, hrr, hrl2⟩ := U.fix_some (n := ts.length + 1 + (leftsF rs).length) (passR (rulesF ts st rs).tail) (U.keptR hok) _ (r0 ts.length (leftsF rs).length sq) (by simp [r0]) (Nat.le_refl _)
                    have CY : Aside0 (∀ w', Below wr.heap.size wr w' → Calls Tryz.prog 58 #[.agg #[.int .i64 ts.length, .int .i64 (leftsF rs).length, .int .i64 q, .int .i64 ex, .slice A10 (namesF ts rs).length c10, .slice A5 ts.length c5, .slice A6 ts.length c6, .slice A7 (rulesF ts st rs).length c7]] w' fun e w'' => ∃ g d, e = .returned (.slice (some ⟨g, 0, none⟩) (ts.length + 1 + (leftsF rs).length) d) ∧ U.RowB w'' w'.heap.size g (ts.length + 1 + (leftsF rs).length) d ry ∧ Below w'.heap.size w' w'') := ⟨fun w' hb => by rw [hsq]; exact well_yields w' ts.length (leftsF rs).length sq ex A10 A5 A6 A7 _ c10 _ c5 _ c6 c7 (rulesF ts st rs) (Kd.C_below hn7 hb) hcn7 hok ⟨_, rfl, (by decide : (-1 : Int) < 0)⟩ hall (by omega) ry hry⟩
                    have CR : Aside0 (∀ w', Below wr.heap.size wr w' → Calls Tryz.prog 60 #[.agg #[.int .i64 ts.length, .int .i64 (leftsF rs).length, .int .i64 q, .int .i64 ex, .slice A10 (namesF ts rs).length c10, .slice A5 ts.length c5, .slice A6 ts.length c6, .slice A7 (rulesF ts st rs).length c7]] w' fun e w'' => ∃ g d, e = .returned (.slice (some ⟨g, 0, none⟩) (ts.length + 1 + (leftsF rs).length) d) ∧ U.RowB w'' w'.heap.size g (ts.length + 1 + (leftsF rs).length) d rr ∧ Below w'.heap.size w' w'') := ⟨fun w' hb => by rw [hsq]; exact well_reached w' ts.length (leftsF rs).length sq ex A10 A5 A6 A7 _ c10 _ c5 _ c6 c7 (rulesF ts st rs) (Kd.C_below hn7 hb) hcn7 hok ⟨_, rfl, (by decide : (-1 : Int) < 0)⟩ hall (by omega) hsq2 rr hrr⟩
                    have HUSE : Aside0 (useful ts st rs ↔ ∀ i, ts.length + 1 ≤ i → i ≤ ts.length + (leftsF rs).length → ry.getD i false = true ∧ rr.getD i false = true) := ⟨by
                      have hsf : (startF ts st rs).toNat = sq := by rw [← HQS.out.1, hsq]; rfl
                      constructor
                      · rintro ⟨ry', rr', h1, h2, h3⟩
                        rw [hsf] at h2
                        rw [fix_one h1 hry, fix_one h2 hrr] at h3
                        exact h3
                      · intro h3
                        exact ⟨ry, rr, hry, by rw [hsf]; exact hrr, h3⟩⟩
                    have HSP : Aside0 (∀ W' w', Below wr.heap.size wr W' → (∀ k, w6.heap.size ≤ k → w'.heap[k]? = W'.heap[k]?) → SpecAt w' ts st ex rs (.agg #[.int .i64 ts.length, .int .i64 (leftsF rs).length, .int .i64 q, .int .i64 ex, .slice A10 (namesF ts rs).length c10, .slice A5 ts.length c5, .slice A6 ts.length c6, .slice A7 (rulesF ts st rs).length c7])) := ⟨fun W' w' hb hk => by
                      have r := HRr.out.below hb
                      obtain ⟨_, d4, n4⟩ := Kd.R_reads' (Kd.R_move (w1 := w') (Kd.R_bound r.r4) (fun k h => hk k h.2.1))
                      obtain ⟨_, d5, n5⟩ := Kd.R_reads' (Kd.R_move (w1 := w') (Kd.R_bound r.r5) (fun k h => hk k h.2.1))
                      obtain ⟨_, d6, n6⟩ := Kd.R_reads' (Kd.R_move (w1 := w') (Kd.R_bound r.r6) (fun k h => hk k h.2.1))
                      obtain ⟨_, d7, n7⟩ := Kd.R_reads' (Kd.R_move (w1 := w') (Kd.R_bound r.r7) (fun k h => hk k h.2.1))
                      rw [List.length_map] at n5 n6
                      exact ⟨A10, A5, A6, A7, c10, c5, c6, c7, by rw [HQS.out.1], n4, d4, n5, d5, n6, d6, n7, d7⟩⟩
                    obtain ⟨m, hm⟩ : ∃ m, m = ts.length + 1 + (leftsF rs).length := ⟨_, rfl⟩
                    rw [← hm] at CY CR hyl hrl2
                    have HMM := Aside0.mk (And.intro hm (And.intro hyl hrl2))
                    have HLIM : Aside0 (ts.length ≤ 12 ∧ (leftsF rs).length ≤ 10) := ⟨hll.2.1, hll.2.2.2⟩
                    clear hm hyl hrl2 hry hrr hok hll hsq hsq2 hn4 hn5 hn6 hn7 hcn4 hcn5 hcn6 hcn7 hrl hall
                    obtain ⟨W25, rfl⟩ : ∃ x, x = wr := ⟨_, rfl⟩
                    have b0 := HBr.out.c 0 rfl
                    have b1 := HBr.out.c 1 rfl
                    have b2 := HBr.out.c 2 rfl
                    have b3 := HBr.out.c 3 rfl
                    have b4 := HBr.out.c 4 rfl
                    have b5 := HBr.out.c 5 rfl
                    have b6 := HBr.out.c 6 rfl
                    have b7 := HBr.out.c 7 rfl
                    go_upto_region 25 with fail
                    go_cut [11, 12] (fun v9 v10 wx => TwoRows W25 m ry rr v9 v10 wx)
                    case first =>
                      have hdB : ∀ w', Below W25.heap.size W25 w' → Bx w' B #[.int .i64 ts.length, .int .i64 (leftsF rs).length, .int .i64 q, .int .i64 ex, .slice A10 (namesF ts rs).length c10, .slice A5 ts.length c5, .slice A6 ts.length c6, .slice A7 (rulesF ts st rs).length c7] 32 := fun w' hb => HBr.out.move hb HBr.out.lt
                      have HDB := Aside0.mk hdB
                      clear hdB
                      go_region_with (first
                        | (go_at_call 58; (with_reducible refine Calls.mono (CY.out _ (below_drew1 (Below.refl _ _))) ?_); rintro e w5' ⟨g, d, rfl, hr5, hb5⟩; have hh : Below W25.heap.size W25 w5' := (below_drew1 (Below.refl _ _)).trans hb5; have H5 := Aside0.mk (And.intro hr5 hh); have z0 := (HDB.out _ hh).c 0 rfl; have z1 := (HDB.out _ hh).c 1 rfl; have z2 := (HDB.out _ hh).c 2 rfl; have z3 := (HDB.out _ hh).c 3 rfl; have z4 := (HDB.out _ hh).c 4 rfl; have z5 := (HDB.out _ hh).c 5 rfl; have z6 := (HDB.out _ hh).c 6 rfl; have z7 := (HDB.out _ hh).c 7 rfl; clear hr5 hb5 hh)
                        | (go_at_call 60; (with_reducible refine Calls.mono (CR.out _ H5.out.2) ?_); rintro e w6' ⟨g', d', rfl, hr6, hb6⟩; have H6' := Aside0.mk (And.intro hr6 hb6); clear hr6 hb6))
                      all_goals (go_wp2_with fail; go_meet; exact ⟨g, d, g', d', rfl, rfl, Kd.R_lower (H5.out.1.below H6'.out.2) (below_drew1 (Below.refl W25.heap.size W25)).size, Kd.R_lower H6'.out.1 H5.out.2.size, H5.out.2.trans (H6'.out.2.mono H5.out.2.size)⟩)
                    case rest =>
                      obtain ⟨g, d, g', d', rfl, rfl, hr1, hr2, hb⟩ := hcut
                      obtain ⟨W26, rfl⟩ : ∃ x, x = wc := ⟨_, rfl⟩
                      have H26 := Aside0.mk (And.intro hr1 (And.intro hr2 hb))
                      have HB26 := Aside0.mk (HBr.out.move hb HBr.out.lt)
                      have HV26 := Aside0.mk (HX6.out.2.move (HWr.out.1.trans (hb.mono HWr.out.1.size)) HX6.out.2.lt)
                      have H06 : Aside0 (Below w.heap.size w W26) := ⟨H6.out.trans ((HWr.out.1.trans (hb.mono HWr.out.1.size)).mono H6.out.size)⟩
                      clear hr1 hr2 hb b0 b1 b2 b3 b4 b5 b6 b7 CY CR
                      have b0 := HB26.out.c 0 rfl
                      have b1 := HB26.out.c 1 rfl
                      have b4 := HB26.out.c 4 rfl
                      obtain ⟨nn, hnn⟩ : ∃ x, x = (namesF ts rs).length := ⟨_, rfl⟩
                      have HNN0 : nn = ts.length + 1 + (leftsF rs).length := by rw [hnn, names_len]
                      rw [← hnn] at b4
                      obtain ⟨t, ht⟩ : ∃ t, t = ts.length := ⟨_, rfl⟩
                      obtain ⟨n, hn⟩ : ∃ n, n = (leftsF rs).length := ⟨_, rfl⟩
                      have HTN := Aside0.mk (And.intro ht hn)
                      have HNN : Aside0 (nn = t + 1 + n) := ⟨by omega⟩
                      have HNE := Aside0.mk hnn
                      clear HNN0 hnn
                      rw [← ht] at b0
                      rw [← hn] at b1
                      have ht12 : t ≤ 12 := by have := HLIM.out; omega
                      have hn10 : n ≤ 10 := by have := HLIM.out; omega
                      have hmt : m = t + 1 + n := by have := HMM.out.1; omega
                      have HMT := Aside0.mk hmt
                      have hw1 : IntKind.i64.wrap ((t : Int) + 1) = ((t + 1 : Nat) : Int) := by rw [IntKind.wrap_i64]; omega
                      have hw2 : IntKind.i64.wrap ((t : Int) + (n : Int)) = ((t + n : Nat) : Int) := by rw [IntKind.wrap_i64]; omega
                      clear ht hn hmt
                      go_wp2_with fail
                      go_loopg [13] n (fun kq v11 w' => ChRel W26 t n ry rr kq v11 w')
                      case atStart => exact ⟨0, by omega, by simp, rfl, fun k h1 h2 => absurd h1 (by omega)⟩
                      case round =>
                        obtain ⟨k, hk, rfl, rfl, hall⟩ := hrel
                        have HK := Aside0.mk (And.intro hk hall)
                        clear hk hall
                        by_cases hkn : k < n
                        · have t1 : decide (((t + 1 + k : Nat) : Int) < (nn : Int)) = true := by have := HNN.out; simp; omega
                          obtain ⟨p, hp⟩ : ∃ p, p = t + 1 + k := ⟨_, rfl⟩
                          obtain ⟨tn, htn⟩ : ∃ p, p = t + n := ⟨_, rfl⟩
                          have hpm : p < m := by have := HMT.out; omega
                          have hpm2 : (p : Int) < (m : Int) := by omega
                          have hly : p < ry.length := by rw [HMM.out.2.1]; exact hpm
                          have hlr : p < rr.length := by rw [HMM.out.2.2]; exact hpm
                          obtain ⟨p1, p2⟩ := H26.out.1.at_ p hly
                          obtain ⟨p3, p4⟩ := H26.out.2.1.at_ p hlr
                          have HGY : Aside0 (ry.getD p false = ry[p]) := ⟨by simp [List.getD, hly]⟩
                          have HGR : Aside0 (rr.getD p false = rr[p]) := ⟨by simp [List.getD, hlr]⟩
                          generalize ry[p] = by_ at *
                          generalize rr[p] = br_ at *
                          have HP := Aside0.mk (And.intro hp (And.intro hkn htn))
                          have hpt : p < nn := by have := HNN.out; omega
                          rw [← hp] at t1
                          rw [← htn] at hw2
                          rw [← hp]
                          clear hp htn hly hlr hkn p2 p4
                          by_cases hgood : by_ = true ∧ br_ = true
                          · obtain ⟨rfl, rfl⟩ := hgood
                            go_wp2_with fail
                            go_roundg (gk - 1)
                            case measure => have := HK.out.1; have := HP.out.2.1; omega
                            case rel =>
                              refine ⟨k + 1, by have := HK.out.1; have := HP.out.2.1; omega, by have h1 := HP.out.1; have h2 := HP.out.2.1; congr 1; first | omega | (unfold wrap64; omega), rfl, fun z h1 h2 => ?_⟩
                              by_cases hz : z < t + 1 + k
                              · exact HK.out.2 z h1 hz
                              · obtain rfl : z = p := by have := HP.out.1; omega
                                exact ⟨HGY.out, HGR.out⟩
                          · have HNU : Aside0 (¬ useful ts st rs) := ⟨fun hu => hgood (by
                              have h1 := HUSE.out.1 hu p (by have := HP.out.1; have := HTN.out.1; omega) (by have := HP.out.1; have := HP.out.2.1; have := HTN.out; omega)
                              rw [HGY.out, HGR.out] at h1
                              exact h1)⟩
                            have g0 := HV26.out.c 0 rfl
                            have g1 := HV26.out.c 1 rfl
                            have g2 := HV26.out.c 2 rfl
                            have g3 := HV26.out.c 3 rfl
                            have g4 := HV26.out.c 4 rfl
                            have g5 := HV26.out.c 5 rfl
                            have g6 := HV26.out.c 6 rfl
                            have g7 := HV26.out.c 7 rfl
                            have gf := fun k => HV26.out.fz k
                            cases by_ with
                            | false =>
                              go_wp2_with fail
                              refine bodyPost_ret (results_cell_tmp rfl _ _ V 32 #[.int .i64 0, .int .i64 0, .int .i64 0, .int .i64 0, .slice none 0 0, .slice none 0 0, .slice none 0 0, .slice none 0 0] _ (.int .i64 8) rfl rfl (put8_bx HV26.out).heap Tryz.underlying32 rfl (by kernel_rfl)) rfl ?_
                              exact ⟨zeroSp, 8, rfl, .inr (.inr (.inr (.inl ⟨HM.out, HG.out, HNK.out, HNU.out, rfl⟩))), fun _ => rfl, fun h => absurd h (by decide), put8_below H06.out HV.out.1⟩
                            | true =>
                              cases br_ with
                              | true => exact absurd ⟨rfl, rfl⟩ hgood
                              | false =>
                                go_wp2_with fail
                                refine bodyPost_ret (results_cell_tmp rfl _ _ V 32 #[.int .i64 0, .int .i64 0, .int .i64 0, .int .i64 0, .slice none 0 0, .slice none 0 0, .slice none 0 0, .slice none 0 0] _ (.int .i64 8) rfl rfl (put8_bx HV26.out).heap Tryz.underlying32 rfl (by kernel_rfl)) rfl ?_
                                exact ⟨zeroSp, 8, rfl, .inr (.inr (.inr (.inl ⟨HM.out, HG.out, HNK.out, HNU.out, rfl⟩))), fun _ => rfl, fun h => absurd h (by decide), put8_below H06.out HV.out.1⟩
                        · obtain ⟨p, hp⟩ : ∃ p, p = t + 1 + k := ⟨_, rfl⟩
                          obtain ⟨tn, htn⟩ : ∃ p, p = t + n := ⟨_, rfl⟩
                          have hpt : ¬ p < nn := by have := HNN.out; omega
                          have t1 : decide ((p : Int) < (nn : Int)) = false := by have := HNN.out; simp; omega
                          have HU : Aside0 (useful ts st rs) := ⟨HUSE.out.2 (fun z h1 h2 => HK.out.2 z (by have := HTN.out; omega) (by have := HTN.out; omega))⟩
                          have g0 := HV26.out.c 0 rfl
                          have g1 := HV26.out.c 1 rfl
                          have g2 := HV26.out.c 2 rfl
                          have g3 := HV26.out.c 3 rfl
                          have g4 := HV26.out.c 4 rfl
                          have g5 := HV26.out.c 5 rfl
                          have g6 := HV26.out.c 6 rfl
                          have g7 := HV26.out.c 7 rfl
                          have gf := fun k => HV26.out.fz k
                          have b0' := HB26.out.c 0 rfl
                          have b1' := HB26.out.c 1 rfl
                          have b2 := HB26.out.c 2 rfl
                          have b3 := HB26.out.c 3 rfl
                          have b5 := HB26.out.c 5 rfl
                          have b6 := HB26.out.c 6 rfl
                          have b7 := HB26.out.c 7 rfl
                          rw [← HTN.out.1] at b0'
                          rw [← HTN.out.2] at b1'
                          rw [← htn] at hw2
                          rw [← hp]
                          clear hp htn b0' b1' hkn
                          go_wp2_with fail
                          rw [← HTN.out.1, ← HTN.out.2, ← HNE.out] at HSP
                          refine bodyPost_ret (results_cell_tmp rfl _ _ V 32 #[.int .i64 t, .int .i64 n, .int .i64 q, .int .i64 ex, .slice A10 nn c10, .slice A5 ts.length c5, .slice A6 ts.length c6, .slice A7 (rulesF ts st rs).length c7] _ (.int .i64 0) rfl rfl (put8_bx HV26.out).heap Tryz.underlying32 rfl (by kernel_rfl)) rfl ?_
                          rw [← HTN.out.1] 
                          exact ⟨_, 0, rfl, .inr (.inr (.inr (.inr ⟨HM.out, HG.out, HNK.out, HU.out, rfl⟩))), fun h => absurd rfl h, fun _ => HSP.out _ _ H26.out.2.2 (fun k hk => put8_far (by have := HX6.out.2.lt; omega)), put8_below H06.out HV.out.1⟩
      · have CN5 : Aside0 (Calls Tryz.prog 63 #[.agg #[.slice A ts.length c, .string st, .int .i64 ex, .slice A2 rs.length c2], .string (startS st rs)] w4 fun e w' => e = .returned (.bool false) ∧ Below w4.heap.size w4 w') := ⟨CN4.mono (fun e w' ⟨b, he, hb, hw⟩ => ⟨by rw [he]; cases b with | true => exact absurd (hb.1 rfl) hnk | false => rfl, hw⟩)⟩
        have HNK := Aside0.mk hnk
        clear CN4 CN hnk
        go_wp2_with (first
          | (go_at_call 63; (with_reducible refine Calls.mono CN5.out ?_); rintro e w5 ⟨rfl, hb3⟩; have H5 := Aside0.mk (H4.out.trans (hb3.mono H4.out.size)); have HV3 := Aside0.mk (HX4.out.2.move hb3 HX4.out.2.lt); clear hb3; have g0 := HV3.out.c 0 rfl; have g1 := HV3.out.c 1 rfl; have g2 := HV3.out.c 2 rfl; have g3 := HV3.out.c 3 rfl; have g4 := HV3.out.c 4 rfl; have g5 := HV3.out.c 5 rfl; have g6 := HV3.out.c 6 rfl; have g7 := HV3.out.c 7 rfl; have gf := fun k => HV3.out.fz k))
        refine bodyPost_ret (results_cell_tmp rfl _ _ V 32 #[.int .i64 0, .int .i64 0, .int .i64 0, .int .i64 0, .slice none 0 0, .slice none 0 0, .slice none 0 0, .slice none 0 0] _ (.int .i64 7) rfl rfl (put8_bx HV3.out).heap Tryz.underlying32 rfl (by kernel_rfl)) rfl ?_
        exact ⟨zeroSp, 7, rfl, .inr (.inr (.inl ⟨HM.out, HG.out, HNK.out, rfl⟩)), fun _ => rfl, fun h => absurd h (by decide), put8_below H5.out HV.out.1⟩
end Go.Proofs.YtjhemobplcelbaaGreatDoor.O
