/- wof: well.rule (printed by mk_ne.py). -/
import Derived.Test.YtjhemobplcelbaaGreatDoorNofD
namespace Go.Proofs.YtjhemobplcelbaaGreatDoor.O
open Go.RowKit Go.Proofs.YtjhemobplcelbaaGreatDoorW.PrintWords Go.Proofs.YtjhemobplcelbaaGreatDoorW.PrintLast Go.Proofs.YtjhemobplcelbaaGreatDoorW.PrintMore
open Go.Proofs.YtjhemobplcelbaaGreatDoor.U (SR int_at)
set_option linter.unusedVariables false
set_option linter.unusedSimpArgs false
def ruleWB (ts : List STk) (names : List ByteArray) (r : SRu) : Int := if r.f2 = ⟨#[]⟩ then (r.f1.map (numF ts.length names)).foldl (byStep ts.length) (plc r.f2 (ts.map STk.f0) 0) else plc r.f2 (ts.map STk.f0) 0
def ruleW (ts : List STk) (names : List ByteArray) (r : SRu) : SR := ⟨numF ts.length names r.f0, r.f1.map (numF ts.length names), if 0 ≤ ruleWB ts names r then (rdTk ts (ruleWB ts names r)).f1 else 0, if 0 ≤ ruleWB ts names r then (rdTk ts (ruleWB ts names r)).f2 else 0⟩
theorem byStep_lt {t : Int} : ∀ (l : List Int) (b : Int), b < t → l.foldl (byStep t) b < t := by
  intro l
  induction l with
  | nil => intro b h; exact h
  | cons x l ih =>
    intro b h
    rw [List.foldl_cons]
    refine ih _ ?_
    unfold byStep
    split
    · assumption
    · exact h
theorem ruleWB_lt (ts : List STk) (names : List ByteArray) (r : SRu) : ruleWB ts names r < ts.length := by
  have h := plc_lt r.f2 (ts.map STk.f0) 0
  rw [List.length_map] at h
  have hts := Int.natCast_nonneg ts.length
  have h2 : plc r.f2 (ts.map STk.f0) 0 < ts.length := by
    have h3 := plc_ge r.f2 (ts.map STk.f0) 0
    rcases Int.lt_or_le (plc r.f2 (ts.map STk.f0) 0) 0 with h4 | h4
    · omega
    · omega
  unfold ruleWB
  split
  · exact byStep_lt _ _ h2
  · exact h2
theorem numF_bound (t : Nat) (names : List ByteArray) (s : ByteArray) (hN : names.length ≤ 1000000) (ht : t ≤ names.length) : 0 ≤ numF t names s ∧ numF t names s ≤ 3000000 := by
  have h1 := plc_ge s (names.take t) 0
  have h2 := plc_lt s (names.take t) 0
  have h3 := plc_ge s (names.drop (t + 1)) 0
  have h4 := plc_lt s (names.drop (t + 1)) 0
  rw [List.length_take] at h2
  rw [List.length_drop] at h4
  unfold numF
  split
  · omega
  · omega
def RwRel (W : World) (C : Nat) (lf : Int) (t by0 : Int) (pe : Bool) (nums : List Int) (kq : Nat) (v8 v24 : Value) (w' : World) : Prop := ∃ (k : Nat) (b : Int) (v1 : Value) (rt : List Int), k + kq = nums.length ∧ v24 = .int .i64 (k : Int) ∧ v8 = .int .i64 b ∧ Bx w' C #[.int .i64 lf, v1, .int .i64 0, .int .i64 0] 81 ∧ Kd.R (Kd.int .i64) 3 w' W.heap.size (fun x => x ≠ C) v1 rt ∧ rt = nums.take k ∧ b = (if pe = true then rt.foldl (byStep t) by0 else by0) ∧ Below W.heap.size W w'
set_option maxRecDepth 100000 in
set_option maxHeartbeats 8000000 in
theorem wrule_calls (w : World) (A : Option Addr) (c : Nat) (ts : List STk) (st : ByteArray) (ex : Int) (A2 : Option Addr) (n2 c2 : Nat) (n st2 ex2 : Int) (A4 A5 A6 : Option Addr) (c4 c5 c6 : Nat) (v7 : Value) (names : List ByteArray) (A1 : Option Addr) (c1 : Nat) (r : SRu)
    (hts : Kd.C kTk w A ts.length ts) (hnm : Kd.C Kd.string w A4 names.length names) (hc4 : names.length ≤ c4) (ht : ts.length + 1 < names.length) (hN : names.length ≤ 1000000) (h5 : Kd.C (Kd.int .i64) w A5 ts.length (ts.map STk.f1)) (h6 : Kd.C (Kd.int .i64) w A6 ts.length (ts.map STk.f2)) (hr : Kd.C Kd.string w A1 r.f1.length r.f1) (hl : r.f1.length ≤ 1000000) :
    Calls Tryz.prog 66 #[.agg #[.int .i64 (ts.length : Int), .int .i64 n, .int .i64 st2, .int .i64 ex2, .slice A4 names.length c4, .slice A5 ts.length c5, .slice A6 ts.length c6, v7], .agg #[.slice A ts.length c, .string st, .int .i64 ex, .slice A2 n2 c2], .agg #[.string r.f0, .slice A1 r.f1.length c1, .string r.f2]] w fun e w' => ∃ A' c', e = .returned (.agg #[.int .i64 (ruleW ts names r).f0, .slice A' (ruleW ts names r).f1.length c', .int .i64 (ruleW ts names r).f2, .int .i64 (ruleW ts names r).f3]) ∧ Kd.R (Kd.int .i64) 3 w' w.heap.size (fun _ => True) (.slice A' (ruleW ts names r).f1.length c') (ruleW ts names r).f1 ∧ Below w.heap.size w w' := by
  obtain ⟨rl, rt, rp⟩ := r
  simp only at hr hl ⊢
  have HH := Aside0.mk (And.intro hts (And.intro hnm (And.intro hr (And.intro h5 (And.intro h6 hl)))))
  have HN := Aside0.mk (And.intro ht hN)
  clear hts hnm hr h5 h6 hl ht hN
  go_enter Tryz.func66, Tryz.ntmps66
  go_upto_region 1 with fail
  obtain ⟨X, Y, Z, V, C3, hX, hY, hZ, hV, hC, hs, b1, b2, b3, b4, hb⟩ := boxes4 w #[.int .i64 (ts.length : Int), .int .i64 n, .int .i64 st2, .int .i64 ex2, .slice A4 names.length c4, .slice A5 ts.length c5, .slice A6 ts.length c6, v7] #[.slice A ts.length c, .string st, .int .i64 ex, .slice A2 n2 c2] #[.string rl, .slice A1 rt.length c1, .string rp] #[.int .i64 0, .slice none 0 0, .int .i64 0, .int .i64 0] 32 25 73 81
  rw [← hV, ← hZ, ← hY]
  rw [← hX]
  generalize (((w.alloc (.cells #[.int .i64 (ts.length : Int), .int .i64 n, .int .i64 st2, .int .i64 ex2, .slice A4 names.length c4, .slice A5 ts.length c5, .slice A6 ts.length c6, v7] 32)).alloc (.cells #[.slice A ts.length c, .string st, .int .i64 ex, .slice A2 n2 c2] 25)).alloc (.cells #[.string rl, .slice A1 rt.length c1, .string rp] 73)).alloc (.cells #[.int .i64 0, .slice none 0 0, .int .i64 0, .int .i64 0] 81) = W3 at *
  have HB := Aside0.mk hb
  have HS3 : Aside0 (X < C3 ∧ Y < C3 ∧ Z < C3 ∧ V < C3 ∧ C3 = W3.heap.size) := ⟨by omega⟩
  have HX := Aside0.mk (And.intro b1 (And.intro b2 (And.intro b3 b4)))
  have HL := Aside0.mk (And.intro (Kd.C_below HH.out.1 hb) (And.intro (Kd.C_below HH.out.2.1 hb) (And.intro (Kd.C_below HH.out.2.2.1 hb) (And.intro (Kd.C_below HH.out.2.2.2.1 hb) (Kd.C_below HH.out.2.2.2.2.1 hb)))))
  have hrt := HH.out.2.2.2.2.2
  have HVW : Aside0 (w.heap.size ≤ V) := ⟨by omega⟩
  clear hX hY hZ hV hs hb hC HH
  have x0 := b1.c 0 rfl
  have x1 := b1.c 1 rfl
  have x2 := b1.c 2 rfl
  have x3 := b1.c 3 rfl
  have x4 := b1.c 4 rfl
  have x5 := b1.c 5 rfl
  have x6 := b1.c 6 rfl
  have x7 := b1.c 7 rfl
  have z0 := b3.c 0 rfl
  clear b1 b2 b3 b4
  have CP : Aside0 (∀ w', Below W3.heap.size W3 w' → ∀ s, Calls Tryz.prog 65 #[.agg #[.int .i64 (ts.length : Int), .int .i64 n, .int .i64 st2, .int .i64 ex2, .slice A4 names.length c4, .slice A5 ts.length c5, .slice A6 ts.length c6, v7], .string s] w' fun e w'' => e = .returned (.int .i64 (numF ts.length names s)) ∧ Below w'.heap.size w' w'') := ⟨fun w' hb s => number_calls w' ts.length n st2 ex2 A4 c4 names (.slice A5 ts.length c5) (.slice A6 ts.length c6) v7 s (Kd.C_below HL.out.2.1 hb) hc4 HN.out.1 HN.out.2⟩
  have CP0 := Aside0.mk (CP.out W3 (Below.refl _ _) rl)
  obtain ⟨lf, hlf⟩ : ∃ x, x = numF ts.length names rl := ⟨_, rfl⟩
  rw [← hlf] at CP0
  have HLF := Aside0.mk hlf
  clear hlf
  go_upto_region 2 with (first
    | (go_at_call 65; (with_reducible refine Calls.mono CP0.out ?_); rintro e w4 ⟨rfl, hd⟩; have HD := Aside0.mk hd; clear hd))
  have HB4 := Aside0.mk (HB.out.trans (HD.out.mono HB.out.size))
  obtain ⟨C, hC⟩ : ∃ C, C = w4.heap.size := ⟨_, rfl⟩
  rw [← hC]
  have HC := Aside0.mk hC
  have hbA := below_alloc (Below.refl w4.heap.size w4) (.cells #[.int .i64 lf, .slice none 0 0, .int .i64 0, .int .i64 0] 81)
  have hbx := Bx.new w4 #[.int .i64 lf, .slice none 0 0, .int .i64 0, .int .i64 0] 81
  rw [← hC] at hbx
  have H5' := Aside0.mk (And.intro hbx hbA)
  have HS : Aside0 (X < C ∧ Y < C ∧ Z < C ∧ V < C ∧ C = w4.heap.size) := ⟨by have h1 := HS3.out; have h2 := HD.out.size; omega⟩
  generalize w4.alloc (.cells #[.int .i64 lf, .slice none 0 0, .int .i64 0, .int .i64 0] 81) = W5 at *
  clear hbA hbx hC CP0 x0 x1 x2 x3 x4 x5 x6 x7 z0
  have HB35 := Aside0.mk (HD.out.trans (H5'.out.2.mono HD.out.size))
  have HX5 := Aside0.mk (HX.out.1.move HB35.out HX.out.1.lt)
  have HY5 := Aside0.mk (HX.out.2.1.move HB35.out HX.out.2.1.lt)
  have HZ5 := Aside0.mk (HX.out.2.2.1.move HB35.out HX.out.2.2.1.lt)
  have y0 := HY5.out.c 0 rfl
  have y1 := HY5.out.c 1 rfl
  have y2 := HY5.out.c 2 rfl
  have y3 := HY5.out.c 3 rfl
  have z2 := HZ5.out.c 2 rfl
  have CT := Aside0.mk (wtoken_calls W5 A c ts st ex A2 n2 c2 rp (Kd.C_below HL.out.1 HB35.out))
  obtain ⟨by0, hby0⟩ : ∃ x, x = plc rp (ts.map STk.f0) 0 := ⟨_, rfl⟩
  rw [← hby0] at CT
  have HBY0 := Aside0.mk hby0
  clear hby0
  go_upto_region 3 with (first
    | (go_at_call 83; (with_reducible refine Calls.mono CT.out ?_); rintro e w6 ⟨rfl, hd⟩; have HD6 := Aside0.mk hd; clear hd))
  have z1 := (HZ5.out.move HD6.out HZ5.out.lt).c 1 rfl
  have HC6 := Aside0.mk (H5'.out.1.move HD6.out H5'.out.1.lt)
  have HB46 := Aside0.mk (H5'.out.2.trans (HD6.out.mono H5'.out.2.size))
  clear y0 y1 y2 y3 z2 CT
  obtain ⟨pe, hpe⟩ : ∃ b, b = rp.toList.isEmpty := ⟨_, rfl⟩
  have HPE := Aside0.mk hpe
  obtain ⟨nums, hnums⟩ : ∃ l, l = rt.map (numF ts.length names) := ⟨_, rfl⟩
  have HNUM := Aside0.mk hnums
  have HNL : Aside0 (nums.length = rt.length) := ⟨by rw [hnums, List.length_map]⟩
  clear hnums hpe
  go_wp2_with fail
  go_loopg [8, 24] rt.length (fun kq v8 v24 w' => RwRel w4 C lf ts.length by0 pe nums kq v8 v24 w')
  case atStart => exact ⟨0, by0, .slice none 0 0, [], by have := HNL.out; omega, rfl, rfl, HC6.out, Kd.R_nil _ _ _ _ _, rfl, by cases pe <;> rfl, HB46.out⟩
  case round =>
    obtain ⟨k, b, v1, l, hk, rfl, rfl, hbx, hR, hl, hbv, hbw⟩ := hrel
    have HK : Aside0 (k + gk = rt.length) := ⟨by have := HNL.out; omega⟩
    have HR := Aside0.mk (And.intro hbx (And.intro hR (And.intro hl (And.intro hbv hbw))))
    have HB3r := Aside0.mk (HD.out.trans (hbw.mono HD.out.size))
    have HXr := Aside0.mk (HX.out.1.move HB3r.out HX.out.1.lt)
    have HZr := Aside0.mk (HX.out.2.2.1.move HB3r.out HX.out.2.2.1.lt)
    have x0 := HXr.out.c 0 rfl
    have x1 := HXr.out.c 1 rfl
    have x2 := HXr.out.c 2 rfl
    have x3 := HXr.out.c 3 rfl
    have x4 := HXr.out.c 4 rfl
    have x5 := HXr.out.c 5 rfl
    have x6 := HXr.out.c 6 rfl
    have x7 := HXr.out.c 7 rfl
    clear hk hbx hR hl hbv hbw z1
    by_cases hkl : k < rt.length
    · have t1 : decide ((k : Int) < (rt.length : Int)) = true := by simp; omega
      have hkn : (k : Int) < (rt.length : Int) := by omega
      obtain ⟨bd, e2, hcx⟩ := str_at HL.out.2.2.1 k hkl
      subst e2
      have hcx2 := pw_cell_below HB3r.out hcx
      have hkn2 : k < nums.length := by have := HNL.out; omega
      have HTK : Aside0 (nums.take (k + 1) = nums.take k ++ [numF ts.length names rt[k]]) := ⟨by rw [List.take_succ_eq_append_getElem hkn2]; congr 1; simp only [HNUM.out, List.getElem_map]⟩
      have HKL := Aside0.mk hkl
      have HBD := Aside0.mk (numF_bound ts.length names rt[k] HN.out.2 (by have := HN.out.1; omega))
      have CN := Aside0.mk (CP.out wr HB3r.out rt[k])
      generalize numF ts.length names rt[k] = x at *
      generalize rt[k] = s at *
      clear hcx hkl hkn2
      go_upto_region 7 with (first
        | (go_at_call 65; (with_reducible refine Calls.mono CN.out ?_); rintro e Wd ⟨rfl, hd⟩; have HDd := Aside0.mk hd; clear hd))
      have hbd := HDd.out
      have hRd := Kd.R_below HR.out.2.1 hbd
      have hCd := HR.out.1.move hbd HR.out.1.lt
      have HXd := Aside0.mk (HXr.out.move hbd HXr.out.lt)
      have HZd := Aside0.mk (HZr.out.move hbd HZr.out.lt)
      have hBd := HR.out.2.2.2.2.trans (hbd.mono HR.out.2.2.2.2.size)
      have HW := Aside0.mk (And.intro hRd (And.intro hCd hBd))
      have HWC : Aside0 (C < Wd.heap.size ∧ w4.heap.size ≤ Wd.heap.size) := ⟨hCd.lt, hBd.size⟩
      have HLR := Aside0.mk (And.intro HR.out.2.2.1 HR.out.2.2.2.1)
      have hll : l.length ≤ 1000001 := by have h1 := HLR.out.1; have h2 := HNL.out; rw [h1, List.length_take]; omega
      obtain ⟨Av, cv, ev⟩ := Kd.R_slice HR.out.2.1
      subst ev
      have o1 := hCd.c 1 rfl
      have hXC : X ≠ C := by have := HS.out; omega
      have hZC : Z ≠ C := by have := HS.out; omega
      clear hRd hCd hBd hbd CN HR HXr HZr x0 x1 x2 x3 x4 x5 x6 x7 hcx2 hkn t1
      by_cases hxt : x < (ts.length : Int)
      · have t6 : decide (x < (ts.length : Int)) = true := decide_eq_true hxt
        have HXT := Aside0.mk hxt
        clear hxt
        cases pe with
        | true =>
          have t7 : rp.toList.isEmpty = true := HPE.out.symm
          go_wp2_with (first
            | (at_builtin; refine Kd.R_append (Kd.int .i64) (w0 := w4) w4.heap.size rfl (.tmp 32) (.tmp 34) 29 3 (.int .i64 0) 8 rfl Tryz.underlying29 infoI rfl (by decide) (by omega) _ l x [.int .i64 x] (fun z => z ≠ C) (fun _ => False) rfl rfl (show Kd.M (Kd.int .i64) _ _ _ x [.int .i64 x] from rfl) (fun _ h => h.elim) (fun z hz => by have := HWC.out.1; omega) HW.out.1 HW.out.2.2 HWC.out.2 (by omega) ?_; intro v2 w5 ho2 hb2 hg2 hat2; obtain ⟨A5', c5', e5⟩ := Kd.R_slice ho2; subst e5; have HC5 := Aside0.mk (HW.out.2.1.grown hg2 (fun he => HW.out.1.1 C he.symm rfl)); have HX5 := Aside0.mk (HXd.out.grown hg2 (fun he => by have h3 := Kd.R_base HW.out.1 X he.symm; have := HS.out; omega)); have HZ5 := Aside0.mk (HZd.out.grown hg2 (fun he => by have h3 := Kd.R_base HW.out.1 Z he.symm; have := HS.out; omega)); have H5 := Aside0.mk (And.intro ho2 hb2); have g1 := HC5.out.c 1 rfl; have g2 := HC5.out.fz 1; have x0 := (HX5.out.far ⟨C, 1, none⟩ hXC (.slice A5' (l.length + 1) c5')).c 0 rfl; have z2 := (HZ5.out.far ⟨C, 1, none⟩ hZC (.slice A5' (l.length + 1) c5')).c 2 rfl; clear ho2 hb2 hg2 hat2))
          go_roundg (gk - 1)
          case measure => have := HK.out; have := HKL.out; omega
          case rel =>
            have hl1 : (l ++ [x]).length = l.length + 1 := by simp
            have h5 := H5.out
            rw [hl1] at h5
            refine ⟨k + 1, x, _, l ++ [x], by have := HK.out; have := HKL.out; have := HNL.out; omega, by have h1 := HKL.out; first | rfl | go_num | (congr 1; unfold wrap64; omega), rfl, HC5.out.put 1 _, Kd.R_far h5.1 (fun z h => h) _, by rw [HTK.out, ← HLR.out.1], ?_, h5.2.setCell (p := ⟨C, 1, none⟩) (by have := HS.out; show w4.heap.size ≤ C; omega) _⟩
            rw [List.foldl_append, if_pos rfl]; simp only [List.foldl_cons, List.foldl_nil, byStep]; rw [if_pos HXT.out]
        | false =>
          have t7 : rp.toList.isEmpty = false := HPE.out.symm
          go_wp2_with (first
            | (at_builtin; refine Kd.R_append (Kd.int .i64) (w0 := w4) w4.heap.size rfl (.tmp 32) (.tmp 34) 29 3 (.int .i64 0) 8 rfl Tryz.underlying29 infoI rfl (by decide) (by omega) _ l x [.int .i64 x] (fun z => z ≠ C) (fun _ => False) rfl rfl (show Kd.M (Kd.int .i64) _ _ _ x [.int .i64 x] from rfl) (fun _ h => h.elim) (fun z hz => by have := HWC.out.1; omega) HW.out.1 HW.out.2.2 HWC.out.2 (by omega) ?_; intro v2 w5 ho2 hb2 hg2 hat2; obtain ⟨A5', c5', e5⟩ := Kd.R_slice ho2; subst e5; have HC5 := Aside0.mk (HW.out.2.1.grown hg2 (fun he => HW.out.1.1 C he.symm rfl)); have HX5 := Aside0.mk (HXd.out.grown hg2 (fun he => by have h3 := Kd.R_base HW.out.1 X he.symm; have := HS.out; omega)); have HZ5 := Aside0.mk (HZd.out.grown hg2 (fun he => by have h3 := Kd.R_base HW.out.1 Z he.symm; have := HS.out; omega)); have H5 := Aside0.mk (And.intro ho2 hb2); have g1 := HC5.out.c 1 rfl; have g2 := HC5.out.fz 1; have x0 := (HX5.out.far ⟨C, 1, none⟩ hXC (.slice A5' (l.length + 1) c5')).c 0 rfl; have z2 := (HZ5.out.far ⟨C, 1, none⟩ hZC (.slice A5' (l.length + 1) c5')).c 2 rfl; clear ho2 hb2 hg2 hat2))
          go_roundg (gk - 1)
          case measure => have := HK.out; have := HKL.out; omega
          case rel =>
            have hl1 : (l ++ [x]).length = l.length + 1 := by simp
            have h5 := H5.out
            rw [hl1] at h5
            refine ⟨k + 1, b, _, l ++ [x], by have := HK.out; have := HKL.out; have := HNL.out; omega, by have h1 := HKL.out; first | rfl | go_num | (congr 1; unfold wrap64; omega), rfl, HC5.out.put 1 _, Kd.R_far h5.1 (fun z h => h) _, by rw [HTK.out, ← HLR.out.1], ?_, h5.2.setCell (p := ⟨C, 1, none⟩) (by have := HS.out; show w4.heap.size ≤ C; omega) _⟩
            rw [HLR.out.2]; rfl
      · have t6 : decide (x < (ts.length : Int)) = false := decide_eq_false hxt
        have HXT := Aside0.mk hxt
        clear hxt
        go_wp2_with (first
          | (at_builtin; refine Kd.R_append (Kd.int .i64) (w0 := w4) w4.heap.size rfl (.tmp 32) (.tmp 34) 29 3 (.int .i64 0) 8 rfl Tryz.underlying29 infoI rfl (by decide) (by omega) _ l x [.int .i64 x] (fun z => z ≠ C) (fun _ => False) rfl rfl (show Kd.M (Kd.int .i64) _ _ _ x [.int .i64 x] from rfl) (fun _ h => h.elim) (fun z hz => by have := HWC.out.1; omega) HW.out.1 HW.out.2.2 HWC.out.2 (by omega) ?_; intro v2 w5 ho2 hb2 hg2 hat2; obtain ⟨A5', c5', e5⟩ := Kd.R_slice ho2; subst e5; have HC5 := Aside0.mk (HW.out.2.1.grown hg2 (fun he => HW.out.1.1 C he.symm rfl)); have HX5 := Aside0.mk (HXd.out.grown hg2 (fun he => by have h3 := Kd.R_base HW.out.1 X he.symm; have := HS.out; omega)); have HZ5 := Aside0.mk (HZd.out.grown hg2 (fun he => by have h3 := Kd.R_base HW.out.1 Z he.symm; have := HS.out; omega)); have H5 := Aside0.mk (And.intro ho2 hb2); have g1 := HC5.out.c 1 rfl; have g2 := HC5.out.fz 1; have x0 := (HX5.out.far ⟨C, 1, none⟩ hXC (.slice A5' (l.length + 1) c5')).c 0 rfl; have z2 := (HZ5.out.far ⟨C, 1, none⟩ hZC (.slice A5' (l.length + 1) c5')).c 2 rfl; clear ho2 hb2 hg2 hat2))
        go_roundg (gk - 1)
        case measure => have := HK.out; have := HKL.out; omega
        case rel =>
          have hl1 : (l ++ [x]).length = l.length + 1 := by simp
          have h5 := H5.out
          rw [hl1] at h5
          refine ⟨k + 1, b, _, l ++ [x], by have := HK.out; have := HKL.out; have := HNL.out; omega, by have h1 := HKL.out; first | rfl | go_num | (congr 1; unfold wrap64; omega), rfl, HC5.out.put 1 _, Kd.R_far h5.1 (fun z h => h) _, by rw [HTK.out, ← HLR.out.1], ?_, h5.2.setCell (p := ⟨C, 1, none⟩) (by have := HS.out; show w4.heap.size ≤ C; omega) _⟩
          rw [HLR.out.2]
          have h1 := HXT.out
          cases pe with
          | true =>
            simp only [if_true, List.foldl_append, List.foldl_cons, List.foldl_nil]
            rw [show ∀ b, byStep (ts.length : Int) b x = b from fun b => if_neg (by omega)]
          | false => rfl
    · have t1 : decide ((k : Int) < (rt.length : Int)) = false := by simp; omega
      have hka : nums.take k = nums := List.take_of_length_le (by have := HNL.out; omega)
      have HRT : Aside0 (l = nums) := ⟨by rw [HR.out.2.2.1, hka]⟩
      have HBY : Aside0 (b = ruleWB ts names ⟨rl, rt, rp⟩) := ⟨by
        rw [HR.out.2.2.2.1, HRT.out]
        unfold ruleWB
        simp only []
        rw [← HNUM.out, ← HBY0.out]
        by_cases h5 : rp.toList = []
        · rw [if_pos (show rp = ⟨#[]⟩ from toList_eq.1 (by rw [h5, toList_nil])), if_pos (by rw [HPE.out, h5]; rfl)]
        · rw [if_neg (show ¬ rp = ⟨#[]⟩ from fun e => h5 (by rw [e, toList_nil])), if_neg (by rw [HPE.out]; simpa using h5)]⟩
      have HF : Aside0 (ruleW ts names ⟨rl, rt, rp⟩ = ⟨lf, l, if 0 ≤ b then (rdTk ts b).f1 else 0, if 0 ≤ b then (rdTk ts b).f2 else 0⟩) := ⟨by rw [HBY.out, HRT.out, HNUM.out, HLF.out]; rfl⟩
      have HBL : Aside0 (b < ts.length) := ⟨by rw [HBY.out]; exact ruleWB_lt _ _ _⟩
      clear hka HK HBY x0 x1 x2 x3 x4 x5 x6 x7
      have HVr := Aside0.mk (HX.out.2.2.2.move HB3r.out HX.out.2.2.2.lt)
      have hVC : V ≠ C := by have := HS.out; omega
      have hXC : X ≠ C := by have := HS.out; omega
      obtain ⟨Av, cv, ev⟩ := Kd.R_slice HR.out.2.1
      subst ev
      have HBw := Aside0.mk (HB4.out.trans (HR.out.2.2.2.2.mono HB4.out.size))
      by_cases hb0 : 0 ≤ b
      · have t7 : decide (b ≥ 0) = true := decide_eq_true hb0
        obtain ⟨j, rfl⟩ : ∃ j : Nat, b = (j : Int) := ⟨b.toNat, by omega⟩
        have hjl : j < ts.length := by have := HBL.out; omega
        obtain ⟨ad5, e5, q1⟩ := int_at HL.out.2.2.2.1 j (by simpa using hjl)
        obtain ⟨ad6, e6, q2⟩ := int_at HL.out.2.2.2.2 j (by simpa using hjl)
        subst e5
        subst e6
        rw [List.getElem_map] at q1 q2
        have q1' := pw_cell_below HB3r.out q1
        have q2' := pw_cell_below HB3r.out q2
        have x5 := HXr.out.c 5 rfl
        have x6 := HXr.out.c 6 rfl
        have had5 : (ad5.add j).block ≠ C := by have h1 : (ad5.add j).block < W3.heap.size := World.block_lt_of_cell? W3 (ad5.add j) q1; have h2 := HS.out; have h3 := HD.out.size; omega
        have had6 : (ad6.add j).block ≠ C := by have h1 : (ad6.add j).block < W3.heap.size := World.block_lt_of_cell? W3 (ad6.add j) q2; have h2 := HS.out; have h3 := HD.out.size; omega
        have hCX := hXC.symm
        have hC5 := had5.symm
        have hC6 := had6.symm
        have hjn : (j : Int) < (ts.length : Int) := by omega
        have f2 := HR.out.1.fz 2
        have cc2 := HR.out.1.c 2 rfl
        have cc3 := HR.out.1.c 3 rfl
        have f3 := HR.out.1.fz 3
        clear q1 q2
        go_upto_region 12 with fail
        go_region_held3 (fun w' => w'.cell? ⟨X, 5, none⟩ = some (.slice (some ad5) ts.length c5) ∧ w'.cell? ⟨X, 6, none⟩ = some (.slice (some ad6) ts.length c6) ∧ w'.cell? (ad5.add j) = some (.int .i64 ts[j].f1) ∧ w'.cell? (ad6.add j) = some (.int .i64 ts[j].f2)) (go_keep) (fail)
        have HCF : Aside0 (Bx ((wr.setCell ⟨C, 2, none⟩ (.int .i64 ts[j].f1)).setCell ⟨C, 3, none⟩ (.int .i64 ts[j].f2)).drew C #[.int .i64 lf, .slice Av l.length cv, .int .i64 ts[j].f1, .int .i64 ts[j].f2] 81 ∧ Bx ((wr.setCell ⟨C, 2, none⟩ (.int .i64 ts[j].f1)).setCell ⟨C, 3, none⟩ (.int .i64 ts[j].f2)).drew V #[.int .i64 0, .slice none 0 0, .int .i64 0, .int .i64 0] 81 ∧ Kd.R (Kd.int .i64) 3 ((wr.setCell ⟨C, 2, none⟩ (.int .i64 ts[j].f1)).setCell ⟨C, 3, none⟩ (.int .i64 ts[j].f2)).drew w4.heap.size (fun x => x ≠ C) (.slice Av l.length cv) l ∧ Below w4.heap.size w4 ((wr.setCell ⟨C, 2, none⟩ (.int .i64 ts[j].f1)).setCell ⟨C, 3, none⟩ (.int .i64 ts[j].f2)).drew) :=
          ⟨((HR.out.1.put 2 _).put 3 _).drew, ((HVr.out.far ⟨C, 2, none⟩ hVC _).far ⟨C, 3, none⟩ hVC _).drew, Kd.R_below (Kd.R_far (Kd.R_far HR.out.2.1 (fun z h => h) _) (fun z h => h) _) (below_drew1 (Below.refl _ _)), below_drew1 ((HR.out.2.2.2.2.setCell (p := ⟨C, 2, none⟩) (by have := HS.out; show w4.heap.size ≤ C; omega) _).setCell (p := ⟨C, 3, none⟩) (by have := HS.out; show w4.heap.size ≤ C; omega) _)⟩
        generalize ((wr.setCell ⟨C, 2, none⟩ (.int .i64 ts[j].f1)).setCell ⟨C, 3, none⟩ (.int .i64 ts[j].f2)).drew = WZ at *
        clear x5 x6 q1' q2' cc2 cc3 f2 f3 hC5 hC6 had5 had6
        have HEND : Aside0 (∃ A' c', Ending.returned (.agg #[.int .i64 lf, .slice Av l.length cv, .int .i64 ts[j].f1, .int .i64 ts[j].f2]) = .returned (.agg #[.int .i64 (ruleW ts names ⟨rl, rt, rp⟩).f0, .slice A' (ruleW ts names ⟨rl, rt, rp⟩).f1.length c', .int .i64 (ruleW ts names ⟨rl, rt, rp⟩).f2, .int .i64 (ruleW ts names ⟨rl, rt, rp⟩).f3]) ∧ Kd.R (Kd.int .i64) 3 (put4 WZ V (.int .i64 lf) (.slice Av l.length cv) (.int .i64 ts[j].f1) (.int .i64 ts[j].f2)) w.heap.size (fun _ => True) (.slice A' (ruleW ts names ⟨rl, rt, rp⟩).f1.length c') (ruleW ts names ⟨rl, rt, rp⟩).f1 ∧ Below w.heap.size w (put4 WZ V (.int .i64 lf) (.slice Av l.length cv) (.int .i64 ts[j].f1) (.int .i64 ts[j].f2))) := ⟨by
          rw [HF.out]
          have hVw : w.heap.size ≤ V := HVW.out
          refine ⟨Av, cv, by rw [if_pos hb0, if_pos hb0]; simp [rdTk, List.getD, hjl], ?_, put4_below (HB4.out.trans (HCF.out.2.2.2.mono HB4.out.size)) hVw⟩
          exact Kd.R_lower (Kd.R_mono (Kd.R_move (w1 := put4 WZ V _ _ _ _) (Kd.R_bound HCF.out.2.2.1) (fun k hk => put4_far (by have := hk.2.1; have := HS.out; omega))) (fun _ _ => trivial)) HB4.out.size⟩
        have hCF := HCF.out.1
        have x0 := hCF.c 0 rfl
        have x1 := hCF.c 1 rfl
        have x2 := hCF.c 2 rfl
        have x3 := hCF.c 3 rfl
        have v0 := HCF.out.2.1.c 0 rfl
        have v1 := HCF.out.2.1.c 1 rfl
        have v2 := HCF.out.2.1.c 2 rfl
        have v3 := HCF.out.2.1.c 3 rfl
        have vf := fun k => HCF.out.2.1.fz k
        clear hCF
        go_wp2_with fail
        refine bodyPost_ret (results_cell_row rfl _ _ V 81 #[.int .i64 lf, .slice Av l.length cv, .int .i64 ts[j].f1, .int .i64 ts[j].f2] (0, 0) _ rfl (put4_bx HCF.out.2.1).heap Tryz.underlying81 rfl (by kernel_rfl)) rfl ?_
        exact HEND.out
      · have t7 : decide (b ≥ 0) = false := decide_eq_false hb0
        have HCF : Aside0 (Bx wr C #[.int .i64 lf, .slice Av l.length cv, .int .i64 0, .int .i64 0] 81 ∧ Bx wr V #[.int .i64 0, .slice none 0 0, .int .i64 0, .int .i64 0] 81 ∧ Kd.R (Kd.int .i64) 3 wr w4.heap.size (fun x => x ≠ C) (.slice Av l.length cv) l ∧ Below w4.heap.size w4 wr) := ⟨HR.out.1, HVr.out, HR.out.2.1, HR.out.2.2.2.2⟩
        obtain ⟨WZ, hWZ⟩ : ∃ W, W = wr := ⟨_, rfl⟩
        rw [← hWZ] at HCF
        rw [← hWZ]
        clear hWZ
        have HEND : Aside0 (∃ A' c', Ending.returned (.agg #[.int .i64 lf, .slice Av l.length cv, .int .i64 0, .int .i64 0]) = .returned (.agg #[.int .i64 (ruleW ts names ⟨rl, rt, rp⟩).f0, .slice A' (ruleW ts names ⟨rl, rt, rp⟩).f1.length c', .int .i64 (ruleW ts names ⟨rl, rt, rp⟩).f2, .int .i64 (ruleW ts names ⟨rl, rt, rp⟩).f3]) ∧ Kd.R (Kd.int .i64) 3 (put4 WZ V (.int .i64 lf) (.slice Av l.length cv) (.int .i64 0) (.int .i64 0)) w.heap.size (fun _ => True) (.slice A' (ruleW ts names ⟨rl, rt, rp⟩).f1.length c') (ruleW ts names ⟨rl, rt, rp⟩).f1 ∧ Below w.heap.size w (put4 WZ V (.int .i64 lf) (.slice Av l.length cv) (.int .i64 0) (.int .i64 0))) := ⟨by
          rw [HF.out]
          have hVw : w.heap.size ≤ V := HVW.out
          refine ⟨Av, cv, by rw [if_neg hb0, if_neg hb0], ?_, put4_below (HB4.out.trans (HCF.out.2.2.2.mono HB4.out.size)) hVw⟩
          exact Kd.R_lower (Kd.R_mono (Kd.R_move (w1 := put4 WZ V _ _ _ _) (Kd.R_bound HCF.out.2.2.1) (fun k hk => put4_far (by have := hk.2.1; have := HS.out; omega))) (fun _ _ => trivial)) HB4.out.size⟩
        have hCF := HCF.out.1
        have x0 := hCF.c 0 rfl
        have x1 := hCF.c 1 rfl
        have x2 := hCF.c 2 rfl
        have x3 := hCF.c 3 rfl
        have v0 := HCF.out.2.1.c 0 rfl
        have v1 := HCF.out.2.1.c 1 rfl
        have v2 := HCF.out.2.1.c 2 rfl
        have v3 := HCF.out.2.1.c 3 rfl
        have vf := fun k => HCF.out.2.1.fz k
        clear hCF
        go_wp2_with fail
        refine bodyPost_ret (results_cell_row rfl _ _ V 81 #[.int .i64 lf, .slice Av l.length cv, .int .i64 0, .int .i64 0] (0, 0) _ rfl (put4_bx HCF.out.2.1).heap Tryz.underlying81 rfl (by kernel_rfl)) rfl ?_
        exact HEND.out
end Go.Proofs.YtjhemobplcelbaaGreatDoor.O
