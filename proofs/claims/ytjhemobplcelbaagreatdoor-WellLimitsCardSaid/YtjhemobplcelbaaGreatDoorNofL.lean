/- wof: the law WellLimits (printed by mk_nl.py). -/
import Derived.Test.YtjhemobplcelbaaGreatDoorNofK
import Derived.Test.YtjhemobplcelbaaGreatDoorNofM
import Derived.Laws.BytesArg
namespace Go.Proofs.YtjhemobplcelbaaGreatDoor.O
open Go.RowKit Go.Proofs.YtjhemobplcelbaaGreatDoorW.PrintWords Go.Proofs.YtjhemobplcelbaaGreatDoorW.PrintLast Go.Proofs.YtjhemobplcelbaaGreatDoorW.PrintMore
set_option linter.unusedVariables false
set_option linter.unusedSimpArgs false
theorem infoRu2 : (Tryz.prog.info? 73).map (fun i => (i.zero, i.size, i.bytes)) = some (some (.agg #[.string ⟨#[]⟩, .slice none 0 0, .string ⟨#[]⟩]), 3, 56) := by kernel_rfl
theorem infoTk2 : (Tryz.prog.info? 71).map (fun i => (i.zero, i.size, i.bytes)) = some (some (.agg #[.string ⟨#[]⟩, .int .i64 0, .int .i64 0]), 3, 32) := by kernel_rfl
def T1 (w3 : World) (G t : Nat) (kq : Nat) (v : Value) (w' : World) : Prop := ∃ (i : Nat) (vt : Value), i + kq = t ∧ v = .int .i64 (i : Int) ∧ Bx w' G #[vt, .string ⟨#[]⟩, .int .i64 0, .slice none 0 0] 25 ∧ Kd.R kTk 71 w' w3.heap.size (fun x => x ≠ G) vt (limT i) ∧ Below w3.heap.size w3 w'
def T2 (w3 : World) (G N t l q r : Nat) (vt : Value) (kq : Nat) (v : Value) (w' : World) : Prop := ∃ (i : Nat) (vr : Value), i + kq = r ∧ v = .int .i64 (i : Int) ∧ Bx w' G #[vt, .string ⟨#[]⟩, .int .i64 0, vr] 25 ∧ Kd.R kTk 71 w' w3.heap.size (fun x => x ≠ G ∧ x < N) vt (limT t) ∧ Kd.R kRu 73 w' w3.heap.size (fun x => N ≤ x) vr (limR l q i) ∧ Below w3.heap.size w3 w' ∧ N ≤ w'.heap.size
def reps (k : Nat) : List ByteArray := List.replicate k sTa
theorem reps_len (k : Nat) : (reps k).length = k := List.length_replicate
theorem reps_snoc (k : Nat) : reps k ++ [sTa] = reps (k + 1) := (List.replicate_succ').symm
def T3 (wr : World) (C q : Nat) (s : ByteArray) (kq : Nat) (v : Value) (w' : World) : Prop := ∃ (k : Nat) (v1 : Value), k + kq = q ∧ v = .int .i64 (k : Int) ∧ Bx w' C #[.string s, v1, .string ⟨#[]⟩] 73 ∧ Kd.R Kd.string 9 w' wr.heap.size (fun x => x ≠ C) v1 (reps k) ∧ Below wr.heap.size wr w'
theorem lit_str {W : World} {base : Nat} (s : ByteArray) (hb : base ≤ W.heap.size) : Kd.R Kd.string 9 (W.alloc (.cells #[.string s] 9)) base (fun x => W.heap.size ≤ x) (.slice (some ⟨W.heap.size, 0, none⟩) 1 1) [s] := by
  refine ⟨fun k hk => ?_, [.string s], ?_, (Reps.none _ _).snoc (show Kd.M Kd.string _ _ _ _ [.string s] from rfl) rfl⟩
  · have : W.heap.size = k := by simpa [Value.ownBlock] using hk
    omega
  · exact World.ownsRow_lit (base := base) (e := 9) (size := 1) W #[.string s] 1 hb (by decide) (by simp)
theorem bytes2 (W : World) (x y : Int) : (convert 69 9 (.slice (some ⟨W.heap.size, 0, none⟩) 2 2)).run Tryz.prog (W.alloc (.cells #[.int .u8 x, .int .u8 y] 5)) = .ok (.string (strOfNums [x, y])) (W.alloc (.cells #[.int .u8 x, .int .u8 y] 5)) := by
  have hc0 : ∀ j, j < 2 → (W.alloc (.cells #[.int .u8 x, .int .u8 y] 5)).cell? ⟨W.heap.size, 0 + j, none⟩ = some (.int .u8 ([x, y].getD j 0)) := by
    intro j hj
    have h := heap_alloc_new W (.cells #[.int .u8 x, .int .u8 y] 5)
    match j, hj with
    | 0, _ => simp only [World.cell?, h]; rfl
    | 1, _ => simp only [World.cell?, h]; rfl
  exact run_convert_bytes_arg (P := Tryz.prog) (W.alloc (.cells #[.int .u8 x, .int .u8 y] 5)) 69 5 Tryz.underlying69 Tryz.underlying5 W.heap.size 0 2 2 [x, y] rfl hc0 9 Tryz.underlying9
set_option maxRecDepth 100000 in
set_option maxHeartbeats 8000000 in
theorem welllimits_walk (w : World) (tk : Int) (hk0 : (Lit.int .i64 tk).wf = true) (lf : Int) (hk1 : (Lit.int .i64 lf).wf = true) (rl : Int) (hk2 : (Lit.int .i64 rl).wf = true) (rt : Int) (hk3 : (Lit.int .i64 rt).wf = true) :
    Calls Tryz.prog 11 #[.int .i64 tk, .int .i64 lf, .int .i64 rl, .int .i64 rt] w fun e w' => e = .returned (.bool true) ∧ Below w.heap.size w w' := by
  clear hk0 hk1 hk2 hk3
  go_enter Tryz.func11, Tryz.ntmps11
  go_upto_region 4 with (first
    | (go_at_call 34; (with_reducible refine Calls.mono (begun7_yes _) ?_); rintro e w3 ⟨rfl, hb3⟩; have HB3 := Aside0.mk hb3; clear hb3))
  go_cut [51] (fun v wx => v = .bool (decide ((tk < 1) ∨ (14 < tk) ∨ (lf < 1) ∨ (12 < lf) ∨ (rl < lf) ∨ (32 < rl) ∨ (rt < 0) ∨ (8 < rt))) ∧ wx = w3)
  case first =>
      by_cases a0 : tk < 1
      · have t0 : decide (tk < 1) = true := decide_eq_true a0
        have HE : Aside0 (decide ((tk < 1) ∨ (14 < tk) ∨ (lf < 1) ∨ (12 < lf) ∨ (rl < lf) ∨ (32 < rl) ∨ (rt < 0) ∨ (8 < rt)) = true) := ⟨decide_eq_true (by omega)⟩
        clear a0
        go_wp2_with fail
        go_meet
        exact ⟨by rw [HE.out], rfl⟩
      have t0 : decide (tk < 1) = false := decide_eq_false a0
      by_cases a1 : 14 < tk
      · have t1 : decide (tk > 14) = true := decide_eq_true a1
        have HE : Aside0 (decide ((tk < 1) ∨ (14 < tk) ∨ (lf < 1) ∨ (12 < lf) ∨ (rl < lf) ∨ (32 < rl) ∨ (rt < 0) ∨ (8 < rt)) = true) := ⟨decide_eq_true (by omega)⟩
        clear a0 a1
        go_wp2_with fail
        go_meet
        exact ⟨by rw [HE.out], rfl⟩
      have t1 : decide (tk > 14) = false := decide_eq_false a1
      by_cases a2 : lf < 1
      · have t2 : decide (lf < 1) = true := decide_eq_true a2
        have HE : Aside0 (decide ((tk < 1) ∨ (14 < tk) ∨ (lf < 1) ∨ (12 < lf) ∨ (rl < lf) ∨ (32 < rl) ∨ (rt < 0) ∨ (8 < rt)) = true) := ⟨decide_eq_true (by omega)⟩
        clear a0 a1 a2
        go_wp2_with fail
        go_meet
        exact ⟨by rw [HE.out], rfl⟩
      have t2 : decide (lf < 1) = false := decide_eq_false a2
      by_cases a3 : 12 < lf
      · have t3 : decide (lf > 12) = true := decide_eq_true a3
        have HE : Aside0 (decide ((tk < 1) ∨ (14 < tk) ∨ (lf < 1) ∨ (12 < lf) ∨ (rl < lf) ∨ (32 < rl) ∨ (rt < 0) ∨ (8 < rt)) = true) := ⟨decide_eq_true (by omega)⟩
        clear a0 a1 a2 a3
        go_wp2_with fail
        go_meet
        exact ⟨by rw [HE.out], rfl⟩
      have t3 : decide (lf > 12) = false := decide_eq_false a3
      by_cases a4 : rl < lf
      · have t4 : decide (rl < lf) = true := decide_eq_true a4
        have HE : Aside0 (decide ((tk < 1) ∨ (14 < tk) ∨ (lf < 1) ∨ (12 < lf) ∨ (rl < lf) ∨ (32 < rl) ∨ (rt < 0) ∨ (8 < rt)) = true) := ⟨decide_eq_true (by omega)⟩
        clear a0 a1 a2 a3 a4
        go_wp2_with fail
        go_meet
        exact ⟨by rw [HE.out], rfl⟩
      have t4 : decide (rl < lf) = false := decide_eq_false a4
      by_cases a5 : 32 < rl
      · have t5 : decide (rl > 32) = true := decide_eq_true a5
        have HE : Aside0 (decide ((tk < 1) ∨ (14 < tk) ∨ (lf < 1) ∨ (12 < lf) ∨ (rl < lf) ∨ (32 < rl) ∨ (rt < 0) ∨ (8 < rt)) = true) := ⟨decide_eq_true (by omega)⟩
        clear a0 a1 a2 a3 a4 a5
        go_wp2_with fail
        go_meet
        exact ⟨by rw [HE.out], rfl⟩
      have t5 : decide (rl > 32) = false := decide_eq_false a5
      by_cases a6 : rt < 0
      · have t6 : decide (rt < 0) = true := decide_eq_true a6
        have HE : Aside0 (decide ((tk < 1) ∨ (14 < tk) ∨ (lf < 1) ∨ (12 < lf) ∨ (rl < lf) ∨ (32 < rl) ∨ (rt < 0) ∨ (8 < rt)) = true) := ⟨decide_eq_true (by omega)⟩
        clear a0 a1 a2 a3 a4 a5 a6
        go_wp2_with fail
        go_meet
        exact ⟨by rw [HE.out], rfl⟩
      have t6 : decide (rt < 0) = false := decide_eq_false a6
      by_cases a7 : 8 < rt
      · have t7 : decide (rt > 8) = true := decide_eq_true a7
        have HE : Aside0 (decide ((tk < 1) ∨ (14 < tk) ∨ (lf < 1) ∨ (12 < lf) ∨ (rl < lf) ∨ (32 < rl) ∨ (rt < 0) ∨ (8 < rt)) = true) := ⟨decide_eq_true (by omega)⟩
        clear a0 a1 a2 a3 a4 a5 a6 a7
        go_wp2_with fail
        go_meet
        exact ⟨by rw [HE.out], rfl⟩
      have t7 : decide (rt > 8) = false := decide_eq_false a7
      have HE : Aside0 (decide ((tk < 1) ∨ (14 < tk) ∨ (lf < 1) ∨ (12 < lf) ∨ (rl < lf) ∨ (32 < rl) ∨ (rt < 0) ∨ (8 < rt)) = false) := ⟨decide_eq_false (by omega)⟩
      clear a0 a1 a2 a3 a4 a5 a6 a7
      go_wp2_with fail
      go_meet
      exact ⟨by rw [HE.out], rfl⟩
  case rest =>
  obtain ⟨rfl, hwc⟩ := hcut
  have hw2 := hwc.symm
  subst hw2
  by_cases hrng : (tk < 1) ∨ (14 < tk) ∨ (lf < 1) ∨ (12 < lf) ∨ (rl < lf) ∨ (32 < rl) ∨ (rt < 0) ∨ (8 < rt)
  · have HE : Aside0 (decide ((tk < 1) ∨ (14 < tk) ∨ (lf < 1) ∨ (12 < lf) ∨ (rl < lf) ∨ (32 < rl) ∨ (rt < 0) ∨ (8 < rt)) = true) := ⟨decide_eq_true hrng⟩
    rw [HE.out]
    clear hrng
    go_wp2_with fail
    go_ret
    exact ⟨rfl, HB3.out⟩
  have HE : Aside0 (decide ((tk < 1) ∨ (14 < tk) ∨ (lf < 1) ∨ (12 < lf) ∨ (rl < lf) ∨ (32 < rl) ∨ (rt < 0) ∨ (8 < rt)) = false) := ⟨decide_eq_false hrng⟩
  rw [HE.out]
  obtain ⟨t, rfl⟩ : ∃ n : Nat, tk = (n : Int) := ⟨tk.toNat, by omega⟩
  obtain ⟨l, rfl⟩ : ∃ n : Nat, lf = (n : Int) := ⟨lf.toNat, by omega⟩
  obtain ⟨r, rfl⟩ : ∃ n : Nat, rl = (n : Int) := ⟨rl.toNat, by omega⟩
  obtain ⟨q, rfl⟩ : ∃ n : Nat, rt = (n : Int) := ⟨rt.toNat, by omega⟩
  have HRG : Aside0 (1 ≤ t ∧ t ≤ 14 ∧ 1 ≤ l ∧ l ≤ 12 ∧ l ≤ r ∧ r ≤ 32 ∧ q ≤ 8) := ⟨by omega⟩
  clear hrng HE
  go_upto_region 7 with fail
  have hbA := below_alloc (Below.refl w3.heap.size w3) (.cells #[.slice none 0 0, .string ⟨#[]⟩, .int .i64 0, .slice none 0 0] 25)
  have hxG := Bx.new w3 #[.slice none 0 0, .string ⟨#[]⟩, .int .i64 0, .slice none 0 0] 25
  obtain ⟨G, hG⟩ : ∃ G, G = w3.heap.size := ⟨_, rfl⟩
  rw [← hG] at hxG
  rw [← hG]
  have HG := Aside0.mk (And.intro hxG (And.intro hbA hG))
  generalize w3.alloc (.cells #[.slice none 0 0, .string ⟨#[]⟩, .int .i64 0, .slice none 0 0] 25) = W5 at *
  clear hbA hxG hG
  go_wp2_with fail
  go_loopg [11] t (fun kq v w' => T1 w3 G t kq v w')
  case atStart => exact ⟨0, _, by omega, rfl, HG.out.1, Kd.R_nil _ _ _ _ _, HG.out.2.1⟩
  case round =>
    obtain ⟨i, vt, hi, rfl, hx, hr, hb⟩ := hrel
    have HI := Aside0.mk hi
    have HX := Aside0.mk hx
    have HR := Aside0.mk (And.intro hr hb)
    clear hi hx hr hb
    by_cases hil : i < t
    · have t1 : decide ((i : Int) < (t : Int)) = true := by simp; omega
      have HIL := Aside0.mk hil
      have hi14 : i ≤ 13 := by have := HRG.out; omega
      have hw1 : IntKind.i64.wrap (97 + (i : Int)) = 97 + (i : Int) := by rw [IntKind.wrap_i64]; omega
      have hw8 : IntKind.u8.wrap (97 + (i : Int)) = 97 + (i : Int) := by simp [IntKind.wrap, IntKind.bits, IntKind.signed]; omega
      have hcv := bytes2 wr 84 (97 + (i : Int))
      have hb8 := below_alloc (Below.refl wr.heap.size wr) (.cells #[.int .u8 84, .int .u8 (97 + (i : Int))] 5)
      have HB8 := Aside0.mk hb8
      obtain ⟨At, ct, ev⟩ := Kd.R_slice HR.out.1
      subst ev
      have HX8 := Aside0.mk (HX.out.move hb8 HX.out.lt)
      have HR8 := Aside0.mk (Kd.R_below HR.out.1 hb8)
      have x0 := HX8.out.c 0 rfl
      have x0' := HX.out.c 0 rfl
      have hll : (limT i).length ≤ 14 := by rw [limT_len]; omega
      have HTN : Aside0 (strOfNums [84, 97 + (i : Int)] = tn i) := ⟨rfl⟩
      have HSZ : Aside0 (w3.heap.size ≤ (wr.alloc (.cells #[.int .u8 84, .int .u8 (97 + (i : Int))] 5)).heap.size ∧ G < (wr.alloc (.cells #[.int .u8 84, .int .u8 (97 + (i : Int))] 5)).heap.size) := ⟨(HR.out.2.trans (hb8.mono HR.out.2.size)).size, HX8.out.lt⟩
      have HB9 : Aside0 (Below w3.heap.size w3 (wr.alloc (.cells #[.int .u8 84, .int .u8 (97 + (i : Int))] 5))) := ⟨HR.out.2.trans (hb8.mono HR.out.2.size)⟩
      have hf0 := HX8.out.fz 0
      clear hb8
      go_wp2_with (first
        | (at_builtin; refine Kd.R_append kTk (w0 := w3) w3.heap.size rfl (.tmp 59) (.tmp 66) 22 71 (.agg #[.string ⟨#[]⟩, .int .i64 0, .int .i64 0]) 32 rfl Tryz.underlying22 infoTk2 rfl (by decide) (by omega) _ (limT i) (⟨strOfNums [84, 97 + (i : Int)], 0, 0⟩ : STk) [.string (strOfNums [84, 97 + (i : Int)]), .int .i64 0, .int .i64 0] (fun x => x ≠ G) (fun _ => False) rfl (by rw [World.size_alloc]; rfl) (kTk_mkM _ _ _ (⟨strOfNums [84, 97 + (i : Int)], 0, 0⟩ : STk)) (fun _ h => h.elim) (fun x hx => by have := HSZ.out.2; omega) HR8.out HB9.out HSZ.out.1 (by omega) ?_; intro v2 w9 ho hb9 hg hat; obtain ⟨A9, c9, e9⟩ := Kd.R_slice ho; subst e9; have HX9 := Aside0.mk (Bx.grown HX8.out hg (fun he => HR8.out.1 G he.symm rfl)); have H9 := Aside0.mk (And.intro ho hb9); have g1 := HX9.out.c 0 rfl; have g2 := HX9.out.fz 0; clear ho hb9 hg hat))
      go_roundg (gk - 1)
      case measure => have := HI.out; have := HIL.out; omega
      case rel =>
        refine ⟨i + 1, _, by have := HI.out; have := HIL.out; omega, by have h1 := HIL.out; first | rfl | (congr 1; unfold wrap64; omega), HX9.out.put 0 _, ?_, H9.out.2.setCell (p := ⟨G, 0, none⟩) (by have := HG.out.2.2; show w3.heap.size ≤ G; omega) _⟩
        rw [show (limT i).length + 1 = (limT (i + 1)).length by rw [limT_len, limT_len]]
        have hk := Kd.R_far (p := ⟨G, 0, none⟩) H9.out.1 (fun x h => h) (.slice A9 (limT (i + 1)).length c9)
        rw [HTN.out, ← limT_snoc] at hk
        exact hk
    · obtain rfl : t = i := by have := HI.out; omega
      have t1 : decide ((t : Int) < (t : Int)) = false := by simp
      obtain ⟨N, hN⟩ : ∃ N, N = wr.heap.size := ⟨_, rfl⟩
      have HN : Aside0 (G < N ∧ w3.heap.size ≤ N ∧ N = wr.heap.size) := ⟨by have := HX.out.lt; omega, by have := HR.out.2.size; omega, hN⟩
      have HT0 : Aside0 (Kd.R kTk 71 wr w3.heap.size (fun x => x ≠ G ∧ x < N) vt (limT t)) := ⟨Kd.R_mono (Kd.R_bound HR.out.1) (fun x hx => ⟨hx.1, by have := hx.2.2.1; omega⟩)⟩
      have HX0 := Aside0.mk (And.intro HX.out HR.out.2)
      clear hN HR HX HI
      go_wp2_with fail
      go_loopg [12] r (fun kq v w' => T2 w3 G N t l q r vt kq v w')
      case atStart => exact ⟨0, _, by omega, rfl, HX0.out.1, HT0.out, Kd.R_nil _ _ _ _ _, HX0.out.2, by have := HN.out; omega⟩
      case round =>
        clear HX0 HT0 t1
        obtain ⟨i, vr, hi, rfl, hx, hrt, hrr, hb, hN⟩ := hrel
        have HI := Aside0.mk hi
        have HX := Aside0.mk hx
        have HR := Aside0.mk (And.intro hrt (And.intro hrr (And.intro hb hN)))
        clear hi hx hrt hrr hb hN
        by_cases hil : i < r
        · have t1 : decide ((i : Int) < (r : Int)) = true := by simp; omega
          have HIL := Aside0.mk hil
          have hi31 : i ≤ 31 := by have := HRG.out; omega
          have hml : (i : Int) % (l : Int) ≤ 11 := by have := HRG.out; have := Int.emod_lt_of_pos (i : Int) (show (0 : Int) < l by omega); omega
          have hm0 : 0 ≤ (i : Int) % (l : Int) := Int.emod_nonneg _ (by have := HRG.out; omega)
          generalize hmm : (i : Int) % (l : Int) = m at *
          have hl0 : ((l : Int) == 0) = false := by have := HRG.out; simp; omega
          have hl0' : ¬ (l : Int) = 0 := by have := HRG.out; omega
          have htm : Int.tmod (i : Int) (l : Int) = m := by rw [← hmm]; exact Int.tmod_eq_emod_of_nonneg (by omega)
          have hw0 : IntKind.i64.wrap m = m := by rw [IntKind.wrap_i64]; omega
          have hw1 : IntKind.i64.wrap (97 + m) = 97 + m := by rw [IntKind.wrap_i64]; omega
          have hw8 : IntKind.u8.wrap (97 + m) = 97 + m := by simp [IntKind.wrap, IntKind.bits, IntKind.signed]; omega
          have hcv := bytes2 wr 110 (97 + m)
          have hb8 := below_alloc (Below.refl wr.heap.size wr) (.cells #[.int .u8 110, .int .u8 (97 + m)] 5)
          have HB8 := Aside0.mk hb8
          clear hb8
          have HMM := Aside0.mk hmm
          clear hmm
          go_upto_region 15 with fail
          generalize hs0 : strOfNums [110, 97 + m] = s at *
          have HS : Aside0 (s = nn (i % l)) := ⟨by rw [← hs0, ← HMM.out]; unfold nn; rw [Int.natCast_emod]⟩
          clear hcv hs0
          have hbA := below_alloc (Below.refl wr.heap.size wr) (.cells #[.int .u8 110, .int .u8 (97 + m)] 5)
          have hsz : (wr.alloc (.cells #[.int .u8 110, .int .u8 (97 + m)] 5)).heap.size = wr.heap.size + 1 := World.size_alloc _ _
          generalize wr.alloc (.cells #[.int .u8 110, .int .u8 (97 + m)] 5) = W7 at *
          have hbC := below_alloc hbA (.cells #[.string s, .slice none 0 0, .string ⟨#[]⟩] 73)
          have hxC := Bx.new W7 #[.string s, .slice none 0 0, .string ⟨#[]⟩] 73
          obtain ⟨C, hC⟩ : ∃ C, C = wr.heap.size + 1 := ⟨_, rfl⟩
          rw [hsz, ← hC] at hxC
          rw [← hC]
          have HC := Aside0.mk (And.intro hxC (And.intro hbC hC))
          generalize W7.alloc (.cells #[.string s, .slice none 0 0, .string ⟨#[]⟩] 73) = W8 at *
          clear hbA hsz hbC hxC hC hm0 hml htm hw0 hw1 hw8 HB8
          have hwl : IntKind.i64.wrap ((l : Int) - 1) = (l : Int) - 1 := by rw [IntKind.wrap_i64]; have := HRG.out; omega
          go_upto_if 85 with fail
          go_cut [12] (fun v wx => v = .int .i64 (i : Int) ∧ ∃ v1, Bx wx C #[.string s, v1, .string ⟨#[]⟩] 73 ∧ Kd.R Kd.string 9 wx wr.heap.size (fun x => x ≠ C) v1 (limRt l q i) ∧ Below wr.heap.size wr wx)
          case first =>
            by_cases hlt : i + 1 < l
            · have t2 : decide ((i : Int) < (l : Int) - 1) = true := by simp; omega
              have hu1 : IntKind.i64.wrap (97 + (i : Int)) = 97 + (i : Int) := by rw [IntKind.wrap_i64]; omega
              have hu2 : IntKind.i64.wrap (97 + (i : Int) + 1) = 97 + (i : Int) + 1 := by rw [IntKind.wrap_i64]; omega
              have hu8 : IntKind.u8.wrap (97 + (i : Int) + 1) = 97 + (i : Int) + 1 := by simp [IntKind.wrap, IntKind.bits, IntKind.signed]; omega
              have hcv2 := bytes2 W8 110 (97 + (i : Int) + 1)
              have HX9 := Aside0.mk (HC.out.1.onto (.cells #[.int .u8 110, .int .u8 (97 + (i : Int) + 1)] 5))
              have f1 := fun o => (HX9.out.onto o).c 1 rfl
              have f1' := fun o k => (HX9.out.onto o).fz k
              have HLT := Aside0.mk hlt
              go_wp2_with fail
              go_meet
              have hsz9 : (W8.alloc (.cells #[.int .u8 110, .int .u8 (97 + (i : Int) + 1)] 5)).heap.size = W8.heap.size + 1 := World.size_alloc _ _
              have hwW : wr.heap.size ≤ W8.heap.size := HC.out.2.1.size
              have hCW : C < W8.heap.size := HC.out.1.lt
              have hl1 := lit_str (W := W8.alloc (.cells #[.int .u8 110, .int .u8 (97 + (i : Int) + 1)] 5)) (base := wr.heap.size) (strOfNums [110, 97 + (i : Int) + 1]) (by omega)
              rw [hsz9] at hl1
              have hnn : strOfNums [110, 97 + (i : Int) + 1] = nn (i + 1) := by unfold nn; rw [show 97 + (i : Int) + 1 = 97 + ((i + 1 : Nat) : Int) by omega]
              have hrt : limRt l q i = [strOfNums [110, 97 + (i : Int) + 1]] := by unfold limRt; rw [if_pos HLT.out, hnn]
              rw [hrt]
              exact ⟨rfl, _, (HX9.out.onto _).put 1 _, Kd.R_mono (Kd.R_far (p := ⟨C, 1, none⟩) hl1 (fun x hx => by show x ≠ C; omega) _) (fun x hx => by omega), (below_alloc (below_alloc HC.out.2.1 _) _).setCell (p := ⟨C, 1, none⟩) (by have := HC.out.2.2; show wr.heap.size ≤ C; omega) _⟩
            · have t2 : decide ((i : Int) < (l : Int) - 1) = false := by simp; omega
              have HLT := Aside0.mk hlt
              obtain ⟨wq, rfl⟩ : ∃ x, x = wr := ⟨_, rfl⟩
              have hlt' : ¬ (i : Int) < (l : Int) - 1 := by omega
              go_wp2_with fail
              go_loopg [14] q (fun kq v w' => T3 wq C q s kq v w')
              case atStart => exact ⟨0, _, by omega, rfl, HC.out.1, Kd.R_nil _ _ _ _ _, HC.out.2.1⟩
              case round =>
                obtain ⟨k, v1, hk, rfl, hx, hr, hb⟩ := hrel
                have HK := Aside0.mk hk
                have HX3 := Aside0.mk hx
                have HR3 := Aside0.mk (And.intro hr hb)
                clear hk hx hr hb t2
                by_cases hkl : k < q
                · have t3 : decide ((k : Int) < (q : Int)) = true := by simp; omega
                  have HKL := Aside0.mk hkl
                  obtain ⟨A1, c1, rfl⟩ := Kd.R_slice HR3.out.1
                  have c1' := HX3.out.c 1 rfl
                  have hrl : (reps k).length ≤ 8 := by rw [reps_len]; have := HRG.out; omega
                  have HSZ3 : Aside0 (wq.heap.size ≤ wr.heap.size ∧ C < wr.heap.size) := ⟨HR3.out.2.size, HX3.out.lt⟩
                  go_wp2_with (first
                    | (at_builtin; refine Kd.R_append Kd.string (w0 := wq) wq.heap.size rfl (.tmp 100) (.tmp 101) 28 9 (.string ⟨#[]⟩) 16 rfl Tryz.underlying28 infoS rfl (by decide) (by omega) _ (reps k) (⟨#[84, 97]⟩ : ByteArray) [.string ⟨#[84, 97]⟩] (fun x => x ≠ C) (fun _ => False) rfl rfl (show Kd.M Kd.string _ _ _ (⟨#[84, 97]⟩ : ByteArray) [.string ⟨#[84, 97]⟩] from rfl) (fun _ h => h.elim) (fun x hx => by have := HSZ3.out.2; omega) HR3.out.1 HR3.out.2 HSZ3.out.1 (by omega) ?_; intro v2 w9 ho hb9 hg hat; obtain ⟨A9, c9, e9⟩ := Kd.R_slice ho; subst e9; have HX9 := Aside0.mk (Bx.grown HX3.out hg (fun he => HR3.out.1.1 C he.symm rfl)); have H9 := Aside0.mk (And.intro ho hb9); have g1 := HX9.out.c 1 rfl; have g2 := HX9.out.fz 1; clear ho hb9 hg hat))
                  go_roundg (gk - 1)
                  case measure => have := HK.out; have := HKL.out; omega
                  case rel =>
                    rw [show (reps k).length + 1 = (reps (k + 1)).length by rw [reps_len, reps_len]]
                    have hk := Kd.R_far (p := ⟨C, 1, none⟩) H9.out.1 (fun x h => h) (.slice A9 (reps (k + 1)).length c9)
                    rw [show (⟨#[84, 97]⟩ : ByteArray) = sTa from rfl, reps_snoc] at hk
                    exact ⟨k + 1, _, by have := HK.out; have := HKL.out; omega, by have h1 := HKL.out; have h2 := HRG.out; first | rfl | (congr 1; unfold wrap64; omega), HX9.out.put 1 _, hk, H9.out.2.setCell (p := ⟨C, 1, none⟩) (by have := HC.out.2.2; show wq.heap.size ≤ C; omega) _⟩
                · obtain rfl : q = k := by have := HK.out; omega
                  have t3 : decide ((q : Int) < (q : Int)) = false := by simp
                  go_wp2_with fail
                  go_meet
                  refine ⟨rfl, v1, HX3.out, ?_, HR3.out.2⟩
                  have hrt : limRt l q i = reps q := by unfold limRt reps; rw [if_neg HLT.out]
                  rw [hrt]
                  exact HR3.out.1
          case rest =>
          obtain ⟨rfl, v1, hxc, hr1, hbc⟩ := hcut
          obtain ⟨A1, c1, rfl⟩ := Kd.R_slice hr1
          obtain ⟨Aq, cq, rfl⟩ := Kd.R_slice HR.out.2.1
          have HX4 := Aside0.mk (HX.out.move hbc HX.out.lt)
          have HRT := Aside0.mk (Kd.R_below HR.out.1 hbc)
          have HRR := Aside0.mk (Kd.R_below HR.out.2.1 hbc)
          have HRI : Aside0 (Kd.R Kd.string 9 wc w3.heap.size (fun x => wr.heap.size ≤ x) (.slice A1 (limRt l q i).length c1) (limRt l q i)) := ⟨Kd.R_lower (Kd.R_mono (Kd.R_bound hr1) (fun x hx => hx.2.1)) HR.out.2.2.1.size⟩
          have HW : Aside0 (Below w3.heap.size w3 wc ∧ N ≤ wc.heap.size ∧ w3.heap.size ≤ wc.heap.size) := ⟨HR.out.2.2.1.trans (hbc.mono HR.out.2.2.1.size), Nat.le_trans HR.out.2.2.2 hbc.size, Nat.le_trans HR.out.2.2.1.size hbc.size⟩
          have HOWN : Aside0 (∀ x, wr.heap.size ≤ x → some x ≠ (Value.slice Aq (limR l q i).length cq).ownBlock) := ⟨fun x hx he => by have := Kd.R_lt HR.out.2.1 x he.symm; omega⟩
          have HNW : Aside0 (N ≤ wr.heap.size) := ⟨HR.out.2.2.2⟩
          have r0 := hxc.c 0 rfl
          have r1 := hxc.c 1 rfl
          have r2 := hxc.c 2 rfl
          have o3 := HX4.out.c 3 rfl
          have hlq : (limR l q i).length ≤ 32 := by rw [limR_len]; omega
          clear hxc hr1 hbc
          go_wp2_with (first
            | (at_builtin; refine Kd.R_append kRu (w0 := w3) w3.heap.size rfl (.tmp 105) (.tmp 107) 23 73 (.agg #[.string ⟨#[]⟩, .slice none 0 0, .string ⟨#[]⟩]) 56 rfl Tryz.underlying23 infoRu2 rfl (by decide) (by omega) _ (limR l q i) (⟨s, limRt l q i, ⟨#[]⟩⟩ : SRu) [.string s, .slice A1 (limRt l q i).length c1, .string ⟨#[]⟩] (fun x => N ≤ x) (fun x => wr.heap.size ≤ x) rfl rfl (kRu_mkM _ _ _ (⟨s, limRt l q i, ⟨#[]⟩⟩ : SRu) HRI.out) (fun x hx => ⟨Nat.le_trans HNW.out hx, HOWN.out x hx⟩) (fun x hx => Nat.le_trans HW.out.2.1 hx) HRR.out HW.out.1 HW.out.2.2 (by omega) ?_; intro v2 w9 ho hb9 hg hat; obtain ⟨A9, c9, e9⟩ := Kd.R_slice ho; subst e9; have HX9 := Aside0.mk (Bx.grown HX4.out hg (fun he => by have h1 := HRR.out.1 G he.symm; have := HN.out; simp only at h1; omega)); have H9 := Aside0.mk (And.intro ho hb9); have HT9 := Aside0.mk (Kd.R_after (ok := fun x => x ≠ G ∧ x < N) (v := .slice Aq (limR l q i).length cq) (Kd.R_mono HRT.out (fun x hx => ⟨hx, fun he => by have h1 := HRR.out.1 x he.symm; have := hx.2; simp only at h1; omega⟩)) hg hat); have HS9 : Aside0 (N ≤ w9.heap.size) := ⟨Nat.le_trans HW.out.2.1 hg.size⟩; have g1 := HX9.out.c 3 rfl; have g2 := HX9.out.fz 3; clear ho hb9 hg hat))
          go_roundg (gk - 1)
          case measure => have := HI.out; have := HIL.out; omega
          case rel =>
            rw [show (limR l q i).length + 1 = (limR l q (i + 1)).length by rw [limR_len, limR_len]]
            have hk := Kd.R_far (p := ⟨G, 3, none⟩) H9.out.1 (fun x hx => by have := HN.out; show x ≠ G; omega) (.slice A9 (limR l q (i + 1)).length c9)
            rw [HS.out, show (⟨nn (i % l), limRt l q i, ⟨#[]⟩⟩ : SRu) = limRu l q i from rfl, ← limR_snoc] at hk
            exact ⟨i + 1, _, by have := HI.out; have := HIL.out; omega, by have h1 := HIL.out; have h2 := HRG.out; first | rfl | (congr 1; unfold wrap64; omega), HX9.out.put 3 _, Kd.R_mono (Kd.R_far (p := ⟨G, 3, none⟩) HT9.out (fun x h => h.1.1) _) (fun x hx => hx.1), hk, H9.out.2.setCell (p := ⟨G, 3, none⟩) (by have := HG.out.2.2; show w3.heap.size ≤ G; omega) _, by rw [World.size_setCell]; exact HS9.out⟩
        · obtain rfl : r = i := by have := HI.out; omega
          have t1 : decide ((r : Int) < (r : Int)) = false := by simp
          obtain ⟨At, ct, rfl⟩ := Kd.R_slice HR.out.1
          obtain ⟨Aq, cq, rfl⟩ := Kd.R_slice HR.out.2.1
          have HB0 : Aside0 (Below w.heap.size w wr) := ⟨HB3.out.trans (HR.out.2.2.1.mono HB3.out.size)⟩
          have C1 : Aside0 (Calls Tryz.prog 37 #[.agg #[.slice At (limT t).length ct, .string ⟨#[]⟩, .int .i64 0, .slice Aq (limR l q r).length cq]] wr (OfPost wr (limT t) ⟨#[]⟩ 0 (limR l q r))) := ⟨by
            have h0 := HRG.out
            obtain ⟨_, d0, n0⟩ := Kd.R_reads' HR.out.1
            obtain ⟨_, d3, n3⟩ := Kd.R_reads' HR.out.2.1
            exact wof_calls wr At ct (limT t) ⟨#[]⟩ 0 Aq cq (limR l q r) n0 d0 n3 d3 (by rw [limT_len]; omega) (by rw [limR_len]; omega) (fun x hx => by
              obtain ⟨i, hi, rfl⟩ := limR_mem.1 hx
              show (limRt l q i).length ≤ 100000
              unfold limRt
              split
              · simp
              · rw [List.length_replicate]; omega)⟩
          have g0 := HX.out.c 0 rfl
          have g1 := HX.out.c 1 rfl
          have g2 := HX.out.c 2 rfl
          have g3 := HX.out.c 3 rfl
          go_upto_region 23 with (first
            | (go_at_call 37; (with_reducible refine Calls.mono C1.out ?_); rintro e w7 ⟨v, err, rfl, h1, h2, h3, hb7⟩; obtain ⟨x0, x1, x2, x3, P4, P5, P6, P7, n4, c4, n5, c5, n6, c6, n7, c7, ev⟩ := of_agg h2 h3; subst ev; have HERR := Aside0.mk (lim_err ⟨HRG.out.1, HRG.out.2.1⟩ ⟨HRG.out.2.2.1, HRG.out.2.2.2.1⟩ ⟨HRG.out.2.2.2.2.1, HRG.out.2.2.2.2.2.1⟩ HRG.out.2.2.2.2.2.2 h1); have HB12 := Aside0.mk (HB0.out.trans (hb7.mono HB0.out.size)); clear h1 h2 h3 hb7))
          clear g0 g1 g2 g3
          by_cases a0 : 12 < t
          · have u0 : decide ((t : Int) > 12) = true := by simp; omega
            have HE : Aside0 (err = 6) := ⟨by rw [HERR.out, if_pos (by omega)]⟩
            obtain ⟨he⟩ := HE
            subst he
            clear a0 HERR
            go_wp2_with fail
            go_ret
            exact ⟨rfl, below_alloc HB12.out _⟩
          have u0 : decide ((t : Int) > 12) = false := by simp; omega
          by_cases a1 : 10 < l
          · have u1 : decide ((l : Int) > 10) = true := by simp; omega
            have HE : Aside0 (err = 6) := ⟨by rw [HERR.out, if_pos (by omega)]⟩
            obtain ⟨he⟩ := HE
            subst he
            clear a0 a1 HERR
            go_wp2_with fail
            go_ret
            exact ⟨rfl, below_alloc HB12.out _⟩
          have u1 : decide ((l : Int) > 10) = false := by simp; omega
          by_cases a2 : 30 < r
          · have u2 : decide ((r : Int) > 30) = true := by simp; omega
            have HE : Aside0 (err = 6) := ⟨by rw [HERR.out, if_pos (by omega)]⟩
            obtain ⟨he⟩ := HE
            subst he
            clear a0 a1 a2 HERR
            go_wp2_with fail
            go_ret
            exact ⟨rfl, below_alloc HB12.out _⟩
          have u2 : decide ((r : Int) > 30) = false := by simp; omega
          by_cases a3 : 6 < q
          · have u3 : decide ((q : Int) > 6) = true := by simp; omega
            have HE : Aside0 (err = 6) := ⟨by rw [HERR.out, if_pos (by omega)]⟩
            obtain ⟨he⟩ := HE
            subst he
            clear a0 a1 a2 a3 HERR
            go_wp2_with fail
            go_ret
            exact ⟨rfl, below_alloc HB12.out _⟩
          have u3 : decide ((q : Int) > 6) = false := by simp; omega
          have HE : Aside0 (err = 0) := ⟨by rw [HERR.out, if_neg (by omega)]⟩
          obtain ⟨he⟩ := HE
          subst he
          clear a0 a1 a2 a3 HERR
          go_wp2_with fail
          go_ret
          exact ⟨rfl, below_alloc HB12.out _⟩
end Go.Proofs.YtjhemobplcelbaaGreatDoor.O
