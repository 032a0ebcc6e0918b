/- donatuslaw22.VoteOrder answers true: in whatever order votes come, they are won or lost alike. The texts of the arguments are those of the row. -/
import Derived.Test.YtlieblnpkgnkfaaVoteI
namespace Go.Proofs.Ytlieblnpkgnkfaa.V
set_option linter.unusedVariables false
open Go.RowKit Go.Proofs.YtlieblnpkgnkfaaW.PrintWords Go.Proofs.YtlieblnpkgnkfaaW.PrintLast Go.Proofs.YtlieblnpkgnkfaaW.PrintMore
def RelL (w0 : World) (n : Nat) (kq : Nat) (v8 v9 : Value) (w : World) : Prop :=
  ∃ m : Nat, m + kq = n ∧ v9 = .int .i64 ((m : Int) + 1) ∧ Kd.R (Kd.int .i64) 3 w w0.heap.size (fun _ => True) v8 (ids m) ∧ Below w0.heap.size w0 w
def RelV (w0 : World) (ga gb : Nat) (y : Nat → Bool) (n t : Nat) (kq : Nat) (v12 : Value) (w : World) : Prop :=
  ∃ (m : Nat) (ya na yb nb : List Int), m + kq = n ∧ v12 = .int .i64 (m : Int) ∧ Pair w0 w ga gb (ids n) ya na yb nb ∧ Cast y (fun i => i) n m ya na ∧ Cast y (rot n t) n m yb nb
theorem AfterV.of_drawn {w : World} {g : Nat} {F : Nat → Prop} {l yes no : List Int} {v : Value} (h : VSt w g F l yes no) {e : Ending} {w' : World} (k : e = .returned v ∧ Drawn0 w w') : AfterV w g F l yes no v e w' :=
  ⟨k.1, F, h.below (Drawn0.below0 k.2), Same.of_below (Drawn0.below0 k.2), fun _ hk => .inl hk⟩
theorem K_stop {y : Nat → Bool} {m : Nat} : ∀ {n : Nat}, m ≤ n → (∀ j, m ≤ j → j < n → y j = false) → K y n = K y m := by
  intro n
  induction n with
  | zero =>
    intro h _
    obtain rfl : m = 0 := by omega
    rfl
  | succ n ih =>
    intro h hy
    rcases Nat.lt_or_ge n m with h2 | h2
    · obtain rfl : m = n + 1 := by omega
      rfl
    · simp only [K]
      rw [ih h2 (fun j h1 h3 => hy j h1 (by omega)), hy n h2 (by omega)]
      rfl
theorem two_new {w0 w w' w'' : World} {ga gb : Nat} {Fa Fb : Nat → Prop} {L : List Int} (hb : Below w0.heap.size w0 w) (h1 : VSt w' ga Fa L [] []) (b1 : Below w.heap.size w w') (f1 : ∀ k, Fa k → w.heap.size ≤ k)
    (h2 : VSt w'' gb Fb L [] []) (b2 : Below w'.heap.size w' w'') (f2 : ∀ k, Fb k → w'.heap.size ≤ k) : Pair w0 w'' ga gb L [] [] [] [] :=
  ⟨Fa, Fb, h1.below b2, h2, fun k ha hb2 => by have := h1.lt k ha; have := f2 k hb2; omega, fun k hk => Nat.le_trans hb.size (f1 k hk), fun k hk => Nat.le_trans (Nat.le_trans hb.size b1.size) (f2 k hk), (hb.trans (b1.mono hb.size)).trans (b2.mono (Nat.le_trans hb.size b1.size))⟩
theorem Cast.small {y : Nat → Bool} {s : Nat → Nat} {n m : Nat} {yes no : List Int} (h : Cast y s n m yes no) (hn : n ≤ 7) (hm : m ≤ 7) : Small (ids n) yes no := by
  have := h.len
  exact ⟨by rw [ids_len]; omega, by omega, by omega⟩
theorem push_told {y : Nat → Bool} {s : Nat → Nat} {n m : Nat} {yes no : List Int} (h : Cast y s n m yes no) (hi : ∀ i, i < m → s i ≠ s m) (hn : s m < n) :
    Cast y s n (m + 1) (if y (s m) = true then yes ++ [(s m : Int) + 1] else yes) (if y (s m) = true then no else no ++ [(s m : Int) + 1]) := by
  cases e : y (s m) with
  | true => exact h.pushY hi hn e
  | false => exact h.pushN e
theorem Pair.wonA {w0 w : World} {ga gb : Nat} {L ya na yb nb : List Int} (h : Pair w0 w ga gb L ya na yb nb) (hs : Small L ya na) : Calls Try.prog 12 #[.pointer (some ⟨ga, 0, none⟩)] w fun e w' => e = .returned (.bool (majB L ya)) ∧ Pair w0 w' ga gb L ya na yb nb :=
  h.first (v := .bool (majB L ya)) (fun F hv => Won_go hv hs)
theorem Pair.wonB {w0 w : World} {ga gb : Nat} {L ya na yb nb : List Int} (h : Pair w0 w ga gb L ya na yb nb) (hs : Small L yb nb) : Calls Try.prog 12 #[.pointer (some ⟨gb, 0, none⟩)] w fun e w' => e = .returned (.bool (majB L yb)) ∧ Pair w0 w' ga gb L ya na yb nb :=
  h.second (v := .bool (majB L yb)) (fun F hv => Won_go hv hs)
theorem Pair.lostA {w0 w : World} {ga gb : Nat} {L ya na yb nb : List Int} (h : Pair w0 w ga gb L ya na yb nb) (hs : Small L ya na) : Calls Try.prog 14 #[.pointer (some ⟨ga, 0, none⟩)] w fun e w' => e = .returned (.bool (V.lostB L na)) ∧ Pair w0 w' ga gb L ya na yb nb :=
  h.first (v := .bool (V.lostB L na)) (fun F hv => Lost_go hv hs)
theorem Pair.lostB {w0 w : World} {ga gb : Nat} {L ya na yb nb : List Int} (h : Pair w0 w ga gb L ya na yb nb) (hs : Small L yb nb) : Calls Try.prog 14 #[.pointer (some ⟨gb, 0, none⟩)] w fun e w' => e = .returned (.bool (V.lostB L nb)) ∧ Pair w0 w' ga gb L ya na yb nb :=
  h.second (v := .bool (V.lostB L nb)) (fun F hv => Lost_go hv hs)
theorem told_at {ys : List Bool} {i : Nat} (h : i < ys.length) : told ys i = ys.getD i false := by
  unfold told
  rw [decide_eq_true h, Bool.true_and]
theorem told_out {ys : List Bool} {i : Nat} (h : ys.length ≤ i) : told ys i = false := by
  unfold told
  rw [decide_eq_false (by omega), Bool.false_and]
def RelK (w0 : World) (ga gb : Nat) (y : Nat → Bool) (n : Nat) (ya na yb nb : List Int) (kq : Nat) (v13 v14 : Value) (w : World) : Prop :=
  ∃ m : Nat, m + kq = n ∧ v13 = .int .i64 (K y m : Int) ∧ v14 = .int .i64 (m : Int) ∧ Pair w0 w ga gb (ids n) ya na yb nb
set_option maxHeartbeats 4000000 in
set_option maxRecDepth 100000 in
theorem Order_calls (w : World) (a0 : Int) (ok0 : (Lit.int .i64 a0).wf = true) (A1 : Option Addr) (c1 : Nat) (ys : List Bool) (hr1 : Kd.C Kd.bool w A1 ys.length ys) (le1 : ys.length ≤ c1) (ok1 : ys.length ≤ maxLen ∧ ys.length * 1 ≤ 140737488351232 ∧ ∀ x ∈ ys, True) (a2 : Int) (ok2 : (Lit.int .i64 a2).wf = true) :
    Calls Try.prog 5 #[.int .i64 a0, .slice A1 ys.length c1, .int .i64 a2] w fun e w' => e = .returned (.bool true) ∧ Below w.heap.size w w' := by
  have hly : ys.length ≤ 140737488351232 := by have := ok1.2.1; omega
  clear ok1
  by_cases h1 : a0 < 1
  · have d1 : decide (a0 < 1) = true := decide_eq_true h1
    go_enter Try.func5, Try.ntmps5
    go_wp2_with (first | (go_at_call 6; refine (begun_calls _).mono ?_; rintro e w1 ⟨rfl, hb1⟩; have HB := Aside0.mk hb1; clear hb1))
    go_ret
    exact ⟨rfl, HB.out⟩
  have d1 : decide (a0 < 1) = false := decide_eq_false h1
  by_cases h2 : a0 > 7
  · have d2 : decide (a0 > 7) = true := decide_eq_true h2
    go_enter Try.func5, Try.ntmps5
    go_wp2_with (first | (go_at_call 6; refine (begun_calls _).mono ?_; rintro e w1 ⟨rfl, hb1⟩; have HB := Aside0.mk hb1; clear hb1))
    go_ret
    exact ⟨rfl, HB.out⟩
  have d2 : decide (a0 > 7) = false := decide_eq_false h2
  by_cases h3 : a2 < 0
  · have d3 : decide (a2 < 0) = true := decide_eq_true h3
    go_enter Try.func5, Try.ntmps5
    go_wp2_with (first | (go_at_call 6; refine (begun_calls _).mono ?_; rintro e w1 ⟨rfl, hb1⟩; have HB := Aside0.mk hb1; clear hb1))
    go_ret
    exact ⟨rfl, HB.out⟩
  have d3 : decide (a2 < 0) = false := decide_eq_false h3
  obtain ⟨n, rfl⟩ := Int.eq_ofNat_of_zero_le (show 0 ≤ a0 by omega)
  obtain ⟨T, rfl⟩ := Int.eq_ofNat_of_zero_le (show 0 ≤ a2 by omega)
  have HR1 := Aside0.mk hr1
  clear hr1
  go_enter Try.func5, Try.ntmps5
  go_wp2_with (first | (go_at_call 6; refine (begun_calls _).mono ?_; rintro e w1 ⟨rfl, hb1⟩; have HB := Aside0.mk hb1; clear hb1))
  go_loopg [8, 9] n (fun kq v8 v9 w' => RelL w n kq v8 v9 w')
  case atStart => exact ⟨0, by omega, rfl, Kd.R_nil _ _ _ _ _, HB.out⟩
  case round =>
    obtain ⟨m, hm, rfl, hl, hb⟩ := hrel
    clear HB
    have HM := Aside0.mk hm
    have HL := Aside0.mk hl
    have HB := Aside0.mk hb
    obtain ⟨A8, c8, rfl⟩ := Kd.R_slice hl
    clear hm hl hb
    by_cases hlt : m < n
    · have t1 : decide ((m : Int) + 1 ≤ (n : Int)) = true := by simp; omega
      go_wp2_with (first
        | (at_builtin; refine Kd.R_append (Kd.int .i64) (w0 := w) w.heap.size rfl (.tmp 33) (.tmp 35) 22 3 (.int .i64 0) 8 rfl Try.underlying22 infoI rfl (by decide) (by omega) (.slice A8 (ids m).length c8) (ids m) ((m : Int) + 1) _ (fun _ => True) (fun _ => False) rfl rfl (show Kd.M (Kd.int .i64) _ _ _ ((m : Int) + 1) [.int .i64 ((m : Int) + 1)] from rfl) (fun _ h => h.elim) (fun k hk => trivial) HL.out HB.out HB.out.size (by rw [ids_len]; omega) ?_; intro v3 w3 ho3 hb3 hg3 hn3; clear HL HB; have HL := Aside0.mk ho3; have HB := Aside0.mk hb3; clear ho3 hb3 hg3 hn3))
      go_roundg (gk - 1)
      case measure => have := HM.out; omega
      case rel => exact ⟨m + 1, by have := HM.out; omega, by go_num, HL.out, HB.out⟩
    · have t1 : decide ((m : Int) + 1 ≤ (n : Int)) = false := by simp; omega
      obtain rfl : m = n := by have := HM.out; omega
      have HMC := Aside0.mk (made_may (mayC_ids (n := m) (by omega) (by omega)))
      go_wp2_with fail
      go_at_call 7
      refine (New_calls (ids m) _ A8 c8 (by rw [ids_len]; omega) (Kd.R_reads' HL.out).2.2 (Kd.R_reads' HL.out).2.1).mono ?_
      rintro e w2 ⟨ga, Fa, rfl, ha, ba, fa⟩
      have HA := Aside0.mk ha
      have BA := Aside0.mk ba
      have FA := Aside0.mk fa
      clear ha ba fa
      go_wp2_with fail
      go_at_call 7
      refine (New_calls (ids m) _ A8 c8 (by rw [ids_len]; omega) (Kd.C_below (Kd.R_reads' HL.out).2.2 BA.out) (Kd.R_reads' HL.out).2.1).mono ?_
      rintro e w3 ⟨gb, Fb, rfl, hb, bb, fb⟩
      have ha := HA.out
      rw [HMC.out] at ha hb
      have HP := Aside0.mk (two_new (L := ids m) HB.out ha BA.out FA.out hb bb fb)
      clear ha hb bb fb HA BA FA HMC HL HB HM
      go_wp2_with fail
      go_loopg [12] m (fun kq v12 w' => RelV w ga gb (told ys) m (T % m) kq v12 w')
      case atStart => exact ⟨0, [], [], [], [], by omega, rfl, HP.out, Cast.nil _ _ _, Cast.nil _ _ _⟩
      case round =>
        clear HP
        obtain ⟨j, ya, na, yb, nb, hj, rfl, hp, ca, cb⟩ := hrel
        have HJ := Aside0.mk hj
        have HP := Aside0.mk hp
        have CA := Aside0.mk ca
        have CB := Aside0.mk cb
        clear hj hp ca cb
        by_cases hlt : j < m
        · have t1 : decide ((j : Int) < (m : Int)) = true := by simp; omega
          have t0 : ((m : Int) == 0) = false := beq_eq_false_iff_ne.mpr (by omega)
          have hm1 : 0 ≤ (T : Int) % (m : Int) := Int.emod_nonneg _ (by omega)
          have hm2 : (T : Int) % (m : Int) < (m : Int) := Int.emod_lt_of_pos _ (by omega)
          have hm3 : (T : Int) % (m : Int) ≤ 6 := by omega
          have HRT : Aside0 (((j : Int) + (T : Int)) % (m : Int) = ((rot m (T % m) j : Nat) : Int)) := Aside0.mk (by unfold rot; simp)
          have hrl := rot_lt (n := m) (by omega) (T % m) j
          have hri : ∀ i, i < j → rot m (T % m) i ≠ rot m (T % m) j := fun i hi => rot_ne (Nat.mod_lt _ (by omega)) hlt hi
          have HRI := Aside0.mk hri
          have HRL := Aside0.mk hrl
          clear hri hrl
          have ha := CA.out.may (fun i hi => by omega) hlt
          have hb := CB.out.may HRI.out HRL.out
          have HA := Aside0.mk ha
          have HB2 := Aside0.mk hb
          clear ha hb
          go_wp2_with fail
          go_at_call 15
          refine (HP.out.first (fun F h => one_go (i := j) h (CA.out.small (by omega) (by omega)) (by omega) HA.out (Kd.C_below HR1.out (by obtain ⟨_, _, _, _, _, _, _, hb⟩ := HP.out; exact hb)) le1 hly)).mono ?_
          rintro e w4 ⟨rfl, hp⟩
          clear HP
          have HP := Aside0.mk hp
          clear hp
          go_wp2_with fail
          go_at_call 15
          rw [HRT.out]
          refine (HP.out.second (fun F h => one_go (i := rot m (T % m) j) h (CB.out.small (by omega) (by omega)) (by have := HRL.out; omega) HB2.out (Kd.C_below HR1.out (by obtain ⟨_, _, _, _, _, _, _, hb⟩ := HP.out; exact hb)) le1 hly)).mono ?_
          rintro e w5 ⟨rfl, hp⟩
          clear HP
          have HP := Aside0.mk hp
          clear hp
          go_wp2_with fail
          go_roundg (gk - 1)
          case measure => have := HJ.out; omega
          case rel => exact ⟨j + 1, _, _, _, _, by have := HJ.out; omega, by go_num, HP.out, push_told CA.out (fun i hi => by omega) hlt, push_told CB.out HRI.out HRL.out⟩
        · have t1 : decide ((j : Int) < (m : Int)) = false := by simp; omega
          obtain rfl : j = m := by have := HJ.out; omega
          clear HJ
          go_wp2_with fail
          go_loopg [13, 14] j (fun kq v13 v14 w' => RelK w ga gb (told ys) j ya na yb nb kq v13 v14 w')
          case atStart => exact ⟨0, by omega, rfl, rfl, HP.out⟩
          case round =>
            clear HP
            obtain ⟨i, hi, rfl, rfl, hp⟩ := hrel
            have HI := Aside0.mk hi
            have HP := Aside0.mk hp
            have hbel : Below w.heap.size w wr := by obtain ⟨_, _, _, _, _, _, _, hb⟩ := hp; exact hb
            have HBEL := Aside0.mk hbel
            clear hi hp hbel
            have hkl := K_le (told ys) i
            have HKK := Aside0.mk (show K (told ys) (i + 1) = K (told ys) i + (if told ys i = true then 1 else 0) from rfl)
            by_cases hij : i < j
            · have t1 : decide ((i : Int) < (j : Int)) = true := by simp; omega
              by_cases hil : i < ys.length
              · have t2 : decide ((i : Int) < (ys.length : Int)) = true := by simp; omega
                obtain ⟨ad, cs, e1, hsz, hK, hcell⟩ := Kd.C_get (Kd.C_below HR1.out HBEL.out) false (i : Int) (by omega) (by omega)
                obtain rfl : cs = [.bool (ys.getD (i : Int).toNat false)] := hK
                have x0 := hcell 0 _ rfl
                rw [Int.toNat_natCast] at x0
                simp only [Kd.bool, Kd.scalar, Nat.mul_one, Nat.add_zero] at x0
                subst e1
                clear hcell hsz
                rw [told_at hil] at HKK
                generalize ys.getD i false = b at x0 HKK
                cases b with
                | true =>
                  rw [if_pos rfl] at HKK
                  generalize K (told ys) i = kk at *
                  go_wp2_with fail
                  go_roundg (gk - 1)
                  case measure => have := HI.out; omega
                  case rel => exact ⟨i + 1, by have := HI.out; omega, by rw [HKK.out]; go_num, by go_num, HP.out⟩
                | false =>
                  rw [if_neg (by decide), Nat.add_zero] at HKK
                  generalize K (told ys) i = kk at *
                  go_wp2_with fail
                  go_roundg (gk - 1)
                  case measure => have := HI.out; omega
                  case rel => exact ⟨i + 1, by have := HI.out; omega, by rw [HKK.out]; rfl, by go_num, HP.out⟩
              · have t2 : decide ((i : Int) < (ys.length : Int)) = false := by simp; omega
                have hkj : K (told ys) j = K (told ys) i := K_stop (by omega) (fun q h1 h2 => told_out (by omega))
                have hwa := CA.out.won (fun q hq => ⟨q, hq, rfl⟩) (by omega) (by omega)
                have hwb := CB.out.won (rot_onto (Nat.mod_lt _ (by omega))) (by omega) (by omega)
                have hla := CA.out.lost (fun q hq => ⟨q, hq, rfl⟩) (by omega)
                have hlb := CB.out.lost (rot_onto (Nat.mod_lt _ (by omega))) (by omega)
                rw [hkj] at hwa hwb hla hlb
                have SA := Aside0.mk (CA.out.small (by omega) (by omega))
                have SB := Aside0.mk (CB.out.small (by omega) (by omega))
                clear hkj HKK
                generalize K (told ys) i = kk at *
                by_cases hw : j < 2 * kk
                all_goals
                  first
                    | rw [decide_eq_true hw] at hwa hwb hla hlb
                    | rw [decide_eq_false hw] at hwa hwb hla hlb
                  have d9 : decide (2 * (kk : Int) > (j : Int)) = decide (j < 2 * kk) := decide_eq_decide.2 (by omega)
                  first
                    | rw [decide_eq_true hw] at d9
                    | rw [decide_eq_false hw] at d9
                  have WA := Aside0.mk hwa
                  have WB := Aside0.mk hwb
                  have LA := Aside0.mk hla
                  have LB := Aside0.mk hlb
                  clear hwa hwb hla hlb hw CA CB
                  go_wp2_with (first
                                | (go_at_call 12; (with_reducible refine (HP.out.wonA SA.out).mono ?_); rintro e w6 ⟨rfl, hp⟩; rw [WA.out]; clear HP; have HP := Aside0.mk hp; clear hp)
                                | (go_at_call 12; (with_reducible refine (HP.out.wonB SB.out).mono ?_); rintro e w6 ⟨rfl, hp⟩; rw [WB.out]; clear HP; have HP := Aside0.mk hp; clear hp)
                                | (go_at_call 14; (with_reducible refine (HP.out.lostA SA.out).mono ?_); rintro e w6 ⟨rfl, hp⟩; rw [LA.out]; clear HP; have HP := Aside0.mk hp; clear hp)
                                | (go_at_call 14; (with_reducible refine (HP.out.lostB SB.out).mono ?_); rintro e w6 ⟨rfl, hp⟩; rw [LB.out]; clear HP; have HP := Aside0.mk hp; clear hp))
                  go_ret
                  refine ⟨rfl, ?_⟩
                  obtain ⟨_, _, _, _, _, _, _, hb⟩ := HP.out
                  exact hb
            · have t1 : decide ((i : Int) < (j : Int)) = false := by simp; omega
              obtain rfl : i = j := by have := HI.out; omega
              have hkj : K (told ys) i = K (told ys) i := rfl
              have hwa := CA.out.won (fun q hq => ⟨q, hq, rfl⟩) (by omega) (by omega)
              have hwb := CB.out.won (rot_onto (Nat.mod_lt _ (by omega))) (by omega) (by omega)
              have hla := CA.out.lost (fun q hq => ⟨q, hq, rfl⟩) (by omega)
              have hlb := CB.out.lost (rot_onto (Nat.mod_lt _ (by omega))) (by omega)
              rw [hkj] at hwa hwb hla hlb
              have SA := Aside0.mk (CA.out.small (by omega) (by omega))
              have SB := Aside0.mk (CB.out.small (by omega) (by omega))
              clear hkj HKK
              generalize K (told ys) i = kk at *
              by_cases hw : i < 2 * kk
              all_goals
                first
                  | rw [decide_eq_true hw] at hwa hwb hla hlb
                  | rw [decide_eq_false hw] at hwa hwb hla hlb
                have d9 : decide (2 * (kk : Int) > (i : Int)) = decide (i < 2 * kk) := decide_eq_decide.2 (by omega)
                first
                  | rw [decide_eq_true hw] at d9
                  | rw [decide_eq_false hw] at d9
                have WA := Aside0.mk hwa
                have WB := Aside0.mk hwb
                have LA := Aside0.mk hla
                have LB := Aside0.mk hlb
                clear hwa hwb hla hlb hw CA CB
                go_wp2_with (first
                              | (go_at_call 12; (with_reducible refine (HP.out.wonA SA.out).mono ?_); rintro e w6 ⟨rfl, hp⟩; rw [WA.out]; clear HP; have HP := Aside0.mk hp; clear hp)
                              | (go_at_call 12; (with_reducible refine (HP.out.wonB SB.out).mono ?_); rintro e w6 ⟨rfl, hp⟩; rw [WB.out]; clear HP; have HP := Aside0.mk hp; clear hp)
                              | (go_at_call 14; (with_reducible refine (HP.out.lostA SA.out).mono ?_); rintro e w6 ⟨rfl, hp⟩; rw [LA.out]; clear HP; have HP := Aside0.mk hp; clear hp)
                              | (go_at_call 14; (with_reducible refine (HP.out.lostB SB.out).mono ?_); rintro e w6 ⟨rfl, hp⟩; rw [LB.out]; clear HP; have HP := Aside0.mk hp; clear hp))
                go_ret
                refine ⟨rfl, ?_⟩
                obtain ⟨_, _, _, _, _, _, _, hb⟩ := HP.out
                exact hb
end Go.Proofs.Ytlieblnpkgnkfaa.V
