/- tree: the law TreeDeep answers true. -/
import Derived.Test.YtjhemobplcelbaaGreatDoorTreeE
namespace Go.Proofs.YtjhemobplcelbaaGreatDoor.T
open Go.RowKit Go.Proofs.YtjhemobplcelbaaGreatDoorW.PrintWords Go.Proofs.YtjhemobplcelbaaGreatDoorW.PrintLast Go.Proofs.YtjhemobplcelbaaGreatDoorW.PrintMore
set_option linter.unusedVariables false
set_option linter.unusedSimpArgs false
theorem cell_new (w : World) (cs : Array Value) (t k : Nat) : (w.alloc (.cells cs t)).cell? ⟨w.heap.size, k, none⟩ = cs[k]? := by
  unfold World.cell?
  rw [heap_alloc_new]
  simp
theorem C_one (w : World) (X : Nat) : Kd.C kP (w.alloc (.cells #[.pointer (some ⟨X, 0, none⟩)] 37)) (some ⟨w.heap.size, 0, none⟩) 1 [X] := by
  refine ⟨rfl, by decide, fun _ => ⟨_, rfl, fun j p hj => ?_⟩⟩
  match j, hj with
  | 0, hj =>
    cases hj
    refine ⟨[pv X], rfl, rfl, fun i u hu => ?_⟩
    match i, hu with
    | 0, hu => cases hu; exact cell_new w _ _ 0
    | i + 1, hu => cases hu
  | j + 1, hj => cases hj
theorem C_two (w : World) (X : Nat) : Kd.C kP (w.alloc (.cells #[.pointer (some ⟨X, 0, none⟩), .pointer (some ⟨X, 0, none⟩)] 37)) (some ⟨w.heap.size, 0, none⟩) 2 [X, X] := by
  refine ⟨rfl, by decide, fun _ => ⟨_, rfl, fun j p hj => ?_⟩⟩
  match j, hj with
  | 0, hj =>
    cases hj
    refine ⟨[pv X], rfl, rfl, fun i u hu => ?_⟩
    match i, hu with
    | 0, hu => cases hu; exact cell_new w _ _ 0
    | i + 1, hu => cases hu
  | 1, hj =>
    cases hj
    refine ⟨[pv X], rfl, rfl, fun i u hu => ?_⟩
    match i, hu with
    | 0, hu => cases hu; exact cell_new w _ _ 1
    | i + 1, hu => cases hu
  | j + 2, hj => cases hj
def DRel (w : World) (q : Nat) (kq : Nat) (v v6 : Value) (w' : World) : Prop := ∃ (j X : Nat), j + 1 + kq = q ∧ v = .int .i64 ((j + 1 : Nat) : Int) ∧ v6 = .pointer (some ⟨X, 0, none⟩) ∧ IsF w' [X] (chain j) ∧ Below w.heap.size w w'
def ERel (w : World) (q : Nat) (kq : Nat) (v v6 : Value) (w' : World) : Prop := ∃ (j X : Nat), j + 1 + kq = q ∧ v = .int .i64 ((j + 1 : Nat) : Int) ∧ v6 = .pointer (some ⟨X, 0, none⟩) ∧ IsF w' [X] (bin j) ∧ Below w.heap.size w w'
theorem chain_size (j : Nat) (h : j ≤ 9999) : (chain j).Size = if j + 1 ≤ 5000 then (j + 1, j + 1) else (0, 0) := by
  split
  · rw [Size_ok _ (by rw [chain_nodes]; omega) (by rw [chain_height]; omega), chain_nodes, chain_height]
  · exact Size_not _ (.inr (by rw [chain_height]; omega))
theorem bin_size (j : Nat) (h : j ≤ 13) : (bin j).Size = if j ≤ 12 then (2 ^ (j + 1) - 1, j + 1) else (0, 0) := by
  have hn := bin_nodes j
  split
  · rename_i h12
    have : 2 ^ (j + 1) ≤ 2 ^ 13 := Nat.pow_le_pow_right (by decide) (by omega)
    rw [Size_ok _ (by omega) (by rw [bin_height]; omega), bin_height]
    congr 1
    omega
  · have : 2 ^ 14 ≤ 2 ^ (j + 1) := Nat.pow_le_pow_right (by decide) (by omega)
    exact Size_not _ (.inl (by omega))
theorem bin_cons (j : Nat) : ∃ r k ks, bin j = .cons r k ks .nil := by cases j <;> exact ⟨_, _, _, rfl⟩
theorem chain_cons (j : Nat) : ∃ r k ks, chain j = .cons r k ks .nil := by cases j <;> exact ⟨_, _, _, rfl⟩
theorem size_chain (w : World) (X j : Nat) (h : IsF w [X] (chain j)) : Calls Tryz.prog 18 #[.pointer (some ⟨X, 0, none⟩)] w fun e w' => e = .returned (.tuple #[.int .i64 ((chain j).Size.1 : Int), .int .i64 ((chain j).Size.2 : Int)]) ∧ Below w.heap.size w w' := by
  obtain ⟨r, k, ks, e⟩ := chain_cons j
  rw [e] at h ⊢
  exact Size_calls w X r k ks h
theorem size_bin (w : World) (X j : Nat) (h : IsF w [X] (bin j)) : Calls Tryz.prog 18 #[.pointer (some ⟨X, 0, none⟩)] w fun e w' => e = .returned (.tuple #[.int .i64 ((bin j).Size.1 : Int), .int .i64 ((bin j).Size.2 : Int)]) ∧ Below w.heap.size w w' := by
  obtain ⟨r, k, ks, e⟩ := bin_cons j
  rw [e] at h ⊢
  exact Size_calls w X r k ks h
theorem yield_bin (w : World) (X j : Nat) (h : IsF w [X] (bin j)) : Calls Tryz.prog 24 #[.pointer (some ⟨X, 0, none⟩)] w fun e w' => ∃ A c, e = .returned (.slice A (if (bin j).Size.1 = 0 then 0 else 2 ^ j) c) ∧ Below w.heap.size w w' := by
  obtain ⟨r, k, ks, e⟩ := bin_cons j
  have hl := bin_leaves j
  rw [e] at h hl ⊢
  refine (Yield_calls w X r k ks h).mono ?_
  rintro e w' ⟨v, rfl, ho, hb⟩
  obtain ⟨A, c, rfl, _, _⟩ := Kd.R_reads ho
  refine ⟨A, c, ?_, hb⟩
  have : (F.cons r k ks .nil).Yield.length = if (F.cons r k ks .nil).Size.1 = 0 then 0 else 2 ^ j := by
    unfold F.Yield
    split
    · rfl
    · exact hl
  rw [this]
set_option maxRecDepth 100000 in
set_option maxHeartbeats 4000000 in
theorem deep_walk (w : World) (n : Int) (hn : (Lit.int .i64 n).wf = true) (k : Int) (hk : (Lit.int .i64 k).wf = true) :
    Calls Tryz.prog 5 #[.int .i64 n, .int .i64 k] w fun e w' => e = .returned (.bool true) ∧ Below w.heap.size w w' := by
  clear hn hk
  go_enter Tryz.func5, Tryz.ntmps5
  go_wp2_with fail
  go_at_call 13
  refine (begun_yes _).mono ?_
  rintro e w3 ⟨rfl, hb⟩
  have HB := Aside0.mk hb
  clear hb
  by_cases h0 : n < 1
  · have t0 := decide_eq_true h0
    clear h0
    go_wp2_with fail
    go_ret
    exact ⟨rfl, HB.out⟩
  by_cases h1 : n > 210
  · have t0 := decide_eq_false h0
    have t1 := decide_eq_true h1
    clear h0 h1
    go_wp2_with fail
    go_ret
    exact ⟨rfl, HB.out⟩
  by_cases h2 : k < 1
  · have t0 := decide_eq_false h0
    have t1 := decide_eq_false h1
    have t2 := decide_eq_true h2
    clear h0 h1 h2
    go_wp2_with fail
    go_ret
    exact ⟨rfl, HB.out⟩
  by_cases h3 : k > 14
  · have t0 := decide_eq_false h0
    have t1 := decide_eq_false h1
    have t2 := decide_eq_false h2
    have t3 := decide_eq_true h3
    clear h0 h1 h2 h3
    go_wp2_with fail
    go_ret
    exact ⟨rfl, HB.out⟩
  have t0 := decide_eq_false h0
  have t1 := decide_eq_false h1
  have t2 := decide_eq_false h2
  have t3 := decide_eq_false h3
  obtain ⟨m, rfl⟩ : ∃ m : Nat, k = (m : Int) := ⟨k.toNat, by omega⟩
  have HM : Aside0 (1 ≤ m ∧ m ≤ 14) := ⟨by omega⟩
  have HN : Aside0 (1 ≤ n ∧ n ≤ 210) := ⟨by omega⟩
  clear h0 h1 h2 h3
  go_upto_if 33 with fail
  clear t0 t1 t2 t3
  go_cut [0] (fun v0 wx => ∃ q : Nat, v0 = .int .i64 (q : Int) ∧ 1 ≤ q ∧ q ≤ 5060 ∧ Below w.heap.size w wx)
  case first =>
    by_cases h4 : n > 100
    · have t4 : decide (100 < n) = true := decide_eq_true h4
      rw [t4]
      obtain ⟨q, hq⟩ : ∃ q : Nat, n + 4850 = (q : Int) := ⟨(n + 4850).toNat, by have := HN.out; omega⟩
      have hw : IntKind.i64.wrap (n + 4850) = (q : Int) := by rw [IntKind.wrap_i64]; have := HN.out; omega
      have hw2 : wrap64 (n + 4850) = (q : Int) := by unfold wrap64; have := HN.out; omega
      have HQ : Aside0 (1 ≤ q ∧ q ≤ 5060) := ⟨by have := HN.out; omega⟩
      clear h4 hq
      go_wp2_with fail
      go_meet
      exact ⟨q, rfl, HQ.out.1, HQ.out.2, HB.out⟩
    · have t4 : decide (100 < n) = false := decide_eq_false h4
      rw [t4]
      obtain ⟨q, rfl⟩ : ∃ q : Nat, n = (q : Int) := ⟨n.toNat, by have := HN.out; omega⟩
      clear h4
      go_wp2_with fail
      go_meet
      exact ⟨q, rfl, by have := HN.out; omega, by have := HN.out; omega, HB.out⟩
  case rest =>
    obtain ⟨q, rfl, hq1, hq2, hb⟩ := hcut
    have HQ := Aside0.mk (And.intro hq1 (And.intro hq2 hb))
    clear hb HN HB
    go_wp2_with fail
    go_at_call 30
    refine (Leaf_calls wc 0).mono ?_
    rintro e w4 ⟨rfl, hL, hb4⟩
    have HL := Aside0.mk (And.intro hL.isF (HQ.out.2.2.trans (hb4.mono HQ.out.2.2.size)))
    clear hL hb4
    go_wp2_with fail
    go_loopg [6, 7] (q - 1) (fun kq v6 v7 w' => DRel w q kq v7 v6 w')
    case atStart => exact ⟨0, _, by omega, rfl, rfl, HL.out.1, HL.out.2⟩
    case round =>
      obtain ⟨j, X, hj, rfl, rfl, hf, hb⟩ := hrel
      have HJ := Aside0.mk hj
      have HF := Aside0.mk (And.intro hf hb)
      clear hj hf hb
      by_cases hjl : j + 1 < q
      · have t5 : decide (((j + 1 : Nat) : Int) < (q : Int)) = true := by simp; omega
        have hb5 : Below wr.heap.size wr (wr.alloc (.cells #[.pointer (some ⟨X, 0, none⟩)] 37)) := below_alloc (Below.refl _ _) _
        have C := Aside0.mk (Node_calls _ 1 _ 1 [X] (chain j) (by simp) (C_one wr X) (Nat.le_refl _) (HF.out.1.below hb5 _ _))
        have HB5 := Aside0.mk (HF.out.2.trans (hb5.mono HF.out.2.size))
        clear hb5
        go_wp2_with fail
        go_at_call 31
        refine C.out.mono ?_
        rintro e w6 ⟨Z, hZ, rfl, hf, hb6⟩
        have HR := Aside0.mk (And.intro hf (HB5.out.trans (hb6.mono HB5.out.size)))
        clear hf hb6 hZ C
        go_wp2_with fail
        go_roundg (gk - 1)
        case measure => have := HJ.out; omega
        case rel => exact ⟨j + 1, Z, by have := HJ.out; omega, by go_num, rfl, HR.out.1, HR.out.2⟩
      · have t5 : decide (((j + 1 : Nat) : Int) < (q : Int)) = false := by simp; omega
        have hjq : j + 1 = q := by have := HJ.out; omega
        have C := Aside0.mk (size_chain wr X j HF.out.1)
        rw [chain_size j (by omega), hjq] at C
        go_upto_region 13 with fail
        clear t5 hjl hjq
        go_wp2_with fail
        go_at_call 18
        refine C.out.mono ?_
        rintro e w7 ⟨rfl, hb7⟩
        have HB7 := Aside0.mk (HF.out.2.trans (hb7.mono HF.out.2.size))
        clear hb7 C HF
        go_upto_region 14 with fail
        go_cut [8, 9, 73] (fun v8 v9 v73 wx => v73 = .bool false ∧ Below w.heap.size w wx)
        case first =>
          by_cases h5 : q ≤ 5000
          · rw [if_pos h5]
            have t6 : decide ((q : Int) ≤ 5000) = true := by simp; omega
            have t7 : decide ((q : Int) > 5000) = false := by simp; omega
            go_wp2_with fail
            go_meet
            exact ⟨rfl, HB7.out⟩
          · rw [if_neg h5]
            have t6 : decide ((q : Int) ≤ 5000) = false := by simp; omega
            have t7 : decide ((q : Int) > 5000) = true := by simp; omega
            go_wp2_with fail
            go_meet
            exact ⟨rfl, HB7.out⟩
        case rest =>
          obtain ⟨rfl, hb⟩ := hcut
          have HB8 := Aside0.mk hb
          clear hb HB7
          go_wp2_with fail
          go_at_call 30
          refine (Leaf_calls wc 0).mono ?_
          rintro e w9 ⟨rfl, hL, hb9⟩
          have HL := Aside0.mk (And.intro hL.isF (HB8.out.trans (hb9.mono HB8.out.size)))
          clear hL hb9
          go_wp2_with fail
          go_loopg [10, 11] (m - 1) (fun kq v10 v11 w' => ERel w m kq v11 v10 w')
          case atStart => exact ⟨0, _, by have := HM.out; omega, rfl, rfl, HL.out.1, HL.out.2⟩
          case round =>
            obtain ⟨j, X, hj, rfl, rfl, hf, hb⟩ := hrel
            have HJ := Aside0.mk hj
            have HF := Aside0.mk (And.intro hf hb)
            clear hj hf hb
            by_cases hjl : j + 1 < m
            · have t5 : decide (((j + 1 : Nat) : Int) < (m : Int)) = true := by simp; omega
              have hb5 : Below wr.heap.size wr (wr.alloc (.cells #[.pointer (some ⟨X, 0, none⟩), .pointer (some ⟨X, 0, none⟩)] 37)) := below_alloc (Below.refl _ _) _
              have C := Aside0.mk (Node_calls _ 1 _ 2 [X, X] ((bin j).app (bin j)) (by simp) (C_two wr X) (Nat.le_refl _) (IsF.app _ _ [X] [X] (HF.out.1.below hb5 _ _) (HF.out.1.below hb5 _ _)))
              have HB5 := Aside0.mk (HF.out.2.trans (hb5.mono HF.out.2.size))
              have hm14 := HM.out
              clear hb5
              go_wp2_with fail
              go_at_call 31
              refine C.out.mono ?_
              rintro e w6 ⟨Z, hZ, rfl, hf, hb6⟩
              have HR := Aside0.mk (And.intro hf (HB5.out.trans (hb6.mono HB5.out.size)))
              clear hf hb6 hZ C
              go_wp2_with fail
              go_roundg (gk - 1)
              case measure => have := HJ.out; omega
              case rel => exact ⟨j + 1, Z, by have := HJ.out; omega, by go_num, rfl, HR.out.1, HR.out.2⟩
            · have t5 : decide (((j + 1 : Nat) : Int) < (m : Int)) = false := by simp; omega
              have hjm : m = j + 1 := by have := HJ.out; omega
              have C := Aside0.mk (size_bin wr X j HF.out.1)
              have CY : Aside0 (∀ w', Below wr.heap.size wr w' → Calls Tryz.prog 24 #[.pointer (some ⟨X, 0, none⟩)] w' fun e w'' => ∃ A c, e = .returned (.slice A (if (bin j).Size.1 = 0 then 0 else 2 ^ j) c) ∧ Below w'.heap.size w' w'') := ⟨fun w' hb => yield_bin w' X j (HF.out.1.below hb _ _)⟩
              have HB9 := Aside0.mk HF.out.2
              have hj13 : j = 0 ∨ j = 1 ∨ j = 2 ∨ j = 3 ∨ j = 4 ∨ j = 5 ∨ j = 6 ∨ j = 7 ∨ j = 8 ∨ j = 9 ∨ j = 10 ∨ j = 11 ∨ j = 12 ∨ j = 13 := by have := HM.out; omega
              subst hjm
              clear HF HJ HM HL HB8 HQ
              rcases hj13 with rfl | rfl | rfl | rfl | rfl | rfl | rfl | rfl | rfl | rfl | rfl | rfl | rfl | rfl
              all_goals
                simp [bin_size] at C CY
                go_wp2_with fail
                go_at_call 18
                refine C.out.mono ?_
                rintro e w7 ⟨rfl, hb7⟩
                have HB10 := Aside0.mk hb7
                clear hb7
                go_wp2_with fail
                go_at_call 24
                refine (CY.out _ HB10.out).mono ?_
                rintro e w8 ⟨⟨A, c, rfl⟩, hb8⟩
                have HB11 := Aside0.mk (HB9.out.trans ((HB10.out.trans (hb8.mono HB10.out.size)).mono HB9.out.size))
                clear hb8
                go_wp2_with fail
                go_ret
                exact ⟨rfl, HB11.out⟩
end Go.Proofs.YtjhemobplcelbaaGreatDoor.T
