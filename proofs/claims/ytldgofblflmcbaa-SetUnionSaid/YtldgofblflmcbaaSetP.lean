/- oset: donatuslaw3.SetUnion answers true. -/
import Derived.Test.YtldgofblflmcbaaSetO
import Derived.Deep.RegionHeld3
import Derived.Deep.CutBlock
import Derived.Deep.DeepCutAuto
namespace Go.Proofs.Ytldgofblflmcbaa.S
open Go.RowKit Go.Proofs.YtldgofblflmcbaaW.PrintWords Go.Proofs.YtldgofblflmcbaaW.PrintLast Go.Proofs.YtldgofblflmcbaaW.PrintMore
set_option linter.unusedVariables false
set_option linter.unusedSimpArgs false
theorem adds_ext {l m ys zs : List Int} (hl : Up cI l) (hm : Up cI m) (h : ∀ x, (x ∈ l ∨ x ∈ ys) ↔ (x ∈ m ∨ x ∈ zs)) : I9.adds l ys = I9.adds m zs :=
  up_ext (down := false) (I9.adds_up hl ys) (I9.adds_up hm zs) (fun x => by rw [mem_adds hl, mem_adds hm]; exact h x)
theorem adds_of {l m ys : List Int} (hl : Up cI l) (hm : Up cI m) (h : ∀ x, (x ∈ l ∨ x ∈ ys) ↔ x ∈ m) : I9.adds l ys = m :=
  up_ext (down := false) (I9.adds_up hl ys) hm (fun x => by rw [mem_adds hl]; exact h x)
def U1 (w : World) (g1 g2 : Nat) (a : List Int) (n : Nat) (kq : Nat) (v8 v10 v11 : Value) (w' : World) : Prop :=
  ∃ i : Nat, i + kq = n ∧ v11 = .int .i64 (i : Int) ∧ Tw w w' g1 (I9.adds [] (a.take i)) g2 [] v8 (I9.adds [] (a.take i)) (.slice none 0 0) [] v10 (I9.adds [] (a.take i))
def U2 (w : World) (g1 g2 : Nat) (xs b : List Int) (v8 : Value) (n : Nat) (kq : Nat) (v9 v10 v12 : Value) (w' : World) : Prop :=
  ∃ i : Nat, i + kq = n ∧ v12 = .int .i64 (i : Int) ∧ Tw w w' g1 xs g2 (I9.adds [] (b.take i)) v8 xs v9 (I9.adds [] (b.take i)) v10 (I9.adds xs (b.take i))
def C1 (w : World) (g1 g2 : Nat) (v8 v10 : Value) (w' : World) : Prop :=
  ∃ X : List Int, X.length ≤ 30 ∧ Tw w w' g1 X g2 [] v8 X (.slice none 0 0) [] v10 X
def C2 (w : World) (g1 g2 : Nat) (X : List Int) (v8 v9 v10 : Value) (w' : World) : Prop :=
  ∃ Y Z : List Int, Y.length ≤ 30 ∧ Z.length ≤ 60 ∧ I9.adds X Y = Z ∧ I9.adds Y Z = Z ∧ I9.adds Z Z = Z ∧ Tw w w' g1 X g2 Y v8 X v9 Y v10 Z
def U3 (w : World) (n : Nat) (kq : Nat) (v13 : Value) (w' : World) : Prop := ∃ i : Nat, i + kq = n ∧ v13 = .int .i64 (i : Int) ∧ w' = w
set_option maxHeartbeats 16000000 in
set_option maxRecDepth 100000 in
theorem Union_calls (w : World) (A0 : Option Addr) (c0 : Nat) (a : List Int) (hr0 : Kd.C (Kd.int .i64) w A0 a.length a) (le0 : a.length ≤ c0) (ok0 : a.length ≤ maxLen ∧ a.length * 8 ≤ 140737488351232 ∧ ∀ x ∈ a, (Lit.int .i64 x).wf = true)
    (A1 : Option Addr) (c1 : Nat) (b : List Int) (hr1 : Kd.C (Kd.int .i64) w A1 b.length b) (le1 : b.length ≤ c1) (ok1 : b.length ≤ maxLen ∧ b.length * 8 ≤ 140737488351232 ∧ ∀ x ∈ b, (Lit.int .i64 x).wf = true) :
    Calls Try.prog 7 #[.slice A0 a.length c0, .slice A1 b.length c1] w fun e w' => e = .returned (.bool true) ∧ Below w.heap.size w w' := by
  have hla : a.length ≤ 17592186044416 := by have := ok0.2.1; omega
  have hlb : b.length ≤ 17592186044416 := by have := ok1.2.1; omega
  have HR0 := Aside0.mk hr0
  have HR1 := Aside0.mk hr1
  clear hr0 ok0 hr1 ok1
  go_enter Try.func7, Try.ntmps7
  go_wp2_with fail
  go_at_call 8
  refine (begun_calls _).mono ?_
  rintro e w1 ⟨rfl, hb⟩
  have HB := Aside0.mk hb
  clear hb
  go_wp2_with fail
  go_at_call 11
  refine (I9.new_calls _).mono ?_
  rintro e w2 ⟨g1, F1, rfl, hs1, hb1, hf1⟩
  have HS1 := Aside0.mk hs1
  have HB1 := Aside0.mk hb1
  have HF1 := Aside0.mk hf1
  clear hs1 hb1 hf1
  go_wp2_with fail
  go_at_call 11
  refine (I9.new_calls _).mono ?_
  rintro e w3 ⟨g2, F2, rfl, hs2, hb2, hf2⟩
  have hz1 := HB.out.size
  have hz2 := HB1.out.size
  have HT : Aside0 (Tw w w3 g1 [] g2 [] (.slice none 0 0) [] (.slice none 0 0) [] (.slice none 0 0) []) :=
    ⟨⟨F1, F2, fun _ => False, HS1.out.below hb2, hs2, fun k hk => Nat.le_trans hz1 (HF1.out k hk), fun k hk => Nat.le_trans hz1 (Nat.le_trans hz2 (hf2 k hk)), fun k h1 h2 => by have := HS1.out.lt k h1; have := hf2 k h2; omega, VI.nil _, VI.nil _, VI.nil _, fun _ _ h => h, fun _ _ h => h, fun _ h => h.elim⟩, List.Pairwise.nil, List.Pairwise.nil, (HB.out.trans (HB1.out.mono hz1)).trans (hb2.mono (Nat.le_trans hz1 hz2)), by simp, by simp⟩
  clear hs2 hb2 hf2 HS1 HB1 HF1 HB hz1 hz2
  go_upto_block 0 with fail
  go_cut [8, 10] (fun v8 v10 wx => C1 w g1 g2 v8 v10 wx)
  case first =>
    go_wp2_with fail
    go_loopg [8, 10, 11] (min a.length 30) (fun kq v8 v10 v11 w' => U1 w g1 g2 a (min a.length 30) kq v8 v10 v11 w')
    case atStart => exact ⟨0, by omega, rfl, HT.out⟩
    case round =>
      obtain ⟨i, hi, rfl, hT⟩ := hrel
      clear HT
      obtain ⟨X, hX⟩ : ∃ X, X = I9.adds [] (a.take i) := ⟨_, rfl⟩
      have htl : (a.take i).length ≤ i := by rw [List.length_take]; omega
      have hXl : X.length ≤ i := by rw [hX]; have := (I9.adds_len [] (a.take i)).2; simp only [List.length_nil] at this; omega
      have hi30 : i ≤ 30 := by omega
      rw [← hX] at hT
      obtain ⟨⟨A8, c8, rfl⟩, _, ⟨A10, c10, rfl⟩⟩ := hT.slices
      have HI := Aside0.mk hi
      have HT := Aside0.mk hT
      have HX := Aside0.mk hX
      clear hi hT hX htl
      by_cases hlt : i < a.length ∧ i < 30
      · obtain ⟨hlt1, hlt2⟩ := hlt
        have t1 : decide ((i : Int) < (a.length : Int)) = true := by simp; omega
        have t2 : decide ((i : Int) < 30) = true := by simp; omega
        have hi0 : (0 : Int) ≤ (i : Int) := by omega
        have hi1 : (i : Int) < (a.length : Int) := by omega
        obtain ⟨ad, e1, hx⟩ := at_int (Kd.C_below HR0.out HT.out.below) i hlt1 rfl
        subst e1
        have hsn : I9.adds [] (a.take (i + 1)) = S.add cI a[i] X := by rw [List.take_succ_eq_append_getElem hlt1, I9.adds_snoc, ← HX.out]
        have HSN := Aside0.mk hsn
        clear hsn
        go_wp2_with fail
        go_at_call 13
        refine (HT.out.add a[i] (by omega)).mono ?_
        rintro e w4 ⟨⟨r, rfl⟩, hT4⟩
        have HT4 := Aside0.mk hT4
        have hx4 : w4.cell? (ad.add i) = some (.int .i64 a[i]) := by
          obtain ⟨ad', e2, hx'⟩ := at_int (Kd.C_below HR0.out hT4.below) i hlt1 rfl
          obtain rfl : ad = ad' := by injection e2
          exact hx'
        clear hT4 hx HT
        go_wp2_with fail
        go_region_held3 (fun w' => w'.cell? (ad.add i) = some (.int .i64 a[i]))
          (first | exact (hb5.cell (World.block_lt_of_cell? _ _ hx4)).trans hx4 | exact (hb6.cell (World.block_lt_of_cell? _ _ hx5)).trans hx5 | go_keep)
          (first
            | (go_at_call 14; with_reducible refine (hT5.in3 a[i] (by omega)).mono ?_; rintro e w6 ⟨v6, rfl, hT6, hb6⟩)
            | (go_at_call 14; refine ((HT4.out.move (below_drew (Below.refl _ _))).in1 a[i] (by omega)).mono ?_; rintro e w5 ⟨v5, rfl, hT5, hb5⟩; have hx5 := (hb5.cell (World.block_lt_of_cell? _ _ hx4)).trans hx4))
        have HT6 := Aside0.mk hT6
        clear hT6 hb6 hT5 hb5 hx5 hx4 HT4
        go_wp2_with fail
        go_roundg (gk - 1)
        case measure => have := HI.out; omega
        case rel => exact ⟨i + 1, by have := HI.out; omega, by go_num, by rw [HSN.out]; exact HT6.out⟩
      · have hnt : (i < a.length → ¬ i < 30) := fun h1 h2 => hlt ⟨h1, h2⟩
        clear hlt
        by_cases hil : i < a.length
        all_goals
          first
            | have t1 : decide ((i : Int) < (a.length : Int)) = true := by simp; omega
            | have t1 : decide ((i : Int) < (a.length : Int)) = false := by simp; omega
          try have t2 : decide ((i : Int) < 30) = false := by have := hnt hil; simp; omega
          clear hnt HI HX
          go_wp2_with fail
          go_meet
          exact ⟨X, by omega, HT.out⟩
  case rest =>
    clear HT
    obtain ⟨X, hXn, hT⟩ := hcut
    obtain ⟨⟨A8, c8, rfl⟩, _, ⟨A10, c10, rfl⟩⟩ := hT.slices
    have HT := Aside0.mk hT
    have HXU := Aside0.mk hT.u1
    clear hT
    go_upto_block 2 with fail
    go_cut [9, 10] (fun v9 v10 wx => C2 w g1 g2 X (.slice A8 X.length c8) v9 v10 wx)
    case first =>
      go_wp2_with fail
      go_loopg [9, 10, 12] (min b.length 30) (fun kq v9 v10 v12 w' => U2 w g1 g2 X b (.slice A8 X.length c8) (min b.length 30) kq v9 v10 v12 w')
      case atStart => exact ⟨0, by omega, rfl, HT.out⟩
      case round =>
        obtain ⟨j, hj, rfl, hT⟩ := hrel
        clear HT
        obtain ⟨Y, hY⟩ : ∃ Y, Y = I9.adds [] (b.take j) := ⟨_, rfl⟩
        obtain ⟨Z, hZ⟩ : ∃ Z, Z = I9.adds X (b.take j) := ⟨_, rfl⟩
        have htl : (b.take j).length ≤ j := by rw [List.length_take]; omega
        have hYl : Y.length ≤ j := by rw [hY]; have := (I9.adds_len [] (b.take j)).2; simp only [List.length_nil] at this; omega
        have hZl : Z.length ≤ 30 + j := by rw [hZ]; have := (I9.adds_len X (b.take j)).2; omega
        have hj30 : j ≤ 30 := by omega
        rw [← hY, ← hZ] at hT
        obtain ⟨_, ⟨A9, c9, rfl⟩, ⟨A10, c10, rfl⟩⟩ := hT.slices
        have HJ := Aside0.mk hj
        have HT := Aside0.mk hT
        have HY := Aside0.mk hY
        have HZ := Aside0.mk hZ
        clear hj hT hY hZ htl
        by_cases hlt : j < b.length ∧ j < 30
        · obtain ⟨hlt1, hlt2⟩ := hlt
          have t3 : decide ((j : Int) < (b.length : Int)) = true := by simp; omega
          have t4 : decide ((j : Int) < 30) = true := by simp; omega
          have hj0 : (0 : Int) ≤ (j : Int) := by omega
          have hj1 : (j : Int) < (b.length : Int) := by omega
          obtain ⟨ad, e1, hx⟩ := at_int (Kd.C_below HR1.out HT.out.below) j hlt1 rfl
          subst e1
          have hsn : I9.adds [] (b.take (j + 1)) = S.add cI b[j] Y := by rw [List.take_succ_eq_append_getElem hlt1, I9.adds_snoc, ← HY.out]
          have hsn2 : I9.adds X (b.take (j + 1)) = S.add cI b[j] Z := by rw [List.take_succ_eq_append_getElem hlt1, I9.adds_snoc, ← HZ.out]
          have HSN := Aside0.mk hsn
          have HSN2 := Aside0.mk hsn2
          clear hsn hsn2
          go_wp2_with fail
          go_at_call 13
          refine (HT.out.swap.add b[j] (by omega)).mono ?_
          rintro e w4 ⟨⟨r, rfl⟩, hT4'⟩
          have hT4 := hT4'.swap
          have HT4 := Aside0.mk hT4
          have hx4 : w4.cell? (ad.add j) = some (.int .i64 b[j]) := by
            obtain ⟨ad', e2, hx'⟩ := at_int (Kd.C_below HR1.out hT4.below) j hlt1 rfl
            obtain rfl : ad = ad' := by injection e2
            exact hx'
          clear hT4 hT4' hx HT
          go_wp2_with fail
          go_region_held3 (fun w' => w'.cell? (ad.add j) = some (.int .i64 b[j]))
            (first | exact (hb5.cell (World.block_lt_of_cell? _ _ hx4)).trans hx4 | exact (hb6.cell (World.block_lt_of_cell? _ _ hx5)).trans hx5 | go_keep)
            (first
              | (go_at_call 14; with_reducible refine (hT5.in3 b[j] (by omega)).mono ?_; rintro e w6 ⟨v6, rfl, hT6, hb6⟩)
              | (go_at_call 14; refine ((HT4.out.move (below_drew (Below.refl _ _))).in2 b[j] (by omega)).mono ?_; rintro e w5 ⟨v5, rfl, hT5, hb5⟩; have hx5 := (hb5.cell (World.block_lt_of_cell? _ _ hx4)).trans hx4))
          have HT6 := Aside0.mk hT6
          clear hT6 hb6 hT5 hb5 hx5 hx4 HT4
          go_wp2_with fail
          go_roundg (gk - 1)
          case measure => have := HJ.out; omega
          case rel => exact ⟨j + 1, by have := HJ.out; omega, by go_num, by rw [HSN.out, HSN2.out]; exact HT6.out⟩
        · have hnt : (j < b.length → ¬ j < 30) := fun h1 h2 => hlt ⟨h1, h2⟩
          clear hlt
          have hYu : Up cI Y := HT.out.u2
          have hZu : Up cI Z := by rw [HZ.out]; exact I9.adds_up HXU.out _
          have hmY : ∀ x, x ∈ Y ↔ x ∈ b.take j := fun x => by rw [HY.out, mem_adds List.Pairwise.nil]; simp
          have hmZ : ∀ x, x ∈ Z ↔ (x ∈ X ∨ x ∈ b.take j) := fun x => by rw [HZ.out, mem_adds HXU.out]
          have E1 : Aside0 (I9.adds X Y = Z) := ⟨adds_of HXU.out hZu (fun x => by rw [hmZ, hmY])⟩
          have E2 : Aside0 (I9.adds Y Z = Z) := ⟨adds_of hYu hZu (fun x => by rw [hmZ, hmY]; constructor; (rintro (h | h); exact .inr h; exact h); exact .inr)⟩
          have E3 : Aside0 (I9.adds Z Z = Z) := ⟨adds_of hZu hZu (fun x => by constructor; (rintro (h | h) <;> exact h); exact .inl)⟩
          clear hYu hZu hmY hmZ
          by_cases hjl : j < b.length
          all_goals
            first
              | have t3 : decide ((j : Int) < (b.length : Int)) = true := by simp; omega
              | have t3 : decide ((j : Int) < (b.length : Int)) = false := by simp; omega
            try have t4 : decide ((j : Int) < 30) = false := by have := hnt hjl; simp; omega
            clear hnt HJ HY HZ
            go_wp2_with fail
            go_meet
            exact ⟨Y, Z, by omega, by omega, E1.out, E2.out, E3.out, HT.out⟩
    case rest =>
      clear HT
      obtain ⟨Y, Z, hYn, hZn, e1, e2, e3, hT⟩ := hcut
      obtain ⟨_, ⟨A9, c9, rfl⟩, ⟨A10, c10, rfl⟩⟩ := hT.slices
      have HT := Aside0.mk hT
      have E1 := Aside0.mk e1
      have E2 := Aside0.mk e2
      have E3 := Aside0.mk e3
      clear hT e1 e2 e3
      obtain ⟨p, hp⟩ : ∃ p, decide (X.length < Z.length) = p := ⟨_, rfl⟩
      obtain ⟨q, hq⟩ : ∃ q, decide (Y.length < Z.length) = q := ⟨_, rfl⟩
      have hp2 : decide ((Z.length : Int) > (X.length : Int)) = p := by rw [← hp]; exact decide_eq_decide.2 (by omega)
      have hq2 : decide ((Z.length : Int) > (Y.length : Int)) = q := by rw [← hq]; exact decide_eq_decide.2 (by omega)
      have HP := Aside0.mk hp
      have HQ := Aside0.mk hq
      go_wp2_with fail
      go_at_call 16
      refine (HT.out.union E1.out HP.out (by omega)).mono ?_
      rintro e w4 ⟨rfl, hT4⟩
      have HT4 := Aside0.mk hT4
      clear hT4 HT
      go_wp2_with (go_at_call 19; first | ((with_reducible refine HT4.out.len1.mono ?_); rintro e w' ⟨rfl, hw⟩; obtain rfl := hw.symm) | ((with_reducible refine HT4.out.swap.len1.mono ?_); rintro e w' ⟨rfl, hw⟩; obtain rfl := hw.symm))
      go_at_call 16
      refine (HT4.out.swap.union E2.out HQ.out (by omega)).mono ?_
      rintro e w5 ⟨rfl, hT5'⟩
      have HT5 := Aside0.mk hT5'.swap
      clear hT5' HT4
      go_wp2_with fail
      go_at_call 16
      refine (HT5.out.union1 E3.out).mono ?_
      rintro e w6 ⟨rfl, hT6⟩
      have HT6 := Aside0.mk hT6
      clear hT6 HT5
      go_wp2_with fail
      go_loopg [13] Z.length (fun kq v13 w' => U3 w6 Z.length kq v13 w')
      case atStart => exact ⟨0, by omega, rfl, rfl⟩
      case round =>
        obtain ⟨k, hk, rfl, rfl⟩ := hrel
        have HK := Aside0.mk hk
        clear hk
        by_cases hkz : k < Z.length
        · have t5 : decide ((k : Int) < (Z.length : Int)) = true := by simp; omega
          have hk0 : (0 : Int) ≤ (k : Int) := by omega
          have hk1 : (k : Int) < (Z.length : Int) := by omega
          obtain ⟨ad, e1, hx⟩ := at_int HT6.out.reads3.2.2 k hkz rfl
          subst e1
          have h1 := HT6.out.at1 (k : Int)
          have h2 := HT6.out.swap.at1 (k : Int)
          rw [if_pos (by omega), decide_eq_true (by omega), Int.toNat_natCast, List.getD_eq_getElem?_getD, List.getElem?_eq_getElem hkz] at h1 h2
          have H1 := Aside0.mk h1
          have H2 := Aside0.mk h2
          clear h1 h2
          go_wp2_with (go_at_call 18; first | ((with_reducible refine H1.out.mono ?_); rintro e w' ⟨rfl, hw⟩; obtain rfl := hw.symm) | ((with_reducible refine H2.out.mono ?_); rintro e w' ⟨rfl, hw⟩; obtain rfl := hw.symm))
          go_roundg (gk - 1)
          case measure => have := HK.out; omega
          case rel => exact ⟨k + 1, by have := HK.out; omega, by go_num, rfl⟩
        · have t5 : decide ((k : Int) < (Z.length : Int)) = false := by simp; omega
          go_wp2_with fail
          go_ret
          exact ⟨rfl, HT6.out.below⟩
end Go.Proofs.Ytldgofblflmcbaa.S
