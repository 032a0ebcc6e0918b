/- oset: the methods of a set of whole numbers, by compare. -/
import Derived.Test.YtldgofblflmcbaaSetD
import Derived.Deep.RegionHeld3
import Derived.Deep.RegionLaw
namespace Go.Proofs.Ytldgofblflmcbaa.S
open Go.RowKit Go.Proofs.YtldgofblflmcbaaW.PrintWords Go.Proofs.YtldgofblflmcbaaW.PrintLast Go.Proofs.YtldgofblflmcbaaW.PrintMore
set_option linter.unusedVariables false
set_option linter.unusedSimpArgs false
theorem at_pair {w : World} {A : Option Addr} {n : Nat} {xs : List P44} (h : Kd.C k44 w A n xs) (i : Nat) (hi : i < xs.length) (hn : n = xs.length) : ∃ ad, A = some ad ∧ w.cell? (ad.add (i * 2)) = some (.int .i64 xs[i].key) ∧ w.cell? ⟨(ad.add (i * 2)).block, (ad.add (i * 2)).off + 1, none⟩ = some (.int .i64 xs[i].sign) := by
  obtain ⟨ad, cs, e, _, hK, hc⟩ := Kd.C_get h ⟨0, 0⟩ (i : Int) (by omega) (by omega)
  have hcs : cs = [.int .i64 (xs.getD (i : Int).toNat ⟨0, 0⟩).key, .int .i64 (xs.getD (i : Int).toNat ⟨0, 0⟩).sign] := by
    obtain ⟨_, _, rfl, rfl, rfl⟩ := hK
    rfl
  subst hcs
  have hd : xs.getD (i : Int).toNat ⟨0, 0⟩ = xs[i] := by rw [Int.toNat_natCast, List.getD_eq_getElem?_getD, List.getElem?_eq_getElem hi]; rfl
  rw [hd] at hc
  have h0 := hc 0 _ rfl
  have h1 := hc 1 _ rfl
  rw [Int.toNat_natCast, show k44.sz = 2 from rfl] at h0 h1
  refine ⟨ad, e, h0, ?_⟩
  rw [← add_field _ _ 1 (by omega)]
  exact h1
set_option maxHeartbeats 1000000 in
theorem cmpP_calls (a b : P44) (w : World) : Calls Try.prog 24 #[.agg #[.int .i64 a.key, .int .i64 a.sign], .agg #[.int .i64 b.key, .int .i64 b.sign]] w fun e w' => e = .returned (.int .i64 (cP a b)) ∧ Below w.heap.size w w' := by
  obtain ⟨a0, a1⟩ := a
  obtain ⟨b0, b1⟩ := b
  unfold cP
  dsimp only
  go_enter Try.func24, Try.ntmps24
  go_wp2_with (go_at_call 9; refine (compare_calls _ _ _).mono ?_; rintro e w' ⟨rfl, hw⟩; obtain rfl := hw.symm)
  go_ret
  exact ⟨rfl, ((Below.refl _ _).alloc (Nat.le_refl _) _).alloc (by rw [World.size_alloc]; omega) _⟩
namespace PP
/-- The order. -/
abbrev Fn : Value := .func (.func 24) #[] #[]
/-- Such a set. -/
abbrev St (w : World) (g : Nat) (F : Nat → Prop) (xs : List P44) : Prop := SF k44 44 64 (.func (.func 24) #[] #[]) w g F xs
abbrev Aft (w : World) (g : Nat) (F : Nat → Prop) (xs : List P44) (r : Value) (en : Ending) (w' : World) : Prop := After k44 44 64 (.func (.func 24) #[] #[]) w g F xs r en w'

theorem new_calls (w : World) : Calls Try.prog 23 #[.func (.func 24) #[] #[]] w fun e w' => ∃ g F, e = .returned (.pointer (some ⟨g, 0, none⟩)) ∧ St w' g F [] ∧ Below w.heap.size w w' ∧ ∀ k, F k → w.heap.size ≤ k := by
  have hnf : ∀ w, Sem.run Try.prog (binOp BinOp.eql 45 (.func (.func 24) #[] #[]) .nilFunc) w = .ok (.bool false) w := fun _ => by kernel_rfl
  go_enter Try.func23, Try.ntmps23
  go_wp2_with fail
  go_ret
  refine ⟨w.heap.size, fun k => k = w.heap.size, rfl, ⟨⟨.slice none 0 0, heap_alloc_new w _, Row.nil _ _ _ _, fun k hk => by simp [own, Value.ownBlock] at hk⟩, rfl, fun k hk => by rw [World.size_alloc]; omega⟩, (Below.refl _ _).alloc (Nat.le_refl _) _, fun k hk => by omega⟩
theorem off_calls (g : Nat) (v : Value) (w : World) (h0 : w.cell? ⟨g, 0, none⟩ = some (.func (.func 24) #[] #[])) : Calls Try.prog 39 #[.pointer (some ⟨g, 0, none⟩)] w fun e w' => e = .returned (.bool false) ∧ w' = w := by
  have hnf : ∀ w, Sem.run Try.prog (binOp BinOp.eql 45 (.func (.func 24) #[] #[]) .nilFunc) w = .ok (.bool false) w := fun _ => by kernel_rfl
  go_enter Try.func39, Try.ntmps39
  go_wp2_with fail
  go_ret
  exact ⟨rfl, rfl⟩


def PRel (x : P44) (l : List P44) (w : World) (kq : Nat) (v9 v10 : Value) (w' : World) : Prop :=
  ∃ i j : Nat, j - i ≤ kq ∧ v9 = .int .i64 (i : Int) ∧ v10 = .int .i64 (j : Int) ∧ Srch cP x l i j ∧ Below w.heap.size w w' ∧ w.heap.size < w'.heap.size ∧ w'.cell? ⟨w.heap.size, 0, none⟩ = some (.int .i64 x.key) ∧ w'.cell? ⟨w.heap.size, 1, none⟩ = some (.int .i64 x.sign)
set_option maxHeartbeats 4000000 in
theorem search_calls (x : P44) (l : List P44) (hf : Fits cP x l) (A : Option Addr) (cp : Nat) (w : World) (hl : l.length ≤ 1000000) (hr : Kd.C k44 w A l.length l) (hcp : l.length ≤ cp) :
    Calls Try.prog 49 #[.slice A l.length cp, .agg #[.int .i64 x.key, .int .i64 x.sign], .func (.func 24) #[] #[]] w fun e w' => e = .returned (.tuple #[.int .i64 (lo cP x l : Int), .bool (hit cP x l)]) ∧ Below w.heap.size w w' := by
  have HR := Aside0.mk hr
  clear hr
  go_enter Try.func49, Try.ntmps49
  go_wp2_with fail
  go_loopg [9, 10] l.length (fun kq v9 v10 w' => PRel x l w kq v9 v10 w')
  case atStart => exact ⟨0, l.length, by omega, rfl, rfl, Srch.start cP x l, (Below.refl _ _).alloc (Nat.le_refl _) _, by rw [World.size_alloc]; omega, by simp [go_sem], by simp [go_sem]⟩
  case round =>
    obtain ⟨i, j, hk, rfl, rfl, hs, hb, hz, x0, x1⟩ := hrel
    have HK := Aside0.mk hk
    have HS := Aside0.mk hs
    have HB := Aside0.mk hb
    have X0 := Aside0.mk x0
    have X1 := Aside0.mk x1
    have h1 := hs.le
    have h2 := hs.top
    clear hk hs hb x0 x1
    generalize hX : w.heap.size = X at *
    by_cases hij : i < j
    · have t1 : decide ((i : Int) < (j : Int)) = true := by simp; omega
      obtain ⟨h, hh, hh1, hh2⟩ : ∃ h : Nat, ((i : Int) + (j : Int)) / 2 = (h : Int) ∧ i ≤ h ∧ h < j := ⟨(i + j) / 2, by omega, by omega, by omega⟩
      obtain ⟨ad, e1, y0, y1⟩ := at_pair (Kd.C_below HR.out (by rw [hX]; exact HB.out)) h (by omega) rfl
      subst e1
      have hah : (0 : Int) ≤ (h : Int) := by omega
      have hal : (h : Int) < (l.length : Int) := by omega
      have hkp : ∀ {W W' : World}, Below W.heap.size W W' → ∀ {a : Addr} {u : Value}, W.cell? a = some u → W'.cell? a = some u := fun hb a u hu => (hb.cell (World.block_lt_of_cell? _ _ hu)).trans hu
      have HKP := @hkp
      clear hkp
      have x0 := X0.out
      have x1 := X1.out
      by_cases hy : cP l[h] x < 0
      · have t2 : decide (cP l[h] x < 0) = true := decide_eq_true hy
        have H2 := Aside0.mk (HS.out.up hf hh2 (by omega) hy)
        clear hy
        go_wp2_with fail
        go_region_held3 (fun w' => w'.cell? (ad.add (h * 2)) = some (.int .i64 l[h].key) ∧ w'.cell? ⟨(ad.add (h * 2)).block, (ad.add (h * 2)).off + 1, none⟩ = some (.int .i64 l[h].sign) ∧ w'.cell? ⟨X, 0, none⟩ = some (.int .i64 x.key) ∧ w'.cell? ⟨X, 1, none⟩ = some (.int .i64 x.sign))
          (first | exact ⟨HKP hb5 y0, HKP hb5 y1, HKP hb5 x0, HKP hb5 x1⟩ | go_keep)
          (first | (go_at_call 24; refine (cmpP_calls l[h] x _).mono ?_; rintro e w5 ⟨rfl, hb5⟩))
        have hb6 := hb5
        have HB5 := Aside0.mk hb6
        clear hb5 hb6
        go_wp2_with fail
        go_roundg (gk - 1)
        case measure => have := HK.out; omega
        case rel =>
          have hw5 := HB5.out.size
          exact ⟨h + 1, j, by have := HK.out; omega, by go_num, rfl, H2.out, by rw [hX]; exact HB.out.trans ((below_drew (Below.refl _ _)).trans HB5.out |>.mono (by show X ≤ wr.heap.size; omega)), by rw [hX]; exact Nat.lt_of_lt_of_le hz hw5, by rw [hX]; exact HKP HB5.out (by rw [World.cell?_drew]; exact X0.out), by rw [hX]; exact HKP HB5.out (by rw [World.cell?_drew]; exact X1.out)⟩
      · have t2 : decide (cP l[h] x < 0) = false := decide_eq_false hy
        have H2 := Aside0.mk (HS.out.down hf hh1 hh2 (by omega) hy)
        clear hy
        go_wp2_with fail
        go_region_held3 (fun w' => w'.cell? (ad.add (h * 2)) = some (.int .i64 l[h].key) ∧ w'.cell? ⟨(ad.add (h * 2)).block, (ad.add (h * 2)).off + 1, none⟩ = some (.int .i64 l[h].sign) ∧ w'.cell? ⟨X, 0, none⟩ = some (.int .i64 x.key) ∧ w'.cell? ⟨X, 1, none⟩ = some (.int .i64 x.sign))
          (first | exact ⟨HKP hb5 y0, HKP hb5 y1, HKP hb5 x0, HKP hb5 x1⟩ | go_keep)
          (first | (go_at_call 24; refine (cmpP_calls l[h] x _).mono ?_; rintro e w5 ⟨rfl, hb5⟩))
        have hb6 := hb5
        have HB5 := Aside0.mk hb6
        clear hb5 hb6
        go_wp2_with fail
        go_roundg (gk - 1)
        case measure => have := HK.out; omega
        case rel =>
          have hw5 := HB5.out.size
          exact ⟨i, h, by have := HK.out; omega, rfl, by go_num, H2.out, by rw [hX]; exact HB.out.trans ((below_drew (Below.refl _ _)).trans HB5.out |>.mono (by show X ≤ wr.heap.size; omega)), by rw [hX]; exact Nat.lt_of_lt_of_le hz hw5, by rw [hX]; exact HKP HB5.out (by rw [World.cell?_drew]; exact X0.out), by rw [hX]; exact HKP HB5.out (by rw [World.cell?_drew]; exact X1.out)⟩
    · obtain rfl : i = j := by omega
      have HL := Aside0.mk HS.out.done
      have t1 : decide ((i : Int) < (i : Int)) = false := by simp
      have hkp : ∀ {W W' : World}, Below W.heap.size W W' → ∀ {a : Addr} {u : Value}, W.cell? a = some u → W'.cell? a = some u := fun hb a u hu => (hb.cell (World.block_lt_of_cell? _ _ hu)).trans hu
      have HKP := @hkp
      clear hkp
      have x0 := X0.out
      have x1 := X1.out
      by_cases hil : i < l.length
      · have t2 : decide ((i : Int) < (l.length : Int)) = true := by simp; omega
        obtain ⟨ad, e1, y0, y1⟩ := at_pair (Kd.C_below HR.out (by rw [hX]; exact HB.out)) i (by omega) rfl
        subst e1
        have hah : (0 : Int) ≤ (i : Int) := by omega
        have hal : (i : Int) < (l.length : Int) := by omega
        go_wp2_with fail
        go_region_held3 (fun w' => w'.cell? (ad.add (i * 2)) = some (.int .i64 l[i].key) ∧ w'.cell? ⟨(ad.add (i * 2)).block, (ad.add (i * 2)).off + 1, none⟩ = some (.int .i64 l[i].sign) ∧ w'.cell? ⟨X, 0, none⟩ = some (.int .i64 x.key) ∧ w'.cell? ⟨X, 1, none⟩ = some (.int .i64 x.sign))
          (first | exact ⟨HKP hb5 y0, HKP hb5 y1, HKP hb5 x0, HKP hb5 x1⟩ | go_keep)
          (first | (go_at_call 24; refine (cmpP_calls l[i] x _).mono ?_; rintro e w5 ⟨rfl, hb5⟩))
        have hb6 := hb5
        have HB5 := Aside0.mk hb6
        clear hb5 hb6
        go_wp2_with fail
        go_ret2
        refine ⟨?_, HB.out.trans ((below_drew (Below.refl _ _)).trans HB5.out |>.mono (by show X ≤ wr.heap.size; omega)) |> (fun h => by rw [hX]; exact h)⟩
        have hh : hit cP x l = (cP l[i] x == 0) := by unfold hit; rw [HL.out, List.getElem?_eq_getElem hil]
        rw [HL.out, hh]
        rfl
      · have t2 : decide ((i : Int) < (l.length : Int)) = false := by simp; omega
        go_wp2_with fail
        go_quiet (fail)
        go_wp2_with fail
        go_ret2
        refine ⟨?_, by rw [hX]; exact pw_below_drewN HB.out _⟩
        have hh : hit cP x l = false := by unfold hit; rw [HL.out, List.getElem?_eq_none (by omega)]
        rw [HL.out, hh]
        rfl

set_option maxHeartbeats 2000000 in
theorem find_calls {w : World} {g : Nat} {F : Nat → Prop} {xs : List P44} (h : St w g F xs) (hu : Up cP xs) (hn : xs.length ≤ 1000000) (x : P44) :
    Calls Try.prog 38 #[.pointer (some ⟨g, 0, none⟩), .agg #[.int .i64 x.key, .int .i64 x.sign]] w fun e w' => e = .returned (.tuple #[.int .i64 (lo cP x xs : Int), .bool (hit cP x xs)]) ∧ Below w.heap.size w w' := by
  have hgl := h.lt g h.at_
  obtain ⟨v, hc, hr, hF, c0, c1, fz⟩ := h.cells
  obtain ⟨A, cp, rfl, hcp, hrd⟩ := hr.reads
  have HR := Aside0.mk hrd
  have HU := Aside0.mk hu
  clear h hu hc hr hF hrd fz
  obtain ⟨W1, hW1⟩ : ∃ W1, W1 = w.alloc (.cells #[.int .i64 x.key, .int .i64 x.sign] 44) := ⟨_, rfl⟩
  have hb1 : Below w.heap.size w W1 := by rw [hW1]; exact (Below.refl _ _).alloc (Nat.le_refl _) _
  have hz1 : W1.heap.size = w.heap.size + 1 := by rw [hW1, World.size_alloc]
  have d0 : W1.cell? ⟨g, 0, none⟩ = some (.func (.func 24) #[] #[]) := (hb1.cell (p := ⟨g, 0, none⟩) hgl).trans c0
  have d1 : W1.cell? ⟨g, 1, none⟩ = some (.slice A xs.length cp) := (hb1.cell (p := ⟨g, 1, none⟩) hgl).trans c1
  have d2 : W1.cell? ⟨w.heap.size, 0, none⟩ = some (.int .i64 x.key) := by rw [hW1]; simp [go_sem]
  have d3 : W1.cell? ⟨w.heap.size, 1, none⟩ = some (.int .i64 x.sign) := by rw [hW1]; simp [go_sem]
  have HB1 := Aside0.mk hb1
  have D := Aside0.mk (And.intro d0 (And.intro d1 (And.intro d2 d3)))
  have HW1 := Aside0.mk hW1
  have HZ1 := Aside0.mk hz1
  clear hb1 d0 d1 d2 d3 hW1 hz1 c0 c1
  go_enter Try.func38, Try.ntmps38
  go_wp2_with fail
  rw [← HW1.out]
  clear HW1
  obtain ⟨d0, d1, d2, d3⟩ := D.out
  generalize hX : w.heap.size = X at *
  go_at_call 39
  refine (off_calls g (.slice none 0 0) _ d0).mono ?_
  rintro e w2 ⟨rfl, hw⟩
  obtain rfl := hw.symm
  go_wp2_with fail
  go_region_held3 (fun w' => w'.cell? ⟨g, 0, none⟩ = some (.func (.func 24) #[] #[]) ∧ w'.cell? ⟨g, 1, none⟩ = some (.slice A xs.length cp) ∧ w'.cell? ⟨X, 0, none⟩ = some (.int .i64 x.key) ∧ w'.cell? ⟨X, 1, none⟩ = some (.int .i64 x.sign))
    (first | exact ⟨(hb5.cell (World.block_lt_of_cell? _ _ d0)).trans d0, (hb5.cell (World.block_lt_of_cell? _ _ d1)).trans d1, (hb5.cell (World.block_lt_of_cell? _ _ d2)).trans d2, (hb5.cell (World.block_lt_of_cell? _ _ d3)).trans d3⟩ | go_keep)
    (first | (go_at_call 49; refine (search_calls x xs (HU.out.fits cmpP x) A cp _ hn (Kd.C_below HR.out (below_drew (by rw [hX]; exact HB1.out))) hcp).mono ?_; rintro e w5 ⟨rfl, hb5⟩))
  have HB5 := Aside0.mk hb5
  clear hb5
  go_wp2_with fail
  go_ret2
  refine ⟨rfl, ?_⟩
  rw [hX]
  exact HB1.out.trans ((below_drew (Below.refl _ _)).trans HB5.out |>.mono (by show X ≤ W1.heap.size; have := HZ1.out; omega))
set_option maxHeartbeats 4000000 in
theorem add_calls {w : World} {g : Nat} {F : Nat → Prop} {xs : List P44} (h : St w g F xs) (hu : Up cP xs) (hn : xs.length ≤ 1000000) (x : P44) :
    Calls Try.prog 25 #[.pointer (some ⟨g, 0, none⟩), .agg #[.int .i64 x.key, .int .i64 x.sign]] w (Aft w g F (S.add cP x xs) (.bool (!hit cP x xs))) := by
  obtain ⟨b, hb⟩ : ∃ b, hit cP x xs = b := ⟨_, rfl⟩
  have hll := lo_le cP x xs
  obtain ⟨W1, hW1⟩ : ∃ W1, W1 = w.alloc (.cells #[.int .i64 x.key, .int .i64 x.sign] 44) := ⟨_, rfl⟩
  have hb1 : Below w.heap.size w W1 := by rw [hW1]; exact (Below.refl _ _).alloc (Nat.le_refl _) _
  have hz1 : W1.heap.size = w.heap.size + 1 := by rw [hW1, World.size_alloc]
  have d2 : W1.cell? ⟨w.heap.size, 0, none⟩ = some (.int .i64 x.key) := by rw [hW1]; simp [go_sem]
  have d3 : W1.cell? ⟨w.heap.size, 1, none⟩ = some (.int .i64 x.sign) := by rw [hW1]; simp [go_sem]
  have h1 := h.below hb1
  have hFX : ∀ k, F k → k < w.heap.size := h.lt
  have HF := Aside0.mk (find_calls h1 hu hn x)
  have HW1 := Aside0.mk hW1
  have HS0 := Aside0.mk (Same.of_below (S := F) hb1)
  clear hW1 hb1
  cases b with
  | true =>
    rw [hb] at HF
    have e : S.add cP x xs = xs := by unfold S.add; rw [if_pos hb]
    rw [e, hb]
    clear e hb
    have H1 := Aside0.mk h1
    clear h h1 hu
    go_enter Try.func25, Try.ntmps25
    go_wp2_with fail
    rw [← HW1.out]
    clear HW1
    generalize hX : w.heap.size = X at *
    go_at_call 38
    refine HF.out.mono ?_
    rintro e w1 ⟨rfl, hd⟩
    have HD := Aside0.mk hd
    clear hd
    go_wp2_with fail
    go_ret
    refine ⟨rfl, F, H1.out.below HD.out, HS0.out.trans (Same.of_below HD.out) (fun k hk => .inl hk), fun k hk => .inl hk⟩
  | false =>
    rw [hb] at HF
    have e : S.add cP x xs = xs.take (lo cP x xs) ++ [x] ++ xs.drop (lo cP x xs) := by unfold S.add; rw [if_neg (by rw [hb]; decide)]
    obtain ⟨i, hi⟩ : ∃ i, i = lo cP x xs := ⟨_, rfl⟩
    rw [← hi] at HF hll
    obtain ⟨ys, hys⟩ : ∃ ys, ys = xs.take i ++ [x] ++ xs.drop i := ⟨_, rfl⟩
    rw [e, hb, ← hi, ← hys]
    have HI : Aside0 (∀ (W : World) (v : Value), Row k44 44 W 0 v xs → Calls Try.prog 40 #[v, .int .i64 (i : Int), .slice (some ⟨W.heap.size, 0, none⟩) 1 1] (W.alloc (.cells #[.int .i64 x.key, .int .i64 x.sign] 44)) (RowPost k44 44 W 0 v ys)) :=
      ⟨fun W v hr => by rw [hys]; exact insert_pair W 0 v xs x i hll hr (Nat.zero_le _) hn⟩
    clear e hb hi hys
    have H1 := Aside0.mk h1
    clear h h1 hu
    go_enter Try.func25, Try.ntmps25
    go_wp2_with fail
    rw [← HW1.out]
    clear HW1
    generalize hX : w.heap.size = X at *
    go_at_call 38
    refine HF.out.mono ?_
    rintro e w1 ⟨rfl, hd⟩
    have h2 := H1.out.below hd
    have HS1 := Aside0.mk (HS0.out.trans (Same.of_below (S := F) hd) (fun k hk => .inl hk))
    have hXl : X < W1.heap.size := by omega
    have e2 : w1.cell? ⟨X, 0, none⟩ = some (.int .i64 x.key) := (hd.cell (p := ⟨X, 0, none⟩) hXl).trans d2
    have e3 : w1.cell? ⟨X, 1, none⟩ = some (.int .i64 x.sign) := (hd.cell (p := ⟨X, 1, none⟩) hXl).trans d3
    have hz2 := hd.size
    have H2 := Aside0.mk h2
    obtain ⟨v, hc, hr, hF, c0, c1, fz⟩ := h2.cells
    obtain ⟨A, cp, rfl, hcp, hrd⟩ := hr.reads
    have HC := Aside0.mk hc
    have HR := Aside0.mk hr
    have HFF := Aside0.mk hF
    have hgl := h2.lt g h2.at_
    have hgo : some g ≠ (Value.slice A xs.length cp).ownBlock := fun e2 => by
      obtain ⟨cs, hcs⟩ := hr.typed g e2
      rw [hc] at hcs
      injection hcs with hcs
      injection hcs with _ hcs
      exact absurd hcs (by decide)
    have HGO := Aside0.mk hgo
    clear hc hr hF hrd HF H1 h2 hd d2 d3 hgo
    have FZ := Aside0.mk fz
    have C1 := Aside0.mk c1
    go_wp2_with (go_at_call 39; (with_reducible refine (off_calls g (.slice none 0 0) _ c0).mono ?_); rintro e w2 ⟨rfl, hw⟩; obtain rfl := hw.symm)
    go_region_law (first | (go_simp; go_at_call 40; refine (HI.out w1.drew (.slice A xs.length cp) (HR.out.below (below_drew (Below.refl _ _)))).mono ?_; rintro e w3 ⟨v1, rfl, hr1, hg1, hat1⟩; obtain ⟨A1, cp1, rfl, hcp1, _⟩ := hr1.reads; have fz3 : w3.frozen? ⟨g, 1, none⟩ = false := (World.frozen?_of_block (a := ⟨g, 1, none⟩) (hg1.block g hgl HGO.out)).trans FZ.out; have c13 : w3.cell? ⟨g, 1, none⟩ = some (.slice A xs.length cp) := (World.cell?_of_block (a := ⟨g, 1, none⟩) (hg1.block g hgl HGO.out)).trans C1.out))
    all_goals
      obtain ⟨F', hs1, hs2, hs3⟩ := (H2.out.below (below_drew (Below.refl _ _))).store (by decide) HC.out (HR.out.below (below_drew (Below.refl _ _))) HFF.out hr1 hg1 hat1
      have HS2 := Aside0.mk hs1
      have HS3 := Aside0.mk hs2
      have HS4 := Aside0.mk hs3
      clear hs1 hs2 hs3 hr1 hg1 hat1 c0 c1 fz hgl
      go_wp2_with fail
      go_ret
      refine ⟨rfl, F', HS2.out, HS1.out.trans ((Same.of_below (S := F) (below_drew (Below.refl _ _))).trans HS3.out (fun k hk => .inl hk)) (fun k hk => .inl hk), fun k hk => (HS4.out k hk).imp id (fun h => ?_)⟩
      have h7 : w1.heap.size ≤ k := h
      have h8 := HS1.out.size
      omega
theorem list_calls {w : World} {g : Nat} {F : Nat → Prop} {xs : List P44} (h : St w g F xs) (hn : xs.length ≤ 1000000) :
    Calls Try.prog 26 #[.pointer (some ⟨g, 0, none⟩)] w fun e w' => ∃ v : Value, e = .returned v ∧ Row k44 44 w' w.heap.size v xs ∧ Below w.heap.size w w' := by
  obtain ⟨v, hc, hr, hF, c0, c1, fz⟩ := h.cells
  obtain ⟨A, cp, rfl, hcp, hrd⟩ := hr.reads
  have HC := Aside0.mk (clone_pair xs A cp w hn hrd hcp)
  clear h hc hr hF hrd fz
  go_enter Try.func26, Try.ntmps26
  go_wp2_with (go_at_call 41; (with_reducible refine HC.out.mono ?_); rintro e w1 ⟨v1, rfl, hr, hb⟩; have HR := Aside0.mk hr; have HB := Aside0.mk hb; clear hr hb)
  go_ret
  exact ⟨_, rfl, HR.out, HB.out⟩
end PP
end Go.Proofs.Ytldgofblflmcbaa.S
