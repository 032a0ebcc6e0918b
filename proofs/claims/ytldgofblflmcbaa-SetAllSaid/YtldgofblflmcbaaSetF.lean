/- oset: the methods of a set of whole numbers, by back. -/
import Derived.Test.YtldgofblflmcbaaSetD
namespace Go.Proofs.Ytldgofblflmcbaa.S
open Go.RowKit Go.Proofs.YtldgofblflmcbaaW.PrintWords Go.Proofs.YtldgofblflmcbaaW.PrintLast Go.Proofs.YtldgofblflmcbaaW.PrintMore
set_option linter.unusedVariables false
set_option linter.unusedSimpArgs false
namespace I10
/-- The order. -/
abbrev Fn : Value := .func (.func 10) #[] #[]
/-- Such a set. -/
abbrev St (w : World) (g : Nat) (F : Nat → Prop) (xs : List Int) : Prop := SF (Kd.int .i64) 3 59 (.func (.func 10) #[] #[]) w g F xs
abbrev Aft (w : World) (g : Nat) (F : Nat → Prop) (xs : List Int) (r : Value) (en : Ending) (w' : World) : Prop := After (Kd.int .i64) 3 59 (.func (.func 10) #[] #[]) w g F xs r en w'

set_option maxHeartbeats 1000000 in
theorem search_calls (x : Int) (l : List Int) (hf : Fits cB x l) (A : Option Addr) (cp : Nat) (w : World) (hl : l.length ≤ 1000000) (hr : Kd.C (Kd.int .i64) w A l.length l) (hcp : l.length ≤ cp) :
    Calls Try.prog 46 #[.slice A l.length cp, .int .i64 x, .func (.func 10) #[] #[]] w fun e w' => e = .returned (.tuple #[.int .i64 (lo cB x l : Int), .bool (hit cB x l)]) ∧ w' = w := by
  have HR := Aside0.mk hr
  clear hr
  go_enter Try.func46, Try.ntmps46
  go_wp2_with fail
  go_loopg [9, 10] l.length (fun kq v9 v10 w' => SrchRel cB x l w kq v9 v10 w')
  case atStart => exact ⟨0, l.length, by omega, rfl, rfl, Srch.start cB x l, rfl⟩
  case round =>
    obtain ⟨i, j, hk, rfl, rfl, hs, rfl⟩ := hrel
    have HK := Aside0.mk hk
    have HS := Aside0.mk hs
    have h1 := hs.le
    have h2 := hs.top
    clear hk hs
    by_cases hij : i < j
    · have t1 : decide ((i : Int) < (j : Int)) = true := by simp; omega
      obtain ⟨h, hh, hh1, hh2⟩ : ∃ h : Nat, ((i : Int) + (j : Int)) / 2 = (h : Int) ∧ i ≤ h ∧ h < j := ⟨(i + j) / 2, by omega, by omega, by omega⟩
      obtain ⟨ad, e1, hx⟩ := at_int HR.out h (by omega) rfl
      subst e1
      have HX := Aside0.mk hx
      by_cases hy : cB l[h] x < 0
      · have t2 : decide (cB l[h] x < 0) = true := decide_eq_true hy
        have H2 := Aside0.mk (HS.out.up hf hh2 (by omega) hy)
        clear hy
        go_wp2_with (go_at_call 10; (with_reducible refine (back_calls _ _ _).mono ?_); rintro e w' ⟨rfl, rfl⟩)
        go_roundg (gk - 1)
        case measure => have := HK.out; omega
        case rel => exact ⟨h + 1, j, by have := HK.out; omega, by go_num, rfl, H2.out, rfl⟩
      · have t2 : decide (cB l[h] x < 0) = false := decide_eq_false hy
        have H2 := Aside0.mk (HS.out.down hf hh1 hh2 (by omega) hy)
        clear hy
        go_wp2_with (go_at_call 10; (with_reducible refine (back_calls _ _ _).mono ?_); rintro e w' ⟨rfl, rfl⟩)
        go_roundg (gk - 1)
        case measure => have := HK.out; omega
        case rel => exact ⟨i, h, by have := HK.out; omega, rfl, by go_num, H2.out, rfl⟩
    · obtain rfl : i = j := by omega
      have HL := Aside0.mk HS.out.done
      have t1 : decide ((i : Int) < (i : Int)) = false := by simp
      by_cases hil : i < l.length
      · have t2 : decide ((i : Int) < (l.length : Int)) = true := by simp; omega
        obtain ⟨ad, e1, hx⟩ := at_int HR.out i (by omega) rfl
        subst e1
        go_wp2_with (go_at_call 10; (with_reducible refine (back_calls _ _ _).mono ?_); rintro e w' ⟨rfl, rfl⟩)
        go_ret2
        refine ⟨?_, rfl⟩
        have hh : hit cB x l = (cB l[i] x == 0) := by unfold hit; rw [HL.out, List.getElem?_eq_getElem hil]
        rw [HL.out, hh]
        rfl
      · have t2 : decide ((i : Int) < (l.length : Int)) = false := by simp; omega
        go_wp2_with (go_at_call 10; (with_reducible refine (back_calls _ _ _).mono ?_); rintro e w' ⟨rfl, rfl⟩)
        go_ret2
        refine ⟨?_, rfl⟩
        have hh : hit cB x l = false := by unfold hit; rw [HL.out, List.getElem?_eq_none (by omega)]
        rw [HL.out, hh]
        rfl

theorem new_calls (w : World) : Calls Try.prog 11 #[.func (.func 10) #[] #[]] w fun e w' => ∃ g F, e = .returned (.pointer (some ⟨g, 0, none⟩)) ∧ St w' g F [] ∧ Below w.heap.size w w' ∧ ∀ k, F k → w.heap.size ≤ k := by
  have hnf : ∀ w, Sem.run Try.prog (binOp BinOp.eql 24 (.func (.func 10) #[] #[]) .nilFunc) w = .ok (.bool false) w := fun _ => by kernel_rfl
  go_enter Try.func11, Try.ntmps11
  go_wp2_with fail
  go_ret
  refine ⟨w.heap.size, fun k => k = w.heap.size, rfl, ⟨⟨.slice none 0 0, heap_alloc_new w _, Row.nil _ _ _ _, fun k hk => by simp [own, Value.ownBlock] at hk⟩, rfl, fun k hk => by rw [World.size_alloc]; omega⟩, (Below.refl _ _).alloc (Nat.le_refl _) _, fun k hk => by omega⟩
theorem off_calls (g : Nat) (v : Value) (w : World) (h0 : w.cell? ⟨g, 0, none⟩ = some (.func (.func 10) #[] #[])) : Calls Try.prog 34 #[.pointer (some ⟨g, 0, none⟩)] w fun e w' => e = .returned (.bool false) ∧ w' = w := by
  have hnf : ∀ w, Sem.run Try.prog (binOp BinOp.eql 24 (.func (.func 10) #[] #[]) .nilFunc) w = .ok (.bool false) w := fun _ => by kernel_rfl
  go_enter Try.func34, Try.ntmps34
  go_wp2_with fail
  go_ret
  exact ⟨rfl, rfl⟩

set_option maxHeartbeats 1000000 in
theorem find_calls {w : World} {g : Nat} {F : Nat → Prop} {xs : List Int} (h : St w g F xs) (hu : Up cB xs) (hn : xs.length ≤ 1000000) (x : Int) :
    Calls Try.prog 33 #[.pointer (some ⟨g, 0, none⟩), .int .i64 x] w fun e w' => e = .returned (.tuple #[.int .i64 (lo cB x xs : Int), .bool (hit cB x xs)]) ∧ Drawn0 w w' := by
  obtain ⟨v, hc, hr, hF, c0, c1, fz⟩ := h.cells
  obtain ⟨A, cp, rfl, hcp, hrd⟩ := hr.reads
  have HS := fun n => Aside0.mk (search_calls x xs (hu.fits cmpB x) A cp (w.drewN n) hn (Kd.C_below hrd (pw_below_drewN (Below.refl _ _) n)) hcp)
  have HO := Aside0.mk (off_calls g (.slice none 0 0) w c0)
  clear h hu hc hr hF hrd fz
  go_enter Try.func33, Try.ntmps33
  go_wp2_with (go_at_call 34; (with_reducible refine HO.out.mono ?_); rintro e w' ⟨rfl, rfl⟩)
  go_quiet ((go_at_call 46; exact Calls.quiet_of_same (HS _).out))
  go_wp2_with fail
  go_ret2
  exact ⟨rfl, ⟨_, rfl⟩⟩

theorem Drawn0.sf {w w' : World} {g : Nat} {F : Nat → Prop} {xs : List Int} (h : St w g F xs) (hd : Drawn0 w w') : St w' g F xs := by
  obtain ⟨n, rfl⟩ := hd
  exact h.drewN n
theorem drawn_same {w w' : World} (S : Nat → Prop) (hd : Drawn0 w w') : Same S w w' := by
  obtain ⟨n, rfl⟩ := hd
  exact Same.of_below (pw_below_drewN (Below.refl _ _) n)
set_option maxHeartbeats 1000000 in
theorem add_calls {w : World} {g : Nat} {F : Nat → Prop} {xs : List Int} (h : St w g F xs) (hu : Up cB xs) (hn : xs.length ≤ 1000000) (x : Int) :
    Calls Try.prog 13 #[.pointer (some ⟨g, 0, none⟩), .int .i64 x] w (Aft w g F (S.add cB x xs) (.bool (!hit cB x xs))) := by
  obtain ⟨b, hb⟩ : ∃ b, hit cB x xs = b := ⟨_, rfl⟩
  have HF := Aside0.mk (find_calls h hu hn x)
  have hll := lo_le cB x xs
  cases b with
  | true =>
    rw [hb] at HF
    have e : S.add cB x xs = xs := by unfold S.add; rw [if_pos hb]
    rw [e, hb]
    clear e hb
    go_enter Try.func13, Try.ntmps13
    go_wp2_with (go_at_call 33; (with_reducible refine HF.out.mono ?_); rintro e w1 ⟨rfl, hd⟩; have HD := Aside0.mk hd; clear hd)
    go_ret
    exact ⟨rfl, F, Drawn0.sf h HD.out, drawn_same _ HD.out, fun k hk => .inl hk⟩
  | false =>
    rw [hb] at HF
    have e : S.add cB x xs = xs.take (lo cB x xs) ++ [x] ++ xs.drop (lo cB x xs) := by unfold S.add; rw [if_neg (by rw [hb]; decide)]
    obtain ⟨i, hi⟩ : ∃ i, i = lo cB x xs := ⟨_, rfl⟩
    rw [← hi] at HF hll
    obtain ⟨ys, hys⟩ : ∃ ys, ys = xs.take i ++ [x] ++ xs.drop i := ⟨_, rfl⟩
    rw [e, hb, ← hi, ← hys]
    have HI : Aside0 (∀ (W : World) (v : Value), Row (Kd.int .i64) 3 W 0 v xs → Calls Try.prog 35 #[v, .int .i64 (i : Int), .slice (some ⟨W.heap.size, 0, none⟩) 1 1] (W.alloc (.cells #[.int .i64 x] 3)) (RowPost (Kd.int .i64) 3 W 0 v ys)) :=
      ⟨fun W v hr => by rw [hys]; exact insert_int W 0 v xs x i hll hr (Nat.zero_le _) hn⟩
    clear e hb hi hys
    have HH := Aside0.mk h
    clear h hu
    go_enter Try.func13, Try.ntmps13
    go_wp2_with fail
    go_at_call 33
    refine HF.out.mono ?_
    rintro e w1 ⟨rfl, hd⟩
    have h1 := Drawn0.sf HH.out hd
    have HS1 := Aside0.mk (drawn_same F hd)
    have H1 := Aside0.mk h1
    obtain ⟨v, hc, hr, hF, c0, c1, fz⟩ := h1.cells
    obtain ⟨A, cp, rfl, hcp, hrd⟩ := hr.reads
    have HC := Aside0.mk hc
    have HR := Aside0.mk hr
    have HFF := Aside0.mk hF
    clear hc hr hF hrd HF HH h1 hd
    go_wp2_with (go_at_call 34; (with_reducible refine (off_calls g (.slice none 0 0) _ c0).mono ?_); rintro e w2 ⟨rfl, hw⟩; obtain rfl := hw.symm)
    go_at_call 35
    refine (HI.out w1 _ HR.out).mono ?_
    rintro e w3 ⟨v1, rfl, hr1, hg1, hat1⟩
    obtain ⟨F', hs1, hs2, hs3⟩ := H1.out.store (by decide) HC.out HR.out HFF.out hr1 hg1 hat1
    obtain ⟨A1, cp1, rfl, hcp1, _⟩ := hr1.reads
    have hgl := H1.out.lt g H1.out.at_
    have hgo : some g ≠ (Value.slice A xs.length cp).ownBlock := fun e2 => by
      obtain ⟨cs, hcs⟩ := HR.out.typed g e2
      rw [HC.out] at hcs
      injection hcs with hcs
      injection hcs with _ hcs
      exact absurd hcs (by decide)
    have fz3 : w3.frozen? ⟨g, 1, none⟩ = false := (World.frozen?_of_block (a := ⟨g, 1, none⟩) (hg1.block g hgl hgo)).trans fz
    have c13 : w3.cell? ⟨g, 1, none⟩ = some (.slice A xs.length cp) := (World.cell?_of_block (a := ⟨g, 1, none⟩) (hg1.block g hgl hgo)).trans c1
    have HS2 := Aside0.mk hs1
    have HS3 := Aside0.mk hs2
    have HS4 := Aside0.mk hs3
    clear hs1 hs2 hs3 hr1 hg1 hat1 hgo c0 c1 fz hgl
    go_wp2_with fail
    go_ret
    exact ⟨rfl, F', HS2.out, HS1.out.trans HS3.out (fun k hk => .inl hk), fun k hk => (HS4.out k hk).imp id (fun h => Nat.le_trans HS1.out.size h)⟩

set_option maxHeartbeats 1000000 in
theorem has_calls {w : World} {g : Nat} {F : Nat → Prop} {xs : List Int} (h : St w g F xs) (hu : Up cB xs) (hn : xs.length ≤ 1000000) (x : Int) :
    Calls Try.prog 20 #[.pointer (some ⟨g, 0, none⟩), .int .i64 x] w fun e w' => e = .returned (.bool (hit cB x xs)) ∧ Drawn0 w w' := by
  have HF := Aside0.mk (find_calls h hu hn x)
  clear h hu
  go_enter Try.func20, Try.ntmps20
  go_wp2_with (go_at_call 33; (with_reducible refine HF.out.mono ?_); rintro e w1 ⟨rfl, hd⟩; have HD := Aside0.mk hd; clear hd)
  go_ret
  exact ⟨rfl, HD.out⟩

theorem len_calls {w : World} {g : Nat} {F : Nat → Prop} {xs : List Int} (h : St w g F xs) :
    Calls Try.prog 19 #[.pointer (some ⟨g, 0, none⟩)] w fun e w' => e = .returned (.int .i64 (xs.length : Int)) ∧ w' = w := by
  obtain ⟨v, hc, hr, hF, c0, c1, fz⟩ := h.cells
  obtain ⟨A, cp, rfl, hcp, hrd⟩ := hr.reads
  clear h hc hr hF hrd fz
  go_enter Try.func19, Try.ntmps19
  go_wp2_with fail
  go_ret
  exact ⟨rfl, rfl⟩

set_option maxHeartbeats 1000000 in
theorem at_calls {w : World} {g : Nat} {F : Nat → Prop} {xs : List Int} (h : St w g F xs) (i : Int) :
    Calls Try.prog 18 #[.pointer (some ⟨g, 0, none⟩), .int .i64 i] w fun e w' => e = .returned (.tuple #[.int .i64 (if 0 ≤ i ∧ i < xs.length then xs.getD i.toNat 0 else 0), .bool (decide (0 ≤ i ∧ i < xs.length))]) ∧ w' = w := by
  have HL := Aside0.mk (len_calls h)
  obtain ⟨v, hc, hr, hF, c0, c1, fz⟩ := h.cells
  obtain ⟨A, cp, rfl, hcp, hrd⟩ := hr.reads
  have HR := Aside0.mk hrd
  clear h hc hr hF hrd fz
  by_cases h0 : i < 0
  · have t0 : decide (i < 0) = true := decide_eq_true h0
    rw [if_neg (by omega), decide_eq_false (by omega)]
    go_enter Try.func18, Try.ntmps18
    go_wp2_with (go_at_call 19; (with_reducible refine HL.out.mono ?_); rintro e w' ⟨rfl, hw⟩; obtain rfl := hw.symm)
    go_ret2
    exact ⟨rfl, rfl⟩
  · have t0 : decide (i < 0) = false := decide_eq_false h0
    obtain ⟨j, rfl⟩ := Int.eq_ofNat_of_zero_le (show 0 ≤ i by omega)
    by_cases h1 : j < xs.length
    · have t1 : decide ((j : Int) ≥ (xs.length : Int)) = false := by simp; omega
      obtain ⟨ad, e1, hx⟩ := at_int HR.out j h1 rfl
      subst e1
      have hj0 : (0 : Int) ≤ (j : Int) := by omega
      have hj1 : (j : Int) < (xs.length : Int) := by omega
      rw [if_pos (by omega), decide_eq_true (by omega), Int.toNat_natCast, List.getD_eq_getElem?_getD, List.getElem?_eq_getElem h1]
      go_enter Try.func18, Try.ntmps18
      go_wp2_with (go_at_call 19; (with_reducible refine HL.out.mono ?_); rintro e w' ⟨rfl, hw⟩; obtain rfl := hw.symm)
      go_ret2
      exact ⟨rfl, rfl⟩
    · have t1 : decide ((j : Int) ≥ (xs.length : Int)) = true := by simp; omega
      rw [if_neg (by omega), decide_eq_false (by omega)]
      go_enter Try.func18, Try.ntmps18
      go_wp2_with (go_at_call 19; (with_reducible refine HL.out.mono ?_); rintro e w' ⟨rfl, hw⟩; obtain rfl := hw.symm)
      go_ret2
      exact ⟨rfl, rfl⟩

set_option maxHeartbeats 1000000 in
theorem list_calls {w : World} {g : Nat} {F : Nat → Prop} {xs : List Int} (h : St w g F xs) (hn : xs.length ≤ 1000000) :
    Calls Try.prog 22 #[.pointer (some ⟨g, 0, none⟩)] w fun e w' => ∃ v : Value, e = .returned v ∧ Row (Kd.int .i64) 3 w' w.heap.size v xs ∧ Below w.heap.size w w' := by
  obtain ⟨v, hc, hr, hF, c0, c1, fz⟩ := h.cells
  obtain ⟨A, cp, rfl, hcp, hrd⟩ := hr.reads
  have HC := Aside0.mk (clone_int xs A cp w hn hrd hcp)
  clear h hc hr hF hrd fz
  go_enter Try.func22, Try.ntmps22
  go_wp2_with (go_at_call 37; (with_reducible refine HC.out.mono ?_); rintro e w1 ⟨v1, rfl, hr, hb⟩; have HR := Aside0.mk hr; have HB := Aside0.mk hb; clear hr hb)
  go_ret
  exact ⟨_, rfl, HR.out, HB.out⟩

set_option maxHeartbeats 1000000 in
theorem del_calls {w : World} {g : Nat} {F : Nat → Prop} {xs : List Int} (h : St w g F xs) (hu : Up cB xs) (hn : xs.length ≤ 1000000) (x : Int) :
    Calls Try.prog 15 #[.pointer (some ⟨g, 0, none⟩), .int .i64 x] w (Aft w g F (S.del cB x xs) (.bool (hit cB x xs))) := by
  obtain ⟨b, hb⟩ : ∃ b, hit cB x xs = b := ⟨_, rfl⟩
  have HF := Aside0.mk (find_calls h hu hn x)
  have hll := lo_le cB x xs
  cases b with
  | false =>
    rw [hb] at HF
    have e : S.del cB x xs = xs := by unfold S.del; rw [if_neg (by rw [hb]; decide)]
    rw [e, hb]
    clear e hb
    go_enter Try.func15, Try.ntmps15
    go_wp2_with (go_at_call 33; (with_reducible refine HF.out.mono ?_); rintro e w1 ⟨rfl, hd⟩; have HD := Aside0.mk hd; clear hd)
    go_ret
    exact ⟨rfl, F, Drawn0.sf h HD.out, drawn_same _ HD.out, fun k hk => .inl hk⟩
  | true =>
    have hlt := hit_lt hb
    rw [hb] at HF
    have e : S.del cB x xs = xs.take (lo cB x xs) ++ xs.drop (lo cB x xs + 1) := by unfold S.del; rw [if_pos hb]
    obtain ⟨i, hi⟩ : ∃ i, i = lo cB x xs := ⟨_, rfl⟩
    rw [← hi] at HF hll hlt
    obtain ⟨ys, hys⟩ : ∃ ys, ys = xs.take i ++ xs.drop (i + 1) := ⟨_, rfl⟩
    rw [e, hb, ← hi, ← hys]
    have HI : Aside0 (∀ (W : World) (v : Value), Row (Kd.int .i64) 3 W 0 v xs → Calls Try.prog 36 #[v, .int .i64 (i : Int), .int .i64 ((i : Int) + 1)] W (RowPost (Kd.int .i64) 3 W 0 v ys)) :=
      ⟨fun W v hr => by rw [hys]; exact delete_int W 0 v xs i hlt hr hn⟩
    clear e hb hi hys
    have HH := Aside0.mk h
    clear h hu
    go_enter Try.func15, Try.ntmps15
    go_wp2_with fail
    go_at_call 33
    refine HF.out.mono ?_
    rintro e w1 ⟨rfl, hd⟩
    have h1 := Drawn0.sf HH.out hd
    have HS1 := Aside0.mk (drawn_same F hd)
    have H1 := Aside0.mk h1
    obtain ⟨v, hc, hr, hF, c0, c1, fz⟩ := h1.cells
    obtain ⟨A, cp, rfl, hcp, hrd⟩ := hr.reads
    have HC := Aside0.mk hc
    have HR := Aside0.mk hr
    have HFF := Aside0.mk hF
    clear hc hr hF hrd HF HH h1 hd
    go_wp2_with fail
    go_at_call 36
    refine (HI.out w1 _ HR.out).mono ?_
    rintro e w3 ⟨v1, rfl, hr1, hg1, hat1⟩
    obtain ⟨F', hs1, hs2, hs3⟩ := H1.out.store (by decide) HC.out HR.out HFF.out hr1 hg1 hat1
    obtain ⟨A1, cp1, rfl, hcp1, _⟩ := hr1.reads
    have hgl := H1.out.lt g H1.out.at_
    have hgo : some g ≠ (Value.slice A xs.length cp).ownBlock := fun e2 => by
      obtain ⟨cs, hcs⟩ := HR.out.typed g e2
      rw [HC.out] at hcs
      injection hcs with hcs
      injection hcs with _ hcs
      exact absurd hcs (by decide)
    have fz3 : w3.frozen? ⟨g, 1, none⟩ = false := (World.frozen?_of_block (a := ⟨g, 1, none⟩) (hg1.block g hgl hgo)).trans fz
    have c13 : w3.cell? ⟨g, 1, none⟩ = some (.slice A xs.length cp) := (World.cell?_of_block (a := ⟨g, 1, none⟩) (hg1.block g hgl hgo)).trans c1
    have HS2 := Aside0.mk hs1
    have HS3 := Aside0.mk hs2
    have HS4 := Aside0.mk hs3
    clear hs1 hs2 hs3 hr1 hg1 hat1 hgo c0 c1 fz hgl
    go_wp2_with fail
    go_ret
    exact ⟨rfl, F', HS2.out, HS1.out.trans HS3.out (fun k hk => .inl hk), fun k hk => (HS4.out k hk).imp id (fun h => Nat.le_trans HS1.out.size h)⟩

theorem rowC {w : World} {B n c : Nat} {A : Option Addr} {ys : List Int} (h : Row (Kd.int .i64) 3 w B (.slice A n c) ys) : Kd.C (Kd.int .i64) w A ys.length ys := (Kd.R_reads' h).2.2
/-- Some put in, one behind the other. -/
def adds (xs ys : List Int) : List Int := ys.foldl (fun l y => S.add cB y l) xs
theorem adds_up {xs : List Int} (h : Up cB xs) (ys : List Int) : Up cB (adds xs ys) := by
  induction ys generalizing xs with
  | nil => exact h
  | cons y ys ih => exact ih (h.add cmpB y)
theorem adds_len (xs ys : List Int) : xs.length ≤ (adds xs ys).length ∧ (adds xs ys).length ≤ xs.length + ys.length := by
  induction ys generalizing xs with
  | nil => exact ⟨Nat.le_refl _, Nat.le_refl _⟩
  | cons y ys ih =>
    have h1 := ih (S.add cB y xs)
    have h2 := add_len cB y xs
    have e : adds xs (y :: ys) = adds (S.add cB y xs) ys := rfl
    rw [e, List.length_cons]
    constructor
    · split at h2 <;> omega
    · split at h2 <;> omega
theorem adds_snoc (xs ys : List Int) (y : Int) : adds xs (ys ++ [y]) = S.add cB y (adds xs ys) := by
  unfold adds
  rw [List.foldl_append]
  rfl
def URel (w : World) (v : Value) (g : Nat) (F : Nat → Prop) (xs ys : List Int) (kq : Nat) (v5 v11 : Value) (w' : World) : Prop :=
  ∃ i : Nat, i + kq = ys.length ∧ v11 = .int .i64 (i : Int) ∧ v5 = .bool (decide (xs.length < (adds xs (ys.take i)).length)) ∧ ∃ F', St w' g F' (adds xs (ys.take i)) ∧ Same F w w' ∧ (∀ k, F' k → F k ∨ w.heap.size ≤ k) ∧ (∀ k, F' k → ¬ own v k) ∧ Row (Kd.int .i64) 3 w' w.heap.size v ys
set_option maxHeartbeats 2000000 in
/-- Union with another set (or with the same one), or with none (p = none). -/
theorem union_calls {w : World} {g : Nat} {F : Nat → Prop} {xs ys : List Int} (h : St w g F xs) (hu : Up cB xs) (hn : xs.length ≤ 400000) (hm : ys.length ≤ 400000) (p : Value)
    (hl : Calls Try.prog 22 #[p] w fun e w' => ∃ v : Value, e = .returned v ∧ Row (Kd.int .i64) 3 w' w.heap.size v ys ∧ Below w.heap.size w w') :
    Calls Try.prog 16 #[.pointer (some ⟨g, 0, none⟩), p] w (Aft w g F (adds xs ys) (.bool (decide (xs.length < (adds xs ys).length)))) := by
  have HL := Aside0.mk hl
  have HH := Aside0.mk h
  have HU := Aside0.mk hu
  clear hl h hu
  go_enter Try.func16, Try.ntmps16
  go_wp2_with fail
  go_at_call 22
  refine HL.out.mono ?_
  rintro e w1 ⟨v, rfl, hr, hb⟩
  obtain ⟨A, cp, rfl, hcp, hrd⟩ := hr.reads
  have HR := Aside0.mk hr
  have HB := Aside0.mk hb
  have H1 := Aside0.mk (HH.out.below hb)
  clear hr hrd hb HL
  go_wp2_with fail
  go_loopg [5, 11] ys.length (fun kq v5 v11 w' => URel w (.slice A ys.length cp) g F xs ys kq v5 v11 w')
  case atStart => exact ⟨0, by omega, rfl, by simp [adds], F, H1.out, Same.of_below HB.out, fun k hk => .inl hk, fun k hk ho => by have := HH.out.lt k hk; have := (HR.out.lt k ho).1; omega, HR.out⟩
  case round =>
    obtain ⟨i, hi, rfl, rfl, F', hs, hsm, hF, hd, hr⟩ := hrel
    clear H1 HR HB
    have HI := Aside0.mk hi
    have HS := Aside0.mk hs
    have HM := Aside0.mk hsm
    have HF := Aside0.mk hF
    have HR := Aside0.mk hr
    have HD := Aside0.mk hd
    have hsz := hsm.size
    clear hi hs hsm hF hr hd
    by_cases hlt : i < ys.length
    · have t1 : decide ((i : Int) < (ys.length : Int)) = true := by simp; omega
      have hi0 : (0 : Int) ≤ (i : Int) := by omega
      obtain ⟨ad, e1, hx⟩ := at_int (rowC HR.out) i hlt rfl
      subst e1
      have hal := adds_len xs (ys.take i)
      have htl : (ys.take i).length = i := by rw [List.length_take]; omega
      obtain ⟨zs, hzs⟩ : ∃ zs, zs = adds xs (ys.take i) := ⟨_, rfl⟩
      have hzn : zs.length ≤ 1000000 := by rw [hzs]; omega
      have HZ := Aside0.mk hzs
      have hadd := add_calls (by rw [hzs]; exact HS.out) (by rw [hzs]; exact adds_up HU.out _) hzn ys[i]
      have hsn : adds xs (ys.take (i + 1)) = S.add cB ys[i] zs := by
        rw [List.take_succ_eq_append_getElem hlt, adds_snoc, ← hzs]
      have hln := add_len cB ys[i] zs
      have hbool : (decide (xs.length < (adds xs (ys.take (i + 1))).length)) = ((!hit cB ys[i] zs) || decide (xs.length < zs.length)) := by
        rw [hsn, hln]
        have : xs.length ≤ zs.length := by rw [hzs]; exact hal.1
        cases hit cB ys[i] zs <;> simp
        omega
      rw [← hzs]
      have HA := Aside0.mk hadd
      have HSN := Aside0.mk hsn
      have HBO := Aside0.mk hbool
      clear hadd hsn hbool hal htl hzs hln
      generalize hit cB ys[i] zs = hb at *
      cases hb
      all_goals
        go_wp2_with (go_at_call 13; (with_reducible refine HA.out.mono ?_); rintro e w2 ⟨rfl, F2, hs2, hm2, hf2⟩; have HS2 := Aside0.mk hs2; have HM2 := Aside0.mk hm2; have HF2 := Aside0.mk hf2; clear hs2 hm2 hf2)
        go_roundg (gk - 1)
        case measure => have := HI.out; omega
        case rel =>
          refine ⟨i + 1, by have := HI.out; omega, by go_num, ?_, F2, by rw [HSN.out]; exact HS2.out, HM.out.trans HM2.out HF.out, fun k hk => ?_, fun k hk ho => ?_, HR.out.step (fun k hk hlt2 => HM2.out.block k hlt2 (fun hk2 => HD.out k hk2 hk))⟩
          · rw [HBO.out]; simp
          · rcases HF2.out k hk with hk | hk
            · exact HF.out k hk
            · exact .inr (Nat.le_trans hsz hk)
          · rcases HF2.out k hk with hk | hk
            · exact HD.out k hk ho
            · have := (HR.out.lt k ho).2
              omega
    · have t1 : decide ((i : Int) < (ys.length : Int)) = false := by simp; omega
      obtain rfl : i = ys.length := by have := HI.out; omega
      rw [List.take_length] at HS ⊢
      generalize decide (xs.length < (adds xs ys).length) = bb at *
      go_wp2_with fail
      go_ret
      exact ⟨rfl, F', HS.out, HM.out, HF.out⟩

def ORel (w : World) (g : Nat) (ys : List Int) (kq : Nat) (v12 : Value) (w' : World) : Prop :=
  ∃ i : Nat, i + kq = ys.length ∧ v12 = .int .i64 (i : Int) ∧ ∃ F', St w' g F' (adds [] (ys.take i)) ∧ Below w.heap.size w w' ∧ ∀ k, F' k → w.heap.size ≤ k
set_option maxHeartbeats 2000000 in
theorem of_calls (w : World) (A : Option Addr) (cp : Nat) (ys : List Int) (hm : ys.length ≤ 400000) (hr : Kd.C (Kd.int .i64) w A ys.length ys) :
    Calls Try.prog 17 #[.func (.func 10) #[] #[], .slice A ys.length cp] w fun e w' => ∃ g F, e = .returned (.pointer (some ⟨g, 0, none⟩)) ∧ St w' g F (adds [] ys) ∧ Below w.heap.size w w' ∧ ∀ k, F k → w.heap.size ≤ k := by
  have HR := Aside0.mk hr
  clear hr
  go_enter Try.func17, Try.ntmps17
  go_wp2_with fail
  go_at_call 11
  refine (new_calls _).mono ?_
  rintro e w1 ⟨g, F, rfl, hs, hb, hf⟩
  have HS := Aside0.mk hs
  have HB := Aside0.mk hb
  have HF := Aside0.mk hf
  clear hs hb hf
  go_wp2_with fail
  go_loopg [12] ys.length (fun kq v12 w' => ORel w g ys kq v12 w')
  case atStart => exact ⟨0, by omega, rfl, F, HS.out, HB.out, HF.out⟩
  case round =>
    obtain ⟨i, hi, rfl, F', hs, hb, hf⟩ := hrel
    clear HS HB HF
    have HI := Aside0.mk hi
    have HS := Aside0.mk hs
    have HB := Aside0.mk hb
    have HF := Aside0.mk hf
    clear hi hs hb hf
    by_cases hlt : i < ys.length
    · have t1 : decide ((i : Int) < (ys.length : Int)) = true := by simp; omega
      have hi0 : (0 : Int) ≤ (i : Int) := by omega
      obtain ⟨ad, e1, hx⟩ := at_int (Kd.C_below HR.out HB.out) i hlt rfl
      subst e1
      have hal := adds_len [] (ys.take i)
      have htl : (ys.take i).length = i := by rw [List.length_take]; omega
      have hadd := add_calls HS.out (adds_up List.Pairwise.nil _) (by simp at hal; omega) ys[i]
      have hsn : adds [] (ys.take (i + 1)) = S.add cB ys[i] (adds [] (ys.take i)) := by
        rw [List.take_succ_eq_append_getElem hlt, adds_snoc]
      have HA := Aside0.mk hadd
      have HSN := Aside0.mk hsn
      clear hadd hsn hal htl
      go_wp2_with (go_at_call 13; (with_reducible refine HA.out.mono ?_); rintro e w2 ⟨rfl, F2, hs2, hm2, hf2⟩; have HS2 := Aside0.mk hs2; have HM2 := Aside0.mk hm2; have HF2 := Aside0.mk hf2; clear hs2 hm2 hf2)
      go_roundg (gk - 1)
      case measure => have := HI.out; omega
      case rel =>
        have hsz := HB.out.size
        refine ⟨i + 1, by have := HI.out; omega, by go_num, F2, by rw [HSN.out]; exact HS2.out, HB.out.trans (HM2.out.below hsz HF.out), fun k hk => ?_⟩
        rcases HF2.out k hk with hk | hk
        · exact HF.out k hk
        · omega
    · have t1 : decide ((i : Int) < (ys.length : Int)) = false := by simp; omega
      obtain rfl : i = ys.length := by have := HI.out; omega
      rw [List.take_length] at HS
      go_wp2_with fail
      go_ret
      exact ⟨g, F', rfl, HS.out, HB.out, HF.out⟩

end I10
end Go.Proofs.Ytldgofblflmcbaa.S
