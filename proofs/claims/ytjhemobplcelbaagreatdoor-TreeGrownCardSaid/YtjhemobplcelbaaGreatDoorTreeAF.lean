/- tree: the law TreeGrown (printed by mk_grown.py). -/
import Derived.Test.YtjhemobplcelbaaGreatDoorTreeAE
import Derived.Test.YtjhemobplcelbaaGreatDoorTreeAB
namespace Go.Proofs.YtjhemobplcelbaaGreatDoor.T
open Go.RowKit Go.Proofs.YtjhemobplcelbaaGreatDoorW.PrintWords Go.Proofs.YtjhemobplcelbaaGreatDoorW.PrintLast Go.Proofs.YtjhemobplcelbaaGreatDoorW.PrintMore
open Go.Proofs.YtjhemobplcelbaaGreatDoor.U (SR kSR rule_at int_at okRule)
open Go.Proofs.YtjhemobplcelbaaGreatDoor.O (Bx STk SRu kTk kRu cut_calls good_calls)
set_option linter.unusedVariables false
set_option linter.unusedSimpArgs false
theorem grow_calls (B : World) (AT LF t : Nat) (n sq ex : Int) (v4 v5 v6 : Value) (A7 : Option Addr) (c7 : Nat) (rs : List SR) (Ap : Option Addr) (cp : Nat) (ps : List Int) (hne : AT ≠ LF) (hA : B.heap.size ≤ AT) (hL : B.heap.size ≤ LF) (hru : Kd.C kSR B A7 rs.length rs) (hrl : 1 ≤ rs.length ∧ rs.length ≤ 31) (hr6 : ∀ r ∈ rs, r.f1.length ≤ 6 ∧ ∀ x ∈ r.f1, 0 ≤ x) (hps : Kd.C (Kd.int .i64) B Ap ps.length ps) : ∀ (d deep : Nat), d + deep = 13 → GrowC B AT LF t n sq ex v4 v5 v6 A7 c7 rs Ap cp ps deep := by
  intro d
  induction d with
  | zero => intro deep h; exact grow_node B AT LF t n sq ex v4 v5 v6 A7 c7 rs Ap cp ps hne hA hL hru hrl hr6 hps deep (by omega) (fun h2 => absurd h2 (by omega))
  | succ d ihd => intro deep h; exact grow_node B AT LF t n sq ex v4 v5 v6 A7 c7 rs Ap cp ps hne hA hL hru hrl hr6 hps deep (by omega) (fun _ => ihd (deep + 1) (by omega))
theorem two_cells (W6 : World) : ∃ AT LF : Nat, AT = W6.heap.size ∧ LF = W6.heap.size + 1 ∧ Cell1 ((W6.alloc (.cells #[.int .i64 0] 3)).alloc (.cells #[.int .i64 60] 3)) AT 3 (.int .i64 0) ∧ Cell1 ((W6.alloc (.cells #[.int .i64 0] 3)).alloc (.cells #[.int .i64 60] 3)) LF 3 (.int .i64 60) ∧ Below W6.heap.size W6 ((W6.alloc (.cells #[.int .i64 0] 3)).alloc (.cells #[.int .i64 60] 3)) := by
  have c1 := Cell1.new W6 (.int .i64 0) 3
  have c2 := Cell1.new (W6.alloc (.cells #[.int .i64 0] 3)) (.int .i64 60) 3
  rw [World.size_alloc] at c2
  exact ⟨_, _, rfl, rfl, c1.move (below_alloc (Below.refl _ _) _) c1.lt, c2, below_alloc (below_alloc (Below.refl W6.heap.size W6) _) _⟩
set_option maxRecDepth 100000 in
set_option maxHeartbeats 8000000 in
theorem grown_walk (w : World) (A : Option Addr) (c : Nat) (ts : List STk) (st : ByteArray) (ex : Int) (A2 : Option Addr) (c2 : Nat) (rs : List SRu) (hts : Kd.C kTk w A ts.length ts) (hct : ts.length ≤ c) (hrs : Kd.C kRu w A2 rs.length rs) (hc2 : rs.length ≤ c2)
    (Ap : Option Addr) (cp : Nat) (ps : List Int) (hps : Kd.C (Kd.int .i64) w Ap ps.length ps) :
    Calls Tryz.prog 4 #[.agg #[.slice A ts.length c, .string st, .int .i64 ex, .slice A2 rs.length c2], .slice Ap ps.length cp] w fun e w' => e = .returned (.bool true) ∧ Below w.heap.size w w' := by
  have HL := Aside0.mk (And.intro hts (And.intro hct (And.intro hrs hc2)))
  have HPS := Aside0.mk hps
  have hb := below_alloc (Below.refl w.heap.size w) (.cells #[.slice A ts.length c, .string st, .int .i64 ex, .slice A2 rs.length c2] 25)
  have hx := Bx.new w #[.slice A ts.length c, .string st, .int .i64 ex, .slice A2 rs.length c2] 25
  clear hts hct hrs hc2 hps
  go_enter Tryz.func4, Tryz.ntmps4
  go_upto_region 1 with fail
  obtain ⟨X0, hX⟩ : ∃ X, X = w.heap.size := ⟨_, rfl⟩
  rw [← hX] at hx
  rw [← hX]
  have HX := Aside0.mk hx
  have HB := Aside0.mk hb
  generalize w.alloc (.cells #[.slice A ts.length c, .string st, .int .i64 ex, .slice A2 rs.length c2] 25) = W1 at *
  clear hx hb hX
  go_upto_region 4 with (first
    | (go_at_call 13; refine (begun_yes _).mono ?_; rintro e w3 ⟨rfl, hb3⟩; have HB3 := Aside0.mk (HB.out.trans (hb3.mono HB.out.size)); have HX3 := Aside0.mk (HX.out.move hb3 HX.out.lt); clear hb3))
  have x0 := HX3.out.c 0 rfl
  have x1 := HX3.out.c 1 rfl
  have x2 := HX3.out.c 2 rfl
  have x3 := HX3.out.c 3 rfl
  have C1 := Aside0.mk (cut_calls w3 A c ts st ex A2 c2 rs (Kd.C_below HL.out.1 HB3.out) HL.out.2.1 (Kd.C_below HL.out.2.2.1 HB3.out) HL.out.2.2.2)
  go_upto_region 5 with (first
    | (go_at_call 15; (with_reducible refine Calls.mono C1.out ?_); rintro e w4 ⟨A', c', ts', st', ex', A2', c2', rs', rfl, g1, g2, g3, g4, g5, g6, g7, g8, g9, hb4⟩; have HB4 := Aside0.mk (HB3.out.trans (hb4.mono HB3.out.size)); have C2 := Aside0.mk (good_calls w4 A' c' ts' st' ex' A2' c2' rs' g1 g2 g3 g4 g5 g6 g7 g8 g9); clear g1 g2 g3 g4 g5 g6 g7 g8 g9 hb4)
    | (go_at_call 14; (with_reducible refine Calls.mono C2.out ?_); rintro e w5 ⟨t, n, sq, ex5, err, A4, c4, names, A5, c5, lv, A6, c6, sa, A7, c7, rs5, rfl, hg, hb5⟩; have HG := Aside0.mk hg; have HB5 := Aside0.mk (HB4.out.trans (hb5.mono HB4.out.size)); clear hg hb5))
  have hbA := below_alloc (Below.refl w5.heap.size w5) (.cells #[.int .i64 (t : Int), .int .i64 (n : Int), .int .i64 (sq : Int), .int .i64 ex5, .slice A4 names.length c4, .slice A5 lv.length c5, .slice A6 sa.length c6, .slice A7 rs5.length c7] 32)
  by_cases he : err = 0
  case neg =>
    have t1 : (!(err == 0)) = true := by simpa using he
    have t2 : (err == 0) = false := by simpa using he
    have t3 : (err != 0) = true := by simpa using he
    have HA := Aside0.mk (HB5.out.trans (hbA.mono HB5.out.size))
    clear hbA x0 x1 x2 x3
    go_wp2_with fail
    go_ret
    exact ⟨rfl, HA.out⟩
  subst he
  have hg := HG.out rfl
  have hxS := Bx.new w5 #[.int .i64 (t : Int), .int .i64 (n : Int), .int .i64 (sq : Int), .int .i64 ex5, .slice A4 names.length c4, .slice A5 lv.length c5, .slice A6 sa.length c6, .slice A7 rs5.length c7] 32
  obtain ⟨Y, hY⟩ : ∃ Y, Y = w5.heap.size := ⟨_, rfl⟩
  rw [← hY] at hxS
  rw [← hY]
  have HA := Aside0.mk hbA
  generalize w5.alloc (.cells #[.int .i64 (t : Int), .int .i64 (n : Int), .int .i64 (sq : Int), .int .i64 ex5, .slice A4 names.length c4, .slice A5 lv.length c5, .slice A6 sa.length c6, .slice A7 rs5.length c7] 32) = W6 at *
  have HG6 := Aside0.mk (hg.below hbA)
  have HS6 := Aside0.mk hxS
  have HW6 := Aside0.mk (HB5.out.trans (HA.out.mono HB5.out.size))
  clear hg hbA hxS hY x0 x1 x2 x3 HG HA HB5 HB4 C1 C2 HX3 HB3 HX HB HL
  go_upto_region 7 with fail
  go_upto_region 8 with fail
  obtain ⟨AT, LF, eA, eL, hAT, hLF, hb7⟩ := two_cells W6
  generalize (W6.alloc (.cells #[.int .i64 0] 3)).alloc (.cells #[.int .i64 60] 3) = W7 at *
  rw [← eL, ← eA]
  have H7 := Aside0.mk (And.intro hAT (And.intro hLF hb7))
  have HS7 := Aside0.mk (HS6.out.move hb7 HS6.out.lt)
  have CG : Aside0 (Calls Tryz.prog 28 #[.agg #[.int .i64 (t : Int), .int .i64 (n : Int), .int .i64 (sq : Int), .int .i64 ex5, .slice A4 names.length c4, .slice A5 lv.length c5, .slice A6 sa.length c6, .slice A7 rs5.length c7], .int .i64 (sq : Int), .slice Ap ps.length cp, .pointer (some ⟨AT, 0, none⟩), .pointer (some ⟨LF, 0, none⟩), .int .i64 0] W7 (GrowPost W6 W7 AT LF t rs5 (sq : Int) 60 0)) := ⟨by
    have h := grow_calls W6 AT LF t n sq ex5 (.slice A4 names.length c4) (.slice A5 lv.length c5) (.slice A6 sa.length c6) A7 c7 rs5 Ap cp ps (by omega) (by omega) (by omega) HG6.out.ru HG6.out.rul (fun r hr => ⟨HG6.out.r6 r hr, fun x hx => (HG6.out.all r hr x hx).1⟩) (Kd.C_below HPS.out HW6.out) 13 0 rfl
    exact h (sq : Int) (Int.natCast_nonneg sq) 60 (Nat.le_refl _) W7 hb7 hAT hLF⟩
  clear hAT hLF hb7 eA eL HPS
  have s0 := HS7.out.c 0 rfl
  have s1 := HS7.out.c 1 rfl
  have s2 := HS7.out.c 2 rfl
  have s3 := HS7.out.c 3 rfl
  have s4 := HS7.out.c 4 rfl
  have s5 := HS7.out.c 5 rfl
  have s6 := HS7.out.c 6 rfl
  have s7 := HS7.out.c 7 rfl
  go_wp2_with fail
  go_at_call 28
  (with_reducible refine Calls.mono CG.out ?_)
  rintro e w8 ⟨hB8, hk8, hor⟩
  have HW8 := Aside0.mk (HW6.out.trans (hB8.mono HW6.out.size))
  have HB8 := Aside0.mk hB8
  clear hB8 hk8 s0 s1 s2 s3 s4 s5 s6 s7
  rcases hor with rfl | ⟨X, r, k, f, l', rfl, q1, q2, q3, q4, q5, q6, q7, q8, q9⟩
  · go_wp2_with fail
    go_ret
    exact ⟨rfl, HW8.out⟩
  have HX8 := Aside0.mk (And.intro q1.isF q2)
  have HN : Aside0 ((F.cons r k f .nil).nodes ≤ 1000 ∧ (F.cons r k f .nil).height ≤ 1000) := ⟨by rw [one_nodes, one_height]; omega⟩
  have HG8 := Aside0.mk (HG6.out.below HB8.out)
  have HS8 := Aside0.mk (HS6.out.move HB8.out HS6.out.lt)
  clear q1 q2 q3 q4 q5 q6 q7 q8 q9 CG H7 HS7
  have CR := Aside0.mk ((remade_calls w8 t rs5 (.cons r k f .nil)).1 HX8.out.2 HN.out.1 X HX8.out.1 w8 (Below.refl _ _))
  go_upto_region 11 with fail
  go_wp2_with fail
  go_at_call 29
  (with_reducible refine Calls.mono CR.out ?_)
  rintro e wc ⟨Z, rfl, hO, hbc⟩
  have HXc := Aside0.mk (And.intro (HX8.out.1.below hbc _ _) hO.isF)
  have HGc := Aside0.mk (HG8.out.below hbc)
  have HSr := Aside0.mk (HS8.out.move hbc HS8.out.lt)
  have HWc := Aside0.mk (HW8.out.trans (hbc.mono HW8.out.size))
  have HCK := Aside0.mk HX8.out.2
  clear hO hbc CR HG8 HS8 HX8 HG6 HS6 HW6 HB8
  have CB : Aside0 (∀ w', Below wc.heap.size wc w' → Calls Tryz.prog 21 #[.agg #[.int .i64 (t : Int), .int .i64 (n : Int), .int .i64 (sq : Int), .int .i64 ex5, .slice A4 names.length c4, .slice A5 lv.length c5, .slice A6 sa.length c6, .slice A7 rs5.length c7], .pointer (some ⟨Z, 0, none⟩)] w' fun e w'' => e = .returned (.bool true) ∧ Below w'.heap.size w' w'') := ⟨fun w' hb => by have h := check_prog wc t n sq ex5 A4 A5 A6 A7 names.length c4 lv.length c5 sa.length c6 c7 rs5 HGc.out.ru r k f HN.out.1 HN.out.2 Z HXc.out.2 w' hb; rwa [fitT_chkT (fun r h1 h2 => (good_lefts HGc.out r h1 h2).1), HCK.out] at h⟩
  have CT : Aside0 (∀ w', Below wc.heap.size wc w' → Calls Tryz.prog 20 #[.agg #[.int .i64 (t : Int), .int .i64 (n : Int), .int .i64 (sq : Int), .int .i64 ex5, .slice A4 names.length c4, .slice A5 lv.length c5, .slice A6 sa.length c6, .slice A7 rs5.length c7], .pointer (some ⟨X, 0, none⟩)] w' fun e w'' => e = .returned (.string (txtT names rs5 r k f)) ∧ Below w'.heap.size w' w'') := ⟨(rtext_calls wc t n sq ex5 A4 A5 A6 A7 names c4 lv.length c5 sa.length c6 c7 rs5 HGc.out.ru HGc.out.nm (by have := HGc.out.nml; omega) (good_lefts HGc.out) HGc.out.nms (.cons r k f .nil)).1 HCK.out HN.out.1 X HXc.out.1⟩
  have CU : Aside0 (∀ w', Below wc.heap.size wc w' → Calls Tryz.prog 22 #[.agg #[.int .i64 (t : Int), .int .i64 (n : Int), .int .i64 (sq : Int), .int .i64 ex5, .slice A4 names.length c4, .slice A5 lv.length c5, .slice A6 sa.length c6, .slice A7 rs5.length c7], .pointer (some ⟨Z, 0, none⟩)] w' fun e w'' => e = .returned (.string (txtT names rs5 r k f)) ∧ Below w'.heap.size w' w'') := ⟨fun w' hb => by have h := text_prog wc t n sq ex5 A4 A5 A6 A7 names c4 lv.length c5 sa.length c6 c7 rs5 HGc.out.ru HGc.out.nm (by have := HGc.out.nml; omega) (good_lefts HGc.out) HGc.out.nms r k f HN.out.1 HN.out.2 Z HXc.out.2 w' hb; rwa [if_pos HCK.out] at h⟩
  have CY1 : Aside0 (∀ w', Below wc.heap.size wc w' → Calls Tryz.prog 24 #[.pointer (some ⟨Z, 0, none⟩)] w' fun e w'' => ∃ v, e = .returned v ∧ Kd.R (Kd.int .i64) 3 w'' w'.heap.size (fun _ => True) v (F.cons r k f .nil).leaves ∧ Below w'.heap.size w' w'') := ⟨fun w' hb => by have h := Yield_calls w' Z r k f (HXc.out.2.below hb _ _); rwa [yield_leaves r k f HN.out.1 HN.out.2] at h⟩
  have CY2 : Aside0 (∀ w', Below wc.heap.size wc w' → Calls Tryz.prog 25 #[.pointer (some ⟨X, 0, none⟩)] w' fun e w'' => ∃ v, e = .returned v ∧ Kd.R (Kd.int .i64) 3 w'' w'.heap.size (fun _ => True) v (F.cons r k f .nil).leaves ∧ Below w'.heap.size w' w'') := ⟨fun w' hb => (yield_calls wc (.cons r k f .nil)).1 X HXc.out.1 (by have := HN.out; omega) w' hb⟩
  have CE : Aside0 (∀ w', Below wc.heap.size wc w' → Calls Tryz.prog 26 #[.pointer (some ⟨Z, 0, none⟩), .pointer (some ⟨X, 0, none⟩)] w' fun e w'' => e = .returned (.bool true) ∧ Below w'.heap.size w' w'') := ⟨fun w' hb => by have h := (eq_calls wc (.cons r k f .nil)).1 Z X r k f HXc.out.2 HXc.out.1 w' hb; rw [eqB_self] at h; exact h.mono (fun e w'' h => ⟨h.1, drew_below h.2⟩)⟩
  clear HN HGc HXc HCK
  generalize (F.cons r k f .nil).leaves = L at *
  generalize txtT names rs5 r k f = tx at *
  go_upto_region 12 with fail
  have hS0 : Below wc.heap.size wc wc.drew := below_drew1 (Below.refl _ _)
  have stepS := Aside0.mk (fun (w' : World) (hS' : Below wc.heap.size wc w') => (⟨(HSr.out.move hS' HSr.out.lt).c 0 rfl, (HSr.out.move hS' HSr.out.lt).c 1 rfl, (HSr.out.move hS' HSr.out.lt).c 2 rfl, (HSr.out.move hS' HSr.out.lt).c 3 rfl, (HSr.out.move hS' HSr.out.lt).c 4 rfl, (HSr.out.move hS' HSr.out.lt).c 5 rfl, (HSr.out.move hS' HSr.out.lt).c 6 rfl, (HSr.out.move hS' HSr.out.lt).c 7 rfl⟩ : _ ∧ _ ∧ _ ∧ _ ∧ _ ∧ _ ∧ _ ∧ _))
  refine h_begin (fun w' => Below wc.heap.size wc w') (by kernel_rfl) ?_
  refine h_take (i := 0) (v := ?_) rfl (by kernel_rfl) (by kernel_rfl) (by kernel_rfl) (fun _ _ _ h => h) (Or.inl ⟨by rfl, ?_⟩) hS0 ?_
  rotate_left
  · intro w' hS'
    obtain ⟨s0, s1, s2, s3, s4, s5, s6, s7⟩ := stepS.out w' hS'
    go_simp
    (try with_reducible rfl)
  simp only [Act.put, List.setIfInBounds_toArray, List.set_cons_zero, List.set_cons_succ]
  refine h_take (i := 1) (v := ?_) rfl (by kernel_rfl) (by kernel_rfl) (by kernel_rfl) (fun _ _ _ h => h) (Or.inl ⟨by rfl, ?_⟩) hS0 ?_
  rotate_left
  · intro w' hS'
    go_simp
    (try with_reducible rfl)
  simp only [Act.put, List.setIfInBounds_toArray, List.set_cons_zero, List.set_cons_succ]
  refine h_one (i := 2) (by kernel_rfl) rfl (fun K hK => ?_)
  go_simp
  (with_reducible refine Calls.mono (CB.out _ hS0) ?_)
  rintro e w12 ⟨rfl, hb3⟩
  have hS2 : Below wc.heap.size wc w12 := hS0.trans (hb3.mono hS0.size)
  go_wp2_with fail
  refine hK.out _ _ hS2 ?_
  clear hK K
  clear hb3
  refine h_take (i := 3) (v := ?_) rfl (by kernel_rfl) (by kernel_rfl) (by kernel_rfl) (fun _ _ _ h => h) (Or.inl ⟨by rfl, ?_⟩) hS2 ?_
  rotate_left
  · intro w' hS'
    go_simp
    (try with_reducible rfl)
  simp only [Act.put, List.setIfInBounds_toArray, List.set_cons_zero, List.set_cons_succ]
  refine h_take (i := 4) (v := ?_) rfl (by kernel_rfl) (by kernel_rfl) (by kernel_rfl) (fun _ _ _ h => h) (Or.inl ⟨by rfl, ?_⟩) hS2 ?_
  rotate_left
  · intro w' hS'
    go_simp
    (try with_reducible rfl)
  simp only [Act.put, List.setIfInBounds_toArray, List.set_cons_zero, List.set_cons_succ]
  refine h_take (i := 5) (v := ?_) rfl (by kernel_rfl) (by kernel_rfl) (by kernel_rfl) (fun _ _ _ h => h) (Or.inl ⟨by rfl, ?_⟩) hS2 ?_
  rotate_left
  · intro w' hS'
    go_simp
    (try with_reducible rfl)
  simp only [Act.put, List.setIfInBounds_toArray, List.set_cons_zero, List.set_cons_succ]
  refine h_one (i := 6) (by kernel_rfl) rfl (fun K hK => ?_)
  go_simp
  (with_reducible refine Calls.mono (CE.out _ hS2) ?_)
  rintro e w16 ⟨rfl, hb3⟩
  have hS6 : Below wc.heap.size wc w16 := hS2.trans (hb3.mono hS2.size)
  go_wp2_with fail
  refine hK.out _ _ hS6 ?_
  clear hK K
  clear hb3
  refine h_take (i := 7) (v := ?_) rfl (by kernel_rfl) (by kernel_rfl) (by kernel_rfl) (fun _ _ _ h => h) (Or.inl ⟨by rfl, ?_⟩) hS6 ?_
  rotate_left
  · intro w' hS'
    go_simp
    (try with_reducible rfl)
  simp only [Act.put, List.setIfInBounds_toArray, List.set_cons_zero, List.set_cons_succ]
  refine h_take (i := 8) (v := ?_) rfl (by kernel_rfl) (by kernel_rfl) (by kernel_rfl) (fun _ _ _ h => h) (Or.inl ⟨by rfl, ?_⟩) hS6 ?_
  rotate_left
  · intro w' hS'
    go_simp
    (try with_reducible rfl)
  simp only [Act.put, List.setIfInBounds_toArray, List.set_cons_zero, List.set_cons_succ]
  refine h_take (i := 9) (v := ?_) rfl (by kernel_rfl) (by kernel_rfl) (by kernel_rfl) (fun _ _ _ h => h) (Or.inl ⟨by rfl, ?_⟩) hS6 ?_
  rotate_left
  · intro w' hS'
    obtain ⟨s0, s1, s2, s3, s4, s5, s6, s7⟩ := stepS.out w' hS'
    go_simp
    (try with_reducible rfl)
  simp only [Act.put, List.setIfInBounds_toArray, List.set_cons_zero, List.set_cons_succ]
  refine h_take (i := 10) (v := ?_) rfl (by kernel_rfl) (by kernel_rfl) (by kernel_rfl) (fun _ _ _ h => h) (Or.inl ⟨by rfl, ?_⟩) hS6 ?_
  rotate_left
  · intro w' hS'
    go_simp
    (try with_reducible rfl)
  simp only [Act.put, List.setIfInBounds_toArray, List.set_cons_zero, List.set_cons_succ]
  refine h_take (i := 12) (v := ?_) rfl (by kernel_rfl) (by kernel_rfl) (by kernel_rfl) (fun _ _ _ h => h) (Or.inl ⟨by rfl, ?_⟩) hS6 ?_
  rotate_left
  · intro w' hS'
    obtain ⟨s0, s1, s2, s3, s4, s5, s6, s7⟩ := stepS.out w' hS'
    go_simp
    (try with_reducible rfl)
  simp only [Act.put, List.setIfInBounds_toArray, List.set_cons_zero, List.set_cons_succ]
  refine h_take (i := 13) (v := ?_) rfl (by kernel_rfl) (by kernel_rfl) (by kernel_rfl) (fun _ _ _ h => h) (Or.inl ⟨by rfl, ?_⟩) hS6 ?_
  rotate_left
  · intro w' hS'
    go_simp
    (try with_reducible rfl)
  simp only [Act.put, List.setIfInBounds_toArray, List.set_cons_zero, List.set_cons_succ]
  refine h_one (i := 11) (by kernel_rfl) rfl (fun K hK => ?_)
  go_simp
  (with_reducible refine Calls.mono (CU.out _ hS6) ?_)
  rintro e w21 ⟨rfl, hb3⟩
  have hS11 : Below wc.heap.size wc w21 := hS6.trans (hb3.mono hS6.size)
  go_wp2_with fail
  refine hK.out _ _ hS11 ?_
  clear hK K
  clear hb3
  refine h_one (i := 14) (by kernel_rfl) rfl (fun K hK => ?_)
  go_simp
  (with_reducible refine Calls.mono (CT.out _ hS11) ?_)
  rintro e w24 ⟨rfl, hb3⟩
  have hS14 : Below wc.heap.size wc w24 := hS11.trans (hb3.mono hS11.size)
  go_wp2_with fail
  refine hK.out _ _ hS14 ?_
  clear hK K
  clear hb3
  refine h_take (i := 15) (v := ?_) rfl (by kernel_rfl) (by kernel_rfl) (by kernel_rfl) (fun _ _ _ h => h) (Or.inl ⟨by rfl, ?_⟩) hS14 ?_
  rotate_left
  · intro w' hS'
    go_simp
    (try with_reducible rfl)
  simp only [Act.put, List.setIfInBounds_toArray, List.set_cons_zero, List.set_cons_succ]
  refine h_take (i := 16) (v := ?_) rfl (by kernel_rfl) (by kernel_rfl) (by kernel_rfl) (fun _ _ _ h => h) (Or.inl ⟨by rfl, ?_⟩) hS14 ?_
  rotate_left
  · intro w' hS'
    go_simp
    (try with_reducible rfl)
  simp only [Act.put, List.setIfInBounds_toArray, List.set_cons_zero, List.set_cons_succ]
  refine h_take (i := 17) (v := ?_) rfl (by kernel_rfl) (by kernel_rfl) (by kernel_rfl) (fun _ _ _ h => h) (Or.inl ⟨by rfl, ?_⟩) hS14 ?_
  rotate_left
  · intro w' hS'
    go_simp
    (try with_reducible rfl)
  simp only [Act.put, List.setIfInBounds_toArray, List.set_cons_zero, List.set_cons_succ]
  refine h_take (i := 18) (v := ?_) rfl (by kernel_rfl) (by kernel_rfl) (by kernel_rfl) (fun _ _ _ h => h) (Or.inl ⟨by rfl, ?_⟩) hS14 ?_
  rotate_left
  · intro w' hS'
    go_simp
    (try with_reducible rfl)
  simp only [Act.put, List.setIfInBounds_toArray, List.set_cons_zero, List.set_cons_succ]
  refine h_take (i := 20) (v := ?_) rfl (by kernel_rfl) (by kernel_rfl) (by kernel_rfl) (fun _ _ _ h => h) (Or.inl ⟨by rfl, ?_⟩) hS14 ?_
  rotate_left
  · intro w' hS'
    go_simp
    (try with_reducible rfl)
  simp only [Act.put, List.setIfInBounds_toArray, List.set_cons_zero, List.set_cons_succ]
  refine h_one (i := 19) (by kernel_rfl) rfl (fun K hK => ?_)
  go_simp
  (with_reducible refine Calls.mono (CY1.out _ hS14) ?_)
  rintro e w29 ⟨v1, rfl, hR1, hb3⟩
  obtain ⟨Al1, cl1, rfl⟩ := Kd.R_slice hR1
  obtain ⟨_, _, hC1⟩ := Kd.R_reads' hR1
  have hS19 : Below wc.heap.size wc w29 := hS14.trans (hb3.mono hS14.size)
  go_wp2_with fail
  refine hK.out _ _ hS19 ?_
  clear hK K
  clear hb3 hR1
  refine h_one (i := 21) (by kernel_rfl) rfl (fun K hK => ?_)
  go_simp
  (with_reducible refine Calls.mono (CY2.out _ hS19) ?_)
  rintro e w31 ⟨v2, rfl, hR2, hb3⟩
  obtain ⟨Al2, cl2, rfl⟩ := Kd.R_slice hR2
  obtain ⟨_, _, hC2⟩ := Kd.R_reads' hR2
  have hC1' := Kd.C_below hC1 hb3
  have hS21 : Below wc.heap.size wc w31 := hS19.trans (hb3.mono hS19.size)
  go_wp2_with fail
  refine hK.out _ _ hS21 ?_
  clear hK K
  clear hb3 hR2 hC1
  refine h_one (i := 22) (by kernel_rfl) rfl (fun K hK => ?_)
  go_simp
  (with_reducible refine Calls.mono (eqints_calls w31 Al1 Al2 cl1 cl2 L hC1' hC2) ?_)
  rintro e w32 ⟨rfl, hb3⟩
  have hS22 : Below wc.heap.size wc w32 := hS21.trans (hb3.mono hS21.size)
  go_wp2_with fail
  refine hK.out _ _ hS22 ?_
  clear hK K
  clear hb3 hC1' hC2
  refine h_take (i := 23) (v := ?_) rfl (by kernel_rfl) (by kernel_rfl) (by kernel_rfl) (fun _ _ _ h => h) (Or.inl ⟨by rfl, ?_⟩) hS22 ?_
  rotate_left
  · intro w' hS'
    go_simp
    (try with_reducible rfl)
  simp only [Act.put, List.setIfInBounds_toArray, List.set_cons_zero, List.set_cons_succ]
  refine h_take (i := 24) (v := ?_) rfl (by kernel_rfl) (by kernel_rfl) (by kernel_rfl) (fun _ _ _ h => h) (Or.inl ⟨by rfl, ?_⟩) hS22 ?_
  rotate_left
  · intro w' hS'
    go_simp
    (try with_reducible rfl)
  simp only [Act.put, List.setIfInBounds_toArray, List.set_cons_zero, List.set_cons_succ]
  refine h_done (by kernel_rfl) ?_
  have H14 := Aside0.mk (HWc.out.trans (hS22.mono HWc.out.size))
  clear stepS hS0 hS2 hS6 hS11 hS14 hS19 hS21 hS22
  go_wp2_with fail
  go_ret
  exact ⟨rfl, H14.out⟩
theorem treegrown_row (w : World) (A0 : Option Addr) (c0 : Nat) (A3 : Option Addr) (c3 : Nat) (x : O.SGr) (r0 : O.kTk.C w A0 x.f0.length x.f0) (e0 : x.f0.length ≤ c0) (r3 : O.kRu.C w A3 x.f3.length x.f3) (e3 : x.f3.length ≤ c3) {ok : Prop} (hok : ok)
    (B1 : Option Addr) (d1 : Nat) (ps : List Int) (ha : Kd.C (Kd.int .i64) w B1 ps.length ps) (hd1 : ps.length ≤ d1) {ok1 : Prop} (hok1 : ok1) :
    Calls Tryz.prog 4 #[.agg #[.slice A0 x.f0.length c0, .string x.f1, .int .i64 x.f2, .slice A3 x.f3.length c3], .slice B1 ps.length d1] w fun e w' => e = .returned (.bool true) ∧ Below w.heap.size w w' :=
  grown_walk w A0 c0 x.f0 x.f1 x.f2 A3 c3 x.f3 r0 e0 r3 e3 B1 d1 ps ha
end Go.Proofs.YtjhemobplcelbaaGreatDoor.T
