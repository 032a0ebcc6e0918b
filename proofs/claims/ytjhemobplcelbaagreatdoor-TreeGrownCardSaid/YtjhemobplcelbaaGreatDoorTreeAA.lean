/- tree: the law TreeAll (printed by mk_all.py). -/
import Derived.Test.YtjhemobplcelbaaGreatDoorTreeS2
import Derived.Test.YtjhemobplcelbaaGreatDoorTreeI
import Derived.Test.YtjhemobplcelbaaGreatDoorTreeE
import Derived.Test.YtjhemobplcelbaaGreatDoorTreeM
import Derived.Test.YtjhemobplcelbaaGreatDoorTreeN
import Derived.Test.YtjhemobplcelbaaGreatDoorOfQ
namespace Go.Proofs.YtjhemobplcelbaaGreatDoor.T
open Go.RowKit Go.Proofs.YtjhemobplcelbaaGreatDoorW.PrintWords Go.Proofs.YtjhemobplcelbaaGreatDoorW.PrintLast Go.Proofs.YtjhemobplcelbaaGreatDoorW.PrintMore
open Go.Proofs.YtjhemobplcelbaaGreatDoor.U (SR kSR rule_at int_at okRule)
open Go.Proofs.YtjhemobplcelbaaGreatDoor.O (Bx STk SRu kTk kRu cut_calls good_calls)
set_option linter.unusedVariables false
set_option linter.unusedSimpArgs false
theorem C_take2 {w : World} {A : Option Addr} {l : List S87} (h : Kd.C k87 w A l.length l) (n : Nat) : Kd.C k87 w A (l.take n).length (l.take n) := by
  refine ⟨rfl, by have := h.2.1; rw [List.length_take]; omega, fun hp => ?_⟩
  obtain ⟨ad, e, hc⟩ := h.2.2 (by rw [List.length_take] at hp; omega)
  refine ⟨ad, e, fun j p hj => hc j p ?_⟩
  rw [List.getElem?_take] at hj
  split at hj
  · exact hj
  · cases hj
theorem good_lefts {w : World} {t n st : Nat} {A4 : Option Addr} {c4 : Nat} {names : List ByteArray} {A5 : Option Addr} {c5 : Nat} {lv : List Int} {A6 : Option Addr} {c6 : Nat} {sa : List Int} {A7 : Option Addr} {c7 : Nat} {rs : List SR} (h : O.Good w t n st A4 c4 names A5 c5 lv A6 c6 sa A7 c7 rs) : ∀ r : Int, 1 ≤ r → r < rs.length → 0 ≤ (ruOf rs r).f0 ∧ (ruOf rs r).f0 < names.length := by
  intro r h1 h2
  obtain ⟨i, rfl⟩ : ∃ i : Nat, r = ((i + 1 : Nat) : Int) := ⟨(r - 1).toNat, by omega⟩
  have hi : i + 1 < rs.length := by omega
  rw [ruOf_at rs (i + 1) hi]
  have hm : rs[i + 1] ∈ rs.tail := by
    cases rs with
    | nil => exact absurd hi (by simp)
    | cons a rs => exact List.getElem_mem (by simpa using hi)
  have := (h.ok _ hm).1
  have := h.nml
  omega
theorem yield_leaves (r k : Int) (f : F) (h : (F.cons r k f .nil).nodes ≤ 1000) (hh : (F.cons r k f .nil).height ≤ 1000) : (F.cons r k f .nil).Yield = (F.cons r k f .nil).leaves := by
  unfold F.Yield
  rw [Size_ok _ (by omega) (by omega), if_neg]
  simp only [F.nodes]
  omega
set_option maxRecDepth 100000 in
set_option maxHeartbeats 8000000 in
theorem treeall_walk (w : World) (A : Option Addr) (c : Nat) (ts : List STk) (st : ByteArray) (ex : Int) (A2 : Option Addr) (c2 : Nat) (rs : List SRu) (hts : Kd.C kTk w A ts.length ts) (hct : ts.length ≤ c) (hrs : Kd.C kRu w A2 rs.length rs) (hc2 : rs.length ≤ c2)
    (B1 : Option Addr) (d1 : Nat) (la : List S87) (ha : Kd.C k87 w B1 la.length la) (B2 : Option Addr) (d2 : Nat) (lb : List S87) (hb0 : Kd.C k87 w B2 lb.length lb) (hd1 : la.length ≤ d1) (hd2 : lb.length ≤ d2) {ok : Prop} (hok : ok) :
    Calls Tryz.prog 3 #[.agg #[.slice A ts.length c, .string st, .int .i64 ex, .slice A2 rs.length c2], .slice B1 la.length d1, .slice B2 lb.length d2] w fun e w' => e = .returned (.bool true) ∧ Below w.heap.size w w' := by
  have HL := Aside0.mk (And.intro hts (And.intro hct (And.intro hrs hc2)))
  have HAB := Aside0.mk (And.intro ha hb0)
  have hb := below_alloc (Below.refl w.heap.size w) (.cells #[.slice A ts.length c, .string st, .int .i64 ex, .slice A2 rs.length c2] 25)
  have hx := Bx.new w #[.slice A ts.length c, .string st, .int .i64 ex, .slice A2 rs.length c2] 25
  clear hts hct hrs hc2 hok ha hb0
  obtain ⟨m1, hm1⟩ : ∃ m, m = (la.take 40).length := ⟨_, rfl⟩
  have hq1 : (min (la.length : Int) 40).toNat = m1 := by rw [hm1, List.length_take]; omega
  have HM1 := Aside0.mk hm1
  obtain ⟨m2, hm2⟩ : ∃ m, m = (lb.take 40).length := ⟨_, rfl⟩
  have hq2 : (min (lb.length : Int) 40).toNat = m2 := by rw [hm2, List.length_take]; omega
  have HM2 := Aside0.mk hm2
  clear hm1 hm2
  go_enter Tryz.func3, Tryz.ntmps3
  go_upto_region 1 with fail
  obtain ⟨X0, hX⟩ : ∃ X, X = w.heap.size := ⟨_, rfl⟩
  rw [← hX] at hx
  rw [← hX]
  have HX := Aside0.mk hx
  have HB := Aside0.mk hb
  generalize w.alloc (.cells #[.slice A ts.length c, .string st, .int .i64 ex, .slice A2 rs.length c2] 25) = W1 at *
  clear hx hb hX
  go_upto_region 4 with (first
    | (go_at_call 13; refine (begun_yes _).mono ?_; rintro e w3 ⟨rfl, hb3⟩; have HB3 := Aside0.mk (HB.out.trans (hb3.mono HB.out.size)); have HX3 := Aside0.mk (HX.out.move hb3 HX.out.lt); clear hb3))
  have x0 := HX3.out.c 0 rfl
  have x1 := HX3.out.c 1 rfl
  have x2 := HX3.out.c 2 rfl
  have x3 := HX3.out.c 3 rfl
  have C1 := Aside0.mk (cut_calls w3 A c ts st ex A2 c2 rs (Kd.C_below HL.out.1 HB3.out) HL.out.2.1 (Kd.C_below HL.out.2.2.1 HB3.out) HL.out.2.2.2)
  go_upto_region 5 with (first
    | (go_at_call 15; (with_reducible refine Calls.mono C1.out ?_); rintro e w4 ⟨A', c', ts', st', ex', A2', c2', rs', rfl, g1, g2, g3, g4, g5, g6, g7, g8, g9, hb4⟩; have HB4 := Aside0.mk (HB3.out.trans (hb4.mono HB3.out.size)); have C2 := Aside0.mk (good_calls w4 A' c' ts' st' ex' A2' c2' rs' g1 g2 g3 g4 g5 g6 g7 g8 g9); clear g1 g2 g3 g4 g5 g6 g7 g8 g9 hb4)
    | (go_at_call 14; (with_reducible refine Calls.mono C2.out ?_); rintro e w5 ⟨t, n, sq, ex5, err, A4, c4, names, A5, c5, lv, A6, c6, sa, A7, c7, rs5, rfl, hg, hb5⟩; have HG := Aside0.mk hg; have HB5 := Aside0.mk (HB4.out.trans (hb5.mono HB4.out.size)); clear hg hb5))
  have hbA := below_alloc (Below.refl w5.heap.size w5) (.cells #[.int .i64 (t : Int), .int .i64 (n : Int), .int .i64 (sq : Int), .int .i64 ex5, .slice A4 names.length c4, .slice A5 lv.length c5, .slice A6 sa.length c6, .slice A7 rs5.length c7] 32)
  by_cases he : err = 0
  case neg =>
    have t1 : (!(err == 0)) = true := by simpa using he
    have t2 : (err == 0) = false := by simpa using he
    have t3 : (err != 0) = true := by simpa using he
    have HA := Aside0.mk (HB5.out.trans (hbA.mono HB5.out.size))
    clear hbA x0 x1 x2 x3 hq1 hq2
    go_wp2_with fail
    go_ret
    exact ⟨rfl, HA.out⟩
  subst he
  have hg := HG.out rfl
  have hxS := Bx.new w5 #[.int .i64 (t : Int), .int .i64 (n : Int), .int .i64 (sq : Int), .int .i64 ex5, .slice A4 names.length c4, .slice A5 lv.length c5, .slice A6 sa.length c6, .slice A7 rs5.length c7] 32
  obtain ⟨Y, hY⟩ : ∃ Y, Y = w5.heap.size := ⟨_, rfl⟩
  rw [← hY] at hxS
  rw [← hY]
  have HA := Aside0.mk hbA
  generalize w5.alloc (.cells #[.int .i64 (t : Int), .int .i64 (n : Int), .int .i64 (sq : Int), .int .i64 ex5, .slice A4 names.length c4, .slice A5 lv.length c5, .slice A6 sa.length c6, .slice A7 rs5.length c7] 32) = W6 at *
  have HG6 := Aside0.mk (hg.below hbA)
  have HS6 := Aside0.mk hxS
  have HW6 := Aside0.mk (HB5.out.trans (HA.out.mono HB5.out.size))
  clear hg hbA hxS hY x0 x1 x2 x3 HG HA HB5 HB4 C1 C2 HX3 HB3 HX HB HL
  go_upto_region 7 with fail
  have HC1 : Aside0 (∀ w', Below w.heap.size w w' → BuildC (la.take 40) B1 d1 13 ∧ Kd.C k87 w' B1 (la.take 40).length (la.take 40)) := ⟨fun w' hb => ⟨build_calls (la.take 40) B1 d1 13, C_take2 (Kd.C_below HAB.out.1 hb) 40⟩⟩
  have HC2 : Aside0 (∀ w', Below w.heap.size w w' → BuildC (lb.take 40) B2 d2 13 ∧ Kd.C k87 w' B2 (lb.take 40).length (lb.take 40)) := ⟨fun w' hb => ⟨build_calls (lb.take 40) B2 d2 13, C_take2 (Kd.C_below HAB.out.2 hb) 40⟩⟩
  have HLE1 := Aside0.mk (bld_le (la.take 40) 13 0 (by decide))
  have HLE2 := Aside0.mk (bld_le (lb.take 40) 13 0 (by decide))
  generalize la.take 40 = qa at *
  generalize lb.take 40 = qb at *
  go_wp2_with fail
  rw [HM1.out]
  refine ((HC1.out W6 HW6.out).1 0 0 rfl (by decide) W6 (HC1.out W6 HW6.out).2).mono ?_
  rintro e w7 ⟨X, rfl, hO, hb7⟩
  have HX7 := Aside0.mk (And.intro hO.isF hb7)
  have HW7 := Aside0.mk (HW6.out.trans (hb7.mono HW6.out.size))
  clear hO hb7 hq1 HC1
  generalize bld qa 13 0 = T1 at *
  obtain ⟨⟨r, k, f⟩, i1⟩ := T1
  go_upto_region 8 with fail
  go_wp2_with fail
  rw [HM2.out]
  refine ((HC2.out w7 HW7.out).1 0 0 rfl (by decide) w7 (HC2.out w7 HW7.out).2).mono ?_
  rintro e w8 ⟨X2, rfl, hO, hb8⟩
  have HX8 := Aside0.mk (And.intro (HX7.out.1.below hb8 _ _) hO.isF)
  have HW8 := Aside0.mk (HW7.out.trans (hb8.mono HW7.out.size))
  have HG8 := Aside0.mk ((HG6.out.below HX7.out.2).below hb8)
  have HS8 := Aside0.mk ((HS6.out.move HX7.out.2 HS6.out.lt).move hb8 (HS6.out.move HX7.out.2 HS6.out.lt).lt)
  clear hO hb8 hq2 HC2 HX7 HW7 HG6 HS6 HW6
  generalize bld qb 13 0 = T2 at *
  obtain ⟨⟨r2, k2, f2⟩, i2⟩ := T2
  have HN : Aside0 ((F.cons r k f .nil).nodes ≤ 1000 ∧ (F.cons r k f .nil).height ≤ 1000) := ⟨by have h := HLE1.out; rw [one_nodes, one_height]; omega⟩
  clear HLE1 HLE2 HM1 HM2 HAB
  have CZ1 := Aside0.mk (ref_Size w8 X r k f HX8.out.1 (by have := HN.out; omega) (by have := HN.out; omega))
  have CZ2 : Aside0 (∀ w', Below w8.heap.size w8 w' → Calls Tryz.prog 18 #[.pointer (some ⟨X, 0, none⟩)] w' fun e w'' => e = .returned (.tuple #[.int .i64 ((F.cons r k f .nil).nodes : Int), .int .i64 ((F.cons r k f .nil).height : Int)]) ∧ Below w'.heap.size w' w'') := ⟨fun w' hb => by have h := Size_calls w' X r k f (HX8.out.1.below hb _ _); rwa [Size_ok _ (by have := HN.out; omega) (by have := HN.out; omega)] at h⟩
  have CA : Aside0 (∀ w', Below w8.heap.size w8 w' → Calls Tryz.prog 19 #[.agg #[.int .i64 (t : Int), .int .i64 (n : Int), .int .i64 (sq : Int), .int .i64 ex5, .slice A4 names.length c4, .slice A5 lv.length c5, .slice A6 sa.length c6, .slice A7 rs5.length c7], .pointer (some ⟨X, 0, none⟩)] w' fun e w'' => e = .returned (.bool (chkT t rs5 r k f)) ∧ Below w'.heap.size w' w'') := ⟨fun w' hb => check_ref w8 t n sq ex5 A4 A5 A6 A7 names.length c4 lv.length c5 sa.length c6 c7 rs5 HG8.out.ru r k f HN.out.1 HN.out.2 X HX8.out.1 w' hb⟩
  have CB : Aside0 (∀ w', Below w8.heap.size w8 w' → Calls Tryz.prog 21 #[.agg #[.int .i64 (t : Int), .int .i64 (n : Int), .int .i64 (sq : Int), .int .i64 ex5, .slice A4 names.length c4, .slice A5 lv.length c5, .slice A6 sa.length c6, .slice A7 rs5.length c7], .pointer (some ⟨X, 0, none⟩)] w' fun e w'' => e = .returned (.bool (chkT t rs5 r k f)) ∧ Below w'.heap.size w' w'') := ⟨fun w' hb => by have h := check_prog w8 t n sq ex5 A4 A5 A6 A7 names.length c4 lv.length c5 sa.length c6 c7 rs5 HG8.out.ru r k f HN.out.1 HN.out.2 X HX8.out.1 w' hb; rwa [fitT_chkT (fun r h1 h2 => (good_lefts HG8.out r h1 h2).1)] at h⟩
  have CT : Aside0 (chkT t rs5 r k f = true → ∀ w', Below w8.heap.size w8 w' → Calls Tryz.prog 20 #[.agg #[.int .i64 (t : Int), .int .i64 (n : Int), .int .i64 (sq : Int), .int .i64 ex5, .slice A4 names.length c4, .slice A5 lv.length c5, .slice A6 sa.length c6, .slice A7 rs5.length c7], .pointer (some ⟨X, 0, none⟩)] w' fun e w'' => e = .returned (.string (txtT names rs5 r k f)) ∧ Below w'.heap.size w' w'') := ⟨fun hc => (rtext_calls w8 t n sq ex5 A4 A5 A6 A7 names c4 lv.length c5 sa.length c6 c7 rs5 HG8.out.ru HG8.out.nm (by have := HG8.out.nml; omega) (good_lefts HG8.out) HG8.out.nms (.cons r k f .nil)).1 hc HN.out.1 X HX8.out.1⟩
  have CU : Aside0 (∀ w', Below w8.heap.size w8 w' → Calls Tryz.prog 22 #[.agg #[.int .i64 (t : Int), .int .i64 (n : Int), .int .i64 (sq : Int), .int .i64 ex5, .slice A4 names.length c4, .slice A5 lv.length c5, .slice A6 sa.length c6, .slice A7 rs5.length c7], .pointer (some ⟨X, 0, none⟩)] w' fun e w'' => e = .returned (.string (if chkT t rs5 r k f = true then txtT names rs5 r k f else ⟨#[]⟩)) ∧ Below w'.heap.size w' w'') := ⟨fun w' hb => text_prog w8 t n sq ex5 A4 A5 A6 A7 names c4 lv.length c5 sa.length c6 c7 rs5 HG8.out.ru HG8.out.nm (by have := HG8.out.nml; omega) (good_lefts HG8.out) HG8.out.nms r k f HN.out.1 HN.out.2 X HX8.out.1 w' hb⟩
  have CY1 : Aside0 (∀ w', Below w8.heap.size w8 w' → Calls Tryz.prog 24 #[.pointer (some ⟨X, 0, none⟩)] w' fun e w'' => ∃ v, e = .returned v ∧ Kd.R (Kd.int .i64) 3 w'' w'.heap.size (fun _ => True) v (F.cons r k f .nil).leaves ∧ Below w'.heap.size w' w'') := ⟨fun w' hb => by have h := Yield_calls w' X r k f (HX8.out.1.below hb _ _); rwa [yield_leaves r k f HN.out.1 HN.out.2] at h⟩
  have CY2 : Aside0 (∀ w', Below w8.heap.size w8 w' → Calls Tryz.prog 25 #[.pointer (some ⟨X, 0, none⟩)] w' fun e w'' => ∃ v, e = .returned v ∧ Kd.R (Kd.int .i64) 3 w'' w'.heap.size (fun _ => True) v (F.cons r k f .nil).leaves ∧ Below w'.heap.size w' w'') := ⟨fun w' hb => (yield_calls w8 (.cons r k f .nil)).1 X HX8.out.1 (by have := HN.out; omega) w' hb⟩
  have CE1 : Aside0 (∀ w', Below w8.heap.size w8 w' → Calls Tryz.prog 26 #[.pointer (some ⟨X, 0, none⟩), .pointer (some ⟨X2, 0, none⟩)] w' fun e w'' => e = .returned (.bool ((F.cons r k f .nil).eqB (.cons r2 k2 f2 .nil))) ∧ Below w'.heap.size w' w'') := ⟨fun w' hb => ((eq_calls w8 (.cons r k f .nil)).1 X X2 r2 k2 f2 HX8.out.1 HX8.out.2 w' hb).mono (fun e w'' h => ⟨h.1, drew_below h.2⟩)⟩
  have CE2 : Aside0 (∀ w', Below w8.heap.size w8 w' → Calls Tryz.prog 27 #[.pointer (some ⟨X, 0, none⟩), .pointer (some ⟨X2, 0, none⟩)] w' fun e w'' => e = .returned (.bool ((F.cons r k f .nil).eqB (.cons r2 k2 f2 .nil))) ∧ Below w'.heap.size w' w'') := ⟨fun w' hb => ((req_calls w8 (.cons r k f .nil)).1 X X2 r2 k2 f2 HX8.out.1 HX8.out.2 w' hb).mono (fun e w'' h => ⟨h.1, drew_below h.2⟩)⟩
  have CE3 : Aside0 (∀ w', Below w8.heap.size w8 w' → Calls Tryz.prog 26 #[.pointer (some ⟨X, 0, none⟩), .pointer (some ⟨X, 0, none⟩)] w' fun e w'' => e = .returned (.bool true) ∧ Below w'.heap.size w' w'') := ⟨fun w' hb => by have h := (eq_calls w8 (.cons r k f .nil)).1 X X r k f HX8.out.1 HX8.out.1 w' hb; rw [eqB_self] at h; exact h.mono (fun e w'' h => ⟨h.1, drew_below h.2⟩)⟩
  clear HN HG8 HX8
  generalize (F.cons r k f .nil).nodes = nd at *
  generalize (F.cons r k f .nil).height = ht at *
  generalize (F.cons r k f .nil).leaves = L at *
  generalize (F.cons r k f .nil).eqB (.cons r2 k2 f2 .nil) = eb at *
  generalize chkT t rs5 r k f = ck at *
  generalize txtT names rs5 r k f = tx at *
  go_upto_region 9 with fail
  go_wp2_with fail
  go_at_call 17
  refine CZ1.out.mono ?_
  rintro e w9 ⟨rfl, hb⟩
  have H9 := Aside0.mk hb
  clear hb CZ1
  go_upto_region 10 with fail
  go_wp2_with fail
  go_at_call 18
  refine (CZ2.out _ H9.out).mono ?_
  rintro e w10 ⟨rfl, hb⟩
  have H10 := Aside0.mk (H9.out.trans (hb.mono H9.out.size))
  clear hb CZ2 H9
  go_upto_region 12 with fail
  have HS10 := Aside0.mk (HS8.out.move H10.out HS8.out.lt)
  have s0 := HS10.out.c 0 rfl
  have s1 := HS10.out.c 1 rfl
  have s2 := HS10.out.c 2 rfl
  have s3 := HS10.out.c 3 rfl
  have s4 := HS10.out.c 4 rfl
  have s5 := HS10.out.c 5 rfl
  have s6 := HS10.out.c 6 rfl
  have s7 := HS10.out.c 7 rfl
  go_wp2_with fail
  go_at_call 19
  refine (CA.out _ H10.out).mono ?_
  rintro e w11 ⟨rfl, hb⟩
  have H11 := Aside0.mk (H10.out.trans (hb.mono H10.out.size))
  clear hb s0 s1 s2 s3 s4 s5 s6 s7 HS10
  go_upto_if 60 with fail
  go_cut [18] (fun v18 wx => v18 = .string (if ck = true then tx else ⟨#[]⟩) ∧ Below w8.heap.size w8 wx)
  case first =>
    cases ck with
    | false =>
      go_wp2_with fail
      go_meet
      exact ⟨rfl, H11.out⟩
    | true =>
      have HS11 := Aside0.mk (HS8.out.move H11.out HS8.out.lt)
      have s0 := HS11.out.c 0 rfl
      have s1 := HS11.out.c 1 rfl
      have s2 := HS11.out.c 2 rfl
      have s3 := HS11.out.c 3 rfl
      have s4 := HS11.out.c 4 rfl
      have s5 := HS11.out.c 5 rfl
      have s6 := HS11.out.c 6 rfl
      have s7 := HS11.out.c 7 rfl
      go_wp2_with fail
      go_at_call 20
      refine (CT.out (by trivial) _ H11.out).mono ?_
      rintro e w12 ⟨rfl, hb⟩
      have H12 := Aside0.mk (H11.out.trans (hb.mono H11.out.size))
      clear hb s0 s1 s2 s3 s4 s5 s6 s7 HS11
      go_wp2_with fail
      go_meet
      exact ⟨rfl, H12.out⟩
  case rest =>
    obtain ⟨rfl, hb⟩ := hcut
    have HSr := Aside0.mk (HS8.out.move hb HS8.out.lt)
    have HWc := Aside0.mk (HW8.out.trans (hb.mono HW8.out.size))
    have H8c := Aside0.mk hb
    clear hb CT HS8 HW8 H10 H11
    generalize (if ck = true then tx else ⟨#[]⟩) = wt at *
    have C2 : Aside0 (∀ w', Below wc.heap.size wc w' → _) := ⟨fun w' hb => CB.out w' (H8c.out.trans (hb.mono H8c.out.size))⟩
    have C5 : Aside0 (∀ w', Below wc.heap.size wc w' → _) := ⟨fun w' hb => CA.out w' (H8c.out.trans (hb.mono H8c.out.size))⟩
    have C20 : Aside0 (∀ w', Below wc.heap.size wc w' → _) := ⟨fun w' hb => CU.out w' (H8c.out.trans (hb.mono H8c.out.size))⟩
    have C26 : Aside0 (∀ w', Below wc.heap.size wc w' → _) := ⟨fun w' hb => CY1.out w' (H8c.out.trans (hb.mono H8c.out.size))⟩
    have C28 : Aside0 (∀ w', Below wc.heap.size wc w' → _) := ⟨fun w' hb => CY2.out w' (H8c.out.trans (hb.mono H8c.out.size))⟩
    have C34 : Aside0 (∀ w', Below wc.heap.size wc w' → _) := ⟨fun w' hb => CE1.out w' (H8c.out.trans (hb.mono H8c.out.size))⟩
    have C37 : Aside0 (∀ w', Below wc.heap.size wc w' → _) := ⟨fun w' hb => CE2.out w' (H8c.out.trans (hb.mono H8c.out.size))⟩
    have C43 : Aside0 (∀ w', Below wc.heap.size wc w' → _) := ⟨fun w' hb => CE3.out w' (H8c.out.trans (hb.mono H8c.out.size))⟩
    clear CA CB CU CY1 CY2 CE1 CE2 CE3
    go_upto_region 14 with fail
    have hS0 : Below wc.heap.size wc wc.drew := below_drew1 (Below.refl _ _)
    have stepS := Aside0.mk (fun (w' : World) (hS' : Below wc.heap.size wc w') => (⟨(HSr.out.move hS' HSr.out.lt).c 0 rfl, (HSr.out.move hS' HSr.out.lt).c 1 rfl, (HSr.out.move hS' HSr.out.lt).c 2 rfl, (HSr.out.move hS' HSr.out.lt).c 3 rfl, (HSr.out.move hS' HSr.out.lt).c 4 rfl, (HSr.out.move hS' HSr.out.lt).c 5 rfl, (HSr.out.move hS' HSr.out.lt).c 6 rfl, (HSr.out.move hS' HSr.out.lt).c 7 rfl⟩ : _ ∧ _ ∧ _ ∧ _ ∧ _ ∧ _ ∧ _ ∧ _))
    refine h_begin (fun w' => Below wc.heap.size wc w') (by kernel_rfl) ?_
    refine h_take (i := 0) (v := ?_) rfl (by kernel_rfl) (by kernel_rfl) (by kernel_rfl) (fun _ _ _ h => h) (Or.inl ⟨by rfl, ?_⟩) hS0 ?_
    rotate_left
    · intro w' hS'
      obtain ⟨s0, s1, s2, s3, s4, s5, s6, s7⟩ := stepS.out w' hS'
      go_simp
      (try with_reducible rfl)
    simp only [Act.put, List.setIfInBounds_toArray, List.set_cons_zero, List.set_cons_succ]
    refine h_take (i := 1) (v := ?_) rfl (by kernel_rfl) (by kernel_rfl) (by kernel_rfl) (fun _ _ _ h => h) (Or.inl ⟨by rfl, ?_⟩) hS0 ?_
    rotate_left
    · intro w' hS'
      go_simp
      (try with_reducible rfl)
    simp only [Act.put, List.setIfInBounds_toArray, List.set_cons_zero, List.set_cons_succ]
    refine h_take (i := 3) (v := ?_) rfl (by kernel_rfl) (by kernel_rfl) (by kernel_rfl) (fun _ _ _ h => h) (Or.inl ⟨by rfl, ?_⟩) hS0 ?_
    rotate_left
    · intro w' hS'
      obtain ⟨s0, s1, s2, s3, s4, s5, s6, s7⟩ := stepS.out w' hS'
      go_simp
      (try with_reducible rfl)
    simp only [Act.put, List.setIfInBounds_toArray, List.set_cons_zero, List.set_cons_succ]
    refine h_take (i := 4) (v := ?_) rfl (by kernel_rfl) (by kernel_rfl) (by kernel_rfl) (fun _ _ _ h => h) (Or.inl ⟨by rfl, ?_⟩) hS0 ?_
    rotate_left
    · intro w' hS'
      go_simp
      (try with_reducible rfl)
    simp only [Act.put, List.setIfInBounds_toArray, List.set_cons_zero, List.set_cons_succ]
    refine h_one (i := 2) (by kernel_rfl) rfl (fun K hK => ?_)
    go_simp
    (with_reducible refine Calls.mono (C2.out _ hS0) ?_)
    rintro e w12 ⟨rfl, hb3⟩
    have hS2 : Below wc.heap.size wc w12 := hS0.trans (hb3.mono hS0.size)
    go_wp2_with fail
    refine hK.out _ _ hS2 ?_
    clear hK K
    clear hb3
    refine h_one (i := 5) (by kernel_rfl) rfl (fun K hK => ?_)
    go_simp
    (with_reducible refine Calls.mono (C5.out _ hS2) ?_)
    rintro e w15 ⟨rfl, hb3⟩
    have hS5 : Below wc.heap.size wc w15 := hS2.trans (hb3.mono hS2.size)
    go_wp2_with fail
    refine hK.out _ _ hS5 ?_
    clear hK K
    clear hb3
    refine h_take (i := 6) (v := ?_) rfl (by kernel_rfl) (by kernel_rfl) (by kernel_rfl) (fun _ _ _ h => h) (Or.inl ⟨by rfl, ?_⟩) hS5 ?_
    rotate_left
    · intro w' hS'
      go_simp
      (try with_reducible rfl)
    simp only [Act.put, List.setIfInBounds_toArray, List.set_cons_zero, List.set_cons_succ]
    refine h_take (i := 7) (v := ?_) rfl (by kernel_rfl) (by kernel_rfl) (by kernel_rfl) (fun _ _ _ h => h) (Or.inl ⟨by rfl, ?_⟩) hS5 ?_
    rotate_left
    · intro w' hS'
      go_simp
      (try with_reducible rfl)
    simp only [Act.put, List.setIfInBounds_toArray, List.set_cons_zero, List.set_cons_succ]
    refine h_take (i := 8) (v := ?_) rfl (by kernel_rfl) (by kernel_rfl) (by kernel_rfl) (fun _ _ _ h => h) (Or.inl ⟨by rfl, ?_⟩) hS5 ?_
    rotate_left
    · intro w' hS'
      go_simp
      (try with_reducible rfl)
    simp only [Act.put, List.setIfInBounds_toArray, List.set_cons_zero, List.set_cons_succ]
    refine h_take (i := 9) (v := ?_) rfl (by kernel_rfl) (by kernel_rfl) (by kernel_rfl) (fun _ _ _ h => h) (Or.inl ⟨by rfl, ?_⟩) hS5 ?_
    rotate_left
    · intro w' hS'
      go_simp
      (try with_reducible rfl)
    simp only [Act.put, List.setIfInBounds_toArray, List.set_cons_zero, List.set_cons_succ]
    refine h_take (i := 10) (v := ?_) rfl (by kernel_rfl) (by kernel_rfl) (by kernel_rfl) (fun _ _ _ h => h) (Or.inl ⟨by rfl, ?_⟩) hS5 ?_
    rotate_left
    · intro w' hS'
      go_simp
      (try with_reducible rfl)
    simp only [Act.put, List.setIfInBounds_toArray, List.set_cons_zero, List.set_cons_succ]
    refine h_take (i := 11) (v := ?_) rfl (by kernel_rfl) (by kernel_rfl) (by kernel_rfl) (fun _ _ _ h => h) (Or.inl ⟨by rfl, ?_⟩) hS5 ?_
    rotate_left
    · intro w' hS'
      go_simp
      (try with_reducible rfl)
    simp only [Act.put, List.setIfInBounds_toArray, List.set_cons_zero, List.set_cons_succ]
    refine h_take (i := 12) (v := ?_) rfl (by kernel_rfl) (by kernel_rfl) (by kernel_rfl) (fun _ _ _ h => h) (Or.inl ⟨by rfl, ?_⟩) hS5 ?_
    rotate_left
    · intro w' hS'
      go_simp
      (try with_reducible rfl)
    simp only [Act.put, List.setIfInBounds_toArray, List.set_cons_zero, List.set_cons_succ]
    refine h_take (i := 13) (v := ?_) rfl (by kernel_rfl) (by kernel_rfl) (by kernel_rfl) (fun _ _ _ h => h) (Or.inl ⟨by rfl, ?_⟩) hS5 ?_
    rotate_left
    · intro w' hS'
      go_simp
      (try with_reducible rfl)
    simp only [Act.put, List.setIfInBounds_toArray, List.set_cons_zero, List.set_cons_succ]
    refine h_take (i := 14) (v := ?_) rfl (by kernel_rfl) (by kernel_rfl) (by kernel_rfl) (fun _ _ _ h => h) (Or.inl ⟨by rfl, ?_⟩) hS5 ?_
    rotate_left
    · intro w' hS'
      go_simp
      (try with_reducible rfl)
    simp only [Act.put, List.setIfInBounds_toArray, List.set_cons_zero, List.set_cons_succ]
    refine h_take (i := 15) (v := ?_) rfl (by kernel_rfl) (by kernel_rfl) (by kernel_rfl) (fun _ _ _ h => h) (Or.inl ⟨by rfl, ?_⟩) hS5 ?_
    rotate_left
    · intro w' hS'
      go_simp
      (try with_reducible rfl)
    simp only [Act.put, List.setIfInBounds_toArray, List.set_cons_zero, List.set_cons_succ]
    refine h_take (i := 16) (v := ?_) rfl (by kernel_rfl) (by kernel_rfl) (by kernel_rfl) (fun _ _ _ h => h) (Or.inl ⟨by rfl, ?_⟩) hS5 ?_
    rotate_left
    · intro w' hS'
      go_simp
      (try with_reducible rfl)
    simp only [Act.put, List.setIfInBounds_toArray, List.set_cons_zero, List.set_cons_succ]
    refine h_take (i := 17) (v := ?_) rfl (by kernel_rfl) (by kernel_rfl) (by kernel_rfl) (fun _ _ _ h => h) (Or.inl ⟨by rfl, ?_⟩) hS5 ?_
    rotate_left
    · intro w' hS'
      go_simp
      (try with_reducible rfl)
    simp only [Act.put, List.setIfInBounds_toArray, List.set_cons_zero, List.set_cons_succ]
    refine h_take (i := 18) (v := ?_) rfl (by kernel_rfl) (by kernel_rfl) (by kernel_rfl) (fun _ _ _ h => h) (Or.inl ⟨by rfl, ?_⟩) hS5 ?_
    rotate_left
    · intro w' hS'
      obtain ⟨s0, s1, s2, s3, s4, s5, s6, s7⟩ := stepS.out w' hS'
      go_simp
      (try with_reducible rfl)
    simp only [Act.put, List.setIfInBounds_toArray, List.set_cons_zero, List.set_cons_succ]
    refine h_take (i := 19) (v := ?_) rfl (by kernel_rfl) (by kernel_rfl) (by kernel_rfl) (fun _ _ _ h => h) (Or.inl ⟨by rfl, ?_⟩) hS5 ?_
    rotate_left
    · intro w' hS'
      go_simp
      (try with_reducible rfl)
    simp only [Act.put, List.setIfInBounds_toArray, List.set_cons_zero, List.set_cons_succ]
    refine h_take (i := 21) (v := ?_) rfl (by kernel_rfl) (by kernel_rfl) (by kernel_rfl) (fun _ _ _ h => h) (Or.inl ⟨by rfl, ?_⟩) hS5 ?_
    rotate_left
    · intro w' hS'
      go_simp
      (try with_reducible rfl)
    simp only [Act.put, List.setIfInBounds_toArray, List.set_cons_zero, List.set_cons_succ]
    refine h_one (i := 20) (by kernel_rfl) rfl (fun K hK => ?_)
    go_simp
    (with_reducible refine Calls.mono (C20.out _ hS5) ?_)
    rintro e w20 ⟨rfl, hb3⟩
    have hS20 : Below wc.heap.size wc w20 := hS5.trans (hb3.mono hS5.size)
    go_wp2_with fail
    refine hK.out _ _ hS20 ?_
    clear hK K
    clear hb3
    refine h_take (i := 22) (v := ?_) rfl (by kernel_rfl) (by kernel_rfl) (by kernel_rfl) (fun _ _ _ h => h) (Or.inl ⟨by rfl, ?_⟩) hS20 ?_
    rotate_left
    · intro w' hS'
      go_simp
      (try with_reducible rfl)
    simp only [Act.put, List.setIfInBounds_toArray, List.set_cons_zero, List.set_cons_succ]
    refine h_take (i := 23) (v := ?_) rfl (by kernel_rfl) (by kernel_rfl) (by kernel_rfl) (fun _ _ _ h => h) (Or.inl ⟨by rfl, ?_⟩) hS20 ?_
    rotate_left
    · intro w' hS'
      go_simp
      (try with_reducible rfl)
    simp only [Act.put, List.setIfInBounds_toArray, List.set_cons_zero, List.set_cons_succ]
    refine h_take (i := 24) (v := ?_) rfl (by kernel_rfl) (by kernel_rfl) (by kernel_rfl) (fun _ _ _ h => h) (Or.inl ⟨by rfl, ?_⟩) hS20 ?_
    rotate_left
    · intro w' hS'
      go_simp
      (try with_reducible rfl)
    simp only [Act.put, List.setIfInBounds_toArray, List.set_cons_zero, List.set_cons_succ]
    refine h_take (i := 25) (v := ?_) rfl (by kernel_rfl) (by kernel_rfl) (by kernel_rfl) (fun _ _ _ h => h) (Or.inl ⟨by rfl, ?_⟩) hS20 ?_
    rotate_left
    · intro w' hS'
      go_simp
      (try with_reducible rfl)
    simp only [Act.put, List.setIfInBounds_toArray, List.set_cons_zero, List.set_cons_succ]
    refine h_take (i := 27) (v := ?_) rfl (by kernel_rfl) (by kernel_rfl) (by kernel_rfl) (fun _ _ _ h => h) (Or.inl ⟨by rfl, ?_⟩) hS20 ?_
    rotate_left
    · intro w' hS'
      go_simp
      (try with_reducible rfl)
    simp only [Act.put, List.setIfInBounds_toArray, List.set_cons_zero, List.set_cons_succ]
    refine h_one (i := 26) (by kernel_rfl) rfl (fun K hK => ?_)
    go_simp
    (with_reducible refine Calls.mono (C26.out _ hS20) ?_)
    rintro e w26 ⟨v1, rfl, hR1, hb3⟩
    obtain ⟨Al1, cl1, rfl⟩ := Kd.R_slice hR1
    obtain ⟨_, _, hC1⟩ := Kd.R_reads' hR1
    have hS26 : Below wc.heap.size wc w26 := hS20.trans (hb3.mono hS20.size)
    go_wp2_with fail
    refine hK.out _ _ hS26 ?_
    clear hK K
    clear hb3 hR1
    refine h_one (i := 28) (by kernel_rfl) rfl (fun K hK => ?_)
    go_simp
    (with_reducible refine Calls.mono (C28.out _ hS26) ?_)
    rintro e w28 ⟨v2, rfl, hR2, hb3⟩
    obtain ⟨Al2, cl2, rfl⟩ := Kd.R_slice hR2
    obtain ⟨_, _, hC2⟩ := Kd.R_reads' hR2
    have hC1' := Kd.C_below hC1 hb3
    have hS28 : Below wc.heap.size wc w28 := hS26.trans (hb3.mono hS26.size)
    go_wp2_with fail
    refine hK.out _ _ hS28 ?_
    clear hK K
    clear hb3 hR2 hC1
    refine h_one (i := 29) (by kernel_rfl) rfl (fun K hK => ?_)
    go_simp
    (with_reducible refine Calls.mono (eqints_calls w28 Al1 Al2 cl1 cl2 L hC1' hC2) ?_)
    rintro e w29 ⟨rfl, hb3⟩
    have hS29 : Below wc.heap.size wc w29 := hS28.trans (hb3.mono hS28.size)
    go_wp2_with fail
    refine hK.out _ _ hS29 ?_
    clear hK K
    clear hb3 hC1' hC2
    refine h_take (i := 30) (v := ?_) rfl (by kernel_rfl) (by kernel_rfl) (by kernel_rfl) (fun _ _ _ h => h) (Or.inl ⟨by rfl, ?_⟩) hS29 ?_
    rotate_left
    · intro w' hS'
      go_simp
      (try with_reducible rfl)
    simp only [Act.put, List.setIfInBounds_toArray, List.set_cons_zero, List.set_cons_succ]
    refine h_take (i := 31) (v := ?_) rfl (by kernel_rfl) (by kernel_rfl) (by kernel_rfl) (fun _ _ _ h => h) (Or.inl ⟨by rfl, ?_⟩) hS29 ?_
    rotate_left
    · intro w' hS'
      go_simp
      (try with_reducible rfl)
    simp only [Act.put, List.setIfInBounds_toArray, List.set_cons_zero, List.set_cons_succ]
    refine h_take (i := 32) (v := ?_) rfl (by kernel_rfl) (by kernel_rfl) (by kernel_rfl) (fun _ _ _ h => h) (Or.inl ⟨by rfl, ?_⟩) hS29 ?_
    rotate_left
    · intro w' hS'
      go_simp
      (try with_reducible rfl)
    simp only [Act.put, List.setIfInBounds_toArray, List.set_cons_zero, List.set_cons_succ]
    refine h_take (i := 33) (v := ?_) rfl (by kernel_rfl) (by kernel_rfl) (by kernel_rfl) (fun _ _ _ h => h) (Or.inl ⟨by rfl, ?_⟩) hS29 ?_
    rotate_left
    · intro w' hS'
      go_simp
      (try with_reducible rfl)
    simp only [Act.put, List.setIfInBounds_toArray, List.set_cons_zero, List.set_cons_succ]
    refine h_take (i := 35) (v := ?_) rfl (by kernel_rfl) (by kernel_rfl) (by kernel_rfl) (fun _ _ _ h => h) (Or.inl ⟨by rfl, ?_⟩) hS29 ?_
    rotate_left
    · intro w' hS'
      go_simp
      (try with_reducible rfl)
    simp only [Act.put, List.setIfInBounds_toArray, List.set_cons_zero, List.set_cons_succ]
    refine h_take (i := 36) (v := ?_) rfl (by kernel_rfl) (by kernel_rfl) (by kernel_rfl) (fun _ _ _ h => h) (Or.inl ⟨by rfl, ?_⟩) hS29 ?_
    rotate_left
    · intro w' hS'
      go_simp
      (try with_reducible rfl)
    simp only [Act.put, List.setIfInBounds_toArray, List.set_cons_zero, List.set_cons_succ]
    refine h_one (i := 34) (by kernel_rfl) rfl (fun K hK => ?_)
    go_simp
    (with_reducible refine Calls.mono (C34.out _ hS29) ?_)
    rintro e w34 ⟨rfl, hb3⟩
    have hS34 : Below wc.heap.size wc w34 := hS29.trans (hb3.mono hS29.size)
    go_wp2_with fail
    refine hK.out _ _ hS34 ?_
    clear hK K
    clear hb3
    refine h_one (i := 37) (by kernel_rfl) rfl (fun K hK => ?_)
    go_simp
    (with_reducible refine Calls.mono (C37.out _ hS34) ?_)
    rintro e w37 ⟨rfl, hb3⟩
    have hS37 : Below wc.heap.size wc w37 := hS34.trans (hb3.mono hS34.size)
    go_wp2_with fail
    refine hK.out _ _ hS37 ?_
    clear hK K
    clear hb3
    refine h_take (i := 38) (v := ?_) rfl (by kernel_rfl) (by kernel_rfl) (by kernel_rfl) (fun _ _ _ h => h) (Or.inl ⟨by rfl, ?_⟩) hS37 ?_
    rotate_left
    · intro w' hS'
      go_simp
      (try with_reducible rfl)
    simp only [Act.put, List.setIfInBounds_toArray, List.set_cons_zero, List.set_cons_succ]
    refine h_take (i := 39) (v := ?_) rfl (by kernel_rfl) (by kernel_rfl) (by kernel_rfl) (fun _ _ _ h => h) (Or.inl ⟨by rfl, ?_⟩) hS37 ?_
    rotate_left
    · intro w' hS'
      go_simp
      (try with_reducible rfl)
    simp only [Act.put, List.setIfInBounds_toArray, List.set_cons_zero, List.set_cons_succ]
    refine h_take (i := 40) (v := ?_) rfl (by kernel_rfl) (by kernel_rfl) (by kernel_rfl) (fun _ _ _ h => h) (Or.inl ⟨by rfl, ?_⟩) hS37 ?_
    rotate_left
    · intro w' hS'
      go_simp
      (try with_reducible rfl)
    simp only [Act.put, List.setIfInBounds_toArray, List.set_cons_zero, List.set_cons_succ]
    refine h_take (i := 41) (v := ?_) rfl (by kernel_rfl) (by kernel_rfl) (by kernel_rfl) (fun _ _ _ h => h) (Or.inl ⟨by rfl, ?_⟩) hS37 ?_
    rotate_left
    · intro w' hS'
      go_simp
      (try with_reducible rfl)
    simp only [Act.put, List.setIfInBounds_toArray, List.set_cons_zero, List.set_cons_succ]
    refine h_take (i := 42) (v := ?_) rfl (by kernel_rfl) (by kernel_rfl) (by kernel_rfl) (fun _ _ _ h => h) (Or.inl ⟨by rfl, ?_⟩) hS37 ?_
    rotate_left
    · intro w' hS'
      go_simp
      (try with_reducible rfl)
    simp only [Act.put, List.setIfInBounds_toArray, List.set_cons_zero, List.set_cons_succ]
    refine h_one (i := 43) (by kernel_rfl) rfl (fun K hK => ?_)
    go_simp
    (with_reducible refine Calls.mono (C43.out _ hS37) ?_)
    rintro e w43 ⟨rfl, hb3⟩
    have hS43 : Below wc.heap.size wc w43 := hS37.trans (hb3.mono hS37.size)
    go_wp2_with fail
    refine hK.out _ _ hS43 ?_
    clear hK K
    clear hb3
    refine h_take (i := 44) (v := ?_) rfl (by kernel_rfl) (by kernel_rfl) (by kernel_rfl) (fun _ _ _ h => h) (Or.inl ⟨by rfl, ?_⟩) hS43 ?_
    rotate_left
    · intro w' hS'
      go_simp
      (try with_reducible rfl)
    simp only [Act.put, List.setIfInBounds_toArray, List.set_cons_zero, List.set_cons_succ]
    refine h_take (i := 45) (v := ?_) rfl (by kernel_rfl) (by kernel_rfl) (by kernel_rfl) (fun _ _ _ h => h) (Or.inl ⟨by rfl, ?_⟩) hS43 ?_
    rotate_left
    · intro w' hS'
      go_simp
      (try with_reducible rfl)
    simp only [Act.put, List.setIfInBounds_toArray, List.set_cons_zero, List.set_cons_succ]
    refine h_done (by kernel_rfl) ?_
    have H14 := Aside0.mk (HWc.out.trans (hS43.mono HWc.out.size))
    clear stepS hS0 hS2 hS5 hS20 hS26 hS28 hS29 hS34 hS37 hS43
    go_wp2_with fail
    go_ret
    exact ⟨rfl, H14.out⟩
end Go.Proofs.YtjhemobplcelbaaGreatDoor.T
