/- tree: the program's symbol. tree: the program's fits (printed by mk_fits.py). tree: the two checks (printed by mk_check.py). tree: a tree's text: the plain side. tree: the reference's Text (printed by mk_rtext.py). tree: the program's text (printed by mk_text.py). tree: Text and EqInts (printed by mk_text2.py). -/
import Derived.Test.YtjhemobplcelbaaGreatDoorTreeR
import Derived.Test.YtjhemobplcelbaaGreatDoorTreeL
import Derived.Test.YtjhemobplcelbaaGreatDoorTreeC
import Derived.Test.YtjhemobplcelbaaGreatDoorTreeV
import Derived.Laws.Concat
namespace Go.Proofs.YtjhemobplcelbaaGreatDoor.T
open Go.RowKit Go.Proofs.YtjhemobplcelbaaGreatDoorW.PrintWords Go.Proofs.YtjhemobplcelbaaGreatDoorW.PrintLast Go.Proofs.YtjhemobplcelbaaGreatDoorW.PrintMore
open Go.Proofs.YtjhemobplcelbaaGreatDoor.U (SR kSR rule_at int_at)
open Go.Proofs.YtjhemobplcelbaaGreatDoor.O (Bx)
set_option linter.unusedVariables false
set_option linter.unusedSimpArgs false
/-- What symbol answers of one tree. -/
def SymC (B : World) (t : Nat) (n sq ex : Int) (A4 A5 A6 A7 : Option Addr) (n4 c4 n5 c5 n6 c6 c7 : Nat) (rs : List SR) (r k : Int) (kids : F) : Prop := ∀ (X : Nat), IsF B [X] (.cons r k kids .nil) → ∀ (w : World), Below B.heap.size B w →
  Calls Tryz.prog 70 #[.agg #[.int .i64 (t : Int), .int .i64 n, .int .i64 sq, .int .i64 ex, .slice A4 n4 c4, .slice A5 n5 c5, .slice A6 n6 c6, .slice A7 rs.length c7], .pointer (some ⟨X, 0, none⟩)] w fun e w' => e = .returned (.int .i64 (symF t rs r k kids)) ∧ Below w.heap.size w w'
def leafB (t : Nat) (r k : Int) (kids : F) : Bool := decide (r = -1 ∧ kids.len = 0 ∧ 0 ≤ k ∧ k < (t : Int))
def nodeB (rs : List SR) (r k : Int) : Bool := decide (1 ≤ r ∧ r < (rs.length : Int) ∧ k = 0)
theorem symF_eq (t : Nat) (rs : List SR) (r k : Int) (kids : F) : symF t rs r k kids = if leafB t r k kids = true then k else if nodeB rs r k = true then (ruOf rs r).f0 else -1 := by simp only [symF, leafB, nodeB, decide_eq_true_eq]
set_option maxRecDepth 100000 in
set_option maxHeartbeats 4000000 in
theorem symbol_calls (B : World) (t : Nat) (n sq ex : Int) (A4 A5 A6 A7 : Option Addr) (n4 c4 n5 c5 n6 c6 c7 : Nat) (rs : List SR) (hrs : Kd.C kSR B A7 rs.length rs) (r k : Int) (kids : F) : SymC B t n sq ex A4 A5 A6 A7 n4 c4 n5 c5 n6 c6 c7 rs r k kids := by
  intro X hX w hb
  obtain ⟨⟨A, c, qs, hx, hq, hqc, hk⟩, _⟩ := hX
  have HK := Aside0.mk hk
  have HLEN := Aside0.mk hk.length
  have HQ := Aside0.mk (And.intro hq hqc)
  have HRS := Aside0.mk hrs
  have HNX := Aside0.mk (Node3.mk (W := B) hx)
  have hbA := below_alloc (Below.refl w.heap.size w) (.cells #[.int .i64 (t : Int), .int .i64 n, .int .i64 sq, .int .i64 ex, .slice A4 n4 c4, .slice A5 n5 c5, .slice A6 n6 c6, .slice A7 rs.length c7] 32)
  have hxS := Bx.new w #[.int .i64 (t : Int), .int .i64 n, .int .i64 sq, .int .i64 ex, .slice A4 n4 c4, .slice A5 n5 c5, .slice A6 n6 c6, .slice A7 rs.length c7] 32
  have HB := Aside0.mk hb
  clear hk hq hqc hx hrs hb
  go_enter Tryz.func70, Tryz.ntmps70
  go_upto_region 1 with fail
  obtain ⟨Y, hY⟩ : ∃ Y, Y = w.heap.size := ⟨_, rfl⟩
  rw [← hY] at hxS
  rw [← hY]
  generalize hWe : w.alloc (.cells #[.int .i64 (t : Int), .int .i64 n, .int .i64 sq, .int .i64 ex, .slice A4 n4 c4, .slice A5 n5 c5, .slice A6 n6 c6, .slice A7 rs.length c7] 32) = W1 at *
  have HS := Aside0.mk hxS
  have H1 := Aside0.mk (And.intro hbA (HB.out.trans (hbA.mono HB.out.size)))
  have HX1 := Aside0.mk (HNX.out.move H1.out.2 HNX.out.lt)
  clear hxS hbA hWe hY
  have HSY := Aside0.mk (symF_eq t rs r k kids)
  go_cut [5] (fun v5 wx => v5 = .bool (leafB t r k kids) ∧ Below W1.heap.size W1 wx)
  case first =>
    have x0 := HX1.out.c0
    have x1 := HX1.out.c1
    have x2 := HX1.out.c2
    have s0 := HS.out.c 0 rfl
    have hlen := HLEN.out
    by_cases hr : r = -1
    · subst hr
      by_cases hq0 : qs.length = 0
      · have t3 : ((qs.length : Int) == 0) = true := beq_iff_eq.2 (by omega)
        by_cases hk0 : 0 ≤ k
        · have t1 : decide (k ≥ 0) = true := decide_eq_true hk0
          by_cases hkt : k < (t : Int)
          · have t2 : decide (k < (t : Int)) = true := decide_eq_true hkt
            have HE : Aside0 (leafB t (-1) k kids = true) := ⟨decide_eq_true ⟨rfl, by omega, hk0, hkt⟩⟩
            clear hlen
            rw [hq0] at x2
            go_quiet (fail)
            go_wp2_with fail
            go_meet
            exact ⟨by rw [HE.out], O.drawn_below ⟨nq, rfl⟩⟩
          · have t2 : decide (k < (t : Int)) = false := decide_eq_false hkt
            have HE : Aside0 (leafB t (-1) k kids = false) := ⟨decide_eq_false (by omega)⟩
            clear hlen
            rw [hq0] at x2
            go_quiet (fail)
            go_wp2_with fail
            go_meet
            exact ⟨by rw [HE.out], O.drawn_below ⟨nq, rfl⟩⟩
        · have t1 : decide (k ≥ 0) = false := decide_eq_false hk0
          have HE : Aside0 (leafB t (-1) k kids = false) := ⟨decide_eq_false (by omega)⟩
          clear hlen s0
          rw [hq0] at x2
          go_quiet (fail)
          go_wp2_with fail
          go_meet
          exact ⟨by rw [HE.out], O.drawn_below ⟨nq, rfl⟩⟩
      · have t3 : ((qs.length : Int) == 0) = false := beq_eq_false_iff_ne.2 (by omega)
        have t4 : decide ((qs.length : Int) = 0) = false := decide_eq_false (by omega)
        have HE : Aside0 (leafB t (-1) k kids = false) := ⟨decide_eq_false (by omega)⟩
        clear hlen s0 x1
        go_quiet (fail)
        go_wp2_with fail
        go_meet
        exact ⟨by rw [HE.out], O.drawn_below ⟨nq, rfl⟩⟩
    · have tr1 : (r == -1) = false := beq_eq_false_iff_ne.2 hr
      have tr2 : decide (r = -1) = false := decide_eq_false hr
      have HE : Aside0 (leafB t r k kids = false) := ⟨decide_eq_false (fun h => hr h.1)⟩
      clear hlen s0 x1 x2 hr
      go_quiet (fail)
      go_wp2_with fail
      go_meet
      exact ⟨by rw [HE.out], O.drawn_below ⟨nq, rfl⟩⟩
  case rest =>
    obtain ⟨rfl, hb⟩ := hcut
    have HX2 := Aside0.mk (HX1.out.move hb HX1.out.lt)
    have HS2 := Aside0.mk (HS.out.move hb HS.out.lt)
    have H2 := Aside0.mk (And.intro (H1.out.1.trans (hb.mono H1.out.1.size)) (H1.out.2.trans (hb.mono H1.out.2.size)))
    clear hb
    obtain ⟨b1, hb1⟩ : ∃ b, leafB t r k kids = b := ⟨_, rfl⟩
    rw [hb1]
    rw [hb1] at HSY
    clear hb1
    cases b1 with
    | true =>
      have x1 := HX2.out.c1
      go_wp2_with fail
      go_ret
      rw [HSY.out]
      exact ⟨rfl, H2.out.1⟩
    | false =>
      go_upto_region 3 with fail
      go_cut [39] (fun v39 wx => v39 = .bool (nodeB rs r k) ∧ Below wc.heap.size wc wx)
      case first =>
        have x0 := HX2.out.c0
        have x1 := HX2.out.c1
        have s7 := HS2.out.c 7 rfl
        by_cases hr1 : r < 1
        · have t1 : decide (r ≥ 1) = false := decide_eq_false (by omega)
          have HE : Aside0 (nodeB rs r k = false) := ⟨decide_eq_false (by omega)⟩
          clear x1 s7 hr1
          go_quiet (fail)
          go_wp2_with fail
          go_meet
          exact ⟨by rw [HE.out], O.drawn_below ⟨nq, rfl⟩⟩
        · have t1 : decide (r ≥ 1) = true := decide_eq_true (by omega)
          by_cases hr2 : r < (rs.length : Int)
          · have t2 : decide (r < (rs.length : Int)) = true := decide_eq_true hr2
            by_cases hk0 : k = 0
            · subst hk0
              have HE : Aside0 (nodeB rs r 0 = true) := ⟨decide_eq_true ⟨by omega, hr2, rfl⟩⟩
              clear hr1 hr2
              go_quiet (fail)
              go_wp2_with fail
              go_meet
              exact ⟨by rw [HE.out], O.drawn_below ⟨nq, rfl⟩⟩
            · have t3 : (k == 0) = false := beq_eq_false_iff_ne.2 hk0
              have t4 : decide (k = 0) = false := decide_eq_false hk0
              have HE : Aside0 (nodeB rs r k = false) := ⟨decide_eq_false (fun h => hk0 h.2.2)⟩
              clear hr1 hr2 hk0
              go_quiet (fail)
              go_wp2_with fail
              go_meet
              exact ⟨by rw [HE.out], O.drawn_below ⟨nq, rfl⟩⟩
          · have t2 : decide (r < (rs.length : Int)) = false := decide_eq_false hr2
            have HE : Aside0 (nodeB rs r k = false) := ⟨decide_eq_false (by omega)⟩
            clear hr1 hr2 x1
            go_quiet (fail)
            go_wp2_with fail
            go_meet
            exact ⟨by rw [HE.out], O.drawn_below ⟨nq, rfl⟩⟩
      case rest =>
        obtain ⟨rfl, hb⟩ := hcut
        have HX3 := Aside0.mk (HX2.out.move hb HX2.out.lt)
        have HS3 := Aside0.mk (HS2.out.move hb HS2.out.lt)
        have H3 := Aside0.mk (And.intro (H2.out.1.trans (hb.mono H2.out.1.size)) (H2.out.2.trans (hb.mono H2.out.2.size)))
        clear hb
        obtain ⟨b1, hb1⟩ : ∃ b, nodeB rs r k = b := ⟨_, rfl⟩
        rw [hb1]
        rw [hb1] at HSY
        cases b1 with
        | false =>
          clear hb1
          go_wp2_with fail
          go_ret
          rw [HSY.out]
          exact ⟨rfl, H3.out.1⟩
        | true =>
          have hb1 := of_decide_eq_true hb1
          obtain ⟨rn, rfl⟩ : ∃ rn : Nat, r = (rn : Int) := ⟨r.toNat, by omega⟩
          have hrn : rn < rs.length := by omega
          obtain ⟨ad, A1, c1, rfl, r0, _⟩ := rule_at HRS.out rn hrn
          rw [ruOf_at rs rn hrn] at HSY
          have l0 := pw_cell_below H3.out.2 r0
          have x0 := HX3.out.c0
          have s7 := HS3.out.c 7 rfl
          have hin : (rn : Int) < (rs.length : Int) := by omega
          generalize rs[rn] = ru at *
          clear hb1 r0
          go_upto_region 4 with fail
          go_quiet (fail)
          go_wp2_with fail
          go_ret
          rw [HSY.out]
          exact ⟨rfl, H3.out.1.trans ((O.drawn_below ⟨nq, rfl⟩).mono H3.out.1.size)⟩
end Go.Proofs.YtjhemobplcelbaaGreatDoor.T
namespace Go.Proofs.YtjhemobplcelbaaGreatDoor.T
open Go.RowKit Go.Proofs.YtjhemobplcelbaaGreatDoorW.PrintWords Go.Proofs.YtjhemobplcelbaaGreatDoorW.PrintLast Go.Proofs.YtjhemobplcelbaaGreatDoorW.PrintMore
open Go.Proofs.YtjhemobplcelbaaGreatDoor.U (SR kSR rule_at int_at)
open Go.Proofs.YtjhemobplcelbaaGreatDoor.O (Bx)
set_option linter.unusedVariables false
set_option linter.unusedSimpArgs false
/-- What fits answers of one tree. -/
def FitC (B : World) (t : Nat) (n sq ex : Int) (A4 A5 A6 A7 : Option Addr) (n4 c4 n5 c5 n6 c6 c7 : Nat) (rs : List SR) (r k : Int) (kids : F) : Prop := ∀ (X : Nat), IsF B [X] (.cons r k kids .nil) → ∀ (w : World), Below B.heap.size B w →
  Calls Tryz.prog 53 #[.agg #[.int .i64 (t : Int), .int .i64 n, .int .i64 sq, .int .i64 ex, .slice A4 n4 c4, .slice A5 n5 c5, .slice A6 n6 c6, .slice A7 rs.length c7], .pointer (some ⟨X, 0, none⟩)] w fun e w' => e = .returned (.bool (fitT t rs r k kids)) ∧ Below w.heap.size w w'
def FtRel (w : World) (t : Nat) (rs : List SR) (kids : F) (right : List Int) (len : Nat) (kq : Nat) (v : Value) (w' : World) : Prop := ∃ i : Nat, i + kq = len ∧ v = .int .i64 (i : Int) ∧ Below w.heap.size w w' ∧ kids.fit t rs right = (kids.drop i).fit t rs (right.drop i)
theorem fit_one (t : Nat) (rs : List SR) (r k : Int) (ks rest : F) (x : Int) (xs : List Int) : (F.cons r k ks rest).fit t rs (x :: xs) = (decide (symF t rs r k ks = x) && fitT t rs r k ks && rest.fit t rs xs) := by simp only [F.fit, fitT]
theorem fit_len {t : Nat} {rs : List SR} : ∀ (f : F) (xs : List Int), f.fit t rs xs = true → f.len = xs.length := by
  intro f
  induction f with
  | nil => intro xs h; cases xs with
    | nil => rfl
    | cons x xs => simp [F.fit] at h
  | cons r k kids rest ih1 ih2 =>
    intro xs h
    cases xs with
    | nil => simp [F.fit] at h
    | cons x xs =>
      simp only [F.fit, Bool.and_eq_true] at h
      have := ih2 xs h.2
      simp only [F.len, List.length_cons]
      omega
theorem sym_range {t : Nat} {rs : List SR} {r k : Int} {kids : F} (h : ¬ symF t rs r k kids < 0) (hr : ¬ r < 0) : 1 ≤ r ∧ r < (rs.length : Int) := by
  unfold symF at h
  rw [if_neg (by omega)] at h
  by_cases hc : 1 ≤ r ∧ r < (rs.length : Int) ∧ k = 0
  · exact ⟨hc.1, hc.2.1⟩
  · rw [if_neg hc] at h
    omega
set_option maxRecDepth 100000 in
set_option maxHeartbeats 8000000 in
theorem fits_node (B : World) (t : Nat) (n sq ex : Int) (A4 A5 A6 A7 : Option Addr) (n4 c4 n5 c5 n6 c6 c7 : Nat) (rs : List SR) (hrs : Kd.C kSR B A7 rs.length rs) (r k : Int) (kids : F) (ih : AllF (FitC B t n sq ex A4 A5 A6 A7 n4 c4 n5 c5 n6 c6 c7 rs) kids) : FitC B t n sq ex A4 A5 A6 A7 n4 c4 n5 c5 n6 c6 c7 rs r k kids := by
  intro X hX w hb
  have HX0 := Aside0.mk hX
  obtain ⟨⟨A, c, qs, hx, hq, hqc, hk⟩, _⟩ := hX
  have HIH := Aside0.mk ih
  have HK := Aside0.mk hk
  have HLEN := Aside0.mk hk.length
  have HQ := Aside0.mk (And.intro hq hqc)
  have HRS := Aside0.mk hrs
  have HNX := Aside0.mk (Node3.mk (W := B) hx)
  have hbA := below_alloc (Below.refl w.heap.size w) (.cells #[.int .i64 (t : Int), .int .i64 n, .int .i64 sq, .int .i64 ex, .slice A4 n4 c4, .slice A5 n5 c5, .slice A6 n6 c6, .slice A7 rs.length c7] 32)
  have hxS := Bx.new w #[.int .i64 (t : Int), .int .i64 n, .int .i64 sq, .int .i64 ex, .slice A4 n4 c4, .slice A5 n5 c5, .slice A6 n6 c6, .slice A7 rs.length c7] 32
  have HB := Aside0.mk hb
  clear ih hk hq hqc hx hrs hb
  go_enter Tryz.func53, Tryz.ntmps53
  go_upto_region 1 with fail
  obtain ⟨Y, hY⟩ : ∃ Y, Y = w.heap.size := ⟨_, rfl⟩
  rw [← hY] at hxS
  rw [← hY]
  generalize hWe : w.alloc (.cells #[.int .i64 (t : Int), .int .i64 n, .int .i64 sq, .int .i64 ex, .slice A4 n4 c4, .slice A5 n5 c5, .slice A6 n6 c6, .slice A7 rs.length c7] 32) = W1 at *
  have HS := Aside0.mk hxS
  have H1 := Aside0.mk (And.intro hbA (HB.out.trans (hbA.mono HB.out.size)))
  have HX1 := Aside0.mk (HNX.out.move H1.out.2 HNX.out.lt)
  clear hxS hbA hWe hY
  have HE : Aside0 (fitT t rs r k kids = if symF t rs r k kids < 0 then false else if r < 0 then true else kids.fit t rs (ruOf rs r).f1) := ⟨rfl⟩
  have CS := Aside0.mk (symbol_calls B t n sq ex A4 A5 A6 A7 n4 c4 n5 c5 n6 c6 c7 rs HRS.out r k kids X HX0.out W1 H1.out.2)
  have HRG : Aside0 (¬ symF t rs r k kids < 0 → ¬ r < 0 → 1 ≤ r ∧ r < (rs.length : Int)) := ⟨sym_range⟩
  generalize symF t rs r k kids = sy at *
  have s0 := HS.out.c 0 rfl
  have s1 := HS.out.c 1 rfl
  have s2 := HS.out.c 2 rfl
  have s3 := HS.out.c 3 rfl
  have s4 := HS.out.c 4 rfl
  have s5 := HS.out.c 5 rfl
  have s6 := HS.out.c 6 rfl
  have s7 := HS.out.c 7 rfl
  go_wp2_with fail
  go_at_call 70
  refine CS.out.mono ?_
  rintro e W2 ⟨rfl, hb⟩
  have HX2 := Aside0.mk (HX1.out.move hb HX1.out.lt)
  have HS2 := Aside0.mk (HS.out.move hb HS.out.lt)
  have H2 := Aside0.mk (And.intro (H1.out.1.trans (hb.mono H1.out.1.size)) (H1.out.2.trans (hb.mono H1.out.2.size)))
  clear hb CS s0 s1 s2 s3 s4 s5 s6 s7 HX1 HS H1
  by_cases hs : sy < 0
  · have t1 : decide (sy < 0) = true := decide_eq_true hs
    have HF : Aside0 (fitT t rs r k kids = false) := ⟨by rw [HE.out, if_pos hs]⟩
    clear hs
    go_wp2_with fail
    go_ret
    rw [HF.out]
    exact ⟨rfl, H2.out.1⟩
  · have t1 : decide (sy < 0) = false := decide_eq_false hs
    have HSN := Aside0.mk hs
    clear hs
    go_upto_region 3 with fail
    have x0 := HX2.out.c0
    by_cases hr : r < 0
    · have t2 : decide (r < 0) = true := decide_eq_true hr
      have HF : Aside0 (fitT t rs r k kids = true) := ⟨by rw [HE.out, if_neg (by have := HSN.out; omega), if_pos hr]⟩
      clear hr
      go_wp2_with fail
      go_ret
      rw [HF.out]
      exact ⟨rfl, H2.out.1⟩
    · have t2 : decide (r < 0) = false := decide_eq_false hr
      obtain ⟨g1, g2⟩ := HRG.out (by have := HSN.out; omega) (by omega)
      have HF0 : Aside0 (fitT t rs r k kids = kids.fit t rs (ruOf rs r).f1) := ⟨by rw [HE.out, if_neg (by have := HSN.out; omega), if_neg hr]⟩
      obtain ⟨rn, rfl⟩ : ∃ rn : Nat, r = (rn : Int) := ⟨r.toNat, by omega⟩
      have hrn : rn < rs.length := by omega
      obtain ⟨ad, A1, c1, e1, r0, r1, _, _, hl1, hrr⟩ := rule_at HRS.out rn hrn
      rw [ruOf_at rs rn hrn] at HF0
      generalize rs[rn] = ru at *
      obtain ⟨rl, rt, rv, ra⟩ := ru
      simp only at r0 r1 hl1 hrr HF0
      subst e1
      have HRT := Aside0.mk (And.intro hrr hl1)
      have r1' := pw_cell_below H2.out.2 r1
      have s7 := HS2.out.c 7 rfl
      have hin : (rn : Int) < (rs.length : Int) := by omega
      clear r0 r1 hl1 hrr hr g1 g2 HE HRG
      go_upto_region 5 with fail
      go_quiet (fail)
      have hbd : Below W2.heap.size W2 (W2.drewN nq) := O.drawn_below ⟨nq, rfl⟩
      have HX3 := Aside0.mk (HX2.out.move hbd HX2.out.lt)
      have HS3 := Aside0.mk (HS2.out.move hbd HS2.out.lt)
      have HBD := Aside0.mk hbd
      generalize W2.drewN nq = W3 at *
      clear x0 s7 r1' hbd t1 t2
      have x2 := HX3.out.c2
      go_upto_region 6 with fail
      by_cases hql : rt.length = qs.length
      · have t3 : ((rt.length : Int) != (qs.length : Int)) = false := by simpa using (show (rt.length : Int) = (qs.length : Int) by omega)
        have HQL := Aside0.mk hql
        clear hql
        go_upto_region 8 with fail
        clear t3
        go_wp2_with fail
        go_loopg [39] qs.length (fun kq v39 w' => FtRel W2 t rs kids rt qs.length kq v39 w')
        case atStart => exact ⟨0, by omega, rfl, HBD.out, rfl⟩
        case round =>
          obtain ⟨i, hi, rfl, hb, hsq⟩ := hrel
          have HI := Aside0.mk hi
          have HR2 := Aside0.mk (And.intro hb hsq)
          have HBr := Aside0.mk (H2.out.2.trans (hb.mono H2.out.2.size))
          have HXr := Aside0.mk (HX2.out.move hb HX2.out.lt)
          have HSr := Aside0.mk (HS2.out.move hb HS2.out.lt)
          clear hi hb hsq x2
          by_cases hil : i < qs.length
          · have t1 : decide ((i : Int) < (qs.length : Int)) = true := by simp; omega
            have hir : i < rt.length := by have := HQL.out; omega
            obtain ⟨r', k', ks, e1, e2⟩ := HK.out.at_ kids qs i hil
            obtain ⟨ad2, rfl, hc⟩ := row_at HQ.out.1 i hil
            obtain ⟨bd, e3, hc3⟩ := int_at HRT.out.1 i hir
            have hc2 := pw_cell_below HBr.out hc
            have CS : Aside0 (∀ w', Below wr.heap.size wr w' → Calls Tryz.prog 70 #[.agg #[.int .i64 (t : Int), .int .i64 n, .int .i64 sq, .int .i64 ex, .slice A4 n4 c4, .slice A5 n5 c5, .slice A6 n6 c6, .slice (some ad) rs.length c7], .pointer (some ⟨qs[i], 0, none⟩)] w' fun e w'' => e = .returned (.int .i64 (symF t rs r' k' ks)) ∧ Below w'.heap.size w' w'') := ⟨fun w' hb => symbol_calls B t n sq ex A4 A5 A6 (some ad) n4 c4 n5 c5 n6 c6 c7 rs HRS.out r' k' ks qs[i] e2 w' (HBr.out.trans (hb.mono HBr.out.size))⟩
            have CF : Aside0 (∀ w', Below wr.heap.size wr w' → Calls Tryz.prog 53 #[.agg #[.int .i64 (t : Int), .int .i64 n, .int .i64 sq, .int .i64 ex, .slice A4 n4 c4, .slice A5 n5 c5, .slice A6 n6 c6, .slice (some ad) rs.length c7], .pointer (some ⟨qs[i], 0, none⟩)] w' fun e w'' => e = .returned (.bool (fitT t rs r' k' ks)) ∧ Below w'.heap.size w' w'') := ⟨fun w' hb => HIH.out.at_ kids i e1 qs[i] e2 w' (HBr.out.trans (hb.mono HBr.out.size))⟩
            have HSO : Aside0 ((kids.drop i).fit t rs (rt.drop i) = (decide (symF t rs r' k' ks = rt[i]) && fitT t rs r' k' ks && (kids.drop (i + 1)).fit t rs (rt.drop (i + 1)))) := ⟨by rw [e1, List.drop_eq_getElem_cons hir, fit_one]⟩
            have HC3 := Aside0.mk hc3
            have hin2 : (i : Int) < (qs.length : Int) := by omega
            have hin3 : (i : Int) < (rt.length : Int) := by omega
            have hql : qs.length ≤ 9223372036854775807 := HQ.out.1.2.1
            generalize symF t rs r' k' ks = sk at *
            generalize fitT t rs r' k' ks = fk at *
            generalize rt[i] = x at *
            subst e3
            clear e1 e2 hc hc3
            unfold pv at hc2
            go_upto_region 11 with fail
            clear hc2
            by_cases hsx : sk = x
            · subst hsx
              have t5 : (sk != sk) = false := by simp
              cases fk with
              | true =>
                have HSO2 : Aside0 ((kids.drop i).fit t rs (rt.drop i) = (kids.drop (i + 1)).fit t rs (rt.drop (i + 1))) := ⟨by rw [HSO.out]; simp⟩
                have hS0 : Below wr.heap.size wr wr.drew := below_drew1 (Below.refl _ _)
                have stepS := Aside0.mk (fun (w' : World) (hS' : Below wr.heap.size wr w') => (⟨(HSr.out.move hS' HSr.out.lt).c 0 rfl, (HSr.out.move hS' HSr.out.lt).c 1 rfl, (HSr.out.move hS' HSr.out.lt).c 2 rfl, (HSr.out.move hS' HSr.out.lt).c 3 rfl, (HSr.out.move hS' HSr.out.lt).c 4 rfl, (HSr.out.move hS' HSr.out.lt).c 5 rfl, (HSr.out.move hS' HSr.out.lt).c 6 rfl, (HSr.out.move hS' HSr.out.lt).c 7 rfl⟩ : _ ∧ _ ∧ _ ∧ _ ∧ _ ∧ _ ∧ _ ∧ _))
                have stepR := Aside0.mk (fun (w' : World) (hS' : Below wr.heap.size wr w') => pw_cell_below (HBr.out.trans (hS'.mono HBr.out.size)) HC3.out)
                refine h_begin (fun w' => Below wr.heap.size wr w') (by kernel_rfl) ?_
                refine h_take (i := 0) (v := ?_) rfl (by kernel_rfl) (by kernel_rfl) (by kernel_rfl) (fun _ _ _ h => h) (Or.inl ⟨by rfl, ?_⟩) hS0 ?_
                rotate_left
                · intro w' hS'
                  obtain ⟨s0, s1, s2, s3, s4, s5, s6, s7⟩ := stepS.out w' hS'
                  go_simp
                  (try with_reducible rfl)
                simp only [Act.put, List.setIfInBounds_toArray, List.set_cons_zero, List.set_cons_succ]
                refine h_take (i := 1) (v := ?_) rfl (by kernel_rfl) (by kernel_rfl) (by kernel_rfl) (fun _ _ _ h => h) (Or.inl ⟨by rfl, ?_⟩) hS0 ?_
                rotate_left
                · intro w' hS'
                  go_simp
                  (try with_reducible rfl)
                simp only [Act.put, List.setIfInBounds_toArray, List.set_cons_zero, List.set_cons_succ]
                refine h_take (i := 3) (v := ?_) rfl (by kernel_rfl) (by kernel_rfl) (by kernel_rfl) (fun _ _ _ h => h) (Or.inl ⟨by rfl, ?_⟩) hS0 ?_
                rotate_left
                · intro w' hS'
                  go_simp
                  (try with_reducible rfl)
                simp only [Act.put, List.setIfInBounds_toArray, List.set_cons_zero, List.set_cons_succ]
                refine h_take (i := 4) (v := ?_) rfl (by kernel_rfl) (by kernel_rfl) (by kernel_rfl) (fun _ _ _ h => h) (Or.inl ⟨by rfl, ?_⟩) hS0 ?_
                rotate_left
                · intro w' hS'
                  go_simp
                  (try with_reducible rfl)
                simp only [Act.put, List.setIfInBounds_toArray, List.set_cons_zero, List.set_cons_succ]
                refine h_take (i := 5) (v := ?_) rfl (by kernel_rfl) (by kernel_rfl) (by kernel_rfl) (fun _ _ _ h => h) (Or.inl ⟨by rfl, ?_⟩) hS0 ?_
                rotate_left
                · intro w' hS'
                  go_simp
                  (try with_reducible rfl)
                simp only [Act.put, List.setIfInBounds_toArray, List.set_cons_zero, List.set_cons_succ]
                refine h_take (i := 6) (v := ?_) rfl (by kernel_rfl) (by kernel_rfl) (by kernel_rfl) (fun _ _ _ h => h) (Or.inl ⟨by rfl, ?_⟩) hS0 ?_
                rotate_left
                · intro w' hS'
                  have hc4 := stepR.out w' hS'
                  go_simp
                  (try with_reducible rfl)
                simp only [Act.put, List.setIfInBounds_toArray, List.set_cons_zero, List.set_cons_succ]
                refine h_one (i := 2) (by kernel_rfl) rfl (fun K hK => ?_)
                go_simp
                (with_reducible refine Calls.mono (CS.out _ hS0) ?_)
                rintro e w3 ⟨rfl, hb3⟩
                have hS1 : Below wr.heap.size wr w3 := hS0.trans (hb3.mono hS0.size)
                go_wp2_with fail
                refine hK.out _ _ hS1 ?_
                clear hK K hb3
                refine h_take (i := 7) (v := ?_) rfl (by kernel_rfl) (by kernel_rfl) (by kernel_rfl) (fun _ _ _ h => h) (Or.inl ⟨by rfl, ?_⟩) hS1 ?_
                rotate_left
                · intro w' hS'
                  go_simp
                  (try with_reducible rfl)
                simp only [Act.put, List.setIfInBounds_toArray, List.set_cons_zero, List.set_cons_succ]
                refine h_take (i := 8) (v := ?_) rfl (by kernel_rfl) (by kernel_rfl) (by kernel_rfl) (fun _ _ _ h => h) (Or.inl ⟨by rfl, ?_⟩) hS1 ?_
                rotate_left
                · intro w' hS'
                  go_simp
                  (try with_reducible rfl)
                simp only [Act.put, List.setIfInBounds_toArray, List.set_cons_zero, List.set_cons_succ]
                refine h_take (i := 9) (v := ?_) rfl (by kernel_rfl) (by kernel_rfl) (by kernel_rfl) (fun _ _ _ h => h) (Or.inl ⟨by rfl, ?_⟩) hS1 ?_
                rotate_left
                · intro w' hS'
                  obtain ⟨s0, s1, s2, s3, s4, s5, s6, s7⟩ := stepS.out w' hS'
                  go_simp
                  (try with_reducible rfl)
                simp only [Act.put, List.setIfInBounds_toArray, List.set_cons_zero, List.set_cons_succ]
                refine h_take (i := 10) (v := ?_) rfl (by kernel_rfl) (by kernel_rfl) (by kernel_rfl) (fun _ _ _ h => h) (Or.inl ⟨by rfl, ?_⟩) hS1 ?_
                rotate_left
                · intro w' hS'
                  go_simp
                  (try with_reducible rfl)
                simp only [Act.put, List.setIfInBounds_toArray, List.set_cons_zero, List.set_cons_succ]
                refine h_one (i := 11) (by kernel_rfl) rfl (fun K hK => ?_)
                go_simp
                (with_reducible refine Calls.mono (CF.out _ hS1) ?_)
                rintro e w4 ⟨rfl, hb3⟩
                have hS2 : Below wr.heap.size wr w4 := hS1.trans (hb3.mono hS1.size)
                go_wp2_with fail
                refine hK.out _ _ hS2 ?_
                clear hK K hb3
                refine h_take (i := 12) (v := ?_) rfl (by kernel_rfl) (by kernel_rfl) (by kernel_rfl) (fun _ _ _ h => h) (Or.inl ⟨by rfl, ?_⟩) hS2 ?_
                rotate_left
                · intro w' hS'
                  go_simp
                  (try with_reducible rfl)
                simp only [Act.put, List.setIfInBounds_toArray, List.set_cons_zero, List.set_cons_succ]
                refine h_take (i := 13) (v := ?_) rfl (by kernel_rfl) (by kernel_rfl) (by kernel_rfl) (fun _ _ _ h => h) (Or.inl ⟨by rfl, ?_⟩) hS2 ?_
                rotate_left
                · intro w' hS'
                  go_simp
                  (try with_reducible rfl)
                simp only [Act.put, List.setIfInBounds_toArray, List.set_cons_zero, List.set_cons_succ]
                refine h_done (by kernel_rfl) ?_
                have H3 := Aside0.mk (HR2.out.1.trans (hS2.mono HR2.out.1.size))
                clear stepS stepR hS0 hS1 hS2
                go_wp2_with fail
                go_roundg (gk - 1)
                case measure => have := HI.out; omega
                case rel => exact ⟨i + 1, by have := HI.out; omega, by go_num, H3.out, by rw [HR2.out.2, HSO2.out]⟩
              | false =>
                have HF : Aside0 (fitT t rs (rn : Int) k kids = false) := ⟨by rw [HF0.out, HR2.out.2, HSO.out]; simp⟩
                have hS0 : Below wr.heap.size wr wr.drew := below_drew1 (Below.refl _ _)
                have stepS := Aside0.mk (fun (w' : World) (hS' : Below wr.heap.size wr w') => (⟨(HSr.out.move hS' HSr.out.lt).c 0 rfl, (HSr.out.move hS' HSr.out.lt).c 1 rfl, (HSr.out.move hS' HSr.out.lt).c 2 rfl, (HSr.out.move hS' HSr.out.lt).c 3 rfl, (HSr.out.move hS' HSr.out.lt).c 4 rfl, (HSr.out.move hS' HSr.out.lt).c 5 rfl, (HSr.out.move hS' HSr.out.lt).c 6 rfl, (HSr.out.move hS' HSr.out.lt).c 7 rfl⟩ : _ ∧ _ ∧ _ ∧ _ ∧ _ ∧ _ ∧ _ ∧ _))
                have stepR := Aside0.mk (fun (w' : World) (hS' : Below wr.heap.size wr w') => pw_cell_below (HBr.out.trans (hS'.mono HBr.out.size)) HC3.out)
                refine h_begin (fun w' => Below wr.heap.size wr w') (by kernel_rfl) ?_
                refine h_take (i := 0) (v := ?_) rfl (by kernel_rfl) (by kernel_rfl) (by kernel_rfl) (fun _ _ _ h => h) (Or.inl ⟨by rfl, ?_⟩) hS0 ?_
                rotate_left
                · intro w' hS'
                  obtain ⟨s0, s1, s2, s3, s4, s5, s6, s7⟩ := stepS.out w' hS'
                  go_simp
                  (try with_reducible rfl)
                simp only [Act.put, List.setIfInBounds_toArray, List.set_cons_zero, List.set_cons_succ]
                refine h_take (i := 1) (v := ?_) rfl (by kernel_rfl) (by kernel_rfl) (by kernel_rfl) (fun _ _ _ h => h) (Or.inl ⟨by rfl, ?_⟩) hS0 ?_
                rotate_left
                · intro w' hS'
                  go_simp
                  (try with_reducible rfl)
                simp only [Act.put, List.setIfInBounds_toArray, List.set_cons_zero, List.set_cons_succ]
                refine h_take (i := 3) (v := ?_) rfl (by kernel_rfl) (by kernel_rfl) (by kernel_rfl) (fun _ _ _ h => h) (Or.inl ⟨by rfl, ?_⟩) hS0 ?_
                rotate_left
                · intro w' hS'
                  go_simp
                  (try with_reducible rfl)
                simp only [Act.put, List.setIfInBounds_toArray, List.set_cons_zero, List.set_cons_succ]
                refine h_take (i := 4) (v := ?_) rfl (by kernel_rfl) (by kernel_rfl) (by kernel_rfl) (fun _ _ _ h => h) (Or.inl ⟨by rfl, ?_⟩) hS0 ?_
                rotate_left
                · intro w' hS'
                  go_simp
                  (try with_reducible rfl)
                simp only [Act.put, List.setIfInBounds_toArray, List.set_cons_zero, List.set_cons_succ]
                refine h_take (i := 5) (v := ?_) rfl (by kernel_rfl) (by kernel_rfl) (by kernel_rfl) (fun _ _ _ h => h) (Or.inl ⟨by rfl, ?_⟩) hS0 ?_
                rotate_left
                · intro w' hS'
                  go_simp
                  (try with_reducible rfl)
                simp only [Act.put, List.setIfInBounds_toArray, List.set_cons_zero, List.set_cons_succ]
                refine h_take (i := 6) (v := ?_) rfl (by kernel_rfl) (by kernel_rfl) (by kernel_rfl) (fun _ _ _ h => h) (Or.inl ⟨by rfl, ?_⟩) hS0 ?_
                rotate_left
                · intro w' hS'
                  have hc4 := stepR.out w' hS'
                  go_simp
                  (try with_reducible rfl)
                simp only [Act.put, List.setIfInBounds_toArray, List.set_cons_zero, List.set_cons_succ]
                refine h_one (i := 2) (by kernel_rfl) rfl (fun K hK => ?_)
                go_simp
                (with_reducible refine Calls.mono (CS.out _ hS0) ?_)
                rintro e w3 ⟨rfl, hb3⟩
                have hS1 : Below wr.heap.size wr w3 := hS0.trans (hb3.mono hS0.size)
                go_wp2_with fail
                refine hK.out _ _ hS1 ?_
                clear hK K hb3
                refine h_take (i := 7) (v := ?_) rfl (by kernel_rfl) (by kernel_rfl) (by kernel_rfl) (fun _ _ _ h => h) (Or.inl ⟨by rfl, ?_⟩) hS1 ?_
                rotate_left
                · intro w' hS'
                  go_simp
                  (try with_reducible rfl)
                simp only [Act.put, List.setIfInBounds_toArray, List.set_cons_zero, List.set_cons_succ]
                refine h_take (i := 8) (v := ?_) rfl (by kernel_rfl) (by kernel_rfl) (by kernel_rfl) (fun _ _ _ h => h) (Or.inl ⟨by rfl, ?_⟩) hS1 ?_
                rotate_left
                · intro w' hS'
                  go_simp
                  (try with_reducible rfl)
                simp only [Act.put, List.setIfInBounds_toArray, List.set_cons_zero, List.set_cons_succ]
                refine h_take (i := 9) (v := ?_) rfl (by kernel_rfl) (by kernel_rfl) (by kernel_rfl) (fun _ _ _ h => h) (Or.inl ⟨by rfl, ?_⟩) hS1 ?_
                rotate_left
                · intro w' hS'
                  obtain ⟨s0, s1, s2, s3, s4, s5, s6, s7⟩ := stepS.out w' hS'
                  go_simp
                  (try with_reducible rfl)
                simp only [Act.put, List.setIfInBounds_toArray, List.set_cons_zero, List.set_cons_succ]
                refine h_take (i := 10) (v := ?_) rfl (by kernel_rfl) (by kernel_rfl) (by kernel_rfl) (fun _ _ _ h => h) (Or.inl ⟨by rfl, ?_⟩) hS1 ?_
                rotate_left
                · intro w' hS'
                  go_simp
                  (try with_reducible rfl)
                simp only [Act.put, List.setIfInBounds_toArray, List.set_cons_zero, List.set_cons_succ]
                refine h_one (i := 11) (by kernel_rfl) rfl (fun K hK => ?_)
                go_simp
                (with_reducible refine Calls.mono (CF.out _ hS1) ?_)
                rintro e w4 ⟨rfl, hb3⟩
                have hS2 : Below wr.heap.size wr w4 := hS1.trans (hb3.mono hS1.size)
                go_wp2_with fail
                refine hK.out _ _ hS2 ?_
                clear hK K hb3
                refine h_take (i := 12) (v := ?_) rfl (by kernel_rfl) (by kernel_rfl) (by kernel_rfl) (fun _ _ _ h => h) (Or.inl ⟨by rfl, ?_⟩) hS2 ?_
                rotate_left
                · intro w' hS'
                  go_simp
                  (try with_reducible rfl)
                simp only [Act.put, List.setIfInBounds_toArray, List.set_cons_zero, List.set_cons_succ]
                refine h_take (i := 13) (v := ?_) rfl (by kernel_rfl) (by kernel_rfl) (by kernel_rfl) (fun _ _ _ h => h) (Or.inl ⟨by rfl, ?_⟩) hS2 ?_
                rotate_left
                · intro w' hS'
                  go_simp
                  (try with_reducible rfl)
                simp only [Act.put, List.setIfInBounds_toArray, List.set_cons_zero, List.set_cons_succ]
                refine h_done (by kernel_rfl) ?_
                have H3 := Aside0.mk (HR2.out.1.trans (hS2.mono HR2.out.1.size))
                clear stepS stepR hS0 hS1 hS2
                go_wp2_with fail
                go_ret
                rw [HF.out]
                exact ⟨rfl, H2.out.1.trans (H3.out.mono H2.out.1.size)⟩
            · have t5 : (sk != x) = true := by simpa using hsx
              have HF : Aside0 (fitT t rs (rn : Int) k kids = false) := ⟨by rw [HF0.out, HR2.out.2, HSO.out, decide_eq_false hsx]; simp⟩
              clear hsx
              have hS0 : Below wr.heap.size wr wr.drew := below_drew1 (Below.refl _ _)
              have stepS := Aside0.mk (fun (w' : World) (hS' : Below wr.heap.size wr w') => (⟨(HSr.out.move hS' HSr.out.lt).c 0 rfl, (HSr.out.move hS' HSr.out.lt).c 1 rfl, (HSr.out.move hS' HSr.out.lt).c 2 rfl, (HSr.out.move hS' HSr.out.lt).c 3 rfl, (HSr.out.move hS' HSr.out.lt).c 4 rfl, (HSr.out.move hS' HSr.out.lt).c 5 rfl, (HSr.out.move hS' HSr.out.lt).c 6 rfl, (HSr.out.move hS' HSr.out.lt).c 7 rfl⟩ : _ ∧ _ ∧ _ ∧ _ ∧ _ ∧ _ ∧ _ ∧ _))
              have stepR := Aside0.mk (fun (w' : World) (hS' : Below wr.heap.size wr w') => pw_cell_below (HBr.out.trans (hS'.mono HBr.out.size)) HC3.out)
              refine h_begin (fun w' => Below wr.heap.size wr w') (by kernel_rfl) ?_
              refine h_take (i := 0) (v := ?_) rfl (by kernel_rfl) (by kernel_rfl) (by kernel_rfl) (fun _ _ _ h => h) (Or.inl ⟨by rfl, ?_⟩) hS0 ?_
              rotate_left
              · intro w' hS'
                obtain ⟨s0, s1, s2, s3, s4, s5, s6, s7⟩ := stepS.out w' hS'
                go_simp
                (try with_reducible rfl)
              simp only [Act.put, List.setIfInBounds_toArray, List.set_cons_zero, List.set_cons_succ]
              refine h_take (i := 1) (v := ?_) rfl (by kernel_rfl) (by kernel_rfl) (by kernel_rfl) (fun _ _ _ h => h) (Or.inl ⟨by rfl, ?_⟩) hS0 ?_
              rotate_left
              · intro w' hS'
                go_simp
                (try with_reducible rfl)
              simp only [Act.put, List.setIfInBounds_toArray, List.set_cons_zero, List.set_cons_succ]
              refine h_take (i := 3) (v := ?_) rfl (by kernel_rfl) (by kernel_rfl) (by kernel_rfl) (fun _ _ _ h => h) (Or.inl ⟨by rfl, ?_⟩) hS0 ?_
              rotate_left
              · intro w' hS'
                go_simp
                (try with_reducible rfl)
              simp only [Act.put, List.setIfInBounds_toArray, List.set_cons_zero, List.set_cons_succ]
              refine h_take (i := 4) (v := ?_) rfl (by kernel_rfl) (by kernel_rfl) (by kernel_rfl) (fun _ _ _ h => h) (Or.inl ⟨by rfl, ?_⟩) hS0 ?_
              rotate_left
              · intro w' hS'
                go_simp
                (try with_reducible rfl)
              simp only [Act.put, List.setIfInBounds_toArray, List.set_cons_zero, List.set_cons_succ]
              refine h_take (i := 5) (v := ?_) rfl (by kernel_rfl) (by kernel_rfl) (by kernel_rfl) (fun _ _ _ h => h) (Or.inl ⟨by rfl, ?_⟩) hS0 ?_
              rotate_left
              · intro w' hS'
                go_simp
                (try with_reducible rfl)
              simp only [Act.put, List.setIfInBounds_toArray, List.set_cons_zero, List.set_cons_succ]
              refine h_take (i := 6) (v := ?_) rfl (by kernel_rfl) (by kernel_rfl) (by kernel_rfl) (fun _ _ _ h => h) (Or.inl ⟨by rfl, ?_⟩) hS0 ?_
              rotate_left
              · intro w' hS'
                have hc4 := stepR.out w' hS'
                go_simp
                (try with_reducible rfl)
              simp only [Act.put, List.setIfInBounds_toArray, List.set_cons_zero, List.set_cons_succ]
              refine h_one (i := 2) (by kernel_rfl) rfl (fun K hK => ?_)
              go_simp
              (with_reducible refine Calls.mono (CS.out _ hS0) ?_)
              rintro e w3 ⟨rfl, hb3⟩
              have hS1 : Below wr.heap.size wr w3 := hS0.trans (hb3.mono hS0.size)
              go_wp2_with fail
              refine hK.out _ _ hS1 ?_
              clear hK K hb3
              refine h_take (i := 7) (v := ?_) rfl (by kernel_rfl) (by kernel_rfl) (by kernel_rfl) (fun _ _ _ h => h) (Or.inl ⟨by rfl, ?_⟩) hS1 ?_
              rotate_left
              · intro w' hS'
                go_simp
                (try with_reducible rfl)
              simp only [Act.put, List.setIfInBounds_toArray, List.set_cons_zero, List.set_cons_succ]
              refine h_take (i := 8) (v := ?_) rfl (by kernel_rfl) (by kernel_rfl) (by kernel_rfl) (fun _ _ _ h => h) (Or.inl ⟨by rfl, ?_⟩) hS1 ?_
              rotate_left
              · intro w' hS'
                go_simp
                (try with_reducible rfl)
              simp only [Act.put, List.setIfInBounds_toArray, List.set_cons_zero, List.set_cons_succ]
              refine h_take (i := 9) (v := undef) rfl (by kernel_rfl) (by kernel_rfl) (by kernel_rfl) (fun _ _ _ h => h) (Or.inr ⟨by rfl, rfl⟩) hS1 ?_
              simp only [Act.put, List.setIfInBounds_toArray, List.set_cons_zero, List.set_cons_succ]
              refine h_take (i := 10) (v := undef) rfl (by kernel_rfl) (by kernel_rfl) (by kernel_rfl) (fun _ _ _ h => h) (Or.inr ⟨by rfl, rfl⟩) hS1 ?_
              simp only [Act.put, List.setIfInBounds_toArray, List.set_cons_zero, List.set_cons_succ]
              refine h_take (i := 11) (v := undef) rfl (by kernel_rfl) (by kernel_rfl) (by kernel_rfl) (fun _ _ _ h => h) (Or.inr ⟨by rfl, rfl⟩) hS1 ?_
              simp only [Act.put, List.setIfInBounds_toArray, List.set_cons_zero, List.set_cons_succ]
              refine h_take (i := 12) (v := undef) rfl (by kernel_rfl) (by kernel_rfl) (by kernel_rfl) (fun _ _ _ h => h) (Or.inr ⟨by rfl, rfl⟩) hS1 ?_
              simp only [Act.put, List.setIfInBounds_toArray, List.set_cons_zero, List.set_cons_succ]
              refine h_take (i := 13) (v := ?_) rfl (by kernel_rfl) (by kernel_rfl) (by kernel_rfl) (fun _ _ _ h => h) (Or.inl ⟨by rfl, ?_⟩) hS1 ?_
              rotate_left
              · intro w' hS'
                go_simp
                (try with_reducible rfl)
              simp only [Act.put, List.setIfInBounds_toArray, List.set_cons_zero, List.set_cons_succ]
              refine h_done (by kernel_rfl) ?_
              have H3 := Aside0.mk (HR2.out.1.trans (hS1.mono HR2.out.1.size))
              clear stepS stepR hS0 hS1
              go_wp2_with fail
              go_ret
              rw [HF.out]
              exact ⟨rfl, H2.out.1.trans (H3.out.mono H2.out.1.size)⟩
          · have t1 : decide ((i : Int) < (qs.length : Int)) = false := by simp; omega
            have HF : Aside0 (fitT t rs (rn : Int) k kids = true) := ⟨by
              have h1 := HK.out.len kids qs
              have h2 := HI.out
              have h3 := HQL.out
              rw [HF0.out, HR2.out.2, show i = qs.length by omega, h1, List.drop_eq_nil_of_le (by omega)]
              rfl⟩
            go_wp2_with fail
            go_ret
            rw [HF.out]
            exact ⟨rfl, H2.out.1.trans (HR2.out.1.mono H2.out.1.size)⟩
      · have t3 : ((rt.length : Int) != (qs.length : Int)) = true := by simpa using (show ¬ (rt.length : Int) = (qs.length : Int) by omega)
        have HF : Aside0 (fitT t rs (rn : Int) k kids = false) := ⟨by
          rw [HF0.out]
          cases h : kids.fit t rs rt with
          | false => rfl
          | true =>
            have h1 := fit_len kids rt h
            have h2 := HLEN.out
            omega⟩
        clear hql
        go_wp2_with fail
        go_ret
        rw [HF.out]
        exact ⟨rfl, H2.out.1.trans (HBD.out.mono H2.out.1.size)⟩
theorem fits_calls (B : World) (t : Nat) (n sq ex : Int) (A4 A5 A6 A7 : Option Addr) (n4 c4 n5 c5 n6 c6 c7 : Nat) (rs : List SR) (hrs : Kd.C kSR B A7 rs.length rs) (f : F) : AllF (FitC B t n sq ex A4 A5 A6 A7 n4 c4 n5 c5 n6 c6 c7 rs) f := AllF.of (fits_node B t n sq ex A4 A5 A6 A7 n4 c4 n5 c5 n6 c6 c7 rs hrs) f
end Go.Proofs.YtjhemobplcelbaaGreatDoor.T
namespace Go.Proofs.YtjhemobplcelbaaGreatDoor.T
open Go.RowKit Go.Proofs.YtjhemobplcelbaaGreatDoorW.PrintWords Go.Proofs.YtjhemobplcelbaaGreatDoorW.PrintLast Go.Proofs.YtjhemobplcelbaaGreatDoorW.PrintMore
open Go.Proofs.YtjhemobplcelbaaGreatDoor.U (SR kSR rule_at int_at)
open Go.Proofs.YtjhemobplcelbaaGreatDoor.O (Bx)
set_option linter.unusedVariables false
set_option linter.unusedSimpArgs false
set_option maxRecDepth 100000 in
set_option maxHeartbeats 4000000 in
theorem check_prog (B : World) (t : Nat) (n sq ex : Int) (A4 A5 A6 A7 : Option Addr) (n4 c4 n5 c5 n6 c6 c7 : Nat) (rs : List SR) (hrs : Kd.C kSR B A7 rs.length rs) (r k : Int) (kids : F) (hn : (F.cons r k kids .nil).nodes ≤ 1000) (hh : (F.cons r k kids .nil).height ≤ 1000) (X : Nat) (hX : IsF B [X] (.cons r k kids .nil)) (w : World) (hb : Below B.heap.size B w) :
    Calls Tryz.prog 21 #[.agg #[.int .i64 (t : Int), .int .i64 n, .int .i64 sq, .int .i64 ex, .slice A4 n4 c4, .slice A5 n5 c5, .slice A6 n6 c6, .slice A7 rs.length c7], .pointer (some ⟨X, 0, none⟩)] w fun e w' => e = .returned (.bool (fitT t rs r k kids)) ∧ Below w.heap.size w w' := by
  have HX0 := Aside0.mk hX
  have HRS := Aside0.mk hrs
  have HB := Aside0.mk hb
  have hbA := below_alloc (Below.refl w.heap.size w) (.cells #[.int .i64 (t : Int), .int .i64 n, .int .i64 sq, .int .i64 ex, .slice A4 n4 c4, .slice A5 n5 c5, .slice A6 n6 c6, .slice A7 rs.length c7] 32)
  have hxS := Bx.new w #[.int .i64 (t : Int), .int .i64 n, .int .i64 sq, .int .i64 ex, .slice A4 n4 c4, .slice A5 n5 c5, .slice A6 n6 c6, .slice A7 rs.length c7] 32
  have HN := Aside0.mk (And.intro hn hh)
  clear hX hrs hb hn hh
  go_enter Tryz.func21, Tryz.ntmps21
  go_upto_region 1 with fail
  obtain ⟨Y, hY⟩ : ∃ Y, Y = w.heap.size := ⟨_, rfl⟩
  rw [← hY] at hxS
  rw [← hY]
  generalize hWe : w.alloc (.cells #[.int .i64 (t : Int), .int .i64 n, .int .i64 sq, .int .i64 ex, .slice A4 n4 c4, .slice A5 n5 c5, .slice A6 n6 c6, .slice A7 rs.length c7] 32) = W1 at *
  have HS := Aside0.mk hxS
  have H1 := Aside0.mk (And.intro hbA (HB.out.trans (hbA.mono HB.out.size)))
  clear hxS hbA hWe hY
  have CZ : Aside0 (Calls Tryz.prog 18 #[.pointer (some ⟨X, 0, none⟩)] W1 fun e w' => e = .returned (.tuple #[.int .i64 ((F.cons r k kids .nil).nodes : Int), .int .i64 ((F.cons r k kids .nil).height : Int)]) ∧ Below W1.heap.size W1 w') := ⟨by have h := Size_calls W1 X r k kids (IsF.below H1.out.2 _ _ HX0.out); rwa [Size_ok _ (by have := HN.out; omega) (by have := HN.out; omega)] at h⟩
  have hnp : 0 < (F.cons r k kids .nil).nodes := by simp only [F.nodes]; omega
  generalize (F.cons r k kids .nil).nodes = nd at *
  generalize (F.cons r k kids .nil).height = ht at *
  go_wp2_with fail
  go_at_call 18
  refine CZ.out.mono ?_
  rintro e W2 ⟨rfl, hb⟩
  have HS2 := Aside0.mk (HS.out.move hb HS.out.lt)
  have H2 := Aside0.mk (And.intro (H1.out.1.trans (hb.mono H1.out.1.size)) (H1.out.2.trans (hb.mono H1.out.2.size)))
  clear hb CZ HS H1
  have t1 : decide (0 < (nd : Int)) = true := decide_eq_true (by omega)
  have t2 : decide ((nd : Int) > 0) = true := decide_eq_true (by omega)
  have t3 : decide (0 < nd) = true := decide_eq_true (by omega)
  have CF := Aside0.mk ((fits_calls B t n sq ex A4 A5 A6 A7 n4 c4 n5 c5 n6 c6 c7 rs HRS.out (.cons r k kids .nil)).1 X HX0.out W2 H2.out.2)
  have s0 := HS2.out.c 0 rfl
  have s1 := HS2.out.c 1 rfl
  have s2 := HS2.out.c 2 rfl
  have s3 := HS2.out.c 3 rfl
  have s4 := HS2.out.c 4 rfl
  have s5 := HS2.out.c 5 rfl
  have s6 := HS2.out.c 6 rfl
  have s7 := HS2.out.c 7 rfl
  go_wp2_with fail
  go_at_call 53
  refine CF.out.mono ?_
  rintro e W3 ⟨rfl, hb⟩
  have H3 := Aside0.mk (H2.out.1.trans (hb.mono H2.out.1.size))
  clear hb CF s0 s1 s2 s3 s4 s5 s6 s7
  go_wp2_with fail
  go_ret
  exact ⟨rfl, H3.out⟩
set_option maxRecDepth 100000 in
set_option maxHeartbeats 4000000 in
theorem check_ref (B : World) (t : Nat) (n sq ex : Int) (A4 A5 A6 A7 : Option Addr) (n4 c4 n5 c5 n6 c6 c7 : Nat) (rs : List SR) (hrs : Kd.C kSR B A7 rs.length rs) (r k : Int) (kids : F) (hn : (F.cons r k kids .nil).nodes ≤ 1000) (hh : (F.cons r k kids .nil).height ≤ 1000) (X : Nat) (hX : IsF B [X] (.cons r k kids .nil)) (w : World) (hb : Below B.heap.size B w) :
    Calls Tryz.prog 19 #[.agg #[.int .i64 (t : Int), .int .i64 n, .int .i64 sq, .int .i64 ex, .slice A4 n4 c4, .slice A5 n5 c5, .slice A6 n6 c6, .slice A7 rs.length c7], .pointer (some ⟨X, 0, none⟩)] w fun e w' => e = .returned (.bool (chkT t rs r k kids)) ∧ Below w.heap.size w w' := by
  have HX0 := Aside0.mk hX
  have HRS := Aside0.mk hrs
  have HB := Aside0.mk hb
  have hbA := below_alloc (Below.refl w.heap.size w) (.cells #[.int .i64 (t : Int), .int .i64 n, .int .i64 sq, .int .i64 ex, .slice A4 n4 c4, .slice A5 n5 c5, .slice A6 n6 c6, .slice A7 rs.length c7] 32)
  have hxS := Bx.new w #[.int .i64 (t : Int), .int .i64 n, .int .i64 sq, .int .i64 ex, .slice A4 n4 c4, .slice A5 n5 c5, .slice A6 n6 c6, .slice A7 rs.length c7] 32
  have HN := Aside0.mk (And.intro hn hh)
  clear hX hrs hb hn hh
  go_enter Tryz.func19, Tryz.ntmps19
  go_upto_region 1 with fail
  obtain ⟨Y, hY⟩ : ∃ Y, Y = w.heap.size := ⟨_, rfl⟩
  rw [← hY] at hxS
  rw [← hY]
  generalize hWe : w.alloc (.cells #[.int .i64 (t : Int), .int .i64 n, .int .i64 sq, .int .i64 ex, .slice A4 n4 c4, .slice A5 n5 c5, .slice A6 n6 c6, .slice A7 rs.length c7] 32) = W1 at *
  have HS := Aside0.mk hxS
  have H1 := Aside0.mk (And.intro hbA (HB.out.trans (hbA.mono HB.out.size)))
  clear hxS hbA hWe hY
  have CZ : Aside0 (Calls Tryz.prog 17 #[.pointer (some ⟨X, 0, none⟩)] W1 fun e w' => e = .returned (.tuple #[.int .i64 ((F.cons r k kids .nil).nodes : Int), .int .i64 ((F.cons r k kids .nil).height : Int)]) ∧ Below W1.heap.size W1 w') := ⟨ref_Size W1 X r k kids (IsF.below H1.out.2 _ _ HX0.out) (by have := HN.out; omega) (by have := HN.out; omega)⟩
  have hnp : 0 < (F.cons r k kids .nil).nodes := by simp only [F.nodes]; omega
  generalize (F.cons r k kids .nil).nodes = nd at *
  generalize (F.cons r k kids .nil).height = ht at *
  go_wp2_with fail
  go_at_call 17
  refine CZ.out.mono ?_
  rintro e W2 ⟨rfl, hb⟩
  have HS2 := Aside0.mk (HS.out.move hb HS.out.lt)
  have H2 := Aside0.mk (And.intro (H1.out.1.trans (hb.mono H1.out.1.size)) (H1.out.2.trans (hb.mono H1.out.2.size)))
  clear hb CZ HS H1
  have t1 : decide (0 < (nd : Int)) = true := decide_eq_true (by omega)
  have t2 : decide ((nd : Int) > 0) = true := decide_eq_true (by omega)
  have t3 : decide (0 < nd) = true := decide_eq_true (by omega)
  have CF := Aside0.mk ((check_calls B t n sq ex A4 A5 A6 A7 n4 c4 n5 c5 n6 c6 c7 rs HRS.out (.cons r k kids .nil)).1 X HX0.out W2 H2.out.2)
  have s0 := HS2.out.c 0 rfl
  have s1 := HS2.out.c 1 rfl
  have s2 := HS2.out.c 2 rfl
  have s3 := HS2.out.c 3 rfl
  have s4 := HS2.out.c 4 rfl
  have s5 := HS2.out.c 5 rfl
  have s6 := HS2.out.c 6 rfl
  have s7 := HS2.out.c 7 rfl
  go_wp2_with fail
  go_at_call 52
  refine CF.out.mono ?_
  rintro e W3 ⟨rfl, hb⟩
  have H3 := Aside0.mk (H2.out.1.trans (hb.mono H2.out.1.size))
  clear hb CF s0 s1 s2 s3 s4 s5 s6 s7
  go_wp2_with fail
  go_ret
  exact ⟨rfl, H3.out⟩
end Go.Proofs.YtjhemobplcelbaaGreatDoor.T
namespace Go.Proofs.YtjhemobplcelbaaGreatDoor.T
open Go.RowKit Go.Proofs.YtjhemobplcelbaaGreatDoorW.PrintWords Go.Proofs.YtjhemobplcelbaaGreatDoorW.PrintLast Go.Proofs.YtjhemobplcelbaaGreatDoorW.PrintMore
open Go.Proofs.YtjhemobplcelbaaGreatDoor.U (SR)
set_option linter.unusedVariables false
set_option linter.unusedSimpArgs false
def nameOf (nm : List ByteArray) (i : Int) : ByteArray := nm.getD i.toNat ⟨#[]⟩
def F.txt (nm : List ByteArray) (rs : List SR) : F → ByteArray
  | .nil => ⟨#[]⟩
  | .cons r k kids rest => ⟨#[32]⟩ ++ (if r < 0 then nameOf nm k else ⟨#[40]⟩ ++ nameOf nm (ruOf rs r).f0 ++ kids.txt nm rs ++ ⟨#[41]⟩) ++ rest.txt nm rs
def txtT (nm : List ByteArray) (rs : List SR) (r k : Int) (kids : F) : ByteArray := if r < 0 then nameOf nm k else ⟨#[40]⟩ ++ nameOf nm (ruOf rs r).f0 ++ kids.txt nm rs ++ ⟨#[41]⟩
theorem txt_one (nm : List ByteArray) (rs : List SR) (r k : Int) (ks rest : F) : (F.cons r k ks rest).txt nm rs = ⟨#[32]⟩ ++ txtT nm rs r k ks ++ rest.txt nm rs := rfl
theorem name_small {nm : List ByteArray} (h : ∀ s ∈ nm, s.size ≤ 15) (i : Int) : (nameOf nm i).size ≤ 15 := by
  unfold nameOf
  by_cases hi : i.toNat < nm.length
  · simp only [List.getD_eq_getElem?_getD, List.getElem?_eq_getElem hi, Option.getD_some]
    exact h _ (List.getElem_mem hi)
  · simp only [List.getD_eq_getElem?_getD, List.getElem?_eq_none (by omega : nm.length ≤ i.toNat), Option.getD_none]
    exact Nat.zero_le _
theorem txt_size {nm : List ByteArray} {rs : List SR} (h : ∀ s ∈ nm, s.size ≤ 15) : ∀ f : F, (f.txt nm rs).size ≤ 18 * f.nodes := by
  intro f
  induction f with
  | nil => exact Nat.le_refl _
  | cons r k kids rest ih1 ih2 =>
    have h1 := name_small h k
    have h2 := name_small h (ruOf rs r).f0
    have e1 : (⟨#[32]⟩ : ByteArray).size = 1 := rfl
    have e2 : (⟨#[40]⟩ : ByteArray).size = 1 := rfl
    have e3 : (⟨#[41]⟩ : ByteArray).size = 1 := rfl
    simp only [F.txt, F.nodes]
    split
    · simp only [ByteArray.size_append, e1]
      omega
    · simp only [ByteArray.size_append, e1, e2, e3]
      omega
theorem txtT_size {nm : List ByteArray} {rs : List SR} (h : ∀ s ∈ nm, s.size ≤ 15) (r k : Int) (kids : F) : (txtT nm rs r k kids).size ≤ 18 * (F.cons r k kids .nil).nodes := by
  have h0 := txt_size h (F.cons r k kids .nil) (rs := rs)
  rw [txt_one] at h0
  simp only [ByteArray.size_append] at h0
  omega
theorem drop_nodes : ∀ (f : F) (i : Nat), (f.drop i).nodes ≤ f.nodes := by
  intro f
  induction f with
  | nil => intro i; cases i <;> exact Nat.le_refl _
  | cons r k kids rest _ ih =>
    intro i
    cases i with
    | zero => exact Nat.le_refl _
    | succ j =>
      have := ih j
      simp only [F.drop, F.nodes]
      omega
theorem chk_at {t : Nat} {rs : List SR} : ∀ (f : F) (xs : List Int) (i : Nat) {r k : Int} {ks rest : F}, f.chk t rs xs = true → f.drop i = .cons r k ks rest → chkT t rs r k ks = true := by
  intro f
  induction f with
  | nil => intro xs i r k ks rest h e; cases i <;> cases e
  | cons r0 k0 kids0 rest0 ih1 ih2 =>
    intro xs i r k ks rest h e
    cases xs with
    | nil => simp [F.chk] at h
    | cons x xs =>
      rw [chk_one] at h
      simp only [Bool.and_eq_true] at h
      cases i with
      | zero =>
        simp only [F.drop] at e
        cases e
        exact h.1.1.1
      | succ j => exact ih2 xs j h.2 e
theorem chk_leaf {t : Nat} {rs : List SR} {k : Int} {kids : F} (h : chkT t rs (-1) k kids = true) : 0 ≤ k ∧ k < t := by
  unfold chkT at h
  rw [if_pos rfl] at h
  have := of_decide_eq_true h
  omega
theorem chk_kids {t : Nat} {rs : List SR} {r k : Int} {kids : F} (h : chkT t rs r k kids = true) (hr : r ≠ -1) : kids.chk t rs (ruOf rs r).f1 = true := by
  unfold chkT at h
  rw [if_neg hr] at h
  split at h
  · cases h
  · exact h
theorem str_at {w : World} {A : Option Addr} {n : Nat} {xs : List ByteArray} (h : Kd.C Kd.string w A n xs) (i : Nat) (hi : i < xs.length) : ∃ ad, A = some ad ∧ w.cell? (ad.add i) = some (.string xs[i]) := by
  obtain ⟨ad, e, hc⟩ := h.2.2 (by have := h.1; omega)
  obtain ⟨c, hs, hr, hcell⟩ := hc i _ (List.getElem?_eq_getElem hi)
  obtain rfl : c = [.string xs[i]] := hr
  have := hcell 0 _ rfl
  simp only [Nat.add_zero] at this
  rw [show (Kd.string).sz = 1 from rfl, Nat.mul_one] at this
  exact ⟨ad, e, this⟩
theorem nameOf_at (nm : List ByteArray) (i : Nat) (h : i < nm.length) : nameOf nm (i : Int) = nm[i] := by simp [nameOf, List.getD, h]
def TtRel (w : World) (nm : List ByteArray) (rs : List SR) (hd : ByteArray) (kids : F) (len : Nat) (kq : Nat) (v5 v : Value) (w' : World) : Prop := ∃ (i : Nat) (s : ByteArray), i + kq = len ∧ v = .int .i64 (i : Int) ∧ v5 = .string s ∧ Below w.heap.size w w' ∧ s ++ (kids.drop i).txt nm rs = hd ++ kids.txt nm rs
end Go.Proofs.YtjhemobplcelbaaGreatDoor.T
namespace Go.Proofs.YtjhemobplcelbaaGreatDoor.T
open Go.RowKit Go.Proofs.YtjhemobplcelbaaGreatDoorW.PrintWords Go.Proofs.YtjhemobplcelbaaGreatDoorW.PrintLast Go.Proofs.YtjhemobplcelbaaGreatDoorW.PrintMore
open Go.Proofs.YtjhemobplcelbaaGreatDoor.U (SR kSR rule_at int_at)
open Go.Proofs.YtjhemobplcelbaaGreatDoor.O (Bx)
set_option linter.unusedVariables false
set_option linter.unusedSimpArgs false
/-- What Text answers of one tree that fits. -/
def RTxtC (B : World) (t : Nat) (n sq ex : Int) (A4 A5 A6 A7 : Option Addr) (nm : List ByteArray) (c4 n5 c5 n6 c6 c7 : Nat) (rs : List SR) (r k : Int) (kids : F) : Prop := chkT t rs r k kids = true → (F.cons r k kids .nil).nodes ≤ 1000 → ∀ (X : Nat), IsF B [X] (.cons r k kids .nil) → ∀ (w : World), Below B.heap.size B w →
  Calls Tryz.prog 20 #[.agg #[.int .i64 (t : Int), .int .i64 n, .int .i64 sq, .int .i64 ex, .slice A4 nm.length c4, .slice A5 n5 c5, .slice A6 n6 c6, .slice A7 rs.length c7], .pointer (some ⟨X, 0, none⟩)] w fun e w' => e = .returned (.string (txtT nm rs r k kids)) ∧ Below w.heap.size w w'
set_option maxRecDepth 100000 in
set_option maxHeartbeats 8000000 in
theorem rtext_node (B : World) (t : Nat) (n sq ex : Int) (A4 A5 A6 A7 : Option Addr) (nm : List ByteArray) (c4 n5 c5 n6 c6 c7 : Nat) (rs : List SR) (hrs : Kd.C kSR B A7 rs.length rs) (hnm : Kd.C Kd.string B A4 nm.length nm) (htn : t ≤ nm.length) (hlf : ∀ r : Int, 1 ≤ r → r < rs.length → 0 ≤ (ruOf rs r).f0 ∧ (ruOf rs r).f0 < nm.length) (hsz : ∀ s ∈ nm, s.size ≤ 15) (r k : Int) (kids : F) (ih : AllF (RTxtC B t n sq ex A4 A5 A6 A7 nm c4 n5 c5 n6 c6 c7 rs) kids) : RTxtC B t n sq ex A4 A5 A6 A7 nm c4 n5 c5 n6 c6 c7 rs r k kids := by
  intro hck hnd X hX w hb
  obtain ⟨⟨A, c, qs, hx, hq, hqc, hk⟩, _⟩ := hX
  have HIH := Aside0.mk ih
  have HCK := Aside0.mk hck
  have HND := Aside0.mk hnd
  have HK := Aside0.mk hk
  have HLEN := Aside0.mk hk.length
  have HQ := Aside0.mk (And.intro hq hqc)
  have HRS := Aside0.mk hrs
  have HNM := Aside0.mk hnm
  have HTN := Aside0.mk htn
  have HLF := Aside0.mk hlf
  have HSZ := Aside0.mk hsz
  have HNX := Aside0.mk (Node3.mk (W := B) hx)
  have hbA := below_alloc (Below.refl w.heap.size w) (.cells #[.int .i64 (t : Int), .int .i64 n, .int .i64 sq, .int .i64 ex, .slice A4 nm.length c4, .slice A5 n5 c5, .slice A6 n6 c6, .slice A7 rs.length c7] 32)
  have hxS := Bx.new w #[.int .i64 (t : Int), .int .i64 n, .int .i64 sq, .int .i64 ex, .slice A4 nm.length c4, .slice A5 n5 c5, .slice A6 n6 c6, .slice A7 rs.length c7] 32
  have HB := Aside0.mk hb
  clear ih hk hq hqc hx hrs hb hck hnd hnm htn hlf hsz
  go_enter Tryz.func20, Tryz.ntmps20
  go_upto_region 1 with fail
  obtain ⟨Y, hY⟩ : ∃ Y, Y = w.heap.size := ⟨_, rfl⟩
  rw [← hY] at hxS
  rw [← hY]
  generalize hWe : w.alloc (.cells #[.int .i64 (t : Int), .int .i64 n, .int .i64 sq, .int .i64 ex, .slice A4 nm.length c4, .slice A5 n5 c5, .slice A6 n6 c6, .slice A7 rs.length c7] 32) = W1 at *
  have HS := Aside0.mk hxS
  have H1 := Aside0.mk (And.intro hbA (HB.out.trans (hbA.mono HB.out.size)))
  have HX1 := Aside0.mk (HNX.out.move H1.out.2 HNX.out.lt)
  clear hxS hbA hWe hY
  have x0 := HX1.out.c0
  by_cases hr : r = -1
  · subst hr
    obtain ⟨g1, g2⟩ := chk_leaf HCK.out
    obtain ⟨kn, rfl⟩ : ∃ kn : Nat, k = (kn : Int) := ⟨k.toNat, by omega⟩
    have hkn : kn < nm.length := by have := HTN.out; omega
    obtain ⟨an, rfl, hc⟩ := str_at HNM.out kn hkn
    have HTX : Aside0 (txtT nm rs (-1) (kn : Int) kids = nm[kn]) := ⟨by unfold txtT; rw [if_pos (by decide), nameOf_at nm kn hkn]⟩
    have hc2 := pw_cell_below H1.out.2 hc
    have x1 := HX1.out.c1
    have s4 := HS.out.c 4 rfl
    have hin : (kn : Int) < (nm.length : Int) := by omega
    generalize nm[kn] = nv at *
    clear hc g1 g2
    go_upto_region 2 with fail
    go_quiet (fail)
    go_wp2_with fail
    go_ret
    rw [HTX.out]
    exact ⟨rfl, H1.out.1.trans ((O.drawn_below ⟨nq, rfl⟩).mono H1.out.1.size)⟩
  · obtain ⟨g1, g2⟩ := chk_range HCK.out hr
    have HKC := Aside0.mk (chk_kids HCK.out hr)
    have hn0 : ¬ r < 0 := by omega
    have t1 : decide (r = -1) = false := decide_eq_false hr
    have t1' : (r == -1) = false := beq_eq_false_iff_ne.2 hr
    have HLR := Aside0.mk (HLF.out r g1 g2)
    obtain ⟨rn, rfl⟩ : ∃ rn : Nat, r = (rn : Int) := ⟨r.toNat, by omega⟩
    have hrn : rn < rs.length := by omega
    obtain ⟨ad, A1, c1, e1, r0, r1, _, _, hl1, hrr⟩ := rule_at HRS.out rn hrn
    have HTX : Aside0 (txtT nm rs (rn : Int) k kids = ⟨#[40]⟩ ++ nameOf nm (ruOf rs (rn : Int)).f0 ++ kids.txt nm rs ++ ⟨#[41]⟩) := ⟨by unfold txtT; rw [if_neg hn0]⟩
    rw [ruOf_at rs rn hrn] at HLR HTX HKC
    generalize rs[rn] = ru at *
    obtain ⟨rl, rt, rv, ra⟩ := ru
    simp only at r0 r1 hl1 hrr HLR HTX HKC
    subst e1
    obtain ⟨rl, rfl⟩ : ∃ l : Nat, rl = (l : Int) := ⟨rl.toNat, by have := HLR.out; omega⟩
    have hrl : rl < nm.length := by have := HLR.out; omega
    obtain ⟨an, rfl, hc⟩ := str_at HNM.out rl hrl
    rw [nameOf_at nm rl hrl] at HTX
    have HZ : Aside0 (nm[rl].size ≤ 15) := ⟨HSZ.out _ (List.getElem_mem hrl)⟩
    generalize nm[rl] = nv at *
    have hadd : ∀ w : World, (Op.stringOp .add ⟨#[40]⟩ nv).run Tryz.prog w = .ok (.string (⟨#[40]⟩ ++ nv)) w := fun w => run_string_add_sum w _ _ (by have := HZ.out; have e1 : (⟨#[40]⟩ : ByteArray).size = 1 := rfl; omega)
    have hc2 := pw_cell_below H1.out.2 hc
    have r0' := pw_cell_below H1.out.2 r0
    have s4 := HS.out.c 4 rfl
    have s7 := HS.out.c 7 rfl
    have hin : (rn : Int) < (rs.length : Int) := by omega
    have hin2 : (rl : Int) < (nm.length : Int) := by omega
    clear hc r0 r1 hl1 hrr hr g1 g2 hn0
    go_upto_region 3 with fail
    go_quiet (fail)
    have hbd : Below W1.heap.size W1 (W1.drewN nq) := O.drawn_below ⟨nq, rfl⟩
    have HX3 := Aside0.mk (HX1.out.move hbd HX1.out.lt)
    have HBD := Aside0.mk hbd
    generalize W1.drewN nq = W3 at *
    clear x0 s7 s4 r0' hc2 hbd t1 t1' hadd hin hin2
    have x2 := HX3.out.c2
    obtain ⟨hd, hhd⟩ : ∃ hd : ByteArray, hd = ⟨#[40]⟩ ++ nv := ⟨_, rfl⟩
    have HHS : Aside0 (hd.size ≤ 16) := ⟨by rw [hhd, ByteArray.size_append]; have := HZ.out; have e1 : (⟨#[40]⟩ : ByteArray).size = 1 := rfl; omega⟩
    rw [← hhd] at HTX ⊢
    clear hhd HZ
    have HTS : Aside0 ((kids.txt nm rs).size ≤ 18000) := ⟨by have h1 := txt_size HSZ.out kids (rs := rs); have h2 := HND.out; simp only [F.nodes] at h2; omega⟩
    go_wp2_with fail
    go_loopg [5, 6] qs.length (fun kq v5 v6 w' => TtRel W1 nm rs hd kids qs.length kq v5 v6 w')
    case atStart => exact ⟨0, hd, by omega, rfl, rfl, HBD.out, rfl⟩
    case round =>
      obtain ⟨i, s, hi, rfl, rfl, hb, hsq⟩ := hrel
      have HI := Aside0.mk hi
      have HR2 := Aside0.mk (And.intro hb hsq)
      have HBr := Aside0.mk (H1.out.2.trans (hb.mono H1.out.2.size))
      have HSr := Aside0.mk (HS.out.move hb HS.out.lt)
      have HSS : Aside0 (s.size ≤ 18016) := ⟨by have h1 := congrArg ByteArray.size hsq; simp only [ByteArray.size_append] at h1; have := HTS.out; have := HHS.out; omega⟩
      have HXr := Aside0.mk (HX1.out.move hb HX1.out.lt)
      clear hi hb hsq x2
      have x2 := HXr.out.c2
      by_cases hil : i < qs.length
      · have t1 : decide ((i : Int) < (qs.length : Int)) = true := by simp; omega
        obtain ⟨r', k', ks, e1, e2⟩ := HK.out.at_ kids qs i hil
        obtain ⟨ad2, rfl, hc⟩ := row_at HQ.out.1 i hil
        have hc2 := pw_cell_below HBr.out hc
        have hnk : (F.cons r' k' ks .nil).nodes ≤ 1000 := by
          have h1 := drop_nodes kids i
          rw [e1] at h1
          have h2 := HND.out
          simp only [F.nodes] at h1 h2 ⊢
          omega
        have CT : Aside0 (∀ w', Below wr.heap.size wr w' → Calls Tryz.prog 20 #[.agg #[.int .i64 (t : Int), .int .i64 n, .int .i64 sq, .int .i64 ex, .slice (some an) nm.length c4, .slice A5 n5 c5, .slice A6 n6 c6, .slice (some ad) rs.length c7], .pointer (some ⟨qs[i], 0, none⟩)] w' fun e w'' => e = .returned (.string (txtT nm rs r' k' ks)) ∧ Below w'.heap.size w' w'') := ⟨fun w' hb => HIH.out.at_ kids i e1 (chk_at kids rt i HKC.out e1) hnk qs[i] e2 w' (HBr.out.trans (hb.mono HBr.out.size))⟩
        have HSO : Aside0 ((kids.drop i).txt nm rs = ⟨#[32]⟩ ++ txtT nm rs r' k' ks ++ (kids.drop (i + 1)).txt nm rs) := ⟨by rw [e1, txt_one]⟩
        have HZ : Aside0 ((txtT nm rs r' k' ks).size ≤ 18000) := ⟨by have := txtT_size HSZ.out r' k' ks (rs := rs); omega⟩
        generalize txtT nm rs r' k' ks = tx at *
        have hin2 : (i : Int) < (qs.length : Int) := by omega
        have hql : qs.length ≤ 9223372036854775807 := HQ.out.1.2.1
        have hadd1 : ∀ w : World, (Op.stringOp .add ⟨#[32]⟩ tx).run Tryz.prog w = .ok (.string (⟨#[32]⟩ ++ tx)) w := fun w => run_string_add_sum w _ _ (by have := HZ.out; have e1 : (⟨#[32]⟩ : ByteArray).size = 1 := rfl; omega)
        have hadd2 : ∀ w : World, (Op.stringOp .add s (⟨#[32]⟩ ++ tx)).run Tryz.prog w = .ok (.string (s ++ (⟨#[32]⟩ ++ tx))) w := fun w => run_string_add_sum w _ _ (by rw [ByteArray.size_append]; have := HZ.out; have := HSS.out; have e1 : (⟨#[32]⟩ : ByteArray).size = 1 := rfl; omega)
        have HC2 := Aside0.mk hc
        clear e1 e2 hc hnk
        clear hc2
        go_upto_region 7 with fail
        have hS0 : Below wr.heap.size wr wr.drew := below_drew1 (Below.refl _ _)
        have stepS := Aside0.mk (fun (w' : World) (hS' : Below wr.heap.size wr w') => (⟨(HSr.out.move hS' HSr.out.lt).c 0 rfl, (HSr.out.move hS' HSr.out.lt).c 1 rfl, (HSr.out.move hS' HSr.out.lt).c 2 rfl, (HSr.out.move hS' HSr.out.lt).c 3 rfl, (HSr.out.move hS' HSr.out.lt).c 4 rfl, (HSr.out.move hS' HSr.out.lt).c 5 rfl, (HSr.out.move hS' HSr.out.lt).c 6 rfl, (HSr.out.move hS' HSr.out.lt).c 7 rfl⟩ : _ ∧ _ ∧ _ ∧ _ ∧ _ ∧ _ ∧ _ ∧ _))
        have stepZ := Aside0.mk (fun (w' : World) (hS' : Below wr.heap.size wr w') => (HXr.out.move hS' HXr.out.lt).c2)
        have stepC := Aside0.mk (fun (w' : World) (hS' : Below wr.heap.size wr w') => pw_cell_below (HBr.out.trans (hS'.mono HBr.out.size)) HC2.out)
        clear x2
        refine h_begin (fun w' => Below wr.heap.size wr w') (by kernel_rfl) ?_
        refine h_take (i := 0) (v := ?_) rfl (by kernel_rfl) (by kernel_rfl) (by kernel_rfl) (fun _ _ _ h => h) (Or.inl ⟨by rfl, ?_⟩) hS0 ?_
        rotate_left
        · intro w' hS'
          go_simp
          (try with_reducible rfl)
        simp only [Act.put, List.setIfInBounds_toArray, List.set_cons_zero, List.set_cons_succ]
        refine h_take (i := 1) (v := ?_) rfl (by kernel_rfl) (by kernel_rfl) (by kernel_rfl) (fun _ _ _ h => h) (Or.inl ⟨by rfl, ?_⟩) hS0 ?_
        rotate_left
        · intro w' hS'
          obtain ⟨s0, s1, s2, s3, s4, s5, s6, s7⟩ := stepS.out w' hS'
          go_simp
          (try with_reducible rfl)
        simp only [Act.put, List.setIfInBounds_toArray, List.set_cons_zero, List.set_cons_succ]
        refine h_take (i := 2) (v := ?_) rfl (by kernel_rfl) (by kernel_rfl) (by kernel_rfl) (fun _ _ _ h => h) (Or.inl ⟨by rfl, ?_⟩) hS0 ?_
        rotate_left
        · intro w' hS'
          go_simp
          (try with_reducible rfl)
        simp only [Act.put, List.setIfInBounds_toArray, List.set_cons_zero, List.set_cons_succ]
        refine h_take (i := 3) (v := ?_) rfl (by kernel_rfl) (by kernel_rfl) (by kernel_rfl) (fun _ _ _ h => h) (Or.inl ⟨by rfl, ?_⟩) hS0 ?_
        rotate_left
        · intro w' hS'
          go_simp
          (try with_reducible rfl)
        simp only [Act.put, List.setIfInBounds_toArray, List.set_cons_zero, List.set_cons_succ]
        refine h_take (i := 4) (v := ?_) rfl (by kernel_rfl) (by kernel_rfl) (by kernel_rfl) (fun _ _ _ h => h) (Or.inl ⟨by rfl, ?_⟩) hS0 ?_
        rotate_left
        · intro w' hS'
          go_simp
          (try with_reducible rfl)
        simp only [Act.put, List.setIfInBounds_toArray, List.set_cons_zero, List.set_cons_succ]
        refine h_take (i := 5) (v := ?_) rfl (by kernel_rfl) (by kernel_rfl) (by kernel_rfl) (fun _ _ _ h => h) (Or.inl ⟨by rfl, ?_⟩) hS0 ?_
        rotate_left
        · intro w' hS'
          have x2 := stepZ.out w' hS'
          go_simp
          (try with_reducible rfl)
        simp only [Act.put, List.setIfInBounds_toArray, List.set_cons_zero, List.set_cons_succ]
        refine h_take (i := 6) (v := ?_) rfl (by kernel_rfl) (by kernel_rfl) (by kernel_rfl) (fun _ _ _ h => h) (Or.inl ⟨by rfl, ?_⟩) hS0 ?_
        rotate_left
        · intro w' hS'
          go_simp
          (try with_reducible rfl)
        simp only [Act.put, List.setIfInBounds_toArray, List.set_cons_zero, List.set_cons_succ]
        refine h_take (i := 7) (v := ?_) rfl (by kernel_rfl) (by kernel_rfl) (by kernel_rfl) (fun _ _ _ h => h) (Or.inl ⟨by rfl, ?_⟩) hS0 ?_
        rotate_left
        · intro w' hS'
          go_simp
          (try with_reducible rfl)
        simp only [Act.put, List.setIfInBounds_toArray, List.set_cons_zero, List.set_cons_succ]
        refine h_take (i := 8) (v := ?_) rfl (by kernel_rfl) (by kernel_rfl) (by kernel_rfl) (fun _ _ _ h => h) (Or.inl ⟨by rfl, ?_⟩) hS0 ?_
        rotate_left
        · intro w' hS'
          have hc2 := stepC.out w' hS'
          unfold pv at hc2
          go_simp
          (try with_reducible rfl)
        simp only [Act.put, List.setIfInBounds_toArray, List.set_cons_zero, List.set_cons_succ]
        refine h_one (i := 9) (by kernel_rfl) rfl (fun K hK => ?_)
        go_simp
        (with_reducible refine Calls.mono (CT.out _ hS0) ?_)
        rintro e w3 ⟨rfl, hb3⟩
        have hS1 : Below wr.heap.size wr w3 := hS0.trans (hb3.mono hS0.size)
        go_wp2_with fail
        refine hK.out _ _ hS1 ?_
        clear hK K hb3
        refine h_take (i := 10) (v := ?_) rfl (by kernel_rfl) (by kernel_rfl) (by kernel_rfl) (fun _ _ _ h => h) (Or.inl ⟨by rfl, ?_⟩) hS1 ?_
        rotate_left
        · intro w' hS'
          go_simp
          (try with_reducible rfl)
        simp only [Act.put, List.setIfInBounds_toArray, List.set_cons_zero, List.set_cons_succ]
        refine h_take (i := 11) (v := ?_) rfl (by kernel_rfl) (by kernel_rfl) (by kernel_rfl) (fun _ _ _ h => h) (Or.inl ⟨by rfl, ?_⟩) hS1 ?_
        rotate_left
        · intro w' hS'
          go_simp
          (try with_reducible rfl)
        simp only [Act.put, List.setIfInBounds_toArray, List.set_cons_zero, List.set_cons_succ]
        refine h_take (i := 12) (v := ?_) rfl (by kernel_rfl) (by kernel_rfl) (by kernel_rfl) (fun _ _ _ h => h) (Or.inl ⟨by rfl, ?_⟩) hS1 ?_
        rotate_left
        · intro w' hS'
          go_simp
          (try with_reducible rfl)
        simp only [Act.put, List.setIfInBounds_toArray, List.set_cons_zero, List.set_cons_succ]
        refine h_done (by kernel_rfl) ?_
        have H3 := Aside0.mk (HR2.out.1.trans (hS1.mono HR2.out.1.size))
        clear stepS stepZ stepC hS0 hS1
        go_wp2_with fail
        go_roundg (gk - 1)
        case measure => have := HI.out; omega
        case rel => exact ⟨i + 1, s ++ (⟨#[32]⟩ ++ tx), by have := HI.out; omega, by go_num, rfl, H3.out, by rw [← HR2.out.2, HSO.out]; simp only [ByteArray.append_assoc]⟩
      · have t1 : decide ((i : Int) < (qs.length : Int)) = false := by simp; omega
        have HF : Aside0 (s = hd ++ kids.txt nm rs) := ⟨by
          have h1 := HK.out.len kids qs
          have h2 := HI.out
          have h3 := HR2.out.2
          rw [show i = qs.length by omega, h1] at h3
          rw [← h3]
          exact (ByteArray.append_empty).symm⟩
        have hadd : ∀ w : World, (Op.stringOp .add s ⟨#[41]⟩).run Tryz.prog w = .ok (.string (s ++ ⟨#[41]⟩)) w := fun w => run_string_add_sum w _ _ (by have := HSS.out; have e1 : (⟨#[41]⟩ : ByteArray).size = 1 := rfl; omega)
        go_wp2_with fail
        go_ret
        rw [HTX.out, ← HF.out]
        exact ⟨rfl, H1.out.1.trans (HR2.out.1.mono H1.out.1.size)⟩
theorem rtext_calls (B : World) (t : Nat) (n sq ex : Int) (A4 A5 A6 A7 : Option Addr) (nm : List ByteArray) (c4 n5 c5 n6 c6 c7 : Nat) (rs : List SR) (hrs : Kd.C kSR B A7 rs.length rs) (hnm : Kd.C Kd.string B A4 nm.length nm) (htn : t ≤ nm.length) (hlf : ∀ r : Int, 1 ≤ r → r < rs.length → 0 ≤ (ruOf rs r).f0 ∧ (ruOf rs r).f0 < nm.length) (hsz : ∀ s ∈ nm, s.size ≤ 15) (f : F) : AllF (RTxtC B t n sq ex A4 A5 A6 A7 nm c4 n5 c5 n6 c6 c7 rs) f := AllF.of (rtext_node B t n sq ex A4 A5 A6 A7 nm c4 n5 c5 n6 c6 c7 rs hrs hnm htn hlf hsz) f
end Go.Proofs.YtjhemobplcelbaaGreatDoor.T
namespace Go.Proofs.YtjhemobplcelbaaGreatDoor.T
open Go.RowKit Go.Proofs.YtjhemobplcelbaaGreatDoorW.PrintWords Go.Proofs.YtjhemobplcelbaaGreatDoorW.PrintLast Go.Proofs.YtjhemobplcelbaaGreatDoorW.PrintMore
open Go.Proofs.YtjhemobplcelbaaGreatDoor.U (SR kSR rule_at int_at)
open Go.Proofs.YtjhemobplcelbaaGreatDoor.O (Bx)
set_option linter.unusedVariables false
set_option linter.unusedSimpArgs false
/-- What text answers of one tree that fits. -/
def TxtC (B : World) (t : Nat) (n sq ex : Int) (A4 A5 A6 A7 : Option Addr) (nm : List ByteArray) (c4 n5 c5 n6 c6 c7 : Nat) (rs : List SR) (r k : Int) (kids : F) : Prop := chkT t rs r k kids = true → (F.cons r k kids .nil).nodes ≤ 1000 → ∀ (X : Nat), IsF B [X] (.cons r k kids .nil) → ∀ (w : World), Below B.heap.size B w →
  Calls Tryz.prog 54 #[.agg #[.int .i64 (t : Int), .int .i64 n, .int .i64 sq, .int .i64 ex, .slice A4 nm.length c4, .slice A5 n5 c5, .slice A6 n6 c6, .slice A7 rs.length c7], .pointer (some ⟨X, 0, none⟩)] w fun e w' => e = .returned (.string (txtT nm rs r k kids)) ∧ Below w.heap.size w w'
set_option maxRecDepth 100000 in
set_option maxHeartbeats 8000000 in
theorem text_node (B : World) (t : Nat) (n sq ex : Int) (A4 A5 A6 A7 : Option Addr) (nm : List ByteArray) (c4 n5 c5 n6 c6 c7 : Nat) (rs : List SR) (hrs : Kd.C kSR B A7 rs.length rs) (hnm : Kd.C Kd.string B A4 nm.length nm) (htn : t ≤ nm.length) (hlf : ∀ r : Int, 1 ≤ r → r < rs.length → 0 ≤ (ruOf rs r).f0 ∧ (ruOf rs r).f0 < nm.length) (hsz : ∀ s ∈ nm, s.size ≤ 15) (r k : Int) (kids : F) (ih : AllF (TxtC B t n sq ex A4 A5 A6 A7 nm c4 n5 c5 n6 c6 c7 rs) kids) : TxtC B t n sq ex A4 A5 A6 A7 nm c4 n5 c5 n6 c6 c7 rs r k kids := by
  intro hck hnd X hX w hb
  obtain ⟨⟨A, c, qs, hx, hq, hqc, hk⟩, _⟩ := hX
  have HIH := Aside0.mk ih
  have HCK := Aside0.mk hck
  have HND := Aside0.mk hnd
  have HK := Aside0.mk hk
  have HLEN := Aside0.mk hk.length
  have HQ := Aside0.mk (And.intro hq hqc)
  have HRS := Aside0.mk hrs
  have HNM := Aside0.mk hnm
  have HTN := Aside0.mk htn
  have HLF := Aside0.mk hlf
  have HSZ := Aside0.mk hsz
  have HNX := Aside0.mk (Node3.mk (W := B) hx)
  have hbA := below_alloc (Below.refl w.heap.size w) (.cells #[.int .i64 (t : Int), .int .i64 n, .int .i64 sq, .int .i64 ex, .slice A4 nm.length c4, .slice A5 n5 c5, .slice A6 n6 c6, .slice A7 rs.length c7] 32)
  have hxS := Bx.new w #[.int .i64 (t : Int), .int .i64 n, .int .i64 sq, .int .i64 ex, .slice A4 nm.length c4, .slice A5 n5 c5, .slice A6 n6 c6, .slice A7 rs.length c7] 32
  have HB := Aside0.mk hb
  clear ih hk hq hqc hx hrs hb hck hnd hnm htn hlf hsz
  go_enter Tryz.func54, Tryz.ntmps54
  go_upto_region 1 with fail
  obtain ⟨Y, hY⟩ : ∃ Y, Y = w.heap.size := ⟨_, rfl⟩
  rw [← hY] at hxS
  rw [← hY]
  generalize hWe : w.alloc (.cells #[.int .i64 (t : Int), .int .i64 n, .int .i64 sq, .int .i64 ex, .slice A4 nm.length c4, .slice A5 n5 c5, .slice A6 n6 c6, .slice A7 rs.length c7] 32) = W1 at *
  have HS := Aside0.mk hxS
  have H1 := Aside0.mk (And.intro hbA (HB.out.trans (hbA.mono HB.out.size)))
  have HX1 := Aside0.mk (HNX.out.move H1.out.2 HNX.out.lt)
  clear hxS hbA hWe hY
  have x0 := HX1.out.c0
  by_cases hr : r = -1
  · subst hr
    obtain ⟨g1, g2⟩ := chk_leaf HCK.out
    obtain ⟨kn, rfl⟩ : ∃ kn : Nat, k = (kn : Int) := ⟨k.toNat, by omega⟩
    have hkn : kn < nm.length := by have := HTN.out; omega
    obtain ⟨an, rfl, hc⟩ := str_at HNM.out kn hkn
    have HTX : Aside0 (txtT nm rs (-1) (kn : Int) kids = nm[kn]) := ⟨by unfold txtT; rw [if_pos (by decide), nameOf_at nm kn hkn]⟩
    have hc2 := pw_cell_below H1.out.2 hc
    have x1 := HX1.out.c1
    have s4 := HS.out.c 4 rfl
    have hin : (kn : Int) < (nm.length : Int) := by omega
    generalize nm[kn] = nv at *
    clear hc g1 g2
    go_upto_region 2 with fail
    go_quiet (fail)
    go_wp2_with fail
    go_ret
    rw [HTX.out]
    exact ⟨rfl, H1.out.1.trans ((O.drawn_below ⟨nq, rfl⟩).mono H1.out.1.size)⟩
  · obtain ⟨g1, g2⟩ := chk_range HCK.out hr
    have HKC := Aside0.mk (chk_kids HCK.out hr)
    have hn0 : ¬ r < 0 := by omega
    have t1 : decide (r < 0) = false := decide_eq_false hn0
    have HLR := Aside0.mk (HLF.out r g1 g2)
    obtain ⟨rn, rfl⟩ : ∃ rn : Nat, r = (rn : Int) := ⟨r.toNat, by omega⟩
    have hrn : rn < rs.length := by omega
    obtain ⟨ad, A1, c1, e1, r0, r1, _, _, hl1, hrr⟩ := rule_at HRS.out rn hrn
    have HTX : Aside0 (txtT nm rs (rn : Int) k kids = ⟨#[40]⟩ ++ nameOf nm (ruOf rs (rn : Int)).f0 ++ kids.txt nm rs ++ ⟨#[41]⟩) := ⟨by unfold txtT; rw [if_neg hn0]⟩
    rw [ruOf_at rs rn hrn] at HLR HTX HKC
    generalize rs[rn] = ru at *
    obtain ⟨rl, rt, rv, ra⟩ := ru
    simp only at r0 r1 hl1 hrr HLR HTX HKC
    subst e1
    obtain ⟨rl, rfl⟩ : ∃ l : Nat, rl = (l : Int) := ⟨rl.toNat, by have := HLR.out; omega⟩
    have hrl : rl < nm.length := by have := HLR.out; omega
    obtain ⟨an, rfl, hc⟩ := str_at HNM.out rl hrl
    rw [nameOf_at nm rl hrl] at HTX
    have HZ : Aside0 (nm[rl].size ≤ 15) := ⟨HSZ.out _ (List.getElem_mem hrl)⟩
    generalize nm[rl] = nv at *
    have hadd : ∀ w : World, (Op.stringOp .add ⟨#[40]⟩ nv).run Tryz.prog w = .ok (.string (⟨#[40]⟩ ++ nv)) w := fun w => run_string_add_sum w _ _ (by have := HZ.out; have e1 : (⟨#[40]⟩ : ByteArray).size = 1 := rfl; omega)
    have hc2 := pw_cell_below H1.out.2 hc
    have r0' := pw_cell_below H1.out.2 r0
    have s4 := HS.out.c 4 rfl
    have s7 := HS.out.c 7 rfl
    have hin : (rn : Int) < (rs.length : Int) := by omega
    have hin2 : (rl : Int) < (nm.length : Int) := by omega
    clear hc r0 r1 hl1 hrr hr g1 g2 hn0
    go_upto_region 3 with fail
    go_quiet (fail)
    have hbd : Below W1.heap.size W1 (W1.drewN nq) := O.drawn_below ⟨nq, rfl⟩
    have HX3 := Aside0.mk (HX1.out.move hbd HX1.out.lt)
    have HBD := Aside0.mk hbd
    generalize W1.drewN nq = W3 at *
    clear x0 s7 s4 r0' hc2 hbd t1 hadd hin hin2
    have x2 := HX3.out.c2
    obtain ⟨hd, hhd⟩ : ∃ hd : ByteArray, hd = ⟨#[40]⟩ ++ nv := ⟨_, rfl⟩
    have HHS : Aside0 (hd.size ≤ 16) := ⟨by rw [hhd, ByteArray.size_append]; have := HZ.out; have e1 : (⟨#[40]⟩ : ByteArray).size = 1 := rfl; omega⟩
    rw [← hhd] at HTX ⊢
    clear hhd HZ
    have HTS : Aside0 ((kids.txt nm rs).size ≤ 18000) := ⟨by have h1 := txt_size HSZ.out kids (rs := rs); have h2 := HND.out; simp only [F.nodes] at h2; omega⟩
    go_wp2_with fail
    go_loopg [5, 40] qs.length (fun kq v5 v40 w' => TtRel W1 nm rs hd kids qs.length kq v5 v40 w')
    case atStart => exact ⟨0, hd, by omega, rfl, rfl, HBD.out, rfl⟩
    case round =>
      obtain ⟨i, s, hi, rfl, rfl, hb, hsq⟩ := hrel
      have HI := Aside0.mk hi
      have HR2 := Aside0.mk (And.intro hb hsq)
      have HBr := Aside0.mk (H1.out.2.trans (hb.mono H1.out.2.size))
      have HSr := Aside0.mk (HS.out.move hb HS.out.lt)
      have HSS : Aside0 (s.size ≤ 18016) := ⟨by have h1 := congrArg ByteArray.size hsq; simp only [ByteArray.size_append] at h1; have := HTS.out; have := HHS.out; omega⟩
      clear hi hb hsq x2
      by_cases hil : i < qs.length
      · have t1 : decide ((i : Int) < (qs.length : Int)) = true := by simp; omega
        obtain ⟨r', k', ks, e1, e2⟩ := HK.out.at_ kids qs i hil
        obtain ⟨ad2, rfl, hc⟩ := row_at HQ.out.1 i hil
        have hc2 := pw_cell_below HBr.out hc
        have hnk : (F.cons r' k' ks .nil).nodes ≤ 1000 := by
          have h1 := drop_nodes kids i
          rw [e1] at h1
          have h2 := HND.out
          simp only [F.nodes] at h1 h2 ⊢
          omega
        have CT : Aside0 (Calls Tryz.prog 54 #[.agg #[.int .i64 (t : Int), .int .i64 n, .int .i64 sq, .int .i64 ex, .slice (some an) nm.length c4, .slice A5 n5 c5, .slice A6 n6 c6, .slice (some ad) rs.length c7], .pointer (some ⟨qs[i], 0, none⟩)] wr fun e w'' => e = .returned (.string (txtT nm rs r' k' ks)) ∧ Below wr.heap.size wr w'') := ⟨HIH.out.at_ kids i e1 (chk_at kids rt i HKC.out e1) hnk qs[i] e2 wr HBr.out⟩
        have HSO : Aside0 ((kids.drop i).txt nm rs = ⟨#[32]⟩ ++ txtT nm rs r' k' ks ++ (kids.drop (i + 1)).txt nm rs) := ⟨by rw [e1, txt_one]⟩
        have HZ : Aside0 ((txtT nm rs r' k' ks).size ≤ 18000) := ⟨by have := txtT_size HSZ.out r' k' ks (rs := rs); omega⟩
        generalize txtT nm rs r' k' ks = tx at *
        have hin2 : (i : Int) < (qs.length : Int) := by omega
        have hql : qs.length ≤ 9223372036854775807 := HQ.out.1.2.1
        have hadd1 : ∀ w : World, (Op.stringOp .add ⟨#[32]⟩ tx).run Tryz.prog w = .ok (.string (⟨#[32]⟩ ++ tx)) w := fun w => run_string_add_sum w _ _ (by have := HZ.out; have e1 : (⟨#[32]⟩ : ByteArray).size = 1 := rfl; omega)
        have hadd2 : ∀ w : World, (Op.stringOp .add s (⟨#[32]⟩ ++ tx)).run Tryz.prog w = .ok (.string (s ++ (⟨#[32]⟩ ++ tx))) w := fun w => run_string_add_sum w _ _ (by rw [ByteArray.size_append]; have := HZ.out; have := HSS.out; have e1 : (⟨#[32]⟩ : ByteArray).size = 1 := rfl; omega)
        clear e1 e2 hc hnk
        unfold pv at hc2
        have s0 := HSr.out.c 0 rfl
        have s1 := HSr.out.c 1 rfl
        have s2 := HSr.out.c 2 rfl
        have s3 := HSr.out.c 3 rfl
        have s4 := HSr.out.c 4 rfl
        have s5 := HSr.out.c 5 rfl
        have s6 := HSr.out.c 6 rfl
        have s7 := HSr.out.c 7 rfl
        go_wp2_with fail
        go_at_call 54
        refine CT.out.mono ?_
        rintro e w3 ⟨rfl, hb3⟩
        have H3 := Aside0.mk (HR2.out.1.trans (hb3.mono HR2.out.1.size))
        clear hb3 s0 s1 s2 s3 s4 s5 s6 s7 hc2
        go_wp2_with fail
        go_roundg (gk - 1)
        case measure => have := HI.out; omega
        case rel => exact ⟨i + 1, s ++ (⟨#[32]⟩ ++ tx), by have := HI.out; omega, by go_num, rfl, H3.out, by rw [← HR2.out.2, HSO.out]; simp only [ByteArray.append_assoc]⟩
      · have t1 : decide ((i : Int) < (qs.length : Int)) = false := by simp; omega
        have HF : Aside0 (s = hd ++ kids.txt nm rs) := ⟨by
          have h1 := HK.out.len kids qs
          have h2 := HI.out
          have h3 := HR2.out.2
          rw [show i = qs.length by omega, h1] at h3
          rw [← h3]
          exact (ByteArray.append_empty).symm⟩
        have hadd : ∀ w : World, (Op.stringOp .add s ⟨#[41]⟩).run Tryz.prog w = .ok (.string (s ++ ⟨#[41]⟩)) w := fun w => run_string_add_sum w _ _ (by have := HSS.out; have e1 : (⟨#[41]⟩ : ByteArray).size = 1 := rfl; omega)
        go_wp2_with fail
        go_ret
        rw [HTX.out, ← HF.out]
        exact ⟨rfl, H1.out.1.trans (HR2.out.1.mono H1.out.1.size)⟩
theorem text_calls (B : World) (t : Nat) (n sq ex : Int) (A4 A5 A6 A7 : Option Addr) (nm : List ByteArray) (c4 n5 c5 n6 c6 c7 : Nat) (rs : List SR) (hrs : Kd.C kSR B A7 rs.length rs) (hnm : Kd.C Kd.string B A4 nm.length nm) (htn : t ≤ nm.length) (hlf : ∀ r : Int, 1 ≤ r → r < rs.length → 0 ≤ (ruOf rs r).f0 ∧ (ruOf rs r).f0 < nm.length) (hsz : ∀ s ∈ nm, s.size ≤ 15) (f : F) : AllF (TxtC B t n sq ex A4 A5 A6 A7 nm c4 n5 c5 n6 c6 c7 rs) f := AllF.of (text_node B t n sq ex A4 A5 A6 A7 nm c4 n5 c5 n6 c6 c7 rs hrs hnm htn hlf hsz) f
end Go.Proofs.YtjhemobplcelbaaGreatDoor.T
namespace Go.Proofs.YtjhemobplcelbaaGreatDoor.T
open Go.RowKit Go.Proofs.YtjhemobplcelbaaGreatDoorW.PrintWords Go.Proofs.YtjhemobplcelbaaGreatDoorW.PrintLast Go.Proofs.YtjhemobplcelbaaGreatDoorW.PrintMore
open Go.Proofs.YtjhemobplcelbaaGreatDoor.U (SR kSR rule_at int_at)
open Go.Proofs.YtjhemobplcelbaaGreatDoor.O (Bx)
set_option linter.unusedVariables false
set_option linter.unusedSimpArgs false
set_option maxRecDepth 100000 in
set_option maxHeartbeats 4000000 in
theorem text_prog (B : World) (t : Nat) (n sq ex : Int) (A4 A5 A6 A7 : Option Addr) (nm : List ByteArray) (c4 n5 c5 n6 c6 c7 : Nat) (rs : List SR) (hrs : Kd.C kSR B A7 rs.length rs) (hnm : Kd.C Kd.string B A4 nm.length nm) (htn : t ≤ nm.length) (hlf : ∀ r : Int, 1 ≤ r → r < rs.length → 0 ≤ (ruOf rs r).f0 ∧ (ruOf rs r).f0 < nm.length) (hsz : ∀ s ∈ nm, s.size ≤ 15)
    (r k : Int) (kids : F) (hn : (F.cons r k kids .nil).nodes ≤ 1000) (hh : (F.cons r k kids .nil).height ≤ 1000) (X : Nat) (hX : IsF B [X] (.cons r k kids .nil)) (w : World) (hb : Below B.heap.size B w) :
    Calls Tryz.prog 22 #[.agg #[.int .i64 (t : Int), .int .i64 n, .int .i64 sq, .int .i64 ex, .slice A4 nm.length c4, .slice A5 n5 c5, .slice A6 n6 c6, .slice A7 rs.length c7], .pointer (some ⟨X, 0, none⟩)] w fun e w' => e = .returned (.string (if chkT t rs r k kids = true then txtT nm rs r k kids else ⟨#[]⟩)) ∧ Below w.heap.size w w' := by
  have HX0 := Aside0.mk hX
  have HB := Aside0.mk hb
  have hbA := below_alloc (Below.refl w.heap.size w) (.cells #[.int .i64 (t : Int), .int .i64 n, .int .i64 sq, .int .i64 ex, .slice A4 nm.length c4, .slice A5 n5 c5, .slice A6 n6 c6, .slice A7 rs.length c7] 32)
  have hxS := Bx.new w #[.int .i64 (t : Int), .int .i64 n, .int .i64 sq, .int .i64 ex, .slice A4 nm.length c4, .slice A5 n5 c5, .slice A6 n6 c6, .slice A7 rs.length c7] 32
  have CK := Aside0.mk (check_prog B t n sq ex A4 A5 A6 A7 nm.length c4 n5 c5 n6 c6 c7 rs hrs r k kids hn hh X hX)
  have CT := Aside0.mk (fun hc => (text_calls B t n sq ex A4 A5 A6 A7 nm c4 n5 c5 n6 c6 c7 rs hrs hnm htn hlf hsz (.cons r k kids .nil)).1 hc (show (F.cons r k kids .nil).nodes ≤ 1000 from hn) X hX)
  rw [fitT_chkT (fun r h1 h2 => (hlf r h1 h2).1)] at CK
  clear hX hrs hb hn hh hnm hlf hsz
  generalize chkT t rs r k kids = ck at *
  generalize txtT nm rs r k kids = tx at *
  go_enter Tryz.func22, Tryz.ntmps22
  go_upto_region 1 with fail
  obtain ⟨Y, hY⟩ : ∃ Y, Y = w.heap.size := ⟨_, rfl⟩
  rw [← hY] at hxS
  rw [← hY]
  generalize hWe : w.alloc (.cells #[.int .i64 (t : Int), .int .i64 n, .int .i64 sq, .int .i64 ex, .slice A4 nm.length c4, .slice A5 n5 c5, .slice A6 n6 c6, .slice A7 rs.length c7] 32) = W1 at *
  have HS := Aside0.mk hxS
  have H1 := Aside0.mk (And.intro hbA (HB.out.trans (hbA.mono HB.out.size)))
  clear hxS hbA hWe hY
  have s0 := HS.out.c 0 rfl
  have s1 := HS.out.c 1 rfl
  have s2 := HS.out.c 2 rfl
  have s3 := HS.out.c 3 rfl
  have s4 := HS.out.c 4 rfl
  have s5 := HS.out.c 5 rfl
  have s6 := HS.out.c 6 rfl
  have s7 := HS.out.c 7 rfl
  go_wp2_with fail
  go_at_call 21
  refine (CK.out W1 H1.out.2).mono ?_
  rintro e W2 ⟨rfl, hb⟩
  have HS2 := Aside0.mk (HS.out.move hb HS.out.lt)
  have H2 := Aside0.mk (And.intro (H1.out.1.trans (hb.mono H1.out.1.size)) (H1.out.2.trans (hb.mono H1.out.2.size)))
  clear hb CK HS H1 s0 s1 s2 s3 s4 s5 s6 s7
  cases ck with
  | false =>
    go_wp2_with fail
    go_ret
    exact ⟨rfl, H2.out.1⟩
  | true =>
    have s0 := HS2.out.c 0 rfl
    have s1 := HS2.out.c 1 rfl
    have s2 := HS2.out.c 2 rfl
    have s3 := HS2.out.c 3 rfl
    have s4 := HS2.out.c 4 rfl
    have s5 := HS2.out.c 5 rfl
    have s6 := HS2.out.c 6 rfl
    have s7 := HS2.out.c 7 rfl
    go_wp2_with fail
    go_at_call 54
    refine (CT.out (by trivial) W2 H2.out.2).mono ?_
    rintro e W3 ⟨rfl, hb⟩
    have H3 := Aside0.mk (H2.out.1.trans (hb.mono H2.out.1.size))
    clear hb CT s0 s1 s2 s3 s4 s5 s6 s7
    go_wp2_with fail
    go_ret
    exact ⟨rfl, H3.out⟩
def EiRel (w : World) (len : Nat) (kq : Nat) (v : Value) (w' : World) : Prop := ∃ i : Nat, i + kq = len ∧ v = .int .i64 (i : Int) ∧ Below w.heap.size w w'
set_option maxRecDepth 100000 in
set_option maxHeartbeats 4000000 in
theorem eqints_calls (w : World) (A A' : Option Addr) (c c' : Nat) (l : List Int) (h : Kd.C (Kd.int .i64) w A l.length l) (h' : Kd.C (Kd.int .i64) w A' l.length l) :
    Calls Tryz.prog 23 #[.slice A l.length c, .slice A' l.length c'] w fun e w' => e = .returned (.bool true) ∧ Below w.heap.size w w' := by
  have H := Aside0.mk (And.intro h h')
  have hql : l.length ≤ 9223372036854775807 := h.2.1
  clear h h'
  go_enter Tryz.func23, Tryz.ntmps23
  have HW := Aside0.mk (Below.refl w.heap.size w)
  go_upto_region 3 with fail
  go_wp2_with fail
  go_loopg [5] l.length (fun kq v5 w' => EiRel w l.length kq v5 w')
  case atStart => exact ⟨0, by omega, rfl, HW.out⟩
  case round =>
    obtain ⟨i, hi, rfl, hb⟩ := hrel
    have HI := Aside0.mk hi
    have HBr := Aside0.mk hb
    clear hi hb
    by_cases hil : i < l.length
    · have t1 : decide ((i : Int) < (l.length : Int)) = true := by simp; omega
      obtain ⟨ad, rfl, hc⟩ := int_at H.out.1 i hil
      obtain ⟨bd, rfl, hc'⟩ := int_at H.out.2 i hil
      have hc2 := pw_cell_below HBr.out hc
      have hc3 := pw_cell_below HBr.out hc'
      have hin : (i : Int) < (l.length : Int) := by omega
      generalize l[i] = x at *
      clear hc hc'
      go_upto_region 6 with fail
      go_quiet (fail)
      have H3 := Aside0.mk (HBr.out.trans ((O.drawn_below ⟨nq, rfl⟩ : Below wr.heap.size wr (wr.drewN nq)).mono HBr.out.size))
      go_wp2_with fail
      go_roundg (gk - 1)
      case measure => have := HI.out; omega
      case rel => exact ⟨i + 1, by have := HI.out; omega, by go_num, H3.out⟩
    · have t1 : decide ((i : Int) < (l.length : Int)) = false := by simp; omega
      go_wp2_with fail
      go_ret
      exact ⟨rfl, HBr.out⟩
end Go.Proofs.YtjhemobplcelbaaGreatDoor.T
