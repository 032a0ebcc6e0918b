/- tree: Eq. -/
import Derived.Test.YtjhemobplcelbaaGreatDoorTreeD
import Derived.LaidEqlPtr
namespace Go.Proofs.YtjhemobplcelbaaGreatDoor.T
open Go.RowKit Go.Proofs.YtjhemobplcelbaaGreatDoorW.PrintWords Go.Proofs.YtjhemobplcelbaaGreatDoorW.PrintLast Go.Proofs.YtjhemobplcelbaaGreatDoorW.PrintMore
set_option linter.unusedVariables false
set_option linter.unusedSimpArgs false
theorem C_inj {w : World} {A : Option Addr} {n : Nat} {ps qs : List Nat} (h : Kd.C kP w A n ps) (h2 : Kd.C kP w A n qs) : ps = qs := by
  refine List.ext_getElem (by rw [h.1, h2.1]) (fun i hi hj => ?_)
  obtain ⟨ad, e, hc⟩ := row_at h i hi
  obtain ⟨ad2, e2, hc2⟩ := row_at h2 i hj
  rw [e] at e2
  cases e2
  rw [hc] at hc2
  injection hc2 with hc2
  unfold pv at hc2
  injection hc2 with hc2
  injection hc2 with hc2
  injection hc2
theorem IsF.inj {w : World} : ∀ (f g : F) (ps : List Nat), IsF w ps f → IsF w ps g → f = g := by
  intro f
  induction f with
  | nil =>
    intro g ps h h2
    cases ps with
    | nil => cases g with
      | nil => rfl
      | cons _ _ _ _ => exact h2.elim
    | cons X ps => exact h.elim
  | cons r k kids rest ih1 ih2 =>
    intro g ps h h2
    cases ps with
    | nil => exact h.elim
    | cons X ps =>
      cases g with
      | nil => exact h2.elim
      | cons r' k' kids' rest' =>
        obtain ⟨⟨A, c, qs, h1, hq, _, hk⟩, hr⟩ := h
        obtain ⟨⟨A', c', qs', h1', hq', _, hk'⟩, hr'⟩ := h2
        rw [h1] at h1'
        simp only [Option.some.injEq, Obj.cells.injEq, Array.mk.injEq, List.cons.injEq, Value.int.injEq, Value.slice.injEq, and_true, true_and] at h1'
        obtain ⟨e1, e2, e3, e4, e5⟩ := h1'
        subst e1
        subst e2
        subst e3
        rw [← e4] at hq'
        obtain rfl := C_inj hq hq'
        rw [ih1 kids' qs hk hk', ih2 rest' ps hr hr']
theorem IsF.length {w : World} : ∀ (f : F) (ps : List Nat), IsF w ps f → f.len = ps.length := by
  intro f
  induction f with
  | nil => intro ps h; cases ps with
    | nil => rfl
    | cons X ps => exact h.elim
  | cons r k kids rest ih1 ih2 =>
    intro ps h
    cases ps with
    | nil => exact h.elim
    | cons X ps => simp only [F.len, List.length_cons, ih2 ps h.2]
theorem eqB_one (r k r' k' : Int) (ks rest ks' rest' : F) : (F.cons r k ks rest).eqB (.cons r' k' ks' rest') = ((F.cons r k ks .nil).eqB (.cons r' k' ks' .nil) && rest.eqB rest') := by
  simp only [F.eqB, Bool.and_true, Bool.and_assoc]
theorem drew_below {w w' : World} (h : ∃ m, w' = w.drewN m) : Below w.heap.size w w' := by
  obtain ⟨m, rfl⟩ := h
  exact pw_below_drewN (Below.refl _ _) m
theorem drew_trans {a b c : World} (h : ∃ m, b = a.drewN m) (h2 : ∃ m, c = b.drewN m) : ∃ m, c = a.drewN m := by
  obtain ⟨m, rfl⟩ := h
  obtain ⟨n, rfl⟩ := h2
  exact ⟨m + n, by rw [World.drewN_drewN]⟩
/-- What Eq answers, its first tree being this one. -/
def EqC (B : World) (r k : Int) (kids : F) : Prop := ∀ (X Y : Nat) (r' k' : Int) (kids' : F), IsF B [X] (.cons r k kids .nil) → IsF B [Y] (.cons r' k' kids' .nil) → ∀ (w : World), Below B.heap.size B w →
  Calls Tryz.prog 26 #[.pointer (some ⟨X, 0, none⟩), .pointer (some ⟨Y, 0, none⟩)] w fun e w' => e = .returned (.bool ((F.cons r k kids .nil).eqB (.cons r' k' kids' .nil))) ∧ ∃ m, w' = w.drewN m
def QRel (w : World) (f g : F) (len : Nat) (kq : Nat) (v : Value) (w' : World) : Prop := ∃ (i : Nat), i + kq = len ∧ v = .int .i64 (i : Int) ∧ (∃ m, w' = w.drewN m) ∧ f.eqB g = (f.drop i).eqB (g.drop i)
set_option maxRecDepth 100000 in
set_option maxHeartbeats 4000000 in
theorem equal_kids (B : World) (f g : F) (ih : AllF (EqC B) f) (A : Option Addr) (c : Nat) (ps : List Nat) (A' : Option Addr) (c' : Nat) (qs : List Nat) (h1 : Kd.C kP B A ps.length ps) (h2 : IsF B ps f) (h3 : Kd.C kP B A' qs.length qs) (h4 : IsF B qs g) (w : World) (hb : Below B.heap.size B w) :
    Calls Tryz.prog 56 #[.slice A ps.length c, .slice A' qs.length c', .func (.func 26) #[] #[]] w fun e w' => e = .returned (.bool (f.eqB g)) ∧ ∃ m, w' = w.drewN m := by
  have HIH := Aside0.mk ih
  have H1 := Aside0.mk h1
  have H2 := Aside0.mk h2
  have H3 := Aside0.mk h3
  have H4 := Aside0.mk h4
  have HB := Aside0.mk hb
  have HL1 := Aside0.mk (h2.length)
  have HL2 := Aside0.mk (h4.length)
  clear ih h1 h2 h3 h4 hb
  by_cases hlen : ps.length = qs.length
  · have t0 : ((ps.length : Int) == (qs.length : Int)) = true := by simp [hlen]
    have HLE := Aside0.mk hlen
    rw [← hlen]
    clear hlen
    go_enter Tryz.func56, Tryz.ntmps56
    go_wp2_with fail
    go_loopg [17] ps.length (fun kq v17 w' => QRel w f g ps.length kq v17 w')
    case atStart => exact ⟨0, by omega, rfl, ⟨0, rfl⟩, rfl⟩
    case round =>
      obtain ⟨i, hi, rfl, hb, hs⟩ := hrel
      have HI := Aside0.mk hi
      have HR := Aside0.mk (And.intro (drew_below hb) hs)
      have HDR := Aside0.mk hb
      clear hi hb hs
      by_cases hil : i < ps.length
      · have t1 : decide ((i : Int) < (ps.length : Int)) = true := by simp; omega
        have hiq : i < qs.length := by have := HLE.out; omega
        obtain ⟨r, k, ks, e1, e2⟩ := H2.out.at_ f ps i hil
        obtain ⟨r', k', ks', e3, e4⟩ := H4.out.at_ g qs i hiq
        obtain ⟨ad, rfl, hc⟩ := row_at H1.out i hil
        obtain ⟨bd, rfl, hc'⟩ := row_at H3.out i hiq
        have HBB := Aside0.mk (HB.out.trans (HR.out.1.mono HB.out.size))
        have hc2 := pw_cell_below HBB.out hc
        have hc3 := pw_cell_below HBB.out hc'
        have C := Aside0.mk (HIH.out.at_ f i e1 ps[i] qs[i] r' k' ks' e2 e4 wr HBB.out)
        have he := eqB_one r k r' k' ks (f.drop (i + 1)) ks' (g.drop (i + 1))
        rw [← e1, ← e3] at he
        have HSO := Aside0.mk he
        clear e1 e2 e3 e4 hc hc' he
        unfold pv at hc2 hc3
        have hql : ps.length ≤ 9223372036854775807 := H1.out.2.1
        generalize (F.cons r k ks .nil).eqB (.cons r' k' ks' .nil) = b at *
        go_wp2_with fail
        go_at_call 26
        refine C.out.mono ?_
        rintro e w3 ⟨rfl, hb3⟩
        have HB3 := Aside0.mk (drew_trans HDR.out hb3)
        clear hb3 C
        cases b with
        | true =>
          go_wp2_with fail
          go_roundg (gk - 1)
          case measure => have := HI.out; omega
          case rel => exact ⟨i + 1, by have := HI.out; omega, by go_num, HB3.out, by rw [HR.out.2, HSO.out, Bool.true_and]⟩
        | false =>
          have HF : Aside0 (f.eqB g = false) := ⟨by rw [HR.out.2, HSO.out, Bool.false_and]⟩
          go_wp2_with fail
          go_ret
          rw [HF.out]
          exact ⟨rfl, HB3.out⟩
      · have t1 : decide ((i : Int) < (ps.length : Int)) = false := by simp; omega
        have HF : Aside0 (f.eqB g = true) := ⟨by
          have h1 := H2.out.len f ps
          have h2 := H4.out.len g qs
          have h3 := HI.out
          have h4 := HLE.out
          rw [HR.out.2, show i = ps.length by omega, h1, h4, h2]
          rfl⟩
        go_wp2_with fail
        go_ret
        rw [HF.out]
        exact ⟨rfl, HDR.out⟩
  · have t0 : ((ps.length : Int) == (qs.length : Int)) = false := by simp; omega
    have t1 : decide ((ps.length : Int) = (qs.length : Int)) = false := by simp; omega
    have HF : Aside0 (f.eqB g = false) := ⟨by
      cases h : f.eqB g with
      | false => rfl
      | true =>
        have := (eqB_iff f g).1 h
        have h1 := HL1.out
        have h2 := HL2.out
        rw [this] at h1
        omega⟩
    clear hlen
    go_enter Tryz.func56, Tryz.ntmps56
    go_wp2_with fail
    go_ret
    rw [HF.out]
    exact ⟨rfl, 0, rfl⟩
theorem infoT : (Tryz.prog.info? 61).map (fun i => i.size) = some 3 := by kernel_rfl
theorem ptr_same (w : World) (X : Nat) : (binOp .eql 37 (.pointer (some ⟨X, 0, none⟩)) (.pointer (some ⟨X, 0, none⟩))).run Tryz.prog w = .ok (.bool true) w := by
  obtain ⟨j, hj, _⟩ := Option.map_eq_some_iff.1 infoT
  exact run_eql_ptr_same w ⟨X, 0, none⟩ Tryz.underlying37 hj
theorem ptr_other {w : World} {X Y : Nat} {a b c a' b' c' : Value} (h : X ≠ Y) (hx : Node3 w X a b c) (hy : Node3 w Y a' b' c') : (binOp .eql 37 (.pointer (some ⟨X, 0, none⟩)) (.pointer (some ⟨Y, 0, none⟩))).run Tryz.prog w = .ok (.bool false) w := by
  obtain ⟨j, hj, hs⟩ := Option.map_eq_some_iff.1 infoT
  exact run_eql_ptr_other w Tryz.underlying37 hj (by rw [hs]; decide) (fun e => h (by injection e)) hx.heap hy.heap
set_option maxRecDepth 100000 in
set_option maxHeartbeats 4000000 in
theorem eq_node (B : World) (r k : Int) (kids : F) (ih : AllF (EqC B) kids) : EqC B r k kids := by
  intro X Y r' k' kids' hX hY w hb
  have HXX := Aside0.mk hX
  have HYY := Aside0.mk hY
  obtain ⟨⟨A, c, ps, hx, hq, hqc, hk⟩, _⟩ := hX
  obtain ⟨⟨A', c', qs, hx', hq', hqc', hk'⟩, _⟩ := hY
  have C : ∀ n, Aside0 (Calls Tryz.prog 56 #[.slice A ps.length c, .slice A' qs.length c', .func (.func 26) #[] #[]] (w.drewN n) fun e w' => e = .returned (.bool (kids.eqB kids')) ∧ ∃ m, w' = (w.drewN n).drewN m) := fun n => ⟨equal_kids B kids kids' ih A c ps A' c' qs hq hk hq' hk' _ (hb.trans ((drew_below ⟨n, rfl⟩).mono hb.size))⟩
  have HX := Aside0.mk ((Node3.mk (W := B) hx).move hb (Node3.mk (W := B) hx).lt)
  have HY := Aside0.mk ((Node3.mk (W := B) hx').move hb (Node3.mk (W := B) hx').lt)
  have x0 := HX.out.c0
  have x1 := HX.out.c1
  have x2 := HX.out.c2
  have y0 := HY.out.c0
  have y1 := HY.out.c1
  have y2 := HY.out.c2
  clear ih hx hq hqc hk hx' hq' hqc' hk' hb
  by_cases hXY : X = Y
  · subst hXY
    have HE : Aside0 ((F.cons r k kids .nil).eqB (.cons r' k' kids' .nil) = true) := ⟨by rw [HXX.out.inj _ _ _ HYY.out]; exact eqB_self _⟩
    have hS := fun w0 => ptr_same w0 X
    clear y0 y1 y2
    go_enter Tryz.func26, Tryz.ntmps26
    go_upto_region 3 with fail
    go_quiet (fail)
    go_wp2_with fail
    go_ret
    rw [HE.out]
    exact ⟨rfl, nq, rfl⟩
  · have hO : ∀ n, (binOp .eql 37 (.pointer (some ⟨X, 0, none⟩)) (.pointer (some ⟨Y, 0, none⟩))).run Tryz.prog (w.drewN n) = .ok (.bool false) (w.drewN n) := fun n => ptr_other hXY (HX.out.move (drew_below ⟨n, rfl⟩) HX.out.lt) (HY.out.move (drew_below ⟨n, rfl⟩) HY.out.lt)
    by_cases hr : r = r'
    · by_cases hk : k = k'
      · have HE : Aside0 ((F.cons r k kids .nil).eqB (.cons r' k' kids' .nil) = kids.eqB kids') := ⟨by simp only [F.eqB]; rw [decide_eq_true hr, decide_eq_true hk]; simp⟩
        subst hr
        subst hk
        clear HXX HYY
        go_enter Tryz.func26, Tryz.ntmps26
        go_upto_region 3 with fail
        go_quiet ((go_at_call 56; exact Calls.quiet_of (C _).out))
        go_wp2_with fail
        go_ret
        rw [HE.out]
        exact ⟨rfl, nq, rfl⟩
      · have HE : Aside0 ((F.cons r k kids .nil).eqB (.cons r' k' kids' .nil) = false) := ⟨by simp only [F.eqB]; rw [decide_eq_false hk]; simp⟩
        have t1 : (k == k') = false := by simpa using hk
        have t2 : decide (k = k') = false := decide_eq_false hk
        subst hr
        clear HXX HYY C x2 y2
        go_enter Tryz.func26, Tryz.ntmps26
        go_upto_region 3 with fail
        go_quiet (fail)
        go_wp2_with fail
        go_ret
        rw [HE.out]
        exact ⟨rfl, nq, rfl⟩
    · have HE : Aside0 ((F.cons r k kids .nil).eqB (.cons r' k' kids' .nil) = false) := ⟨by simp only [F.eqB]; rw [decide_eq_false hr]; simp⟩
      have t1 : (r == r') = false := by simpa using hr
      have t2 : decide (r = r') = false := decide_eq_false hr
      clear HXX HYY C x2 y2 x1 y1
      go_enter Tryz.func26, Tryz.ntmps26
      go_upto_region 3 with fail
      go_quiet (fail)
      go_wp2_with fail
      go_ret
      rw [HE.out]
      exact ⟨rfl, nq, rfl⟩
theorem eq_calls (B : World) (f : F) : AllF (EqC B) f := AllF.of (eq_node B) f
end Go.Proofs.YtjhemobplcelbaaGreatDoor.T
