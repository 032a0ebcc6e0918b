/- tree: the reference's check. -/
import Derived.Test.YtjhemobplcelbaaGreatDoorTreeQ
import Derived.Test.YtjhemobplcelbaaGreatDoorTreeV
namespace Go.Proofs.YtjhemobplcelbaaGreatDoor.T
open Go.RowKit Go.Proofs.YtjhemobplcelbaaGreatDoorW.PrintWords Go.Proofs.YtjhemobplcelbaaGreatDoorW.PrintLast Go.Proofs.YtjhemobplcelbaaGreatDoorW.PrintMore
open Go.Proofs.YtjhemobplcelbaaGreatDoor.U (SR kSR rule_at int_at)
open Go.Proofs.YtjhemobplcelbaaGreatDoor.O (Bx)
set_option linter.unusedVariables false
set_option linter.unusedSimpArgs false
/-- What check answers of one tree. -/
def CheckC (B : World) (t : Nat) (n sq ex : Int) (A4 A5 A6 A7 : Option Addr) (n4 c4 n5 c5 n6 c6 c7 : Nat) (rs : List SR) (r k : Int) (kids : F) : Prop := ∀ (X : Nat), IsF B [X] (.cons r k kids .nil) → ∀ (w : World), Below B.heap.size B w →
  Calls Tryz.prog 52 #[.agg #[.int .i64 (t : Int), .int .i64 n, .int .i64 sq, .int .i64 ex, .slice A4 n4 c4, .slice A5 n5 c5, .slice A6 n6 c6, .slice A7 rs.length c7], .pointer (some ⟨X, 0, none⟩)] w fun e w' => e = .returned (.bool (chkT t rs r k kids)) ∧ Below w.heap.size w w'
def CkRel (w : World) (t : Nat) (rs : List SR) (kids : F) (right : List Int) (len : Nat) (kq : Nat) (v : Value) (w' : World) : Prop := ∃ i : Nat, i + kq = len ∧ v = .int .i64 (i : Int) ∧ Below w.heap.size w w' ∧ kids.chk t rs right = (kids.drop i).chk t rs (right.drop i)
theorem chk_one (t : Nat) (rs : List SR) (r k : Int) (ks rest : F) (x : Int) (xs : List Int) : (F.cons r k ks rest).chk t rs (x :: xs) = (chkT t rs r k ks && !(decide (r = -1) && !decide (k = x)) && !(decide (0 ≤ r) && !decide ((ruOf rs r).f0 = x)) && rest.chk t rs xs) := by simp only [F.chk, chkT]
theorem chk_range {t : Nat} {rs : List SR} {r k : Int} {kids : F} (h : chkT t rs r k kids = true) (hr : r ≠ -1) : 1 ≤ r ∧ r < rs.length := by
  unfold chkT at h
  rw [if_neg hr] at h
  split at h
  · cases h
  · omega
theorem ruOf_at (rs : List SR) (i : Nat) (h : i < rs.length) : ruOf rs (i : Int) = rs[i] := by simp [ruOf, List.getD, h]
set_option maxRecDepth 100000 in
set_option maxHeartbeats 4000000 in
theorem check_node (B : World) (t : Nat) (n sq ex : Int) (A4 A5 A6 A7 : Option Addr) (n4 c4 n5 c5 n6 c6 c7 : Nat) (rs : List SR) (hrs : Kd.C kSR B A7 rs.length rs) (r k : Int) (kids : F) (ih : AllF (CheckC B t n sq ex A4 A5 A6 A7 n4 c4 n5 c5 n6 c6 c7 rs) kids) : CheckC B t n sq ex A4 A5 A6 A7 n4 c4 n5 c5 n6 c6 c7 rs r k kids := by
  intro X hX w hb
  obtain ⟨⟨A, c, qs, hx, hq, hqc, hk⟩, _⟩ := hX
  have HIH := Aside0.mk ih
  have HK := Aside0.mk hk
  have HLEN := Aside0.mk hk.length
  have HQ := Aside0.mk (And.intro hq hqc)
  have HRS := Aside0.mk hrs
  have HNX := Aside0.mk (Node3.mk (W := B) hx)
  have hbA := below_alloc (Below.refl w.heap.size w) (.cells #[.int .i64 (t : Int), .int .i64 n, .int .i64 sq, .int .i64 ex, .slice A4 n4 c4, .slice A5 n5 c5, .slice A6 n6 c6, .slice A7 rs.length c7] 32)
  have hxS := Bx.new w #[.int .i64 (t : Int), .int .i64 n, .int .i64 sq, .int .i64 ex, .slice A4 n4 c4, .slice A5 n5 c5, .slice A6 n6 c6, .slice A7 rs.length c7] 32
  have HB := Aside0.mk hb
  clear ih hk hq hqc hx hrs hb
  go_enter Tryz.func52, Tryz.ntmps52
  go_upto_region 1 with fail
  obtain ⟨Y, hY⟩ : ∃ Y, Y = w.heap.size := ⟨_, rfl⟩
  rw [← hY] at hxS
  rw [← hY]
  generalize hWe : w.alloc (.cells #[.int .i64 (t : Int), .int .i64 n, .int .i64 sq, .int .i64 ex, .slice A4 n4 c4, .slice A5 n5 c5, .slice A6 n6 c6, .slice A7 rs.length c7] 32) = W1 at *
  have HS := Aside0.mk hxS
  have H1 := Aside0.mk (And.intro hbA (HB.out.trans (hbA.mono HB.out.size)))
  have HX1 := Aside0.mk (HNX.out.move H1.out.2 HNX.out.lt)
  clear hxS hbA hWe hY
  have x0 := HX1.out.c0
  have x1 := HX1.out.c1
  have x2 := HX1.out.c2
  have s0 := HS.out.c 0 rfl
  by_cases hr : r = -1
  · subst hr
    have HE : Aside0 (chkT t rs (-1) k kids = decide (0 ≤ k ∧ k < t ∧ kids.len = 0)) := ⟨by unfold chkT; rw [if_pos rfl]⟩
    go_upto_region 2 with fail
    have hlen := HLEN.out
    by_cases hk0 : 0 ≤ k
    · have t1 : decide (k ≥ 0) = true := decide_eq_true hk0
      by_cases hkt : k < (t : Int)
      · have t2 : decide (k < (t : Int)) = true := decide_eq_true hkt
        by_cases hq0 : qs.length = 0
        · have t3 : ((qs.length : Int) == 0) = true := beq_iff_eq.2 (by omega)
          have HF : Aside0 (chkT t rs (-1) k kids = true) := ⟨by rw [HE.out]; exact decide_eq_true ⟨hk0, hkt, by omega⟩⟩
          clear hlen
          rw [hq0] at x2
          go_quiet (fail)
          go_wp2_with fail
          go_ret
          rw [HF.out]
          exact ⟨rfl, H1.out.1.trans ((O.drawn_below ⟨nq, rfl⟩).mono H1.out.1.size)⟩
        · have t3 : ((qs.length : Int) == 0) = false := beq_eq_false_iff_ne.2 (by omega)
          have t4 : decide ((qs.length : Int) = 0) = false := decide_eq_false (by omega)
          have HF : Aside0 (chkT t rs (-1) k kids = false) := ⟨by rw [HE.out]; exact decide_eq_false (by omega)⟩
          clear hlen
          go_quiet (fail)
          go_wp2_with fail
          go_ret
          rw [HF.out]
          exact ⟨rfl, H1.out.1.trans ((O.drawn_below ⟨nq, rfl⟩).mono H1.out.1.size)⟩
      · have t2 : decide (k < (t : Int)) = false := decide_eq_false hkt
        have HF : Aside0 (chkT t rs (-1) k kids = false) := ⟨by rw [HE.out]; exact decide_eq_false (by omega)⟩
        clear hlen x2
        go_quiet (fail)
        go_wp2_with fail
        go_ret
        rw [HF.out]
        exact ⟨rfl, H1.out.1.trans ((O.drawn_below ⟨nq, rfl⟩).mono H1.out.1.size)⟩
    · have t1 : decide (k ≥ 0) = false := decide_eq_false hk0
      have HF : Aside0 (chkT t rs (-1) k kids = false) := ⟨by rw [HE.out]; exact decide_eq_false (by omega)⟩
      clear hlen x2 s0
      go_quiet (fail)
      go_wp2_with fail
      go_ret
      rw [HF.out]
      exact ⟨rfl, H1.out.1.trans ((O.drawn_below ⟨nq, rfl⟩).mono H1.out.1.size)⟩
  · have tr1 : (r == -1) = false := beq_eq_false_iff_ne.2 hr
    have tr2 : decide (r = -1) = false := decide_eq_false hr
    have s7 := HS.out.c 7 rfl
    go_upto_region 3 with fail
    have HE : Aside0 (chkT t rs r k kids = if r < 1 ∨ (rs.length : Int) ≤ r ∨ k ≠ 0 ∨ kids.len ≠ (ruOf rs r).f1.length then false else kids.chk t rs (ruOf rs r).f1) := ⟨by unfold chkT; rw [if_neg hr]⟩
    have HR := Aside0.mk hr
    clear tr1 tr2 hr s0
    by_cases hr1 : r < 1
    · have t1 : decide (r < 1) = true := decide_eq_true hr1
      have HF : Aside0 (chkT t rs r k kids = false) := ⟨by rw [HE.out, if_pos (.inl hr1)]⟩
      clear x1 x2 s7
      go_quiet (fail)
      go_wp2_with fail
      go_ret
      rw [HF.out]
      exact ⟨rfl, H1.out.1.trans ((O.drawn_below ⟨nq, rfl⟩).mono H1.out.1.size)⟩
    · have t1 : decide (r < 1) = false := decide_eq_false hr1
      by_cases hr2 : (rs.length : Int) ≤ r
      · have t2 : decide (r ≥ (rs.length : Int)) = true := decide_eq_true hr2
        have HF : Aside0 (chkT t rs r k kids = false) := ⟨by rw [HE.out, if_pos (.inr (.inl hr2))]⟩
        clear x1 x2
        go_quiet (fail)
        go_wp2_with fail
        go_ret
        rw [HF.out]
        exact ⟨rfl, H1.out.1.trans ((O.drawn_below ⟨nq, rfl⟩).mono H1.out.1.size)⟩
      · have t2 : decide (r ≥ (rs.length : Int)) = false := decide_eq_false hr2
        by_cases hk0 : k = 0
        · subst hk0
          obtain ⟨rn, rfl⟩ : ∃ rn : Nat, r = (rn : Int) := ⟨r.toNat, by omega⟩
          have hrn : rn < rs.length := by omega
          obtain ⟨ad, A1, c1, e1, r0, r1, _, _, hl1, hrr⟩ := rule_at HRS.out rn hrn
          have HRU : Aside0 (ruOf rs (rn : Int) = rs[rn]) := ⟨ruOf_at rs rn hrn⟩
          have HRN := Aside0.mk (And.intro hrn (And.intro hr1 hr2))
          rw [HRU.out] at HE
          generalize rs[rn] = ru at *
          obtain ⟨rl, rt, rv, ra⟩ := ru
          simp only at r0 r1 hl1 hrr HE
          subst e1
          have r1' := pw_cell_below H1.out.2 r1
          have HRT := Aside0.mk (And.intro hrr (And.intro hl1 (And.intro r0 r1)))
          have hin : (rn : Int) < (rs.length : Int) := by omega
          have hlen := HLEN.out
          by_cases hql : qs.length = rt.length
          · rw [← hql] at r1'
            have HQL := Aside0.mk hql
            have HF0 : Aside0 (chkT t rs (rn : Int) 0 kids = kids.chk t rs rt) := ⟨by rw [HE.out, if_neg (by omega)]⟩
            clear hlen r0 r1 hl1 hrr hql HE
            go_quiet (fail)
            have hbd : Below W1.heap.size W1 (W1.drewN nq) := O.drawn_below ⟨nq, rfl⟩
            have hX3 := HX1.out.move hbd HX1.out.lt
            generalize W1.drewN nq = W3 at *
            have HBD := Aside0.mk hbd
            clear x0 x1 x2 s7 r1' hbd t1 t2
            have x2 := hX3.c2
            clear hX3
            go_wp2_with fail
            go_loopg [5] qs.length (fun kq v5 w' => CkRel W1 t rs kids rt qs.length kq v5 w')
            case atStart => exact ⟨0, by omega, rfl, HBD.out, rfl⟩
            case round =>
              obtain ⟨i, hi, rfl, hb, hs⟩ := hrel
              have HI := Aside0.mk hi
              have HR2 := Aside0.mk (And.intro hb hs)
              have HBr := Aside0.mk (H1.out.2.trans (hb.mono H1.out.2.size))
              have HXr := Aside0.mk (HX1.out.move hb HX1.out.lt)
              have HSr := Aside0.mk (HS.out.move hb HS.out.lt)
              clear hi hb hs x2
              have x2 := HXr.out.c2
              by_cases hil : i < qs.length
              · have t1 : decide ((i : Int) < (qs.length : Int)) = true := by simp; omega
                have hir : i < rt.length := by have := HQL.out; omega
                obtain ⟨r', k', ks, e1, e2⟩ := HK.out.at_ kids qs i hil
                obtain ⟨ad2, rfl, hc⟩ := row_at HQ.out.1 i hil
                obtain ⟨bd, e3, hc3⟩ := int_at HRT.out.1 i hir
                have hc2 := pw_cell_below HBr.out hc
                have hc4 := pw_cell_below HBr.out hc3
                have r1' := pw_cell_below HBr.out HRT.out.2.2.2
                rw [← HQL.out] at r1'
                have x0 := HXr.out.c0
                have s7 := HSr.out.c 7 rfl
                have C : Aside0 (∀ w', Below wr.heap.size wr w' → Calls Tryz.prog 52 #[.agg #[.int .i64 (t : Int), .int .i64 n, .int .i64 sq, .int .i64 ex, .slice A4 n4 c4, .slice A5 n5 c5, .slice A6 n6 c6, .slice (some ad) rs.length c7], .pointer (some ⟨qs[i], 0, none⟩)] w' fun e w'' => e = .returned (.bool (chkT t rs r' k' ks)) ∧ Below w'.heap.size w' w'') := ⟨fun w' hb => HIH.out.at_ kids i e1 qs[i] e2 w' (HBr.out.trans (hb.mono HBr.out.size))⟩
                have HSO : Aside0 ((kids.drop i).chk t rs (rt.drop i) = (chkT t rs r' k' ks && !(decide (r' = -1) && !decide (k' = rt[i])) && !(decide (0 ≤ r') && !decide ((ruOf rs r').f0 = rt[i])) && (kids.drop (i + 1)).chk t rs (rt.drop (i + 1)))) := ⟨by rw [e1, List.drop_eq_getElem_cons hir, chk_one]⟩
                have HRG : Aside0 (chkT t rs r' k' ks = true → r' ≠ -1 → 1 ≤ r' ∧ r' < rs.length) := ⟨chk_range⟩
                obtain ⟨⟨Ak, ck, qk, hkx, _⟩, _⟩ := e2
                have HKN := Aside0.mk (Node3.mk (W := B) hkx)
                have hin2 : (i : Int) < (qs.length : Int) := by omega
                have hql : qs.length ≤ 9223372036854775807 := HQ.out.1.2.1
                have hin3 : (rn : Int) < (rs.length : Int) := by have := HRN.out.1; omega
                generalize rt[i] = x at *
                subst e3
                clear e1 hc hc3 hkx
                unfold pv at hc2
                go_upto_region 8 with fail
                go_quiet (fail)
                have hbd : Below wr.heap.size wr (wr.drewN nq) := O.drawn_below ⟨nq, rfl⟩
                have HSd := Aside0.mk (HSr.out.move hbd HSr.out.lt)
                have HR3 := Aside0.mk (HR2.out.1.trans (hbd.mono HR2.out.1.size))
                have HR4 : Aside0 (Below W1.heap.size W1 (wr.drewN nq) ∧ kids.chk t rs rt = (kids.drop i).chk t rs (rt.drop i)) := ⟨HR3.out, HR2.out.2⟩
                have C2 : Aside0 (∀ w', Below (wr.drewN nq).heap.size (wr.drewN nq) w' → Calls Tryz.prog 52 #[.agg #[.int .i64 (t : Int), .int .i64 n, .int .i64 sq, .int .i64 ex, .slice A4 n4 c4, .slice A5 n5 c5, .slice A6 n6 c6, .slice (some ad) rs.length c7], .pointer (some ⟨qs[i], 0, none⟩)] w' fun e w'' => e = .returned (.bool (chkT t rs r' k' ks)) ∧ Below w'.heap.size w' w'') := ⟨fun w' hb => C.out w' (hbd.trans (hb.mono hbd.size))⟩
                clear C HR2
                generalize qs[i] = Kx at *
                generalize wr.drewN nq = wr at *
                clear x0 x2 s7 r1' hc2 hc4 hbd hin2 hin3
                have s0 := HSd.out.c 0 rfl
                have s1 := HSd.out.c 1 rfl
                have s2 := HSd.out.c 2 rfl
                have s3 := HSd.out.c 3 rfl
                have s4 := HSd.out.c 4 rfl
                have s5 := HSd.out.c 5 rfl
                have s6 := HSd.out.c 6 rfl
                have s7 := HSd.out.c 7 rfl
                go_upto_region 9 with fail
                obtain ⟨bb, hbb⟩ : ∃ b, chkT t rs r' k' ks = b := ⟨_, rfl⟩
                rw [hbb] at C2 HSO HRG
                clear hbb
                cases bb with
                | false =>
                  have HF : Aside0 (chkT t rs (rn : Int) 0 kids = false) := ⟨by rw [HF0.out, HR4.out.2, HSO.out]; rfl⟩
                  have hS0 : Below wr.heap.size wr wr.drew := below_drew1 (Below.refl _ _)
                  have HB9 := Aside0.mk (H1.out.2.trans (HR4.out.1.mono H1.out.2.size))
                  have stepS := Aside0.mk (fun (w' : World) (hS' : Below wr.heap.size wr w') => (⟨(HSd.out.move hS' HSd.out.lt).c 0 rfl, (HSd.out.move hS' HSd.out.lt).c 1 rfl, (HSd.out.move hS' HSd.out.lt).c 2 rfl, (HSd.out.move hS' HSd.out.lt).c 3 rfl, (HSd.out.move hS' HSd.out.lt).c 4 rfl, (HSd.out.move hS' HSd.out.lt).c 5 rfl, (HSd.out.move hS' HSd.out.lt).c 6 rfl, (HSd.out.move hS' HSd.out.lt).c 7 rfl⟩ : _ ∧ _ ∧ _ ∧ _ ∧ _ ∧ _ ∧ _ ∧ _))
                  have stepZ := Aside0.mk (fun (w' : World) (hS' : Below wr.heap.size wr w') => And.intro (HKN.out.move (HB9.out.trans (hS'.mono HB9.out.size)) HKN.out.lt).c0 (HKN.out.move (HB9.out.trans (hS'.mono HB9.out.size)) HKN.out.lt).c1)
                  clear s0 s1 s2 s3 s4 s5 s6 s7
                  refine h_begin (fun w' => Below wr.heap.size wr w') (by kernel_rfl) ?_
                  refine h_take (i := 0) (v := ?_) rfl (by kernel_rfl) (by kernel_rfl) (by kernel_rfl) (fun _ _ _ h => h) (Or.inl ⟨by rfl, ?_⟩) hS0 ?_
                  rotate_left
                  · intro w' hS'
                    obtain ⟨s0, s1, s2, s3, s4, s5, s6, s7⟩ := stepS.out w' hS'
                    go_simp
                    (try with_reducible rfl)
                  simp only [Act.put, List.setIfInBounds_toArray, List.set_cons_zero, List.set_cons_succ]
                  refine h_take (i := 1) (v := ?_) rfl (by kernel_rfl) (by kernel_rfl) (by kernel_rfl) (fun _ _ _ h => h) (Or.inl ⟨by rfl, ?_⟩) hS0 ?_
                  rotate_left
                  · intro w' hS'
                    go_simp
                    (try with_reducible rfl)
                  simp only [Act.put, List.setIfInBounds_toArray, List.set_cons_zero, List.set_cons_succ]
                  refine h_one (i := 2) (by kernel_rfl) rfl (fun K hK => ?_)
                  go_simp
                  (with_reducible refine Calls.mono (C2.out _ hS0) ?_)
                  rintro e w3 ⟨rfl, hb3⟩
                  have hS1 : Below wr.heap.size wr w3 := hS0.trans (hb3.mono hS0.size)
                  go_wp2_with fail
                  refine hK.out _ _ hS1 ?_
                  clear hK K hb3 hS0
                  have H3 := Aside0.mk (HR4.out.1.trans (hS1.mono HR4.out.1.size))
                  refine h_take (i := 3) (v := ?_) rfl (by kernel_rfl) (by kernel_rfl) (by kernel_rfl) (fun _ _ _ h => h) (Or.inl ⟨by rfl, ?_⟩) hS1 ?_
                  rotate_left
                  · intro w' hS'
                    go_simp
                    (try with_reducible rfl)
                  simp only [Act.put, List.setIfInBounds_toArray, List.set_cons_zero, List.set_cons_succ]
                  refine h_take (i := 4) (v := ?_) rfl (by kernel_rfl) (by kernel_rfl) (by kernel_rfl) (fun _ _ _ h => h) (Or.inl ⟨by rfl, ?_⟩) hS1 ?_
                  rotate_left
                  · intro w' hS'
                    go_simp
                    (try with_reducible rfl)
                  simp only [Act.put, List.setIfInBounds_toArray, List.set_cons_zero, List.set_cons_succ]
                  refine h_take (i := 5) (v := undef) rfl (by kernel_rfl) (by kernel_rfl) (by kernel_rfl) (fun _ _ _ h => h) (Or.inr ⟨by rfl, rfl⟩) hS1 ?_
                  simp only [Act.put, List.setIfInBounds_toArray, List.set_cons_zero, List.set_cons_succ]
                  refine h_take (i := 6) (v := undef) rfl (by kernel_rfl) (by kernel_rfl) (by kernel_rfl) (fun _ _ _ h => h) (Or.inr ⟨by rfl, rfl⟩) hS1 ?_
                  simp only [Act.put, List.setIfInBounds_toArray, List.set_cons_zero, List.set_cons_succ]
                  refine h_take (i := 7) (v := undef) rfl (by kernel_rfl) (by kernel_rfl) (by kernel_rfl) (fun _ _ _ h => h) (Or.inr ⟨by rfl, rfl⟩) hS1 ?_
                  simp only [Act.put, List.setIfInBounds_toArray, List.set_cons_zero, List.set_cons_succ]
                  refine h_take (i := 8) (v := undef) rfl (by kernel_rfl) (by kernel_rfl) (by kernel_rfl) (fun _ _ _ h => h) (Or.inr ⟨by rfl, rfl⟩) hS1 ?_
                  simp only [Act.put, List.setIfInBounds_toArray, List.set_cons_zero, List.set_cons_succ]
                  refine h_take (i := 9) (v := undef) rfl (by kernel_rfl) (by kernel_rfl) (by kernel_rfl) (fun _ _ _ h => h) (Or.inr ⟨by rfl, rfl⟩) hS1 ?_
                  simp only [Act.put, List.setIfInBounds_toArray, List.set_cons_zero, List.set_cons_succ]
                  refine h_take (i := 10) (v := undef) rfl (by kernel_rfl) (by kernel_rfl) (by kernel_rfl) (fun _ _ _ h => h) (Or.inr ⟨by rfl, rfl⟩) hS1 ?_
                  simp only [Act.put, List.setIfInBounds_toArray, List.set_cons_zero, List.set_cons_succ]
                  refine h_take (i := 11) (v := undef) rfl (by kernel_rfl) (by kernel_rfl) (by kernel_rfl) (fun _ _ _ h => h) (Or.inr ⟨by rfl, rfl⟩) hS1 ?_
                  simp only [Act.put, List.setIfInBounds_toArray, List.set_cons_zero, List.set_cons_succ]
                  refine h_take (i := 12) (v := undef) rfl (by kernel_rfl) (by kernel_rfl) (by kernel_rfl) (fun _ _ _ h => h) (Or.inr ⟨by rfl, rfl⟩) hS1 ?_
                  simp only [Act.put, List.setIfInBounds_toArray, List.set_cons_zero, List.set_cons_succ]
                  refine h_take (i := 13) (v := undef) rfl (by kernel_rfl) (by kernel_rfl) (by kernel_rfl) (fun _ _ _ h => h) (Or.inr ⟨by rfl, rfl⟩) hS1 ?_
                  simp only [Act.put, List.setIfInBounds_toArray, List.set_cons_zero, List.set_cons_succ]
                  refine h_take (i := 14) (v := undef) rfl (by kernel_rfl) (by kernel_rfl) (by kernel_rfl) (fun _ _ _ h => h) (Or.inr ⟨by rfl, rfl⟩) hS1 ?_
                  simp only [Act.put, List.setIfInBounds_toArray, List.set_cons_zero, List.set_cons_succ]
                  refine h_take (i := 15) (v := undef) rfl (by kernel_rfl) (by kernel_rfl) (by kernel_rfl) (fun _ _ _ h => h) (Or.inr ⟨by rfl, rfl⟩) hS1 ?_
                  simp only [Act.put, List.setIfInBounds_toArray, List.set_cons_zero, List.set_cons_succ]
                  refine h_take (i := 16) (v := undef) rfl (by kernel_rfl) (by kernel_rfl) (by kernel_rfl) (fun _ _ _ h => h) (Or.inr ⟨by rfl, rfl⟩) hS1 ?_
                  simp only [Act.put, List.setIfInBounds_toArray, List.set_cons_zero, List.set_cons_succ]
                  refine h_take (i := 17) (v := undef) rfl (by kernel_rfl) (by kernel_rfl) (by kernel_rfl) (fun _ _ _ h => h) (Or.inr ⟨by rfl, rfl⟩) hS1 ?_
                  simp only [Act.put, List.setIfInBounds_toArray, List.set_cons_zero, List.set_cons_succ]
                  refine h_take (i := 18) (v := ?_) rfl (by kernel_rfl) (by kernel_rfl) (by kernel_rfl) (fun _ _ _ h => h) (Or.inl ⟨by rfl, ?_⟩) hS1 ?_
                  rotate_left
                  · intro w' hS'
                    go_simp
                    (try with_reducible rfl)
                  simp only [Act.put, List.setIfInBounds_toArray, List.set_cons_zero, List.set_cons_succ]
                  refine h_take (i := 19) (v := ?_) rfl (by kernel_rfl) (by kernel_rfl) (by kernel_rfl) (fun _ _ _ h => h) (Or.inl ⟨by rfl, ?_⟩) hS1 ?_
                  rotate_left
                  · intro w' hS'
                    go_simp
                    (try with_reducible rfl)
                  simp only [Act.put, List.setIfInBounds_toArray, List.set_cons_zero, List.set_cons_succ]
                  refine h_take (i := 20) (v := undef) rfl (by kernel_rfl) (by kernel_rfl) (by kernel_rfl) (fun _ _ _ h => h) (Or.inr ⟨by rfl, rfl⟩) hS1 ?_
                  simp only [Act.put, List.setIfInBounds_toArray, List.set_cons_zero, List.set_cons_succ]
                  refine h_take (i := 21) (v := undef) rfl (by kernel_rfl) (by kernel_rfl) (by kernel_rfl) (fun _ _ _ h => h) (Or.inr ⟨by rfl, rfl⟩) hS1 ?_
                  simp only [Act.put, List.setIfInBounds_toArray, List.set_cons_zero, List.set_cons_succ]
                  refine h_take (i := 22) (v := undef) rfl (by kernel_rfl) (by kernel_rfl) (by kernel_rfl) (fun _ _ _ h => h) (Or.inr ⟨by rfl, rfl⟩) hS1 ?_
                  simp only [Act.put, List.setIfInBounds_toArray, List.set_cons_zero, List.set_cons_succ]
                  refine h_take (i := 23) (v := undef) rfl (by kernel_rfl) (by kernel_rfl) (by kernel_rfl) (fun _ _ _ h => h) (Or.inr ⟨by rfl, rfl⟩) hS1 ?_
                  simp only [Act.put, List.setIfInBounds_toArray, List.set_cons_zero, List.set_cons_succ]
                  refine h_take (i := 24) (v := undef) rfl (by kernel_rfl) (by kernel_rfl) (by kernel_rfl) (fun _ _ _ h => h) (Or.inr ⟨by rfl, rfl⟩) hS1 ?_
                  simp only [Act.put, List.setIfInBounds_toArray, List.set_cons_zero, List.set_cons_succ]
                  refine h_take (i := 25) (v := undef) rfl (by kernel_rfl) (by kernel_rfl) (by kernel_rfl) (fun _ _ _ h => h) (Or.inr ⟨by rfl, rfl⟩) hS1 ?_
                  simp only [Act.put, List.setIfInBounds_toArray, List.set_cons_zero, List.set_cons_succ]
                  refine h_take (i := 26) (v := undef) rfl (by kernel_rfl) (by kernel_rfl) (by kernel_rfl) (fun _ _ _ h => h) (Or.inr ⟨by rfl, rfl⟩) hS1 ?_
                  simp only [Act.put, List.setIfInBounds_toArray, List.set_cons_zero, List.set_cons_succ]
                  refine h_take (i := 27) (v := undef) rfl (by kernel_rfl) (by kernel_rfl) (by kernel_rfl) (fun _ _ _ h => h) (Or.inr ⟨by rfl, rfl⟩) hS1 ?_
                  simp only [Act.put, List.setIfInBounds_toArray, List.set_cons_zero, List.set_cons_succ]
                  refine h_take (i := 28) (v := undef) rfl (by kernel_rfl) (by kernel_rfl) (by kernel_rfl) (fun _ _ _ h => h) (Or.inr ⟨by rfl, rfl⟩) hS1 ?_
                  simp only [Act.put, List.setIfInBounds_toArray, List.set_cons_zero, List.set_cons_succ]
                  refine h_take (i := 29) (v := undef) rfl (by kernel_rfl) (by kernel_rfl) (by kernel_rfl) (fun _ _ _ h => h) (Or.inr ⟨by rfl, rfl⟩) hS1 ?_
                  simp only [Act.put, List.setIfInBounds_toArray, List.set_cons_zero, List.set_cons_succ]
                  refine h_take (i := 30) (v := undef) rfl (by kernel_rfl) (by kernel_rfl) (by kernel_rfl) (fun _ _ _ h => h) (Or.inr ⟨by rfl, rfl⟩) hS1 ?_
                  simp only [Act.put, List.setIfInBounds_toArray, List.set_cons_zero, List.set_cons_succ]
                  refine h_take (i := 31) (v := undef) rfl (by kernel_rfl) (by kernel_rfl) (by kernel_rfl) (fun _ _ _ h => h) (Or.inr ⟨by rfl, rfl⟩) hS1 ?_
                  simp only [Act.put, List.setIfInBounds_toArray, List.set_cons_zero, List.set_cons_succ]
                  refine h_take (i := 32) (v := undef) rfl (by kernel_rfl) (by kernel_rfl) (by kernel_rfl) (fun _ _ _ h => h) (Or.inr ⟨by rfl, rfl⟩) hS1 ?_
                  simp only [Act.put, List.setIfInBounds_toArray, List.set_cons_zero, List.set_cons_succ]
                  refine h_take (i := 33) (v := undef) rfl (by kernel_rfl) (by kernel_rfl) (by kernel_rfl) (fun _ _ _ h => h) (Or.inr ⟨by rfl, rfl⟩) hS1 ?_
                  simp only [Act.put, List.setIfInBounds_toArray, List.set_cons_zero, List.set_cons_succ]
                  refine h_take (i := 34) (v := undef) rfl (by kernel_rfl) (by kernel_rfl) (by kernel_rfl) (fun _ _ _ h => h) (Or.inr ⟨by rfl, rfl⟩) hS1 ?_
                  simp only [Act.put, List.setIfInBounds_toArray, List.set_cons_zero, List.set_cons_succ]
                  refine h_take (i := 35) (v := undef) rfl (by kernel_rfl) (by kernel_rfl) (by kernel_rfl) (fun _ _ _ h => h) (Or.inr ⟨by rfl, rfl⟩) hS1 ?_
                  simp only [Act.put, List.setIfInBounds_toArray, List.set_cons_zero, List.set_cons_succ]
                  refine h_take (i := 36) (v := undef) rfl (by kernel_rfl) (by kernel_rfl) (by kernel_rfl) (fun _ _ _ h => h) (Or.inr ⟨by rfl, rfl⟩) hS1 ?_
                  simp only [Act.put, List.setIfInBounds_toArray, List.set_cons_zero, List.set_cons_succ]
                  refine h_take (i := 37) (v := undef) rfl (by kernel_rfl) (by kernel_rfl) (by kernel_rfl) (fun _ _ _ h => h) (Or.inr ⟨by rfl, rfl⟩) hS1 ?_
                  simp only [Act.put, List.setIfInBounds_toArray, List.set_cons_zero, List.set_cons_succ]
                  refine h_take (i := 38) (v := ?_) rfl (by kernel_rfl) (by kernel_rfl) (by kernel_rfl) (fun _ _ _ h => h) (Or.inl ⟨by rfl, ?_⟩) hS1 ?_
                  rotate_left
                  · intro w' hS'
                    go_simp
                    (try with_reducible rfl)
                  simp only [Act.put, List.setIfInBounds_toArray, List.set_cons_zero, List.set_cons_succ]
                  refine h_done (by kernel_rfl) ?_
                  clear stepS stepZ hS1
                  all_goals (go_wp2_with fail; go_ret; rw [HF.out]; exact ⟨rfl, H1.out.1.trans (H3.out.mono H1.out.1.size)⟩)
                | true =>
                  by_cases hm : r' = -1
                  · subst hm
                    by_cases hkx : k' = x
                    · subst hkx
                      have HSO : Aside0 ((kids.drop i).chk t rs (rt.drop i) = (kids.drop (i + 1)).chk t rs (rt.drop (i + 1))) := ⟨by rw [HSO.out]; simp⟩
                      have hS0 : Below wr.heap.size wr wr.drew := below_drew1 (Below.refl _ _)
                      have HB9 := Aside0.mk (H1.out.2.trans (HR4.out.1.mono H1.out.2.size))
                      have stepS := Aside0.mk (fun (w' : World) (hS' : Below wr.heap.size wr w') => (⟨(HSd.out.move hS' HSd.out.lt).c 0 rfl, (HSd.out.move hS' HSd.out.lt).c 1 rfl, (HSd.out.move hS' HSd.out.lt).c 2 rfl, (HSd.out.move hS' HSd.out.lt).c 3 rfl, (HSd.out.move hS' HSd.out.lt).c 4 rfl, (HSd.out.move hS' HSd.out.lt).c 5 rfl, (HSd.out.move hS' HSd.out.lt).c 6 rfl, (HSd.out.move hS' HSd.out.lt).c 7 rfl⟩ : _ ∧ _ ∧ _ ∧ _ ∧ _ ∧ _ ∧ _ ∧ _))
                      have stepZ := Aside0.mk (fun (w' : World) (hS' : Below wr.heap.size wr w') => And.intro (HKN.out.move (HB9.out.trans (hS'.mono HB9.out.size)) HKN.out.lt).c0 (HKN.out.move (HB9.out.trans (hS'.mono HB9.out.size)) HKN.out.lt).c1)
                      clear s0 s1 s2 s3 s4 s5 s6 s7
                      refine h_begin (fun w' => Below wr.heap.size wr w') (by kernel_rfl) ?_
                      refine h_take (i := 0) (v := ?_) rfl (by kernel_rfl) (by kernel_rfl) (by kernel_rfl) (fun _ _ _ h => h) (Or.inl ⟨by rfl, ?_⟩) hS0 ?_
                      rotate_left
                      · intro w' hS'
                        obtain ⟨s0, s1, s2, s3, s4, s5, s6, s7⟩ := stepS.out w' hS'
                        go_simp
                        (try with_reducible rfl)
                      simp only [Act.put, List.setIfInBounds_toArray, List.set_cons_zero, List.set_cons_succ]
                      refine h_take (i := 1) (v := ?_) rfl (by kernel_rfl) (by kernel_rfl) (by kernel_rfl) (fun _ _ _ h => h) (Or.inl ⟨by rfl, ?_⟩) hS0 ?_
                      rotate_left
                      · intro w' hS'
                        go_simp
                        (try with_reducible rfl)
                      simp only [Act.put, List.setIfInBounds_toArray, List.set_cons_zero, List.set_cons_succ]
                      refine h_one (i := 2) (by kernel_rfl) rfl (fun K hK => ?_)
                      go_simp
                      (with_reducible refine Calls.mono (C2.out _ hS0) ?_)
                      rintro e w3 ⟨rfl, hb3⟩
                      have hS1 : Below wr.heap.size wr w3 := hS0.trans (hb3.mono hS0.size)
                      go_wp2_with fail
                      refine hK.out _ _ hS1 ?_
                      clear hK K hb3 hS0
                      have H3 := Aside0.mk (HR4.out.1.trans (hS1.mono HR4.out.1.size))
                      refine h_take (i := 3) (v := ?_) rfl (by kernel_rfl) (by kernel_rfl) (by kernel_rfl) (fun _ _ _ h => h) (Or.inl ⟨by rfl, ?_⟩) hS1 ?_
                      rotate_left
                      · intro w' hS'
                        go_simp
                        (try with_reducible rfl)
                      simp only [Act.put, List.setIfInBounds_toArray, List.set_cons_zero, List.set_cons_succ]
                      refine h_take (i := 4) (v := ?_) rfl (by kernel_rfl) (by kernel_rfl) (by kernel_rfl) (fun _ _ _ h => h) (Or.inl ⟨by rfl, ?_⟩) hS1 ?_
                      rotate_left
                      · intro w' hS'
                        go_simp
                        (try with_reducible rfl)
                      simp only [Act.put, List.setIfInBounds_toArray, List.set_cons_zero, List.set_cons_succ]
                      refine h_take (i := 5) (v := ?_) rfl (by kernel_rfl) (by kernel_rfl) (by kernel_rfl) (fun _ _ _ h => h) (Or.inl ⟨by rfl, ?_⟩) hS1 ?_
                      rotate_left
                      · intro w' hS'
                        go_simp
                        (try with_reducible rfl)
                      simp only [Act.put, List.setIfInBounds_toArray, List.set_cons_zero, List.set_cons_succ]
                      refine h_take (i := 6) (v := ?_) rfl (by kernel_rfl) (by kernel_rfl) (by kernel_rfl) (fun _ _ _ h => h) (Or.inl ⟨by rfl, ?_⟩) hS1 ?_
                      rotate_left
                      · intro w' hS'
                        go_simp
                        (try with_reducible rfl)
                      simp only [Act.put, List.setIfInBounds_toArray, List.set_cons_zero, List.set_cons_succ]
                      refine h_take (i := 7) (v := ?_) rfl (by kernel_rfl) (by kernel_rfl) (by kernel_rfl) (fun _ _ _ h => h) (Or.inl ⟨by rfl, ?_⟩) hS1 ?_
                      rotate_left
                      · intro w' hS'
                        go_simp
                        (try with_reducible rfl)
                      simp only [Act.put, List.setIfInBounds_toArray, List.set_cons_zero, List.set_cons_succ]
                      refine h_take (i := 8) (v := ?_) rfl (by kernel_rfl) (by kernel_rfl) (by kernel_rfl) (fun _ _ _ h => h) (Or.inl ⟨by rfl, ?_⟩) hS1 ?_
                      rotate_left
                      · intro w' hS'
                        obtain ⟨z0, z1⟩ := stepZ.out w' hS'
                        go_simp
                        (try with_reducible rfl)
                      simp only [Act.put, List.setIfInBounds_toArray, List.set_cons_zero, List.set_cons_succ]
                      refine h_take (i := 9) (v := ?_) rfl (by kernel_rfl) (by kernel_rfl) (by kernel_rfl) (fun _ _ _ h => h) (Or.inl ⟨by rfl, ?_⟩) hS1 ?_
                      rotate_left
                      · intro w' hS'
                        go_simp
                        (try with_reducible rfl)
                      simp only [Act.put, List.setIfInBounds_toArray, List.set_cons_zero, List.set_cons_succ]
                      refine h_take (i := 10) (v := ?_) rfl (by kernel_rfl) (by kernel_rfl) (by kernel_rfl) (fun _ _ _ h => h) (Or.inl ⟨by rfl, ?_⟩) hS1 ?_
                      rotate_left
                      · intro w' hS'
                        go_simp
                        (try with_reducible rfl)
                      simp only [Act.put, List.setIfInBounds_toArray, List.set_cons_zero, List.set_cons_succ]
                      refine h_take (i := 11) (v := ?_) rfl (by kernel_rfl) (by kernel_rfl) (by kernel_rfl) (fun _ _ _ h => h) (Or.inl ⟨by rfl, ?_⟩) hS1 ?_
                      rotate_left
                      · intro w' hS'
                        go_simp
                        (try with_reducible rfl)
                      simp only [Act.put, List.setIfInBounds_toArray, List.set_cons_zero, List.set_cons_succ]
                      refine h_take (i := 12) (v := ?_) rfl (by kernel_rfl) (by kernel_rfl) (by kernel_rfl) (fun _ _ _ h => h) (Or.inl ⟨by rfl, ?_⟩) hS1 ?_
                      rotate_left
                      · intro w' hS'
                        go_simp
                        (try with_reducible rfl)
                      simp only [Act.put, List.setIfInBounds_toArray, List.set_cons_zero, List.set_cons_succ]
                      refine h_take (i := 13) (v := ?_) rfl (by kernel_rfl) (by kernel_rfl) (by kernel_rfl) (fun _ _ _ h => h) (Or.inl ⟨by rfl, ?_⟩) hS1 ?_
                      rotate_left
                      · intro w' hS'
                        go_simp
                        (try with_reducible rfl)
                      simp only [Act.put, List.setIfInBounds_toArray, List.set_cons_zero, List.set_cons_succ]
                      refine h_take (i := 14) (v := ?_) rfl (by kernel_rfl) (by kernel_rfl) (by kernel_rfl) (fun _ _ _ h => h) (Or.inl ⟨by rfl, ?_⟩) hS1 ?_
                      rotate_left
                      · intro w' hS'
                        obtain ⟨z0, z1⟩ := stepZ.out w' hS'
                        go_simp
                        (try with_reducible rfl)
                      simp only [Act.put, List.setIfInBounds_toArray, List.set_cons_zero, List.set_cons_succ]
                      refine h_take (i := 15) (v := ?_) rfl (by kernel_rfl) (by kernel_rfl) (by kernel_rfl) (fun _ _ _ h => h) (Or.inl ⟨by rfl, ?_⟩) hS1 ?_
                      rotate_left
                      · intro w' hS'
                        go_simp
                        (try with_reducible rfl)
                      simp only [Act.put, List.setIfInBounds_toArray, List.set_cons_zero, List.set_cons_succ]
                      refine h_take (i := 16) (v := ?_) rfl (by kernel_rfl) (by kernel_rfl) (by kernel_rfl) (fun _ _ _ h => h) (Or.inl ⟨by rfl, ?_⟩) hS1 ?_
                      rotate_left
                      · intro w' hS'
                        go_simp
                        (try with_reducible rfl)
                      simp only [Act.put, List.setIfInBounds_toArray, List.set_cons_zero, List.set_cons_succ]
                      refine h_take (i := 17) (v := ?_) rfl (by kernel_rfl) (by kernel_rfl) (by kernel_rfl) (fun _ _ _ h => h) (Or.inl ⟨by rfl, ?_⟩) hS1 ?_
                      rotate_left
                      · intro w' hS'
                        go_simp
                        (try with_reducible rfl)
                      simp only [Act.put, List.setIfInBounds_toArray, List.set_cons_zero, List.set_cons_succ]
                      refine h_take (i := 18) (v := ?_) rfl (by kernel_rfl) (by kernel_rfl) (by kernel_rfl) (fun _ _ _ h => h) (Or.inl ⟨by rfl, ?_⟩) hS1 ?_
                      rotate_left
                      · intro w' hS'
                        go_simp
                        (try with_reducible rfl)
                      simp only [Act.put, List.setIfInBounds_toArray, List.set_cons_zero, List.set_cons_succ]
                      refine h_take (i := 19) (v := ?_) rfl (by kernel_rfl) (by kernel_rfl) (by kernel_rfl) (fun _ _ _ h => h) (Or.inl ⟨by rfl, ?_⟩) hS1 ?_
                      rotate_left
                      · intro w' hS'
                        go_simp
                        (try with_reducible rfl)
                      simp only [Act.put, List.setIfInBounds_toArray, List.set_cons_zero, List.set_cons_succ]
                      refine h_take (i := 20) (v := ?_) rfl (by kernel_rfl) (by kernel_rfl) (by kernel_rfl) (fun _ _ _ h => h) (Or.inl ⟨by rfl, ?_⟩) hS1 ?_
                      rotate_left
                      · intro w' hS'
                        go_simp
                        (try with_reducible rfl)
                      simp only [Act.put, List.setIfInBounds_toArray, List.set_cons_zero, List.set_cons_succ]
                      refine h_take (i := 21) (v := ?_) rfl (by kernel_rfl) (by kernel_rfl) (by kernel_rfl) (fun _ _ _ h => h) (Or.inl ⟨by rfl, ?_⟩) hS1 ?_
                      rotate_left
                      · intro w' hS'
                        go_simp
                        (try with_reducible rfl)
                      simp only [Act.put, List.setIfInBounds_toArray, List.set_cons_zero, List.set_cons_succ]
                      refine h_take (i := 22) (v := ?_) rfl (by kernel_rfl) (by kernel_rfl) (by kernel_rfl) (fun _ _ _ h => h) (Or.inl ⟨by rfl, ?_⟩) hS1 ?_
                      rotate_left
                      · intro w' hS'
                        go_simp
                        (try with_reducible rfl)
                      simp only [Act.put, List.setIfInBounds_toArray, List.set_cons_zero, List.set_cons_succ]
                      refine h_take (i := 23) (v := ?_) rfl (by kernel_rfl) (by kernel_rfl) (by kernel_rfl) (fun _ _ _ h => h) (Or.inl ⟨by rfl, ?_⟩) hS1 ?_
                      rotate_left
                      · intro w' hS'
                        obtain ⟨z0, z1⟩ := stepZ.out w' hS'
                        go_simp
                        (try with_reducible rfl)
                      simp only [Act.put, List.setIfInBounds_toArray, List.set_cons_zero, List.set_cons_succ]
                      refine h_take (i := 24) (v := ?_) rfl (by kernel_rfl) (by kernel_rfl) (by kernel_rfl) (fun _ _ _ h => h) (Or.inl ⟨by rfl, ?_⟩) hS1 ?_
                      rotate_left
                      · intro w' hS'
                        go_simp
                        (try with_reducible rfl)
                      simp only [Act.put, List.setIfInBounds_toArray, List.set_cons_zero, List.set_cons_succ]
                      refine h_take (i := 25) (v := ?_) rfl (by kernel_rfl) (by kernel_rfl) (by kernel_rfl) (fun _ _ _ h => h) (Or.inl ⟨by rfl, ?_⟩) hS1 ?_
                      rotate_left
                      · intro w' hS'
                        go_simp
                        (try with_reducible rfl)
                      simp only [Act.put, List.setIfInBounds_toArray, List.set_cons_zero, List.set_cons_succ]
                      refine h_take (i := 26) (v := undef) rfl (by kernel_rfl) (by kernel_rfl) (by kernel_rfl) (fun _ _ _ h => h) (Or.inr ⟨by rfl, rfl⟩) hS1 ?_
                      simp only [Act.put, List.setIfInBounds_toArray, List.set_cons_zero, List.set_cons_succ]
                      refine h_take (i := 27) (v := undef) rfl (by kernel_rfl) (by kernel_rfl) (by kernel_rfl) (fun _ _ _ h => h) (Or.inr ⟨by rfl, rfl⟩) hS1 ?_
                      simp only [Act.put, List.setIfInBounds_toArray, List.set_cons_zero, List.set_cons_succ]
                      refine h_take (i := 28) (v := undef) rfl (by kernel_rfl) (by kernel_rfl) (by kernel_rfl) (fun _ _ _ h => h) (Or.inr ⟨by rfl, rfl⟩) hS1 ?_
                      simp only [Act.put, List.setIfInBounds_toArray, List.set_cons_zero, List.set_cons_succ]
                      refine h_take (i := 29) (v := undef) rfl (by kernel_rfl) (by kernel_rfl) (by kernel_rfl) (fun _ _ _ h => h) (Or.inr ⟨by rfl, rfl⟩) hS1 ?_
                      simp only [Act.put, List.setIfInBounds_toArray, List.set_cons_zero, List.set_cons_succ]
                      refine h_take (i := 30) (v := undef) rfl (by kernel_rfl) (by kernel_rfl) (by kernel_rfl) (fun _ _ _ h => h) (Or.inr ⟨by rfl, rfl⟩) hS1 ?_
                      simp only [Act.put, List.setIfInBounds_toArray, List.set_cons_zero, List.set_cons_succ]
                      refine h_take (i := 31) (v := undef) rfl (by kernel_rfl) (by kernel_rfl) (by kernel_rfl) (fun _ _ _ h => h) (Or.inr ⟨by rfl, rfl⟩) hS1 ?_
                      simp only [Act.put, List.setIfInBounds_toArray, List.set_cons_zero, List.set_cons_succ]
                      refine h_take (i := 32) (v := undef) rfl (by kernel_rfl) (by kernel_rfl) (by kernel_rfl) (fun _ _ _ h => h) (Or.inr ⟨by rfl, rfl⟩) hS1 ?_
                      simp only [Act.put, List.setIfInBounds_toArray, List.set_cons_zero, List.set_cons_succ]
                      refine h_take (i := 33) (v := undef) rfl (by kernel_rfl) (by kernel_rfl) (by kernel_rfl) (fun _ _ _ h => h) (Or.inr ⟨by rfl, rfl⟩) hS1 ?_
                      simp only [Act.put, List.setIfInBounds_toArray, List.set_cons_zero, List.set_cons_succ]
                      refine h_take (i := 34) (v := undef) rfl (by kernel_rfl) (by kernel_rfl) (by kernel_rfl) (fun _ _ _ h => h) (Or.inr ⟨by rfl, rfl⟩) hS1 ?_
                      simp only [Act.put, List.setIfInBounds_toArray, List.set_cons_zero, List.set_cons_succ]
                      refine h_take (i := 35) (v := undef) rfl (by kernel_rfl) (by kernel_rfl) (by kernel_rfl) (fun _ _ _ h => h) (Or.inr ⟨by rfl, rfl⟩) hS1 ?_
                      simp only [Act.put, List.setIfInBounds_toArray, List.set_cons_zero, List.set_cons_succ]
                      refine h_take (i := 36) (v := undef) rfl (by kernel_rfl) (by kernel_rfl) (by kernel_rfl) (fun _ _ _ h => h) (Or.inr ⟨by rfl, rfl⟩) hS1 ?_
                      simp only [Act.put, List.setIfInBounds_toArray, List.set_cons_zero, List.set_cons_succ]
                      refine h_take (i := 37) (v := ?_) rfl (by kernel_rfl) (by kernel_rfl) (by kernel_rfl) (fun _ _ _ h => h) (Or.inl ⟨by rfl, ?_⟩) hS1 ?_
                      rotate_left
                      · intro w' hS'
                        go_simp
                        (try with_reducible rfl)
                      simp only [Act.put, List.setIfInBounds_toArray, List.set_cons_zero, List.set_cons_succ]
                      refine h_take (i := 38) (v := ?_) rfl (by kernel_rfl) (by kernel_rfl) (by kernel_rfl) (fun _ _ _ h => h) (Or.inl ⟨by rfl, ?_⟩) hS1 ?_
                      rotate_left
                      · intro w' hS'
                        go_simp
                        (try with_reducible rfl)
                      simp only [Act.put, List.setIfInBounds_toArray, List.set_cons_zero, List.set_cons_succ]
                      refine h_done (by kernel_rfl) ?_
                      clear stepS stepZ hS1
                      all_goals (go_wp2_with fail; go_roundg (gk - 1); (case measure => have := HI.out; omega); (case rel => exact ⟨i + 1, by have := HI.out; omega, by go_num, H3.out, by rw [HR4.out.2, HSO.out]; simp⟩))
                    · have t3 : (k' != x) = true := by simpa using hkx
                      have HF : Aside0 (chkT t rs (rn : Int) 0 kids = false) := ⟨by rw [HF0.out, HR4.out.2, HSO.out, decide_eq_false hkx]; simp⟩
                      have hS0 : Below wr.heap.size wr wr.drew := below_drew1 (Below.refl _ _)
                      have HB9 := Aside0.mk (H1.out.2.trans (HR4.out.1.mono H1.out.2.size))
                      have stepS := Aside0.mk (fun (w' : World) (hS' : Below wr.heap.size wr w') => (⟨(HSd.out.move hS' HSd.out.lt).c 0 rfl, (HSd.out.move hS' HSd.out.lt).c 1 rfl, (HSd.out.move hS' HSd.out.lt).c 2 rfl, (HSd.out.move hS' HSd.out.lt).c 3 rfl, (HSd.out.move hS' HSd.out.lt).c 4 rfl, (HSd.out.move hS' HSd.out.lt).c 5 rfl, (HSd.out.move hS' HSd.out.lt).c 6 rfl, (HSd.out.move hS' HSd.out.lt).c 7 rfl⟩ : _ ∧ _ ∧ _ ∧ _ ∧ _ ∧ _ ∧ _ ∧ _))
                      have stepZ := Aside0.mk (fun (w' : World) (hS' : Below wr.heap.size wr w') => And.intro (HKN.out.move (HB9.out.trans (hS'.mono HB9.out.size)) HKN.out.lt).c0 (HKN.out.move (HB9.out.trans (hS'.mono HB9.out.size)) HKN.out.lt).c1)
                      clear s0 s1 s2 s3 s4 s5 s6 s7
                      refine h_begin (fun w' => Below wr.heap.size wr w') (by kernel_rfl) ?_
                      refine h_take (i := 0) (v := ?_) rfl (by kernel_rfl) (by kernel_rfl) (by kernel_rfl) (fun _ _ _ h => h) (Or.inl ⟨by rfl, ?_⟩) hS0 ?_
                      rotate_left
                      · intro w' hS'
                        obtain ⟨s0, s1, s2, s3, s4, s5, s6, s7⟩ := stepS.out w' hS'
                        go_simp
                        (try with_reducible rfl)
                      simp only [Act.put, List.setIfInBounds_toArray, List.set_cons_zero, List.set_cons_succ]
                      refine h_take (i := 1) (v := ?_) rfl (by kernel_rfl) (by kernel_rfl) (by kernel_rfl) (fun _ _ _ h => h) (Or.inl ⟨by rfl, ?_⟩) hS0 ?_
                      rotate_left
                      · intro w' hS'
                        go_simp
                        (try with_reducible rfl)
                      simp only [Act.put, List.setIfInBounds_toArray, List.set_cons_zero, List.set_cons_succ]
                      refine h_one (i := 2) (by kernel_rfl) rfl (fun K hK => ?_)
                      go_simp
                      (with_reducible refine Calls.mono (C2.out _ hS0) ?_)
                      rintro e w3 ⟨rfl, hb3⟩
                      have hS1 : Below wr.heap.size wr w3 := hS0.trans (hb3.mono hS0.size)
                      go_wp2_with fail
                      refine hK.out _ _ hS1 ?_
                      clear hK K hb3 hS0
                      have H3 := Aside0.mk (HR4.out.1.trans (hS1.mono HR4.out.1.size))
                      refine h_take (i := 3) (v := ?_) rfl (by kernel_rfl) (by kernel_rfl) (by kernel_rfl) (fun _ _ _ h => h) (Or.inl ⟨by rfl, ?_⟩) hS1 ?_
                      rotate_left
                      · intro w' hS'
                        go_simp
                        (try with_reducible rfl)
                      simp only [Act.put, List.setIfInBounds_toArray, List.set_cons_zero, List.set_cons_succ]
                      refine h_take (i := 4) (v := ?_) rfl (by kernel_rfl) (by kernel_rfl) (by kernel_rfl) (fun _ _ _ h => h) (Or.inl ⟨by rfl, ?_⟩) hS1 ?_
                      rotate_left
                      · intro w' hS'
                        go_simp
                        (try with_reducible rfl)
                      simp only [Act.put, List.setIfInBounds_toArray, List.set_cons_zero, List.set_cons_succ]
                      refine h_take (i := 5) (v := ?_) rfl (by kernel_rfl) (by kernel_rfl) (by kernel_rfl) (fun _ _ _ h => h) (Or.inl ⟨by rfl, ?_⟩) hS1 ?_
                      rotate_left
                      · intro w' hS'
                        go_simp
                        (try with_reducible rfl)
                      simp only [Act.put, List.setIfInBounds_toArray, List.set_cons_zero, List.set_cons_succ]
                      refine h_take (i := 6) (v := ?_) rfl (by kernel_rfl) (by kernel_rfl) (by kernel_rfl) (fun _ _ _ h => h) (Or.inl ⟨by rfl, ?_⟩) hS1 ?_
                      rotate_left
                      · intro w' hS'
                        go_simp
                        (try with_reducible rfl)
                      simp only [Act.put, List.setIfInBounds_toArray, List.set_cons_zero, List.set_cons_succ]
                      refine h_take (i := 7) (v := ?_) rfl (by kernel_rfl) (by kernel_rfl) (by kernel_rfl) (fun _ _ _ h => h) (Or.inl ⟨by rfl, ?_⟩) hS1 ?_
                      rotate_left
                      · intro w' hS'
                        go_simp
                        (try with_reducible rfl)
                      simp only [Act.put, List.setIfInBounds_toArray, List.set_cons_zero, List.set_cons_succ]
                      refine h_take (i := 8) (v := ?_) rfl (by kernel_rfl) (by kernel_rfl) (by kernel_rfl) (fun _ _ _ h => h) (Or.inl ⟨by rfl, ?_⟩) hS1 ?_
                      rotate_left
                      · intro w' hS'
                        obtain ⟨z0, z1⟩ := stepZ.out w' hS'
                        go_simp
                        (try with_reducible rfl)
                      simp only [Act.put, List.setIfInBounds_toArray, List.set_cons_zero, List.set_cons_succ]
                      refine h_take (i := 9) (v := ?_) rfl (by kernel_rfl) (by kernel_rfl) (by kernel_rfl) (fun _ _ _ h => h) (Or.inl ⟨by rfl, ?_⟩) hS1 ?_
                      rotate_left
                      · intro w' hS'
                        go_simp
                        (try with_reducible rfl)
                      simp only [Act.put, List.setIfInBounds_toArray, List.set_cons_zero, List.set_cons_succ]
                      refine h_take (i := 10) (v := ?_) rfl (by kernel_rfl) (by kernel_rfl) (by kernel_rfl) (fun _ _ _ h => h) (Or.inl ⟨by rfl, ?_⟩) hS1 ?_
                      rotate_left
                      · intro w' hS'
                        go_simp
                        (try with_reducible rfl)
                      simp only [Act.put, List.setIfInBounds_toArray, List.set_cons_zero, List.set_cons_succ]
                      refine h_take (i := 11) (v := ?_) rfl (by kernel_rfl) (by kernel_rfl) (by kernel_rfl) (fun _ _ _ h => h) (Or.inl ⟨by rfl, ?_⟩) hS1 ?_
                      rotate_left
                      · intro w' hS'
                        go_simp
                        (try with_reducible rfl)
                      simp only [Act.put, List.setIfInBounds_toArray, List.set_cons_zero, List.set_cons_succ]
                      refine h_take (i := 12) (v := ?_) rfl (by kernel_rfl) (by kernel_rfl) (by kernel_rfl) (fun _ _ _ h => h) (Or.inl ⟨by rfl, ?_⟩) hS1 ?_
                      rotate_left
                      · intro w' hS'
                        go_simp
                        (try with_reducible rfl)
                      simp only [Act.put, List.setIfInBounds_toArray, List.set_cons_zero, List.set_cons_succ]
                      refine h_take (i := 13) (v := ?_) rfl (by kernel_rfl) (by kernel_rfl) (by kernel_rfl) (fun _ _ _ h => h) (Or.inl ⟨by rfl, ?_⟩) hS1 ?_
                      rotate_left
                      · intro w' hS'
                        go_simp
                        (try with_reducible rfl)
                      simp only [Act.put, List.setIfInBounds_toArray, List.set_cons_zero, List.set_cons_succ]
                      refine h_take (i := 14) (v := ?_) rfl (by kernel_rfl) (by kernel_rfl) (by kernel_rfl) (fun _ _ _ h => h) (Or.inl ⟨by rfl, ?_⟩) hS1 ?_
                      rotate_left
                      · intro w' hS'
                        obtain ⟨z0, z1⟩ := stepZ.out w' hS'
                        go_simp
                        (try with_reducible rfl)
                      simp only [Act.put, List.setIfInBounds_toArray, List.set_cons_zero, List.set_cons_succ]
                      refine h_take (i := 15) (v := ?_) rfl (by kernel_rfl) (by kernel_rfl) (by kernel_rfl) (fun _ _ _ h => h) (Or.inl ⟨by rfl, ?_⟩) hS1 ?_
                      rotate_left
                      · intro w' hS'
                        go_simp
                        (try with_reducible rfl)
                      simp only [Act.put, List.setIfInBounds_toArray, List.set_cons_zero, List.set_cons_succ]
                      refine h_take (i := 16) (v := ?_) rfl (by kernel_rfl) (by kernel_rfl) (by kernel_rfl) (fun _ _ _ h => h) (Or.inl ⟨by rfl, ?_⟩) hS1 ?_
                      rotate_left
                      · intro w' hS'
                        go_simp
                        (try with_reducible rfl)
                      simp only [Act.put, List.setIfInBounds_toArray, List.set_cons_zero, List.set_cons_succ]
                      refine h_take (i := 17) (v := ?_) rfl (by kernel_rfl) (by kernel_rfl) (by kernel_rfl) (fun _ _ _ h => h) (Or.inl ⟨by rfl, ?_⟩) hS1 ?_
                      rotate_left
                      · intro w' hS'
                        go_simp
                        (try with_reducible rfl)
                      simp only [Act.put, List.setIfInBounds_toArray, List.set_cons_zero, List.set_cons_succ]
                      refine h_take (i := 18) (v := ?_) rfl (by kernel_rfl) (by kernel_rfl) (by kernel_rfl) (fun _ _ _ h => h) (Or.inl ⟨by rfl, ?_⟩) hS1 ?_
                      rotate_left
                      · intro w' hS'
                        go_simp
                        (try with_reducible rfl)
                      simp only [Act.put, List.setIfInBounds_toArray, List.set_cons_zero, List.set_cons_succ]
                      refine h_take (i := 19) (v := ?_) rfl (by kernel_rfl) (by kernel_rfl) (by kernel_rfl) (fun _ _ _ h => h) (Or.inl ⟨by rfl, ?_⟩) hS1 ?_
                      rotate_left
                      · intro w' hS'
                        go_simp
                        (try with_reducible rfl)
                      simp only [Act.put, List.setIfInBounds_toArray, List.set_cons_zero, List.set_cons_succ]
                      refine h_take (i := 20) (v := undef) rfl (by kernel_rfl) (by kernel_rfl) (by kernel_rfl) (fun _ _ _ h => h) (Or.inr ⟨by rfl, rfl⟩) hS1 ?_
                      simp only [Act.put, List.setIfInBounds_toArray, List.set_cons_zero, List.set_cons_succ]
                      refine h_take (i := 21) (v := undef) rfl (by kernel_rfl) (by kernel_rfl) (by kernel_rfl) (fun _ _ _ h => h) (Or.inr ⟨by rfl, rfl⟩) hS1 ?_
                      simp only [Act.put, List.setIfInBounds_toArray, List.set_cons_zero, List.set_cons_succ]
                      refine h_take (i := 22) (v := undef) rfl (by kernel_rfl) (by kernel_rfl) (by kernel_rfl) (fun _ _ _ h => h) (Or.inr ⟨by rfl, rfl⟩) hS1 ?_
                      simp only [Act.put, List.setIfInBounds_toArray, List.set_cons_zero, List.set_cons_succ]
                      refine h_take (i := 23) (v := undef) rfl (by kernel_rfl) (by kernel_rfl) (by kernel_rfl) (fun _ _ _ h => h) (Or.inr ⟨by rfl, rfl⟩) hS1 ?_
                      simp only [Act.put, List.setIfInBounds_toArray, List.set_cons_zero, List.set_cons_succ]
                      refine h_take (i := 24) (v := undef) rfl (by kernel_rfl) (by kernel_rfl) (by kernel_rfl) (fun _ _ _ h => h) (Or.inr ⟨by rfl, rfl⟩) hS1 ?_
                      simp only [Act.put, List.setIfInBounds_toArray, List.set_cons_zero, List.set_cons_succ]
                      refine h_take (i := 25) (v := undef) rfl (by kernel_rfl) (by kernel_rfl) (by kernel_rfl) (fun _ _ _ h => h) (Or.inr ⟨by rfl, rfl⟩) hS1 ?_
                      simp only [Act.put, List.setIfInBounds_toArray, List.set_cons_zero, List.set_cons_succ]
                      refine h_take (i := 26) (v := undef) rfl (by kernel_rfl) (by kernel_rfl) (by kernel_rfl) (fun _ _ _ h => h) (Or.inr ⟨by rfl, rfl⟩) hS1 ?_
                      simp only [Act.put, List.setIfInBounds_toArray, List.set_cons_zero, List.set_cons_succ]
                      refine h_take (i := 27) (v := undef) rfl (by kernel_rfl) (by kernel_rfl) (by kernel_rfl) (fun _ _ _ h => h) (Or.inr ⟨by rfl, rfl⟩) hS1 ?_
                      simp only [Act.put, List.setIfInBounds_toArray, List.set_cons_zero, List.set_cons_succ]
                      refine h_take (i := 28) (v := undef) rfl (by kernel_rfl) (by kernel_rfl) (by kernel_rfl) (fun _ _ _ h => h) (Or.inr ⟨by rfl, rfl⟩) hS1 ?_
                      simp only [Act.put, List.setIfInBounds_toArray, List.set_cons_zero, List.set_cons_succ]
                      refine h_take (i := 29) (v := undef) rfl (by kernel_rfl) (by kernel_rfl) (by kernel_rfl) (fun _ _ _ h => h) (Or.inr ⟨by rfl, rfl⟩) hS1 ?_
                      simp only [Act.put, List.setIfInBounds_toArray, List.set_cons_zero, List.set_cons_succ]
                      refine h_take (i := 30) (v := undef) rfl (by kernel_rfl) (by kernel_rfl) (by kernel_rfl) (fun _ _ _ h => h) (Or.inr ⟨by rfl, rfl⟩) hS1 ?_
                      simp only [Act.put, List.setIfInBounds_toArray, List.set_cons_zero, List.set_cons_succ]
                      refine h_take (i := 31) (v := undef) rfl (by kernel_rfl) (by kernel_rfl) (by kernel_rfl) (fun _ _ _ h => h) (Or.inr ⟨by rfl, rfl⟩) hS1 ?_
                      simp only [Act.put, List.setIfInBounds_toArray, List.set_cons_zero, List.set_cons_succ]
                      refine h_take (i := 32) (v := undef) rfl (by kernel_rfl) (by kernel_rfl) (by kernel_rfl) (fun _ _ _ h => h) (Or.inr ⟨by rfl, rfl⟩) hS1 ?_
                      simp only [Act.put, List.setIfInBounds_toArray, List.set_cons_zero, List.set_cons_succ]
                      refine h_take (i := 33) (v := undef) rfl (by kernel_rfl) (by kernel_rfl) (by kernel_rfl) (fun _ _ _ h => h) (Or.inr ⟨by rfl, rfl⟩) hS1 ?_
                      simp only [Act.put, List.setIfInBounds_toArray, List.set_cons_zero, List.set_cons_succ]
                      refine h_take (i := 34) (v := undef) rfl (by kernel_rfl) (by kernel_rfl) (by kernel_rfl) (fun _ _ _ h => h) (Or.inr ⟨by rfl, rfl⟩) hS1 ?_
                      simp only [Act.put, List.setIfInBounds_toArray, List.set_cons_zero, List.set_cons_succ]
                      refine h_take (i := 35) (v := undef) rfl (by kernel_rfl) (by kernel_rfl) (by kernel_rfl) (fun _ _ _ h => h) (Or.inr ⟨by rfl, rfl⟩) hS1 ?_
                      simp only [Act.put, List.setIfInBounds_toArray, List.set_cons_zero, List.set_cons_succ]
                      refine h_take (i := 36) (v := undef) rfl (by kernel_rfl) (by kernel_rfl) (by kernel_rfl) (fun _ _ _ h => h) (Or.inr ⟨by rfl, rfl⟩) hS1 ?_
                      simp only [Act.put, List.setIfInBounds_toArray, List.set_cons_zero, List.set_cons_succ]
                      refine h_take (i := 37) (v := undef) rfl (by kernel_rfl) (by kernel_rfl) (by kernel_rfl) (fun _ _ _ h => h) (Or.inr ⟨by rfl, rfl⟩) hS1 ?_
                      simp only [Act.put, List.setIfInBounds_toArray, List.set_cons_zero, List.set_cons_succ]
                      refine h_take (i := 38) (v := ?_) rfl (by kernel_rfl) (by kernel_rfl) (by kernel_rfl) (fun _ _ _ h => h) (Or.inl ⟨by rfl, ?_⟩) hS1 ?_
                      rotate_left
                      · intro w' hS'
                        go_simp
                        (try with_reducible rfl)
                      simp only [Act.put, List.setIfInBounds_toArray, List.set_cons_zero, List.set_cons_succ]
                      refine h_done (by kernel_rfl) ?_
                      clear stepS stepZ hS1
                      all_goals (go_wp2_with fail; go_ret; rw [HF.out]; exact ⟨rfl, H1.out.1.trans (H3.out.mono H1.out.1.size)⟩)
                  · obtain ⟨g1, g2⟩ := HRG.out rfl hm
                    obtain ⟨rn', rfl⟩ : ∃ rn' : Nat, r' = (rn' : Int) := ⟨r'.toNat, by omega⟩
                    have hrn' : rn' < rs.length := by omega
                    obtain ⟨ad3, A1', c1', e4, r0', _⟩ := rule_at HRS.out rn' hrn'
                    have HRU' : Aside0 (ruOf rs (rn' : Int) = rs[rn']) := ⟨ruOf_at rs rn' hrn'⟩
                    rw [HRU'.out] at HSO
                    generalize rs[rn'] = ru' at *
                    obtain ⟨rl', rt', rv', ra'⟩ := ru'
                    simp only at r0' HSO
                    cases e4
                    have HLF := Aside0.mk r0'
                    have hin4 : (rn' : Int) < (rs.length : Int) := by omega
                    have t4 : ((rn' : Int) == -1) = false := beq_eq_false_iff_ne.2 hm
                    have t5 : decide ((rn' : Int) = -1) = false := decide_eq_false hm
                    clear r0'
                    by_cases hlx : rl' = x
                    · subst hlx
                      have HSO : Aside0 ((kids.drop i).chk t rs (rt.drop i) = (kids.drop (i + 1)).chk t rs (rt.drop (i + 1))) := ⟨by rw [HSO.out, decide_eq_false hm]; simp⟩
                      clear hm g1 g2
                      have hS0 : Below wr.heap.size wr wr.drew := below_drew1 (Below.refl _ _)
                      have HB9 := Aside0.mk (H1.out.2.trans (HR4.out.1.mono H1.out.2.size))
                      have stepS := Aside0.mk (fun (w' : World) (hS' : Below wr.heap.size wr w') => (⟨(HSd.out.move hS' HSd.out.lt).c 0 rfl, (HSd.out.move hS' HSd.out.lt).c 1 rfl, (HSd.out.move hS' HSd.out.lt).c 2 rfl, (HSd.out.move hS' HSd.out.lt).c 3 rfl, (HSd.out.move hS' HSd.out.lt).c 4 rfl, (HSd.out.move hS' HSd.out.lt).c 5 rfl, (HSd.out.move hS' HSd.out.lt).c 6 rfl, (HSd.out.move hS' HSd.out.lt).c 7 rfl⟩ : _ ∧ _ ∧ _ ∧ _ ∧ _ ∧ _ ∧ _ ∧ _))
                      have stepZ := Aside0.mk (fun (w' : World) (hS' : Below wr.heap.size wr w') => And.intro (HKN.out.move (HB9.out.trans (hS'.mono HB9.out.size)) HKN.out.lt).c0 (HKN.out.move (HB9.out.trans (hS'.mono HB9.out.size)) HKN.out.lt).c1)
                      have stepL := Aside0.mk (fun (w' : World) (hS' : Below wr.heap.size wr w') => pw_cell_below (HB9.out.trans (hS'.mono HB9.out.size)) HLF.out)
                      clear s0 s1 s2 s3 s4 s5 s6 s7
                      refine h_begin (fun w' => Below wr.heap.size wr w') (by kernel_rfl) ?_
                      refine h_take (i := 0) (v := ?_) rfl (by kernel_rfl) (by kernel_rfl) (by kernel_rfl) (fun _ _ _ h => h) (Or.inl ⟨by rfl, ?_⟩) hS0 ?_
                      rotate_left
                      · intro w' hS'
                        obtain ⟨s0, s1, s2, s3, s4, s5, s6, s7⟩ := stepS.out w' hS'
                        go_simp
                        (try with_reducible rfl)
                      simp only [Act.put, List.setIfInBounds_toArray, List.set_cons_zero, List.set_cons_succ]
                      refine h_take (i := 1) (v := ?_) rfl (by kernel_rfl) (by kernel_rfl) (by kernel_rfl) (fun _ _ _ h => h) (Or.inl ⟨by rfl, ?_⟩) hS0 ?_
                      rotate_left
                      · intro w' hS'
                        go_simp
                        (try with_reducible rfl)
                      simp only [Act.put, List.setIfInBounds_toArray, List.set_cons_zero, List.set_cons_succ]
                      refine h_one (i := 2) (by kernel_rfl) rfl (fun K hK => ?_)
                      go_simp
                      (with_reducible refine Calls.mono (C2.out _ hS0) ?_)
                      rintro e w3 ⟨rfl, hb3⟩
                      have hS1 : Below wr.heap.size wr w3 := hS0.trans (hb3.mono hS0.size)
                      go_wp2_with fail
                      refine hK.out _ _ hS1 ?_
                      clear hK K hb3 hS0
                      have H3 := Aside0.mk (HR4.out.1.trans (hS1.mono HR4.out.1.size))
                      refine h_take (i := 3) (v := ?_) rfl (by kernel_rfl) (by kernel_rfl) (by kernel_rfl) (fun _ _ _ h => h) (Or.inl ⟨by rfl, ?_⟩) hS1 ?_
                      rotate_left
                      · intro w' hS'
                        go_simp
                        (try with_reducible rfl)
                      simp only [Act.put, List.setIfInBounds_toArray, List.set_cons_zero, List.set_cons_succ]
                      refine h_take (i := 4) (v := ?_) rfl (by kernel_rfl) (by kernel_rfl) (by kernel_rfl) (fun _ _ _ h => h) (Or.inl ⟨by rfl, ?_⟩) hS1 ?_
                      rotate_left
                      · intro w' hS'
                        go_simp
                        (try with_reducible rfl)
                      simp only [Act.put, List.setIfInBounds_toArray, List.set_cons_zero, List.set_cons_succ]
                      refine h_take (i := 5) (v := ?_) rfl (by kernel_rfl) (by kernel_rfl) (by kernel_rfl) (fun _ _ _ h => h) (Or.inl ⟨by rfl, ?_⟩) hS1 ?_
                      rotate_left
                      · intro w' hS'
                        go_simp
                        (try with_reducible rfl)
                      simp only [Act.put, List.setIfInBounds_toArray, List.set_cons_zero, List.set_cons_succ]
                      refine h_take (i := 6) (v := ?_) rfl (by kernel_rfl) (by kernel_rfl) (by kernel_rfl) (fun _ _ _ h => h) (Or.inl ⟨by rfl, ?_⟩) hS1 ?_
                      rotate_left
                      · intro w' hS'
                        go_simp
                        (try with_reducible rfl)
                      simp only [Act.put, List.setIfInBounds_toArray, List.set_cons_zero, List.set_cons_succ]
                      refine h_take (i := 7) (v := ?_) rfl (by kernel_rfl) (by kernel_rfl) (by kernel_rfl) (fun _ _ _ h => h) (Or.inl ⟨by rfl, ?_⟩) hS1 ?_
                      rotate_left
                      · intro w' hS'
                        go_simp
                        (try with_reducible rfl)
                      simp only [Act.put, List.setIfInBounds_toArray, List.set_cons_zero, List.set_cons_succ]
                      refine h_take (i := 8) (v := ?_) rfl (by kernel_rfl) (by kernel_rfl) (by kernel_rfl) (fun _ _ _ h => h) (Or.inl ⟨by rfl, ?_⟩) hS1 ?_
                      rotate_left
                      · intro w' hS'
                        obtain ⟨z0, z1⟩ := stepZ.out w' hS'
                        go_simp
                        (try with_reducible rfl)
                      simp only [Act.put, List.setIfInBounds_toArray, List.set_cons_zero, List.set_cons_succ]
                      refine h_take (i := 9) (v := ?_) rfl (by kernel_rfl) (by kernel_rfl) (by kernel_rfl) (fun _ _ _ h => h) (Or.inl ⟨by rfl, ?_⟩) hS1 ?_
                      rotate_left
                      · intro w' hS'
                        go_simp
                        (try with_reducible rfl)
                      simp only [Act.put, List.setIfInBounds_toArray, List.set_cons_zero, List.set_cons_succ]
                      refine h_take (i := 10) (v := ?_) rfl (by kernel_rfl) (by kernel_rfl) (by kernel_rfl) (fun _ _ _ h => h) (Or.inl ⟨by rfl, ?_⟩) hS1 ?_
                      rotate_left
                      · intro w' hS'
                        go_simp
                        (try with_reducible rfl)
                      simp only [Act.put, List.setIfInBounds_toArray, List.set_cons_zero, List.set_cons_succ]
                      refine h_take (i := 11) (v := undef) rfl (by kernel_rfl) (by kernel_rfl) (by kernel_rfl) (fun _ _ _ h => h) (Or.inr ⟨by rfl, rfl⟩) hS1 ?_
                      simp only [Act.put, List.setIfInBounds_toArray, List.set_cons_zero, List.set_cons_succ]
                      refine h_take (i := 12) (v := undef) rfl (by kernel_rfl) (by kernel_rfl) (by kernel_rfl) (fun _ _ _ h => h) (Or.inr ⟨by rfl, rfl⟩) hS1 ?_
                      simp only [Act.put, List.setIfInBounds_toArray, List.set_cons_zero, List.set_cons_succ]
                      refine h_take (i := 13) (v := undef) rfl (by kernel_rfl) (by kernel_rfl) (by kernel_rfl) (fun _ _ _ h => h) (Or.inr ⟨by rfl, rfl⟩) hS1 ?_
                      simp only [Act.put, List.setIfInBounds_toArray, List.set_cons_zero, List.set_cons_succ]
                      refine h_take (i := 14) (v := undef) rfl (by kernel_rfl) (by kernel_rfl) (by kernel_rfl) (fun _ _ _ h => h) (Or.inr ⟨by rfl, rfl⟩) hS1 ?_
                      simp only [Act.put, List.setIfInBounds_toArray, List.set_cons_zero, List.set_cons_succ]
                      refine h_take (i := 15) (v := undef) rfl (by kernel_rfl) (by kernel_rfl) (by kernel_rfl) (fun _ _ _ h => h) (Or.inr ⟨by rfl, rfl⟩) hS1 ?_
                      simp only [Act.put, List.setIfInBounds_toArray, List.set_cons_zero, List.set_cons_succ]
                      refine h_take (i := 16) (v := undef) rfl (by kernel_rfl) (by kernel_rfl) (by kernel_rfl) (fun _ _ _ h => h) (Or.inr ⟨by rfl, rfl⟩) hS1 ?_
                      simp only [Act.put, List.setIfInBounds_toArray, List.set_cons_zero, List.set_cons_succ]
                      refine h_take (i := 17) (v := ?_) rfl (by kernel_rfl) (by kernel_rfl) (by kernel_rfl) (fun _ _ _ h => h) (Or.inl ⟨by rfl, ?_⟩) hS1 ?_
                      rotate_left
                      · intro w' hS'
                        go_simp
                        (try with_reducible rfl)
                      simp only [Act.put, List.setIfInBounds_toArray, List.set_cons_zero, List.set_cons_succ]
                      refine h_take (i := 18) (v := ?_) rfl (by kernel_rfl) (by kernel_rfl) (by kernel_rfl) (fun _ _ _ h => h) (Or.inl ⟨by rfl, ?_⟩) hS1 ?_
                      rotate_left
                      · intro w' hS'
                        go_simp
                        (try with_reducible rfl)
                      simp only [Act.put, List.setIfInBounds_toArray, List.set_cons_zero, List.set_cons_succ]
                      refine h_take (i := 19) (v := ?_) rfl (by kernel_rfl) (by kernel_rfl) (by kernel_rfl) (fun _ _ _ h => h) (Or.inl ⟨by rfl, ?_⟩) hS1 ?_
                      rotate_left
                      · intro w' hS'
                        go_simp
                        (try with_reducible rfl)
                      simp only [Act.put, List.setIfInBounds_toArray, List.set_cons_zero, List.set_cons_succ]
                      refine h_take (i := 20) (v := ?_) rfl (by kernel_rfl) (by kernel_rfl) (by kernel_rfl) (fun _ _ _ h => h) (Or.inl ⟨by rfl, ?_⟩) hS1 ?_
                      rotate_left
                      · intro w' hS'
                        go_simp
                        (try with_reducible rfl)
                      simp only [Act.put, List.setIfInBounds_toArray, List.set_cons_zero, List.set_cons_succ]
                      refine h_take (i := 21) (v := ?_) rfl (by kernel_rfl) (by kernel_rfl) (by kernel_rfl) (fun _ _ _ h => h) (Or.inl ⟨by rfl, ?_⟩) hS1 ?_
                      rotate_left
                      · intro w' hS'
                        go_simp
                        (try with_reducible rfl)
                      simp only [Act.put, List.setIfInBounds_toArray, List.set_cons_zero, List.set_cons_succ]
                      refine h_take (i := 22) (v := ?_) rfl (by kernel_rfl) (by kernel_rfl) (by kernel_rfl) (fun _ _ _ h => h) (Or.inl ⟨by rfl, ?_⟩) hS1 ?_
                      rotate_left
                      · intro w' hS'
                        go_simp
                        (try with_reducible rfl)
                      simp only [Act.put, List.setIfInBounds_toArray, List.set_cons_zero, List.set_cons_succ]
                      refine h_take (i := 23) (v := ?_) rfl (by kernel_rfl) (by kernel_rfl) (by kernel_rfl) (fun _ _ _ h => h) (Or.inl ⟨by rfl, ?_⟩) hS1 ?_
                      rotate_left
                      · intro w' hS'
                        obtain ⟨z0, z1⟩ := stepZ.out w' hS'
                        go_simp
                        (try with_reducible rfl)
                      simp only [Act.put, List.setIfInBounds_toArray, List.set_cons_zero, List.set_cons_succ]
                      refine h_take (i := 24) (v := ?_) rfl (by kernel_rfl) (by kernel_rfl) (by kernel_rfl) (fun _ _ _ h => h) (Or.inl ⟨by rfl, ?_⟩) hS1 ?_
                      rotate_left
                      · intro w' hS'
                        go_simp
                        (try with_reducible rfl)
                      simp only [Act.put, List.setIfInBounds_toArray, List.set_cons_zero, List.set_cons_succ]
                      refine h_take (i := 25) (v := ?_) rfl (by kernel_rfl) (by kernel_rfl) (by kernel_rfl) (fun _ _ _ h => h) (Or.inl ⟨by rfl, ?_⟩) hS1 ?_
                      rotate_left
                      · intro w' hS'
                        go_simp
                        (try with_reducible rfl)
                      simp only [Act.put, List.setIfInBounds_toArray, List.set_cons_zero, List.set_cons_succ]
                      refine h_take (i := 26) (v := ?_) rfl (by kernel_rfl) (by kernel_rfl) (by kernel_rfl) (fun _ _ _ h => h) (Or.inl ⟨by rfl, ?_⟩) hS1 ?_
                      rotate_left
                      · intro w' hS'
                        go_simp
                        (try with_reducible rfl)
                      simp only [Act.put, List.setIfInBounds_toArray, List.set_cons_zero, List.set_cons_succ]
                      refine h_take (i := 27) (v := ?_) rfl (by kernel_rfl) (by kernel_rfl) (by kernel_rfl) (fun _ _ _ h => h) (Or.inl ⟨by rfl, ?_⟩) hS1 ?_
                      rotate_left
                      · intro w' hS'
                        obtain ⟨s0, s1, s2, s3, s4, s5, s6, s7⟩ := stepS.out w' hS'
                        go_simp
                        (try with_reducible rfl)
                      simp only [Act.put, List.setIfInBounds_toArray, List.set_cons_zero, List.set_cons_succ]
                      refine h_take (i := 28) (v := ?_) rfl (by kernel_rfl) (by kernel_rfl) (by kernel_rfl) (fun _ _ _ h => h) (Or.inl ⟨by rfl, ?_⟩) hS1 ?_
                      rotate_left
                      · intro w' hS'
                        go_simp
                        (try with_reducible rfl)
                      simp only [Act.put, List.setIfInBounds_toArray, List.set_cons_zero, List.set_cons_succ]
                      refine h_take (i := 29) (v := ?_) rfl (by kernel_rfl) (by kernel_rfl) (by kernel_rfl) (fun _ _ _ h => h) (Or.inl ⟨by rfl, ?_⟩) hS1 ?_
                      rotate_left
                      · intro w' hS'
                        go_simp
                        (try with_reducible rfl)
                      simp only [Act.put, List.setIfInBounds_toArray, List.set_cons_zero, List.set_cons_succ]
                      refine h_take (i := 30) (v := ?_) rfl (by kernel_rfl) (by kernel_rfl) (by kernel_rfl) (fun _ _ _ h => h) (Or.inl ⟨by rfl, ?_⟩) hS1 ?_
                      rotate_left
                      · intro w' hS'
                        go_simp
                        (try with_reducible rfl)
                      simp only [Act.put, List.setIfInBounds_toArray, List.set_cons_zero, List.set_cons_succ]
                      refine h_take (i := 31) (v := ?_) rfl (by kernel_rfl) (by kernel_rfl) (by kernel_rfl) (fun _ _ _ h => h) (Or.inl ⟨by rfl, ?_⟩) hS1 ?_
                      rotate_left
                      · intro w' hS'
                        obtain ⟨z0, z1⟩ := stepZ.out w' hS'
                        go_simp
                        (try with_reducible rfl)
                      simp only [Act.put, List.setIfInBounds_toArray, List.set_cons_zero, List.set_cons_succ]
                      refine h_take (i := 32) (v := ?_) rfl (by kernel_rfl) (by kernel_rfl) (by kernel_rfl) (fun _ _ _ h => h) (Or.inl ⟨by rfl, ?_⟩) hS1 ?_
                      rotate_left
                      · intro w' hS'
                        go_simp
                        (try with_reducible rfl)
                      simp only [Act.put, List.setIfInBounds_toArray, List.set_cons_zero, List.set_cons_succ]
                      refine h_take (i := 33) (v := ?_) rfl (by kernel_rfl) (by kernel_rfl) (by kernel_rfl) (fun _ _ _ h => h) (Or.inl ⟨by rfl, ?_⟩) hS1 ?_
                      rotate_left
                      · intro w' hS'
                        go_simp
                        (try with_reducible rfl)
                      simp only [Act.put, List.setIfInBounds_toArray, List.set_cons_zero, List.set_cons_succ]
                      refine h_take (i := 34) (v := ?_) rfl (by kernel_rfl) (by kernel_rfl) (by kernel_rfl) (fun _ _ _ h => h) (Or.inl ⟨by rfl, ?_⟩) hS1 ?_
                      rotate_left
                      · intro w' hS'
                        have l0 := stepL.out w' hS'
                        go_simp
                        (try with_reducible rfl)
                      simp only [Act.put, List.setIfInBounds_toArray, List.set_cons_zero, List.set_cons_succ]
                      refine h_take (i := 35) (v := ?_) rfl (by kernel_rfl) (by kernel_rfl) (by kernel_rfl) (fun _ _ _ h => h) (Or.inl ⟨by rfl, ?_⟩) hS1 ?_
                      rotate_left
                      · intro w' hS'
                        go_simp
                        (try with_reducible rfl)
                      simp only [Act.put, List.setIfInBounds_toArray, List.set_cons_zero, List.set_cons_succ]
                      refine h_take (i := 36) (v := ?_) rfl (by kernel_rfl) (by kernel_rfl) (by kernel_rfl) (fun _ _ _ h => h) (Or.inl ⟨by rfl, ?_⟩) hS1 ?_
                      rotate_left
                      · intro w' hS'
                        go_simp
                        (try with_reducible rfl)
                      simp only [Act.put, List.setIfInBounds_toArray, List.set_cons_zero, List.set_cons_succ]
                      refine h_take (i := 37) (v := ?_) rfl (by kernel_rfl) (by kernel_rfl) (by kernel_rfl) (fun _ _ _ h => h) (Or.inl ⟨by rfl, ?_⟩) hS1 ?_
                      rotate_left
                      · intro w' hS'
                        go_simp
                        (try with_reducible rfl)
                      simp only [Act.put, List.setIfInBounds_toArray, List.set_cons_zero, List.set_cons_succ]
                      refine h_take (i := 38) (v := ?_) rfl (by kernel_rfl) (by kernel_rfl) (by kernel_rfl) (fun _ _ _ h => h) (Or.inl ⟨by rfl, ?_⟩) hS1 ?_
                      rotate_left
                      · intro w' hS'
                        go_simp
                        (try with_reducible rfl)
                      simp only [Act.put, List.setIfInBounds_toArray, List.set_cons_zero, List.set_cons_succ]
                      refine h_done (by kernel_rfl) ?_
                      clear stepS stepZ stepL hS1
                      all_goals (go_wp2_with fail; go_roundg (gk - 1); (case measure => have := HI.out; omega); (case rel => exact ⟨i + 1, by have := HI.out; omega, by go_num, H3.out, by rw [HR4.out.2, HSO.out]; simp⟩))
                    · have t3 : (rl' != x) = true := by simpa using hlx
                      have HF : Aside0 (chkT t rs (rn : Int) 0 kids = false) := ⟨by rw [HF0.out, HR4.out.2, HSO.out, decide_eq_false hlx]; simp⟩
                      clear hm g1 g2
                      have hS0 : Below wr.heap.size wr wr.drew := below_drew1 (Below.refl _ _)
                      have HB9 := Aside0.mk (H1.out.2.trans (HR4.out.1.mono H1.out.2.size))
                      have stepS := Aside0.mk (fun (w' : World) (hS' : Below wr.heap.size wr w') => (⟨(HSd.out.move hS' HSd.out.lt).c 0 rfl, (HSd.out.move hS' HSd.out.lt).c 1 rfl, (HSd.out.move hS' HSd.out.lt).c 2 rfl, (HSd.out.move hS' HSd.out.lt).c 3 rfl, (HSd.out.move hS' HSd.out.lt).c 4 rfl, (HSd.out.move hS' HSd.out.lt).c 5 rfl, (HSd.out.move hS' HSd.out.lt).c 6 rfl, (HSd.out.move hS' HSd.out.lt).c 7 rfl⟩ : _ ∧ _ ∧ _ ∧ _ ∧ _ ∧ _ ∧ _ ∧ _))
                      have stepZ := Aside0.mk (fun (w' : World) (hS' : Below wr.heap.size wr w') => And.intro (HKN.out.move (HB9.out.trans (hS'.mono HB9.out.size)) HKN.out.lt).c0 (HKN.out.move (HB9.out.trans (hS'.mono HB9.out.size)) HKN.out.lt).c1)
                      have stepL := Aside0.mk (fun (w' : World) (hS' : Below wr.heap.size wr w') => pw_cell_below (HB9.out.trans (hS'.mono HB9.out.size)) HLF.out)
                      clear s0 s1 s2 s3 s4 s5 s6 s7
                      refine h_begin (fun w' => Below wr.heap.size wr w') (by kernel_rfl) ?_
                      refine h_take (i := 0) (v := ?_) rfl (by kernel_rfl) (by kernel_rfl) (by kernel_rfl) (fun _ _ _ h => h) (Or.inl ⟨by rfl, ?_⟩) hS0 ?_
                      rotate_left
                      · intro w' hS'
                        obtain ⟨s0, s1, s2, s3, s4, s5, s6, s7⟩ := stepS.out w' hS'
                        go_simp
                        (try with_reducible rfl)
                      simp only [Act.put, List.setIfInBounds_toArray, List.set_cons_zero, List.set_cons_succ]
                      refine h_take (i := 1) (v := ?_) rfl (by kernel_rfl) (by kernel_rfl) (by kernel_rfl) (fun _ _ _ h => h) (Or.inl ⟨by rfl, ?_⟩) hS0 ?_
                      rotate_left
                      · intro w' hS'
                        go_simp
                        (try with_reducible rfl)
                      simp only [Act.put, List.setIfInBounds_toArray, List.set_cons_zero, List.set_cons_succ]
                      refine h_one (i := 2) (by kernel_rfl) rfl (fun K hK => ?_)
                      go_simp
                      (with_reducible refine Calls.mono (C2.out _ hS0) ?_)
                      rintro e w3 ⟨rfl, hb3⟩
                      have hS1 : Below wr.heap.size wr w3 := hS0.trans (hb3.mono hS0.size)
                      go_wp2_with fail
                      refine hK.out _ _ hS1 ?_
                      clear hK K hb3 hS0
                      have H3 := Aside0.mk (HR4.out.1.trans (hS1.mono HR4.out.1.size))
                      refine h_take (i := 3) (v := ?_) rfl (by kernel_rfl) (by kernel_rfl) (by kernel_rfl) (fun _ _ _ h => h) (Or.inl ⟨by rfl, ?_⟩) hS1 ?_
                      rotate_left
                      · intro w' hS'
                        go_simp
                        (try with_reducible rfl)
                      simp only [Act.put, List.setIfInBounds_toArray, List.set_cons_zero, List.set_cons_succ]
                      refine h_take (i := 4) (v := ?_) rfl (by kernel_rfl) (by kernel_rfl) (by kernel_rfl) (fun _ _ _ h => h) (Or.inl ⟨by rfl, ?_⟩) hS1 ?_
                      rotate_left
                      · intro w' hS'
                        go_simp
                        (try with_reducible rfl)
                      simp only [Act.put, List.setIfInBounds_toArray, List.set_cons_zero, List.set_cons_succ]
                      refine h_take (i := 5) (v := ?_) rfl (by kernel_rfl) (by kernel_rfl) (by kernel_rfl) (fun _ _ _ h => h) (Or.inl ⟨by rfl, ?_⟩) hS1 ?_
                      rotate_left
                      · intro w' hS'
                        go_simp
                        (try with_reducible rfl)
                      simp only [Act.put, List.setIfInBounds_toArray, List.set_cons_zero, List.set_cons_succ]
                      refine h_take (i := 6) (v := ?_) rfl (by kernel_rfl) (by kernel_rfl) (by kernel_rfl) (fun _ _ _ h => h) (Or.inl ⟨by rfl, ?_⟩) hS1 ?_
                      rotate_left
                      · intro w' hS'
                        go_simp
                        (try with_reducible rfl)
                      simp only [Act.put, List.setIfInBounds_toArray, List.set_cons_zero, List.set_cons_succ]
                      refine h_take (i := 7) (v := ?_) rfl (by kernel_rfl) (by kernel_rfl) (by kernel_rfl) (fun _ _ _ h => h) (Or.inl ⟨by rfl, ?_⟩) hS1 ?_
                      rotate_left
                      · intro w' hS'
                        go_simp
                        (try with_reducible rfl)
                      simp only [Act.put, List.setIfInBounds_toArray, List.set_cons_zero, List.set_cons_succ]
                      refine h_take (i := 8) (v := ?_) rfl (by kernel_rfl) (by kernel_rfl) (by kernel_rfl) (fun _ _ _ h => h) (Or.inl ⟨by rfl, ?_⟩) hS1 ?_
                      rotate_left
                      · intro w' hS'
                        obtain ⟨z0, z1⟩ := stepZ.out w' hS'
                        go_simp
                        (try with_reducible rfl)
                      simp only [Act.put, List.setIfInBounds_toArray, List.set_cons_zero, List.set_cons_succ]
                      refine h_take (i := 9) (v := ?_) rfl (by kernel_rfl) (by kernel_rfl) (by kernel_rfl) (fun _ _ _ h => h) (Or.inl ⟨by rfl, ?_⟩) hS1 ?_
                      rotate_left
                      · intro w' hS'
                        go_simp
                        (try with_reducible rfl)
                      simp only [Act.put, List.setIfInBounds_toArray, List.set_cons_zero, List.set_cons_succ]
                      refine h_take (i := 10) (v := ?_) rfl (by kernel_rfl) (by kernel_rfl) (by kernel_rfl) (fun _ _ _ h => h) (Or.inl ⟨by rfl, ?_⟩) hS1 ?_
                      rotate_left
                      · intro w' hS'
                        go_simp
                        (try with_reducible rfl)
                      simp only [Act.put, List.setIfInBounds_toArray, List.set_cons_zero, List.set_cons_succ]
                      refine h_take (i := 11) (v := undef) rfl (by kernel_rfl) (by kernel_rfl) (by kernel_rfl) (fun _ _ _ h => h) (Or.inr ⟨by rfl, rfl⟩) hS1 ?_
                      simp only [Act.put, List.setIfInBounds_toArray, List.set_cons_zero, List.set_cons_succ]
                      refine h_take (i := 12) (v := undef) rfl (by kernel_rfl) (by kernel_rfl) (by kernel_rfl) (fun _ _ _ h => h) (Or.inr ⟨by rfl, rfl⟩) hS1 ?_
                      simp only [Act.put, List.setIfInBounds_toArray, List.set_cons_zero, List.set_cons_succ]
                      refine h_take (i := 13) (v := undef) rfl (by kernel_rfl) (by kernel_rfl) (by kernel_rfl) (fun _ _ _ h => h) (Or.inr ⟨by rfl, rfl⟩) hS1 ?_
                      simp only [Act.put, List.setIfInBounds_toArray, List.set_cons_zero, List.set_cons_succ]
                      refine h_take (i := 14) (v := undef) rfl (by kernel_rfl) (by kernel_rfl) (by kernel_rfl) (fun _ _ _ h => h) (Or.inr ⟨by rfl, rfl⟩) hS1 ?_
                      simp only [Act.put, List.setIfInBounds_toArray, List.set_cons_zero, List.set_cons_succ]
                      refine h_take (i := 15) (v := undef) rfl (by kernel_rfl) (by kernel_rfl) (by kernel_rfl) (fun _ _ _ h => h) (Or.inr ⟨by rfl, rfl⟩) hS1 ?_
                      simp only [Act.put, List.setIfInBounds_toArray, List.set_cons_zero, List.set_cons_succ]
                      refine h_take (i := 16) (v := undef) rfl (by kernel_rfl) (by kernel_rfl) (by kernel_rfl) (fun _ _ _ h => h) (Or.inr ⟨by rfl, rfl⟩) hS1 ?_
                      simp only [Act.put, List.setIfInBounds_toArray, List.set_cons_zero, List.set_cons_succ]
                      refine h_take (i := 17) (v := ?_) rfl (by kernel_rfl) (by kernel_rfl) (by kernel_rfl) (fun _ _ _ h => h) (Or.inl ⟨by rfl, ?_⟩) hS1 ?_
                      rotate_left
                      · intro w' hS'
                        go_simp
                        (try with_reducible rfl)
                      simp only [Act.put, List.setIfInBounds_toArray, List.set_cons_zero, List.set_cons_succ]
                      refine h_take (i := 18) (v := ?_) rfl (by kernel_rfl) (by kernel_rfl) (by kernel_rfl) (fun _ _ _ h => h) (Or.inl ⟨by rfl, ?_⟩) hS1 ?_
                      rotate_left
                      · intro w' hS'
                        go_simp
                        (try with_reducible rfl)
                      simp only [Act.put, List.setIfInBounds_toArray, List.set_cons_zero, List.set_cons_succ]
                      refine h_take (i := 19) (v := ?_) rfl (by kernel_rfl) (by kernel_rfl) (by kernel_rfl) (fun _ _ _ h => h) (Or.inl ⟨by rfl, ?_⟩) hS1 ?_
                      rotate_left
                      · intro w' hS'
                        go_simp
                        (try with_reducible rfl)
                      simp only [Act.put, List.setIfInBounds_toArray, List.set_cons_zero, List.set_cons_succ]
                      refine h_take (i := 20) (v := ?_) rfl (by kernel_rfl) (by kernel_rfl) (by kernel_rfl) (fun _ _ _ h => h) (Or.inl ⟨by rfl, ?_⟩) hS1 ?_
                      rotate_left
                      · intro w' hS'
                        go_simp
                        (try with_reducible rfl)
                      simp only [Act.put, List.setIfInBounds_toArray, List.set_cons_zero, List.set_cons_succ]
                      refine h_take (i := 21) (v := ?_) rfl (by kernel_rfl) (by kernel_rfl) (by kernel_rfl) (fun _ _ _ h => h) (Or.inl ⟨by rfl, ?_⟩) hS1 ?_
                      rotate_left
                      · intro w' hS'
                        go_simp
                        (try with_reducible rfl)
                      simp only [Act.put, List.setIfInBounds_toArray, List.set_cons_zero, List.set_cons_succ]
                      refine h_take (i := 22) (v := ?_) rfl (by kernel_rfl) (by kernel_rfl) (by kernel_rfl) (fun _ _ _ h => h) (Or.inl ⟨by rfl, ?_⟩) hS1 ?_
                      rotate_left
                      · intro w' hS'
                        go_simp
                        (try with_reducible rfl)
                      simp only [Act.put, List.setIfInBounds_toArray, List.set_cons_zero, List.set_cons_succ]
                      refine h_take (i := 23) (v := ?_) rfl (by kernel_rfl) (by kernel_rfl) (by kernel_rfl) (fun _ _ _ h => h) (Or.inl ⟨by rfl, ?_⟩) hS1 ?_
                      rotate_left
                      · intro w' hS'
                        obtain ⟨z0, z1⟩ := stepZ.out w' hS'
                        go_simp
                        (try with_reducible rfl)
                      simp only [Act.put, List.setIfInBounds_toArray, List.set_cons_zero, List.set_cons_succ]
                      refine h_take (i := 24) (v := ?_) rfl (by kernel_rfl) (by kernel_rfl) (by kernel_rfl) (fun _ _ _ h => h) (Or.inl ⟨by rfl, ?_⟩) hS1 ?_
                      rotate_left
                      · intro w' hS'
                        go_simp
                        (try with_reducible rfl)
                      simp only [Act.put, List.setIfInBounds_toArray, List.set_cons_zero, List.set_cons_succ]
                      refine h_take (i := 25) (v := ?_) rfl (by kernel_rfl) (by kernel_rfl) (by kernel_rfl) (fun _ _ _ h => h) (Or.inl ⟨by rfl, ?_⟩) hS1 ?_
                      rotate_left
                      · intro w' hS'
                        go_simp
                        (try with_reducible rfl)
                      simp only [Act.put, List.setIfInBounds_toArray, List.set_cons_zero, List.set_cons_succ]
                      refine h_take (i := 26) (v := ?_) rfl (by kernel_rfl) (by kernel_rfl) (by kernel_rfl) (fun _ _ _ h => h) (Or.inl ⟨by rfl, ?_⟩) hS1 ?_
                      rotate_left
                      · intro w' hS'
                        go_simp
                        (try with_reducible rfl)
                      simp only [Act.put, List.setIfInBounds_toArray, List.set_cons_zero, List.set_cons_succ]
                      refine h_take (i := 27) (v := ?_) rfl (by kernel_rfl) (by kernel_rfl) (by kernel_rfl) (fun _ _ _ h => h) (Or.inl ⟨by rfl, ?_⟩) hS1 ?_
                      rotate_left
                      · intro w' hS'
                        obtain ⟨s0, s1, s2, s3, s4, s5, s6, s7⟩ := stepS.out w' hS'
                        go_simp
                        (try with_reducible rfl)
                      simp only [Act.put, List.setIfInBounds_toArray, List.set_cons_zero, List.set_cons_succ]
                      refine h_take (i := 28) (v := ?_) rfl (by kernel_rfl) (by kernel_rfl) (by kernel_rfl) (fun _ _ _ h => h) (Or.inl ⟨by rfl, ?_⟩) hS1 ?_
                      rotate_left
                      · intro w' hS'
                        go_simp
                        (try with_reducible rfl)
                      simp only [Act.put, List.setIfInBounds_toArray, List.set_cons_zero, List.set_cons_succ]
                      refine h_take (i := 29) (v := ?_) rfl (by kernel_rfl) (by kernel_rfl) (by kernel_rfl) (fun _ _ _ h => h) (Or.inl ⟨by rfl, ?_⟩) hS1 ?_
                      rotate_left
                      · intro w' hS'
                        go_simp
                        (try with_reducible rfl)
                      simp only [Act.put, List.setIfInBounds_toArray, List.set_cons_zero, List.set_cons_succ]
                      refine h_take (i := 30) (v := ?_) rfl (by kernel_rfl) (by kernel_rfl) (by kernel_rfl) (fun _ _ _ h => h) (Or.inl ⟨by rfl, ?_⟩) hS1 ?_
                      rotate_left
                      · intro w' hS'
                        go_simp
                        (try with_reducible rfl)
                      simp only [Act.put, List.setIfInBounds_toArray, List.set_cons_zero, List.set_cons_succ]
                      refine h_take (i := 31) (v := ?_) rfl (by kernel_rfl) (by kernel_rfl) (by kernel_rfl) (fun _ _ _ h => h) (Or.inl ⟨by rfl, ?_⟩) hS1 ?_
                      rotate_left
                      · intro w' hS'
                        obtain ⟨z0, z1⟩ := stepZ.out w' hS'
                        go_simp
                        (try with_reducible rfl)
                      simp only [Act.put, List.setIfInBounds_toArray, List.set_cons_zero, List.set_cons_succ]
                      refine h_take (i := 32) (v := ?_) rfl (by kernel_rfl) (by kernel_rfl) (by kernel_rfl) (fun _ _ _ h => h) (Or.inl ⟨by rfl, ?_⟩) hS1 ?_
                      rotate_left
                      · intro w' hS'
                        go_simp
                        (try with_reducible rfl)
                      simp only [Act.put, List.setIfInBounds_toArray, List.set_cons_zero, List.set_cons_succ]
                      refine h_take (i := 33) (v := ?_) rfl (by kernel_rfl) (by kernel_rfl) (by kernel_rfl) (fun _ _ _ h => h) (Or.inl ⟨by rfl, ?_⟩) hS1 ?_
                      rotate_left
                      · intro w' hS'
                        go_simp
                        (try with_reducible rfl)
                      simp only [Act.put, List.setIfInBounds_toArray, List.set_cons_zero, List.set_cons_succ]
                      refine h_take (i := 34) (v := ?_) rfl (by kernel_rfl) (by kernel_rfl) (by kernel_rfl) (fun _ _ _ h => h) (Or.inl ⟨by rfl, ?_⟩) hS1 ?_
                      rotate_left
                      · intro w' hS'
                        have l0 := stepL.out w' hS'
                        go_simp
                        (try with_reducible rfl)
                      simp only [Act.put, List.setIfInBounds_toArray, List.set_cons_zero, List.set_cons_succ]
                      refine h_take (i := 35) (v := ?_) rfl (by kernel_rfl) (by kernel_rfl) (by kernel_rfl) (fun _ _ _ h => h) (Or.inl ⟨by rfl, ?_⟩) hS1 ?_
                      rotate_left
                      · intro w' hS'
                        go_simp
                        (try with_reducible rfl)
                      simp only [Act.put, List.setIfInBounds_toArray, List.set_cons_zero, List.set_cons_succ]
                      refine h_take (i := 36) (v := ?_) rfl (by kernel_rfl) (by kernel_rfl) (by kernel_rfl) (fun _ _ _ h => h) (Or.inl ⟨by rfl, ?_⟩) hS1 ?_
                      rotate_left
                      · intro w' hS'
                        go_simp
                        (try with_reducible rfl)
                      simp only [Act.put, List.setIfInBounds_toArray, List.set_cons_zero, List.set_cons_succ]
                      refine h_take (i := 37) (v := ?_) rfl (by kernel_rfl) (by kernel_rfl) (by kernel_rfl) (fun _ _ _ h => h) (Or.inl ⟨by rfl, ?_⟩) hS1 ?_
                      rotate_left
                      · intro w' hS'
                        go_simp
                        (try with_reducible rfl)
                      simp only [Act.put, List.setIfInBounds_toArray, List.set_cons_zero, List.set_cons_succ]
                      refine h_take (i := 38) (v := ?_) rfl (by kernel_rfl) (by kernel_rfl) (by kernel_rfl) (fun _ _ _ h => h) (Or.inl ⟨by rfl, ?_⟩) hS1 ?_
                      rotate_left
                      · intro w' hS'
                        go_simp
                        (try with_reducible rfl)
                      simp only [Act.put, List.setIfInBounds_toArray, List.set_cons_zero, List.set_cons_succ]
                      refine h_done (by kernel_rfl) ?_
                      clear stepS stepZ stepL hS1
                      all_goals (go_wp2_with fail; go_ret; rw [HF.out]; exact ⟨rfl, H1.out.1.trans (H3.out.mono H1.out.1.size)⟩)
              · have t1 : decide ((i : Int) < (qs.length : Int)) = false := by simp; omega
                have HF : Aside0 (chkT t rs (rn : Int) 0 kids = true) := ⟨by
                  have h1 := HK.out.len kids qs
                  have h2 := HI.out
                  rw [HF0.out, HR2.out.2, show i = qs.length by omega, h1]
                  cases rt.drop qs.length <;> rfl⟩
                go_wp2_with fail
                go_ret
                rw [HF.out]
                exact ⟨rfl, H1.out.1.trans (HR2.out.1.mono H1.out.1.size)⟩
          · have t3 : ((qs.length : Int) != (rt.length : Int)) = true := by simpa using (show ¬ (qs.length : Int) = (rt.length : Int) by omega)
            have HF : Aside0 (chkT t rs (rn : Int) 0 kids = false) := ⟨by rw [HE.out, if_pos (.inr (.inr (.inr (by omega))))]⟩
            clear hlen r0 r1 hl1 hrr
            go_quiet (fail)
            go_wp2_with fail
            go_ret
            rw [HF.out]
            exact ⟨rfl, H1.out.1.trans ((O.drawn_below ⟨nq, rfl⟩).mono H1.out.1.size)⟩
        · have t3 : (k != 0) = true := by simpa using hk0
          have HF : Aside0 (chkT t rs r k kids = false) := ⟨by rw [HE.out, if_pos (.inr (.inr (.inl hk0)))]⟩
          clear x2
          go_quiet (fail)
          go_wp2_with fail
          go_ret
          rw [HF.out]
          exact ⟨rfl, H1.out.1.trans ((O.drawn_below ⟨nq, rfl⟩).mono H1.out.1.size)⟩
theorem check_calls (B : World) (t : Nat) (n sq ex : Int) (A4 A5 A6 A7 : Option Addr) (n4 c4 n5 c5 n6 c6 c7 : Nat) (rs : List SR) (hrs : Kd.C kSR B A7 rs.length rs) (f : F) : AllF (CheckC B t n sq ex A4 A5 A6 A7 n4 c4 n5 c5 n6 c6 c7 rs) f := AllF.of (check_node B t n sq ex A4 A5 A6 A7 n4 c4 n5 c5 n6 c6 c7 rs hrs) f
end Go.Proofs.YtjhemobplcelbaaGreatDoor.T
