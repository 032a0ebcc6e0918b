/- tree: the reference's Eq; EqInts. -/
import Derived.Test.YtjhemobplcelbaaGreatDoorTreeM
namespace Go.Proofs.YtjhemobplcelbaaGreatDoor.T
open Go.RowKit Go.Proofs.YtjhemobplcelbaaGreatDoorW.PrintWords Go.Proofs.YtjhemobplcelbaaGreatDoorW.PrintLast Go.Proofs.YtjhemobplcelbaaGreatDoorW.PrintMore
set_option linter.unusedVariables false
set_option linter.unusedSimpArgs false
def EqR (B : World) (r k : Int) (kids : F) : Prop := ∀ (X Y : Nat) (r' k' : Int) (kids' : F), IsF B [X] (.cons r k kids .nil) → IsF B [Y] (.cons r' k' kids' .nil) → ∀ (w : World), Below B.heap.size B w →
  Calls Tryz.prog 27 #[.pointer (some ⟨X, 0, none⟩), .pointer (some ⟨Y, 0, none⟩)] w fun e w' => e = .returned (.bool ((F.cons r k kids .nil).eqB (.cons r' k' kids' .nil))) ∧ ∃ m, w' = w.drewN m
set_option maxRecDepth 100000 in
set_option maxHeartbeats 4000000 in
theorem req_node (B : World) (r k : Int) (kids : F) (ih : AllF (EqR B) kids) : EqR B r k kids := by
  intro X Y r' k' kids' hX hY w hb
  obtain ⟨⟨A, c, ps, hx, hq, hqc, hk⟩, _⟩ := hX
  obtain ⟨⟨A', c', qs, hx', hq', hqc', hk'⟩, _⟩ := hY
  have HIH := Aside0.mk ih
  have HNX := Aside0.mk (Node3.mk (W := B) hx)
  have HNY := Aside0.mk (Node3.mk (W := B) hx')
  have HX := Aside0.mk (HNX.out.move hb HNX.out.lt)
  have HY := Aside0.mk (HNY.out.move hb HNY.out.lt)
  have H1 := Aside0.mk hq
  have H2 := Aside0.mk hk
  have H3 := Aside0.mk hq'
  have H4 := Aside0.mk hk'
  have HB := Aside0.mk hb
  have HL1 := Aside0.mk hk.length
  have HL2 := Aside0.mk hk'.length
  have x0 := HX.out.c0
  have x1 := HX.out.c1
  have x2 := HX.out.c2
  have y0 := HY.out.c0
  have y1 := HY.out.c1
  have y2 := HY.out.c2
  clear ih hx hq hqc hk hx' hq' hqc' hk' hb
  by_cases hr : r = r'
  · subst hr
    by_cases hk : k = k'
    · subst hk
      have HE : Aside0 ((F.cons r k kids .nil).eqB (.cons r k kids' .nil) = kids.eqB kids') := ⟨by simp only [F.eqB]; simp⟩
      by_cases hlen : ps.length = qs.length
      · have HLE := Aside0.mk hlen
        have t0 : ((ps.length : Int) == (qs.length : Int)) = true := by simp [hlen]
        rw [← hlen] at y2
        clear hlen t0
        go_enter Tryz.func27, Tryz.ntmps27
        go_upto_region 3 with fail
        go_quiet (fail)
        have hbd : Below w.heap.size w (w.drewN nq) := drew_below ⟨nq, rfl⟩
        have HD0 : Aside0 (∃ m, w.drewN nq = w.drewN m) := ⟨⟨nq, rfl⟩⟩
        have HB1 := Aside0.mk (HB.out.trans (hbd.mono HB.out.size))
        have HX1 := Aside0.mk (HX.out.move hbd HX.out.lt)
        have HY1 := Aside0.mk (HY.out.move hbd HY.out.lt)
        generalize w.drewN nq = W3 at *
        clear hbd x0 x1 x2 y0 y1
        have x2 := HX1.out.c2
        go_wp2_with fail
        go_loopg [5] ps.length (fun kq v5 w' => QRel w kids kids' ps.length kq v5 w')
        case atStart => exact ⟨0, by omega, rfl, HD0.out, rfl⟩
        case round =>
          obtain ⟨i, hi, rfl, hb, hs⟩ := hrel
          have HI := Aside0.mk hi
          have HR := Aside0.mk (And.intro (drew_below hb) hs)
          have HDR := Aside0.mk hb
          have HXr := Aside0.mk (HX.out.move HR.out.1 HX.out.lt)
          have HYr := Aside0.mk (HY.out.move HR.out.1 HY.out.lt)
          clear hi hb hs x2
          have x2 := HXr.out.c2
          have y2' := HYr.out.c2
          rw [← HLE.out] at y2'
          by_cases hil : i < ps.length
          · have t1 : decide ((i : Int) < (ps.length : Int)) = true := by simp; omega
            have hiq : i < qs.length := by have := HLE.out; omega
            obtain ⟨r1, k1, ks, e1, e2⟩ := H2.out.at_ kids ps i hil
            obtain ⟨r2, k2, ks', e3, e4⟩ := H4.out.at_ kids' qs i hiq
            obtain ⟨ad, rfl, hc⟩ := row_at H1.out i hil
            obtain ⟨bd, rfl, hc'⟩ := row_at H3.out i hiq
            have HBB := Aside0.mk (HB.out.trans (HR.out.1.mono HB.out.size))
            have hc2 := pw_cell_below HBB.out hc
            have hc3 := pw_cell_below HBB.out hc'
            have C : ∀ n, Aside0 (Calls Tryz.prog 27 #[.pointer (some ⟨ps[i], 0, none⟩), .pointer (some ⟨qs[i], 0, none⟩)] (wr.drewN n) fun e w' => e = .returned (.bool ((F.cons r1 k1 ks .nil).eqB (.cons r2 k2 ks' .nil))) ∧ ∃ m, w' = (wr.drewN n).drewN m) := fun n => ⟨HIH.out.at_ kids i e1 ps[i] qs[i] r2 k2 ks' e2 e4 _ (HBB.out.trans ((drew_below ⟨n, rfl⟩).mono HBB.out.size))⟩
            have he := eqB_one r1 k1 r2 k2 ks (kids.drop (i + 1)) ks' (kids'.drop (i + 1))
            rw [← e1, ← e3] at he
            have HSO := Aside0.mk he
            clear e1 e2 e3 e4 hc hc' he
            unfold pv at hc2 hc3
            have hql : ps.length ≤ 9223372036854775807 := H1.out.2.1
            have hin : (i : Int) < (ps.length : Int) := by omega
            generalize (F.cons r1 k1 ks .nil).eqB (.cons r2 k2 ks' .nil) = b at *
            go_upto_region 8 with fail
            go_quiet ((go_at_call 27; exact Calls.quiet_of (C _).out))
            have HB3 : Aside0 (∃ m, wr.drewN nq = w.drewN m) := ⟨drew_trans HDR.out ⟨nq, rfl⟩⟩
            generalize wr.drewN nq = W8 at *
            cases b with
            | true =>
              go_wp2_with fail
              go_roundg (gk - 1)
              case measure => have := HI.out; omega
              case rel => exact ⟨i + 1, by have := HI.out; omega, by go_num, HB3.out, by rw [HR.out.2, HSO.out, Bool.true_and]⟩
            | false =>
              have HF : Aside0 (kids.eqB kids' = false) := ⟨by rw [HR.out.2, HSO.out, Bool.false_and]⟩
              go_wp2_with fail
              go_ret
              rw [HE.out, HF.out]
              exact ⟨rfl, HB3.out⟩
          · have t1 : decide ((i : Int) < (ps.length : Int)) = false := by simp; omega
            have HF : Aside0 (kids.eqB kids' = true) := ⟨by
              have h1 := H2.out.len kids ps
              have h2 := H4.out.len kids' qs
              have h3 := HI.out
              have h4 := HLE.out
              rw [HR.out.2, show i = ps.length by omega, h1, h4, h2]
              rfl⟩
            go_wp2_with fail
            go_ret
            rw [HE.out, HF.out]
            exact ⟨rfl, HDR.out⟩
      · have HF : Aside0 (kids.eqB kids' = false) := ⟨by
          cases h : kids.eqB kids' with
          | false => rfl
          | true =>
            have := (eqB_iff kids kids').1 h
            have h1 := HL1.out
            have h2 := HL2.out
            rw [this] at h1
            omega⟩
        have t0 : ((ps.length : Int) == (qs.length : Int)) = false := by simp; omega
        have t1 : decide ((ps.length : Int) = (qs.length : Int)) = false := by simp; omega
        have t2 : ¬ (ps.length : Int) = (qs.length : Int) := by omega
        go_enter Tryz.func27, Tryz.ntmps27
        go_upto_region 3 with fail
        go_quiet (fail)
        go_wp2_with fail
        go_ret
        rw [HE.out, HF.out]
        exact ⟨rfl, nq, rfl⟩
    · have HE : Aside0 ((F.cons r k kids .nil).eqB (.cons r k' kids' .nil) = false) := ⟨by simp only [F.eqB]; rw [decide_eq_false hk]; simp⟩
      have t3 : (k != k') = true := by simpa using hk
      have t1 : (k == k') = false := by simpa using hk
      have t2 : decide (k = k') = false := decide_eq_false hk
      clear x2 y2
      go_enter Tryz.func27, Tryz.ntmps27
      go_upto_region 3 with fail
      go_quiet (fail)
      go_wp2_with fail
      go_ret
      rw [HE.out]
      exact ⟨rfl, nq, rfl⟩
  · have HE : Aside0 ((F.cons r k kids .nil).eqB (.cons r' k' kids' .nil) = false) := ⟨by simp only [F.eqB]; rw [decide_eq_false hr]; simp⟩
    have t3 : (r != r') = true := by simpa using hr
    clear x1 y1 x2 y2 hr
    go_enter Tryz.func27, Tryz.ntmps27
    go_upto_region 3 with fail
    go_quiet (fail)
    go_wp2_with fail
    go_ret
    rw [HE.out]
    exact ⟨rfl, nq, rfl⟩
theorem req_calls (B : World) (f : F) : AllF (EqR B) f := AllF.of (req_node B) f
end Go.Proofs.YtjhemobplcelbaaGreatDoor.T
