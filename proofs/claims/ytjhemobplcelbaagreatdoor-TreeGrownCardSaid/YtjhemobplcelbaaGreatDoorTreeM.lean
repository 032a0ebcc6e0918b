/- tree: the reference's Yield and Eq; EqInts. -/
import Derived.Test.YtjhemobplcelbaaGreatDoorTreeL
import Derived.Test.YtjhemobplcelbaaGreatDoorTreeG
namespace Go.Proofs.YtjhemobplcelbaaGreatDoor.T
open Go.RowKit Go.Proofs.YtjhemobplcelbaaGreatDoorW.PrintWords Go.Proofs.YtjhemobplcelbaaGreatDoorW.PrintLast Go.Proofs.YtjhemobplcelbaaGreatDoorW.PrintMore
set_option linter.unusedVariables false
set_option linter.unusedSimpArgs false
/-- What the reference's Yield answers of one tree. -/
def YieldC (B : World) (r k : Int) (kids : F) : Prop := ∀ (X : Nat), IsF B [X] (.cons r k kids .nil) → (F.cons r k kids .nil).nodes ≤ 10000 → ∀ (w : World), Below B.heap.size B w →
  Calls Tryz.prog 25 #[.pointer (some ⟨X, 0, none⟩)] w fun e w' => ∃ v, e = .returned v ∧ Kd.R (Kd.int .i64) 3 w' w.heap.size (fun _ => True) v (F.cons r k kids .nil).leaves ∧ Below w.heap.size w w'
set_option maxRecDepth 100000 in
set_option maxHeartbeats 4000000 in
theorem yield_node (B : World) (r k : Int) (kids : F) (ih : AllF (YieldC B) kids) : YieldC B r k kids := by
  intro X hX hn w hb
  obtain ⟨⟨A, c, qs, hx, hq, hqc, hk⟩, _⟩ := hX
  have HIH := Aside0.mk ih
  have HK := Aside0.mk hk
  have HQ := Aside0.mk (And.intro hq hqc)
  have HN := Aside0.mk hn
  have HNX := Aside0.mk (Node3.mk (W := B) hx)
  have HX := Aside0.mk (HNX.out.move hb HNX.out.lt)
  have HB := Aside0.mk hb
  have x0 := HX.out.c0
  have x1 := HX.out.c1
  have x2 := HX.out.c2
  clear ih hk hq hqc hx hn hb
  by_cases hr : r = -1
  · subst hr
    go_enter Tryz.func25, Tryz.ntmps25
    go_wp2_with fail
    go_ret
    exact ⟨_, rfl, by simp only [F.leaves, if_true, List.append_nil]; exact R_one w k, below_alloc (Below.refl _ _) _⟩
  · have t0 : (r == -1) = false := by simpa using hr
    have t1 : decide (r = -1) = false := decide_eq_false hr
    have HL : Aside0 ((F.cons r k kids .nil).leaves = kids.leaves) := ⟨by simp only [F.leaves, List.append_nil]; rw [if_neg hr]⟩
    clear hr
    go_enter Tryz.func25, Tryz.ntmps25
    go_wp2_with fail
    go_loopg [3, 4] qs.length (fun kq v3 v4 w' => LRel w kids qs.length kq v4 v3 w')
    case atStart => exact ⟨0, [], by omega, rfl, Below.refl _ _, Kd.R_nil _ _ _ _ _, rfl⟩
    case round =>
      obtain ⟨i, done, hi, rfl, hb, ho, hs⟩ := hrel
      have HI := Aside0.mk hi
      have HR := Aside0.mk (And.intro hb (And.intro ho hs))
      have HXr := Aside0.mk (HNX.out.move (HB.out.trans (hb.mono HB.out.size)) HNX.out.lt)
      clear hi hb ho hs x0 x1 x2
      have x2 := HXr.out.c2
      by_cases hil : i < qs.length
      · have t1 : decide ((i : Int) < (qs.length : Int)) = true := by simp; omega
        obtain ⟨r', k', ks, e1, e2⟩ := HK.out.at_ kids qs i hil
        obtain ⟨ad, rfl, hc⟩ := row_at HQ.out.1 i hil
        have HBB := Aside0.mk (HB.out.trans (HR.out.1.mono HB.out.size))
        have hc2 := pw_cell_below HBB.out hc
        have hnn : (F.cons r' k' ks .nil).nodes ≤ 10000 := by have h1 := nodes_drop kids i; have h2 := HN.out; rw [e1] at h1; simp only [F.nodes] at h1 h2 ⊢; omega
        have C := Aside0.mk (HIH.out.at_ kids i e1 qs[i] e2 hnn wr HBB.out)
        have he := leaves_one r' k' ks (kids.drop (i + 1))
        rw [← e1] at he
        have HSO := Aside0.mk (And.intro he (Nat.le_trans (leaves_len _) hnn))
        clear e1 e2 hc he hnn
        unfold pv at hc2
        have hql : qs.length ≤ 9223372036854775807 := HQ.out.1.2.1
        have hdl : Aside0 (done.length ≤ 10000) := ⟨by
          have h1 := congrArg List.length HR.out.2.2
          have h2 := leaves_len kids
          have h3 := HN.out
          rw [List.length_append] at h1
          simp only [F.nodes] at h3
          omega⟩
        obtain ⟨Ao, co, eo⟩ := Kd.R_slice HR.out.2.1
        subst eo
        generalize (F.cons r' k' ks .nil).leaves = more at *
        go_wp2_with (first
          | (go_at_call 25; refine C.out.mono ?_; rintro e w3 ⟨v, rfl, ho3, hb3⟩; obtain ⟨A3, c3, rfl, hc3, hrd⟩ := Kd.R_reads ho3; have H3 := Aside0.mk (And.intro hrd (And.intro hc3 hb3)); clear ho3 hrd hc3 hb3)
          | (at_builtin; refine Kd.R_append_rows (Kd.int .i64) (w0 := w) w.heap.size rfl (.tmp 24) (.tmp 32) 29 3 (.int .i64 0) 8 rfl Tryz.underlying29 infoI rfl (by decide) (by omega) _ done more _ _ _ (fun _ => True) (fun _ => False) rfl rfl (Kd.R_below HR.out.2.1 H3.out.2.2) (H3.out.1.imp_ (Below.refl _ _) (fun _ _ h => h)) (fun _ _ h => h) (fun _ h => h.elim) (fun _ _ => trivial) (HR.out.1.trans (H3.out.2.2.mono HR.out.1.size)) (by have := HR.out.1.size; have := H3.out.2.2.size; omega) (by have := hdl.out; have := HSO.out.2; omega) ?_; intro v2 w2 ho2 hb2 hg2 hn2; clear hg2 hn2; have HO := Aside0.mk (And.intro ho2 hb2); clear ho2 hb2))
        go_roundg (gk - 1)
        case measure => have := HI.out; omega
        case rel => exact ⟨i + 1, done ++ more, by have := HI.out; omega, by go_num, HO.out.2, HO.out.1, by rw [HR.out.2.2, HSO.out.1, List.append_assoc]⟩
      · have t1 : decide ((i : Int) < (qs.length : Int)) = false := by simp; omega
        have HE : Aside0 (kids.leaves = done) := ⟨by
          have h1 := HK.out.len kids qs
          have h2 := HI.out
          rw [HR.out.2.2, show i = qs.length by omega, h1]
          simp only [F.leaves, List.append_nil]⟩
        go_wp2_with fail
        go_ret
        exact ⟨_, rfl, by rw [HL.out, HE.out]; exact HR.out.2.1, HR.out.1⟩
theorem yield_calls (B : World) (f : F) : AllF (YieldC B) f := AllF.of (yield_node B) f
end Go.Proofs.YtjhemobplcelbaaGreatDoor.T
