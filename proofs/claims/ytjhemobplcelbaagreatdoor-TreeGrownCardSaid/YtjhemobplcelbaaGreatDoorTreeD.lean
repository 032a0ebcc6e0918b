/- tree: leaves, Yield. -/
import Derived.Test.YtjhemobplcelbaaGreatDoorTreeC
namespace Go.Proofs.YtjhemobplcelbaaGreatDoor.T
open Go.RowKit Go.Proofs.YtjhemobplcelbaaGreatDoorW.PrintWords Go.Proofs.YtjhemobplcelbaaGreatDoorW.PrintLast Go.Proofs.YtjhemobplcelbaaGreatDoorW.PrintMore
set_option linter.unusedVariables false
set_option linter.unusedSimpArgs false
theorem R_one (w : World) (k : Int) : Kd.R (Kd.int .i64) 3 (w.alloc (.cells #[.int .i64 k] 3)) w.heap.size (fun _ => True) (.slice (some ⟨w.heap.size, 0, none⟩) 1 1) [k] := by
  refine ⟨fun _ _ => trivial, [.int .i64 k], ?_, ?_⟩
  · exact World.ownsRow_lit (base := w.heap.size) (e := 3) (size := 1) w #[.int .i64 k] 1 (Nat.le_refl _) (by decide) (by simp)
  · exact (Reps.none _ _).snoc (show Kd.M (Kd.int .i64) _ _ _ _ [.int .i64 k] from rfl) rfl
/-- What leaves answers of one tree. -/
def LeafC (B : World) (r k : Int) (kids : F) : Prop := ∀ (X : Nat), IsF B [X] (.cons r k kids .nil) → (F.cons r k kids .nil).nodes ≤ 10000 → ∀ (w : World), Below B.heap.size B w →
  Calls Tryz.prog 55 #[.pointer (some ⟨X, 0, none⟩)] w fun e w' => ∃ v, e = .returned v ∧ Kd.R (Kd.int .i64) 3 w' w.heap.size (fun _ => True) v (F.cons r k kids .nil).leaves ∧ Below w.heap.size w w'
def LRel (w : World) (kids : F) (len : Nat) (kq : Nat) (v v3 : Value) (w' : World) : Prop := ∃ (i : Nat) (done : List Int), i + kq = len ∧ v = .int .i64 (i : Int) ∧ Below w.heap.size w w' ∧ Kd.R (Kd.int .i64) 3 w' w.heap.size (fun _ => True) v3 done ∧ kids.leaves = done ++ (kids.drop i).leaves
theorem leaves_one (r k : Int) (ks rest : F) : (F.cons r k ks rest).leaves = (F.cons r k ks .nil).leaves ++ rest.leaves := by simp only [F.leaves, List.append_nil]
theorem nodes_drop : ∀ (f : F) (i : Nat), (f.drop i).nodes ≤ f.nodes := by
  intro f
  induction f with
  | nil => intro i; cases i <;> simp [F.drop, F.nodes]
  | cons r k kids rest ih1 ih2 =>
    intro i
    cases i with
    | zero => exact Nat.le_refl _
    | succ i => have := ih2 i; simp only [F.drop, F.nodes]; omega
set_option maxRecDepth 100000 in
set_option maxHeartbeats 4000000 in
theorem leaves_node (B : World) (r k : Int) (kids : F) (ih : AllF (LeafC B) kids) : LeafC B r k kids := by
  intro X hX hn w hb
  obtain ⟨⟨A, c, qs, hx, hq, hqc, hk⟩, _⟩ := hX
  have HIH := Aside0.mk ih
  have HK := Aside0.mk hk
  have HQ := Aside0.mk (And.intro hq hqc)
  have HN := Aside0.mk hn
  have HNX := Aside0.mk (Node3.mk (W := B) hx)
  have HX := Aside0.mk (HNX.out.move hb HNX.out.lt)
  have HB := Aside0.mk hb
  have x0 := HX.out.c0
  have x1 := HX.out.c1
  have x2 := HX.out.c2
  clear ih hk hq hqc hx hn hb
  by_cases hr : r = -1
  · subst hr
    go_enter Tryz.func55, Tryz.ntmps55
    go_wp2_with fail
    go_ret
    exact ⟨_, rfl, by simp only [F.leaves, if_true, List.append_nil]; exact R_one w k, below_alloc (Below.refl _ _) _⟩
  · have t0 : (r == -1) = false := by simpa using hr
    have t1 : decide (r = -1) = false := decide_eq_false hr
    have HL : Aside0 ((F.cons r k kids .nil).leaves = kids.leaves) := ⟨by simp only [F.leaves, List.append_nil]; rw [if_neg hr]⟩
    clear hr
    go_enter Tryz.func55, Tryz.ntmps55
    go_wp2_with fail
    go_loopg [3, 21] qs.length (fun kq v3 v21 w' => LRel w kids qs.length kq v21 v3 w')
    case atStart => exact ⟨0, [], by omega, rfl, Below.refl _ _, Kd.R_nil _ _ _ _ _, rfl⟩
    case round =>
      obtain ⟨i, done, hi, rfl, hb, ho, hs⟩ := hrel
      have HI := Aside0.mk hi
      have HR := Aside0.mk (And.intro hb (And.intro ho hs))
      clear hi hb ho hs x0 x1 x2
      by_cases hil : i < qs.length
      · have t1 : decide ((i : Int) < (qs.length : Int)) = true := by simp; omega
        obtain ⟨r', k', ks, e1, e2⟩ := HK.out.at_ kids qs i hil
        obtain ⟨ad, rfl, hc⟩ := row_at HQ.out.1 i hil
        have HBB := Aside0.mk (HB.out.trans (HR.out.1.mono HB.out.size))
        have hc2 := pw_cell_below HBB.out hc
        have hnn : (F.cons r' k' ks .nil).nodes ≤ 10000 := by have h1 := nodes_drop kids i; have h2 := HN.out; rw [e1] at h1; simp only [F.nodes] at h1 h2 ⊢; omega
        have C := Aside0.mk (HIH.out.at_ kids i e1 qs[i] e2 hnn wr HBB.out)
        have he := leaves_one r' k' ks (kids.drop (i + 1))
        rw [← e1] at he
        have HSO := Aside0.mk (And.intro he (Nat.le_trans (leaves_len _) hnn))
        clear e1 e2 hc he hnn
        unfold pv at hc2
        have hql : qs.length ≤ 9223372036854775807 := HQ.out.1.2.1
        have hdl : Aside0 (done.length ≤ 10000) := ⟨by
          have h1 := congrArg List.length HR.out.2.2
          have h2 := leaves_len kids
          have h3 := HN.out
          rw [List.length_append] at h1
          simp only [F.nodes] at h3
          omega⟩
        obtain ⟨Ao, co, eo⟩ := Kd.R_slice HR.out.2.1
        subst eo
        generalize (F.cons r' k' ks .nil).leaves = more at *
        go_wp2_with (first
          | (go_at_call 55; refine C.out.mono ?_; rintro e w3 ⟨v, rfl, ho3, hb3⟩; obtain ⟨A3, c3, rfl, hc3, hrd⟩ := Kd.R_reads ho3; have H3 := Aside0.mk (And.intro hrd (And.intro hc3 hb3)); clear ho3 hrd hc3 hb3)
          | (at_builtin; refine Kd.R_append_rows (Kd.int .i64) (w0 := w) w.heap.size rfl (.tmp 25) (.tmp 27) 29 3 (.int .i64 0) 8 rfl Tryz.underlying29 infoI rfl (by decide) (by omega) _ done more _ _ _ (fun _ => True) (fun _ => False) rfl rfl (Kd.R_below HR.out.2.1 H3.out.2.2) (H3.out.1.imp_ (Below.refl _ _) (fun _ _ h => h)) (fun _ _ h => h) (fun _ h => h.elim) (fun _ _ => trivial) (HR.out.1.trans (H3.out.2.2.mono HR.out.1.size)) (by have := HR.out.1.size; have := H3.out.2.2.size; omega) (by have := hdl.out; have := HSO.out.2; omega) ?_; intro v2 w2 ho2 hb2 hg2 hn2; clear hg2 hn2; have HO := Aside0.mk (And.intro ho2 hb2); clear ho2 hb2))
        go_roundg (gk - 1)
        case measure => have := HI.out; omega
        case rel => exact ⟨i + 1, done ++ more, by have := HI.out; omega, by go_num, HO.out.2, HO.out.1, by rw [HR.out.2.2, HSO.out.1, List.append_assoc]⟩
      · have t1 : decide ((i : Int) < (qs.length : Int)) = false := by simp; omega
        have HE : Aside0 (kids.leaves = done) := ⟨by
          have h1 := HK.out.len kids qs
          have h2 := HI.out
          rw [HR.out.2.2, show i = qs.length by omega, h1]
          simp only [F.leaves, List.append_nil]⟩
        go_wp2_with fail
        go_ret
        exact ⟨_, rfl, by rw [HL.out, HE.out]; exact HR.out.2.1, HR.out.1⟩
theorem leaves_calls (B : World) (f : F) : AllF (LeafC B) f := AllF.of (leaves_node B) f
/-- What Yield answers. -/
def F.Yield (f : F) : List Int := if f.Size.1 = 0 then [] else f.leaves
set_option maxHeartbeats 4000000 in
theorem Yield_calls (w : World) (X : Nat) (r k : Int) (kids : F) (h : IsF w [X] (.cons r k kids .nil)) :
    Calls Tryz.prog 24 #[.pointer (some ⟨X, 0, none⟩)] w fun e w' => ∃ v, e = .returned v ∧ Kd.R (Kd.int .i64) 3 w' w.heap.size (fun _ => True) v (F.cons r k kids .nil).Yield ∧ Below w.heap.size w w' := by
  have C := Aside0.mk (Size_calls w X r k kids h)
  have H := Aside0.mk h
  clear h
  go_enter Tryz.func24, Tryz.ntmps24
  go_wp2_with fail
  go_at_call 18
  refine C.out.mono ?_
  rintro e w3 ⟨rfl, hb⟩
  have HB := Aside0.mk hb
  clear hb C
  by_cases hz : (F.cons r k kids .nil).Size.1 = 0
  · have HY : Aside0 ((F.cons r k kids .nil).Yield = []) := ⟨by unfold F.Yield; rw [if_pos hz]⟩
    rw [hz]
    clear hz
    go_wp2_with fail
    go_ret
    exact ⟨_, rfl, by rw [HY.out]; exact Kd.R_nil _ _ _ _ _, HB.out⟩
  · have HY : Aside0 ((F.cons r k kids .nil).Yield = (F.cons r k kids .nil).leaves) := ⟨by unfold F.Yield; rw [if_neg hz]⟩
    have C2 := Aside0.mk (fun w' hb => (leaves_calls w (.cons r k kids .nil)).1 X H.out (Size_pos _ hz).1 w' hb)
    have t0 : decide (((F.cons r k kids .nil).Size.1 : Int) = 0) = false := decide_eq_false (by omega)
    have t1 : (((F.cons r k kids .nil).Size.1 : Int) == 0) = false := by simp; omega
    generalize (F.cons r k kids .nil).Size = S at *
    obtain ⟨sa, sb⟩ := S
    clear hz
    go_wp2_with fail
    go_at_call 55
    refine (C2.out _ HB.out).mono ?_
    rintro e w4 ⟨v, rfl, ho, hb⟩
    have HO := Aside0.mk (And.intro ho hb)
    clear ho hb
    go_wp2_with fail
    go_ret
    exact ⟨_, rfl, by rw [HY.out]; exact Kd.R_lower HO.out.1 HB.out.size, HB.out.trans (HO.out.2.mono HB.out.size)⟩
end Go.Proofs.YtjhemobplcelbaaGreatDoor.T
