/- tree: the law TreeMade answers true. -/
import Derived.Test.YtjhemobplcelbaaGreatDoorTreeD
import Derived.Test.YtjhemobplcelbaaGreatDoorEvY13
namespace Go.Proofs.YtjhemobplcelbaaGreatDoor.T
open Go.RowKit Go.Proofs.YtjhemobplcelbaaGreatDoorW.PrintWords Go.Proofs.YtjhemobplcelbaaGreatDoorW.PrintLast Go.Proofs.YtjhemobplcelbaaGreatDoorW.PrintMore
set_option linter.unusedVariables false
set_option linter.unusedSimpArgs false
theorem begun_yes (w : World) : Calls Tryz.prog 13 #[] w fun e w' => e = .returned (.bool true) ∧ Below w.heap.size w w' := V.yes_Y13 w
/-- The leaves of tokens from tok on. -/
def leafF (tok : Int) : Nat → Nat → F
  | 0, _ => .nil
  | n + 1, i => .cons (-1) (wrap64 (tok + i)) .nil (leafF tok n (i + 1))
theorem leafF_drop (tok : Int) : ∀ n i j, j < n → (leafF tok n i).drop j = .cons (-1) (wrap64 (tok + ((i + j : Nat) : Int))) .nil ((leafF tok n i).drop (j + 1)) := by
  intro n
  induction n with
  | zero => intro i j h; exact absurd h (Nat.not_lt_zero j)
  | succ n ih =>
    intro i j h
    cases j with
    | zero => simp [leafF, F.drop]
    | succ j => have := ih (i + 1) j (by omega); simp only [leafF, F.drop]; rw [this, show i + 1 + j = i + (j + 1) by omega]
theorem leaf_isF {w : World} {tok : Int} : ∀ (ps : List Nat) (i : Nat), (∀ j (hj : j < ps.length), LeafBox w ps[j] (wrap64 (tok + ((i + j : Nat) : Int)))) → IsF w ps (leafF tok ps.length i) := by
  intro ps
  induction ps with
  | nil => intro i h; trivial
  | cons X ps ih =>
    intro i h
    refine ⟨(h 0 (Nat.zero_lt_succ _)).isF.1, ih (i + 1) (fun j hj => ?_)⟩
    have := h (j + 1) (Nat.succ_lt_succ hj)
    rw [show i + 1 + j = i + (j + 1) by omega]
    exact this
def MRel (w : World) (tok : Int) (len : Nat) (kq : Nat) (v v8 : Value) (w' : World) : Prop := ∃ (i : Nat) (ps : List Nat), i + kq = len ∧ v = .int .i64 (i : Int) ∧ Below w.heap.size w w' ∧ Kd.R kP 37 w' w.heap.size (fun _ => True) v8 ps ∧ ps.length = i ∧ ∀ j (hj : j < ps.length), LeafBox w' ps[j] (wrap64 (tok + (j : Int)))
def NRel (w5 : World) (len : Nat) (kq : Nat) (v : Value) (w' : World) : Prop := ∃ (i : Nat), i + kq = len ∧ v = .int .i64 (i : Int) ∧ Below w5.heap.size w5 w'
set_option maxRecDepth 100000 in
set_option maxHeartbeats 4000000 in
theorem made_walk (w : World) (rule : Int) (hr : (Lit.int .i64 rule).wf = true) (tok : Int) (ht : (Lit.int .i64 tok).wf = true) (n : Int) (hn : (Lit.int .i64 n).wf = true) :
    Calls Tryz.prog 8 #[.int .i64 rule, .int .i64 tok, .int .i64 n] w fun e w' => e = .returned (.bool true) ∧ Below w.heap.size w w' := by
  clear hr ht hn
  go_enter Tryz.func8, Tryz.ntmps8
  go_wp2_with fail
  go_at_call 13
  refine (begun_yes _).mono ?_
  rintro e w3 ⟨rfl, hb⟩
  have HB := Aside0.mk hb
  clear hb
  by_cases h0 : n < 0
  · have t0 := decide_eq_true h0
    clear h0
    go_wp2_with fail
    go_ret
    exact ⟨rfl, HB.out⟩
  by_cases h1 : n > 20
  · have t0 := decide_eq_false h0
    have t1 := decide_eq_true h1
    clear h0 h1
    go_wp2_with fail
    go_ret
    exact ⟨rfl, HB.out⟩
  have t0 := decide_eq_false h0
  have t1 := decide_eq_false h1
  obtain ⟨m, rfl⟩ : ∃ m : Nat, n = (m : Int) := ⟨n.toNat, by omega⟩
  have hm : m ≤ 20 := by omega
  have HM := Aside0.mk hm
  clear h0 h1
  go_upto_block 0 with fail
  clear t0 t1
  go_wp2_with fail
  go_loopg [8, 9] m (fun kq v8 v9 w' => MRel w tok m kq v9 v8 w')
  case atStart => exact ⟨0, [], by omega, rfl, HB.out, Kd.R_nil _ _ _ _ _, rfl, fun j hj => absurd hj (Nat.not_lt_zero j)⟩
  case round =>
    obtain ⟨i, ps, hi, rfl, hb, ho, hl, hf⟩ := hrel
    have HI := Aside0.mk hi
    have HR := Aside0.mk (And.intro hb (And.intro ho (And.intro hl hf)))
    clear hi hb ho hl hf
    by_cases hil : i < m
    · have t1 : decide ((i : Int) < (m : Int)) = true := by simp; omega
      have C := Aside0.mk (Leaf_calls wr (IntKind.i64.wrap (tok + (i : Int))))
      have HW : Aside0 (w.heap.size ≤ wr.heap.size) := ⟨HR.out.1.size⟩
      have HL20 : Aside0 (ps.length ≤ 20) := ⟨by have := HR.out.2.2.1; have := HM.out; omega⟩
      go_wp2_with (first
        | (go_at_call 30; refine (Leaf_calls wr _).mono ?_; rintro e w4 ⟨rfl, hL, hb4⟩; have H4 := Aside0.mk (And.intro hL hb4); clear hL hb4)
        | (at_builtin; refine Kd.R_append kP (w0 := w) w.heap.size rfl (.tmp 26) (.tmp 31) 59 37 (.pointer none) 8 rfl Tryz.underlying59 infoP rfl (by decide) (by omega) _ ps wr.heap.size [.pointer (some ⟨wr.heap.size, 0, none⟩)] (fun _ => True) (fun _ => False) rfl rfl (show Kd.M kP _ _ _ _ [pv wr.heap.size] from rfl) (fun _ h => h.elim) (fun _ _ => trivial) (Kd.R_below HR.out.2.1 H4.out.2) (HR.out.1.trans (H4.out.2.mono HR.out.1.size)) (by have := HR.out.1.size; have := H4.out.2.size; omega) (by have := HL20.out; omega) ?_; intro v2 w2 ho2 hb2 hg2 hn2; clear hn2; have HO := Aside0.mk (And.intro ho2 (And.intro hb2 hg2)); clear ho2 hb2 hg2))
      go_roundg (gk - 1)
      case measure => have := HI.out; omega
      case rel =>
        obtain ⟨h1, h2, h3, h4⟩ := HR.out
        obtain ⟨g1, g2, g3⟩ := HO.out
        have keep : ∀ X k, LeafBox w4 X k → LeafBox w2 X k := fun X k hx => by
          have hlt : X < w4.heap.size := (Array.getElem?_eq_some_iff.1 hx).1
          refine (g3.block X hlt ?_).trans hx
          intro he
          obtain ⟨cells, hc⟩ := Kd.R_typed (Kd.R_below h2 H4.out.2) X he.symm
          have := hc.symm.trans hx
          simp at this
        refine ⟨i + 1, ps ++ [wr.heap.size], by have := HI.out; omega, by have := HM.out; go_num, g2, g1, by simp [h3], fun j hj => ?_⟩
        by_cases hji : j < ps.length
        · rw [List.getElem_append_left hji]
          have := h4 j hji
          exact keep _ _ ((H4.out.2.block _ (Array.getElem?_eq_some_iff.1 this).1).trans this)
        · have hje : j = i := by simp at hj; omega
          subst hje
          rw [List.getElem_append_right (by omega)]
          simp only [List.getElem_singleton]
          exact keep _ _ H4.out.1
    · have t1 : decide ((i : Int) < (m : Int)) = false := by simp; omega
      have him : i = m := by have := HI.out; omega
      subst him
      obtain ⟨A, c, rfl, hc, hrd⟩ := Kd.R_reads HR.out.2.1
      have hf : IsF wr ps (leafF tok ps.length 0) := leaf_isF ps 0 (fun j hj => by simpa using HR.out.2.2.2 j hj)
      have hpl := HR.out.2.2.1
      have C := Aside0.mk (Node_calls wr rule A c ps (leafF tok ps.length 0) (by have := HM.out; omega) hrd hc hf)
      have HP := Aside0.mk hpl
      rw [hpl] at C
      rw [hpl]
      clear hf hrd hc hpl
      go_wp2_with fail
      go_at_call 31
      refine C.out.mono ?_
      rintro e w5 ⟨Z, hZ, rfl, hf, hb5⟩
      have HB5 := Aside0.mk (HR.out.1.trans (hb5.mono HR.out.1.size))
      obtain ⟨⟨A', c', qs, hx, hq, hqc, hk⟩, _⟩ := hf
      have hlen : qs.length = i := by
        rcases Nat.lt_trichotomy qs.length i with h | h | h
        · have h1 := leafF_drop tok i 0 qs.length h
          rw [hk.len _ _] at h1
          cases h1
        · exact h
        · obtain ⟨r', k', ks, e1, e2⟩ := hk.at_ _ _ i h
          have : ∀ n s, (leafF tok n s).drop n = .nil := by
            intro n
            induction n with
            | zero => intro s; rfl
            | succ n ih => intro s; exact ih (s + 1)
          rw [this] at e1
          cases e1
      have HX := Aside0.mk (Node3.mk (W := w5) hx)
      have HQ := Aside0.mk (And.intro hq (And.intro hqc (And.intro hk hlen)))
      rw [hlen] at HX
      clear hx hq hqc hk hlen hb5 hZ C HR t1
      have x0 := HX.out.c0
      have x1 := HX.out.c1
      have x2 := HX.out.c2
      go_upto_block 2 with fail
      go_wp2_with fail
      go_loopg [11] i (fun kq v11 w' => NRel w5 i kq v11 w')
      case atStart => exact ⟨0, by omega, rfl, Below.refl _ _⟩
      case round =>
        obtain ⟨j, hj, rfl, hb⟩ := hrel
        have HJ := Aside0.mk hj
        have HBB := Aside0.mk hb
        have z2 := pw_cell_below hb x2
        clear hj hb x0 x1 x2
        by_cases hjl : j < i
        · have t1 : decide ((j : Int) < (i : Int)) = true := by simp; omega
          have hjq : j < qs.length := by have := HQ.out.2.2.2; omega
          obtain ⟨r', k', ks, e1, e2⟩ := HQ.out.2.2.1.at_ _ qs j hjq
          rw [leafF_drop tok i 0 j hjl] at e1
          cases e1
          obtain ⟨⟨A3, c3, q3, hx3, _, _, hk3⟩, _⟩ := e2
          cases q3 with
          | cons _ _ => exact hk3.elim
          | nil =>
            obtain ⟨ad, rfl, hc⟩ := row_at HQ.out.1 j hjq
            have hc2 := pw_cell_below HBB.out hc
            have HX3 := (Node3.mk (W := w5) hx3)
            have y0 := pw_cell_below HBB.out HX3.c0
            have y1 := pw_cell_below HBB.out HX3.c1
            have y2 := pw_cell_below HBB.out HX3.c2
            simp only [Nat.zero_add, List.length_nil] at y1 y2
            unfold pv at hc2
            have hm20 := HM.out
            clear hx3 hc HX3
            go_wp2_with fail
            go_roundg (gk - 1)
            case measure => have := HJ.out; omega
            case rel => exact ⟨j + 1, by have := HJ.out; omega, by go_num, HBB.out⟩
        · have t1 : decide ((j : Int) < (i : Int)) = false := by simp; omega
          go_wp2_with fail
          go_ret
          exact ⟨rfl, HB5.out.trans (HBB.out.mono HB5.out.size)⟩
end Go.Proofs.YtjhemobplcelbaaGreatDoor.T
