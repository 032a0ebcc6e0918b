/- tree: Size, Leaf, Node, Yield. -/
import Derived.Test.YtjhemobplcelbaaGreatDoorTreeB
import Derived.Lib.SliceRun
namespace Go.Proofs.YtjhemobplcelbaaGreatDoor.T
open Go.RowKit Go.Proofs.YtjhemobplcelbaaGreatDoorW.PrintWords Go.Proofs.YtjhemobplcelbaaGreatDoorW.PrintLast Go.Proofs.YtjhemobplcelbaaGreatDoorW.PrintMore
set_option linter.unusedVariables false
set_option linter.unusedSimpArgs false
theorem infoI : (Tryz.prog.info? 3).map (fun i => (i.zero, i.size, i.bytes)) = some (some (.int .i64 0), 1, 8) := by kernel_rfl
theorem infoP : (Tryz.prog.info? 37).map (fun i => (i.zero, i.size, i.bytes)) = some (some (.pointer none), 1, 8) := by kernel_rfl
set_option maxHeartbeats 4000000 in
theorem Size_calls (w : World) (X : Nat) (r k : Int) (kids : F) (h : IsF w [X] (.cons r k kids .nil)) :
    Calls Tryz.prog 18 #[.pointer (some ⟨X, 0, none⟩)] w fun e w' => e = .returned (.tuple #[.int .i64 ((F.cons r k kids .nil).Size.1 : Int), .int .i64 ((F.cons r k kids .nil).Size.2 : Int)]) ∧ Below w.heap.size w w' := by
  have C := Aside0.mk (size_calls w (.cons r k kids .nil)).1
  have H := Aside0.mk h
  clear h
  have hb1 := below_alloc (Below.refl w.heap.size w) (.cells #[.int .i64 0] 3)
  have hb2 := below_alloc hb1 (.cells #[.int .i64 0] 3)
  have hc1 := Cell1.new w (.int .i64 0) 3
  have hc2 := Cell1.new (w.alloc (.cells #[.int .i64 0] 3)) (.int .i64 0) 3
  have hb12 : Below (w.alloc (.cells #[.int .i64 0] 3)).heap.size (w.alloc (.cells #[.int .i64 0] 3)) ((w.alloc (.cells #[.int .i64 0] 3)).alloc (.cells #[.int .i64 0] 3)) := below_alloc (Below.refl _ _) _
  have hc3 := hc1.move hb12 hc1.lt
  rw [World.size_alloc] at hc2
  have HC := Aside0.mk (And.intro hc3 (And.intro hc2 hb2))
  clear hb1 hb2 hc1 hc2 hb12 hc3
  go_enter Tryz.func18, Tryz.ntmps18
  go_upto_region 2 with fail
  generalize (w.alloc (.cells #[.int .i64 0] 3)).alloc (.cells #[.int .i64 0] 3) = W at *
  obtain ⟨N, hN⟩ : ∃ N, N = w.heap.size := ⟨_, rfl⟩
  have HN := Aside0.mk hN
  rw [← hN]
  clear hN
  go_wp2_with fail
  go_at_call 51
  refine (C.out X H.out W N (N + 1) 1 0 0 HC.out.2.2 (by rw [HN.out]; exact HC.out.1) (by rw [HN.out]; exact HC.out.2.1) (by omega) (by rw [HN.out]; exact Nat.le_refl _) (by rw [HN.out]; omega) (by omega) (by omega) (by omega)).mono ?_
  rintro e w3 ⟨rfl, h1, h2, h3⟩
  have HS : Aside0 ((F.cons r k kids .nil).Size = if ((F.cons r k kids .nil).size 1 0 0).1 = true then (((F.cons r k kids .nil).size 1 0 0).2.1, ((F.cons r k kids .nil).size 1 0 0).2.2) else (0, 0)) := ⟨rfl⟩
  generalize (F.cons r k kids .nil).size 1 0 0 = S at *
  obtain ⟨sb, sn, sd⟩ := S
  have y0 := h1.c
  have y1 := h2.c
  have H3 := Aside0.mk h3
  clear h1 h2 h3 C HC
  cases sb with
  | false =>
    go_wp2_with fail
    go_ret2
    rw [HS.out]
    exact ⟨rfl, by rw [HN.out] at *; exact H3.out⟩
  | true =>
    go_upto_region 4 with fail
    go_region_with fail
    all_goals (go_wp2_with fail; go_ret2; rw [HS.out]; exact ⟨rfl, below_drew1 H3.out⟩)
/-- A leaf's box. -/
def LeafBox (w : World) (X : Nat) (k : Int) : Prop := w.heap[X]? = some (.cells #[.int .i64 (-1), .int .i64 k, .slice none 0 0] 61 (0, 0))
theorem LeafBox.isF {w : World} {X : Nat} {k : Int} (h : LeafBox w X k) : IsF w [X] (.cons (-1) k .nil .nil) := ⟨⟨none, 0, [], h, ⟨rfl, by decide, fun h => absurd h (Nat.lt_irrefl 0)⟩, Nat.le_refl _, trivial⟩, trivial⟩
theorem Leaf_calls (w : World) (tok : Int) : Calls Tryz.prog 30 #[.int .i64 tok] w fun e w' => e = .returned (.pointer (some ⟨w.heap.size, 0, none⟩)) ∧ LeafBox w' w.heap.size tok ∧ Below w.heap.size w w' := by
  go_enter Tryz.func30, Tryz.ntmps30
  go_wp2_with fail
  go_ret
  exact ⟨rfl, heap_alloc_new w _, below_alloc (Below.refl _ _) _⟩
set_option maxHeartbeats 1000000 in
theorem clone_calls (l : List Nat) (A : Option Addr) (c : Nat) (w : World) (hl : l.length ≤ 1000000) (hr : Kd.C kP w A l.length l) (hc : l.length ≤ c) :
    Calls Tryz.prog 57 #[.slice A l.length c] w fun e w' => ∃ v : Value, e = .returned v ∧ Kd.R kP 37 w' w.heap.size (fun _ => True) v l ∧ Below w.heap.size w w' := by
  have he := fun (w : World) (A : Option Addr) (n c : Nat) => Lib.run_eql_slice_nil (P := Tryz.prog) w 59 37 A n c 0 0 Tryz.underlying59
  cases A with
  | none =>
    have h0 : l = [] := by
      rcases Nat.eq_zero_or_pos l.length with h | h
      · exact List.length_eq_zero_iff.1 h
      · obtain ⟨ad, h2, _⟩ := hr.2.2 h
        cases h2
    subst h0
    go_enter Tryz.func57, Tryz.ntmps57
    go_wp2_with fail
    go_ret
    exact ⟨_, rfl, Kd.R_nil _ _ _ _ _, by repeat (first | (with_reducible first | exact Below.refl _ _ | apply below_alloc | apply pw_below_drewN | apply below_drew1))⟩
  | some ad =>
    have HR := Aside0.mk hr
    clear hr
    go_enter Tryz.func57, Tryz.ntmps57
    go_wp2_with (first
      | ((with_reducible refine gate_dst (N := 5) rfl ?_); refine Kd.R_lit kP w.heap.size 37 rfl (N := 5) rfl (xs := []) (inner := []) (ok := fun _ => True) (okp := fun _ => True) ?hr ?hp (fun _ hk => hk) trivial (Below.refl _ _) (Nat.le_refl _) (by simp) ?_; (case hr => first | (go_simp; done) | (go_simp; rfl)); (case hp => exact Reps.none _ _); intro v1 w1 ho1 hb1 hg1 hn1; clear hg1 hn1; have HO := Aside0.mk ho1; have HB := Aside0.mk hb1; clear ho1 hb1; obtain ⟨Ao, co, eo⟩ := Kd.R_slice HO.out; subst eo)
      | ((with_reducible refine gate_builtin (b := .append) (xs := #[.tmp 5, .tmp 6]) rfl ?_); at_builtin; refine Kd.R_append_rows kP (w0 := w) w.heap.size rfl (.tmp 5) (.tmp 6) 59 37 (.pointer none) 8 rfl Tryz.underlying59 infoP rfl (by decide) (by omega) _ [] l _ _ _ (fun _ => True) (fun _ => False) rfl rfl HO.out (HR.out.imp_ HB.out (fun _ _ h => h)) (fun _ _ h => h) (fun _ h => h.elim) (fun _ _ => trivial) HB.out HB.out.size (by simp only [List.length_nil]; omega) ?_; intro v2 w2 ho2 hb2 hg2 hn2; clear hg2 hn2 HO HB; have HO := Aside0.mk ho2; have HB := Aside0.mk hb2; clear ho2 hb2))
    go_ret
    exact ⟨_, rfl, HO.out, HB.out⟩
theorem Node_calls (w : World) (rule : Int) (A : Option Addr) (c : Nat) (ps : List Nat) (f : F) (hl : ps.length ≤ 1000000) (hr : Kd.C kP w A ps.length ps) (hc : ps.length ≤ c) (hf : IsF w ps f) :
    Calls Tryz.prog 31 #[.int .i64 rule, .slice A ps.length c] w fun e w' => ∃ Z, w.heap.size ≤ Z ∧ e = .returned (.pointer (some ⟨Z, 0, none⟩)) ∧ IsF w' [Z] (.cons rule 0 f .nil) ∧ Below w.heap.size w w' := by
  have C := Aside0.mk (clone_calls ps A c w hl hr hc)
  have H := Aside0.mk hf
  clear hf hr
  go_enter Tryz.func31, Tryz.ntmps31
  go_wp2_with fail
  go_at_call 57
  refine C.out.mono ?_
  rintro e w2 ⟨v, rfl, ho, hb⟩
  obtain ⟨A', c', rfl, hc', hrd⟩ := Kd.R_reads ho
  have HO := Aside0.mk (And.intro hrd (And.intro hc' hb))
  clear ho hrd hc' hb C
  go_wp2_with fail
  go_ret
  have hb2 := below_alloc (Below.refl w2.heap.size w2) (.cells #[.int .i64 rule, .int .i64 0, .slice A' ps.length c'] 61)
  exact ⟨_, HO.out.2.2.size, rfl, ⟨⟨A', c', ps, heap_alloc_new w2 _, Kd.C_below HO.out.1 hb2, HO.out.2.1, (H.out.below HO.out.2.2 _ _).below hb2 _ _⟩, trivial⟩, below_alloc HO.out.2.2 _⟩
end Go.Proofs.YtjhemobplcelbaaGreatDoor.T
