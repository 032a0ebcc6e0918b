/- of: three rows in a Spec's box; the loop over the tokens of donatusref4.Of. -/
import Derived.Test.YtjhemobplcelbaaGreatDoorOfE
import Derived.Test.YtjhemobplcelbaaGreatDoorOfM
import Derived.Test.YtjhemobplcelbaaGreatDoorWellC
import Derived.Deep.RegionLaw
namespace Go.Proofs.YtjhemobplcelbaaGreatDoor.O
open Go.RowKit Go.Proofs.YtjhemobplcelbaaGreatDoorW.PrintWords Go.Proofs.YtjhemobplcelbaaGreatDoorW.PrintLast Go.Proofs.YtjhemobplcelbaaGreatDoorW.PrintMore
open Go.Proofs.YtjhemobplcelbaaGreatDoor.U (SR kSR kSR_mkM okRule)
set_option linter.unusedVariables false
set_option linter.unusedSimpArgs false
theorem infoSR : (Tryz.prog.info? 81).map (fun i => (i.zero, i.size, i.bytes)) = some (some (.agg #[.int .i64 0, .slice none 0 0, .int .i64 0, .int .i64 0]), 4, 48) := by kernel_rfl
/-- Three rows, none of them the box B: names, levels, assocs. -/
structure R3 (base B : Nat) (w : World) (v4 v5 v6 : Value) (a : List ByteArray) (b c : List Int) : Prop where
  r4 : Kd.R Kd.string 9 w base (fun x => x ≠ B ∧ some x ≠ v5.ownBlock ∧ some x ≠ v6.ownBlock) v4 a
  r5 : Kd.R (Kd.int .i64) 3 w base (fun x => x ≠ B ∧ some x ≠ v4.ownBlock ∧ some x ≠ v6.ownBlock) v5 b
  r6 : Kd.R (Kd.int .i64) 3 w base (fun x => x ≠ B ∧ some x ≠ v4.ownBlock ∧ some x ≠ v5.ownBlock) v6 c
section
variable {base B j : Nat} {W w w' : World} {v4 v5 v6 v' u : Value} {a a' : List ByteArray} {b c b' c' : List Int}
theorem R3.nil (base B : Nat) (w : World) : R3 base B w (.slice none 0 0) (.slice none 0 0) (.slice none 0 0) [] [] [] := ⟨Kd.R_nil _ _ _ _ _, Kd.R_nil _ _ _ _ _, Kd.R_nil _ _ _ _ _⟩
theorem R3.below (h : R3 base B w v4 v5 v6 a b c) (hb : Below w.heap.size w w') : R3 base B w' v4 v5 v6 a b c := ⟨Kd.R_below h.r4 hb, Kd.R_below h.r5 hb, Kd.R_below h.r6 hb⟩
theorem R3.far (h : R3 base B w v4 v5 v6 a b c) (j : Nat) (u : Value) : R3 base B (w.setCell ⟨B, j, none⟩ u) v4 v5 v6 a b c := ⟨Kd.R_far h.r4 (fun x h => h.1) u, Kd.R_far h.r5 (fun x h => h.1) u, Kd.R_far h.r6 (fun x h => h.1) u⟩
theorem R3.put4 (h : R3 base B W v4 v5 v6 a b c) (r : Kd.R Kd.string 9 w base (fun x => x ≠ B ∧ some x ≠ v5.ownBlock ∧ some x ≠ v6.ownBlock) v' a') (hg : W.grownBy w v4.ownBlock) (hat : v'.ownBlock = v4.ownBlock ∨ ∃ x, v'.ownBlock = some x ∧ W.heap.size ≤ x) : R3 base B w v' v5 v6 a' b c := by
  have hb := Kd.R_after (ok := fun x => x ≠ B ∧ some x ≠ v6.ownBlock) (v := v4) (Kd.R_mono h.r5 (fun x h => ⟨⟨h.1, h.2.2⟩, h.2.1⟩)) hg hat
  have hc := Kd.R_after (ok := fun x => x ≠ B ∧ some x ≠ v5.ownBlock) (v := v4) (Kd.R_mono h.r6 (fun x h => ⟨⟨h.1, h.2.2⟩, h.2.1⟩)) hg hat
  exact ⟨r, Kd.R_mono hb (fun x h => ⟨h.1.1, h.2, h.1.2⟩), Kd.R_mono hc (fun x h => ⟨h.1.1, h.2, h.1.2⟩)⟩
theorem R3.put5 (h : R3 base B W v4 v5 v6 a b c) (r : Kd.R (Kd.int .i64) 3 w base (fun x => x ≠ B ∧ some x ≠ v4.ownBlock ∧ some x ≠ v6.ownBlock) v' b') (hg : W.grownBy w v5.ownBlock) (hat : v'.ownBlock = v5.ownBlock ∨ ∃ x, v'.ownBlock = some x ∧ W.heap.size ≤ x) : R3 base B w v4 v' v6 a b' c := by
  have ha := Kd.R_after (ok := fun x => x ≠ B ∧ some x ≠ v6.ownBlock) (v := v5) (Kd.R_mono h.r4 (fun x h => ⟨⟨h.1, h.2.2⟩, h.2.1⟩)) hg hat
  have hc := Kd.R_after (ok := fun x => x ≠ B ∧ some x ≠ v4.ownBlock) (v := v5) (Kd.R_mono h.r6 (fun x h => ⟨⟨h.1, h.2.1⟩, h.2.2⟩)) hg hat
  exact ⟨Kd.R_mono ha (fun x h => ⟨h.1.1, h.2, h.1.2⟩), r, Kd.R_mono hc (fun x h => ⟨h.1.1, h.1.2, h.2⟩)⟩
theorem R3.put6 (h : R3 base B W v4 v5 v6 a b c) (r : Kd.R (Kd.int .i64) 3 w base (fun x => x ≠ B ∧ some x ≠ v4.ownBlock ∧ some x ≠ v5.ownBlock) v' c') (hg : W.grownBy w v6.ownBlock) (hat : v'.ownBlock = v6.ownBlock ∨ ∃ x, v'.ownBlock = some x ∧ W.heap.size ≤ x) : R3 base B w v4 v5 v' a b c' := by
  have ha := Kd.R_after (ok := fun x => x ≠ B ∧ some x ≠ v5.ownBlock) (v := v6) (Kd.R_mono h.r4 (fun x h => ⟨⟨h.1, h.2.1⟩, h.2.2⟩)) hg hat
  have hb := Kd.R_after (ok := fun x => x ≠ B ∧ some x ≠ v4.ownBlock) (v := v6) (Kd.R_mono h.r5 (fun x h => ⟨⟨h.1, h.2.1⟩, h.2.2⟩)) hg hat
  exact ⟨Kd.R_mono ha (fun x h => ⟨h.1.1, h.1.2, h.2⟩), Kd.R_mono hb (fun x h => ⟨h.1.1, h.1.2, h.2⟩), r⟩
theorem R3.fresh4 (h : R3 base B w v4 v5 v6 a b c) (hB : B < w.heap.size) (hs : w.heap.size ≤ W.heap.size) : ∀ k, W.heap.size ≤ k → k ≠ B ∧ some k ≠ v5.ownBlock ∧ some k ≠ v6.ownBlock := fun k hk => ⟨by omega, fun he => by have := Kd.R_lt h.r5 k he.symm; omega, fun he => by have := Kd.R_lt h.r6 k he.symm; omega⟩
theorem R3.fresh5 (h : R3 base B w v4 v5 v6 a b c) (hB : B < w.heap.size) (hs : w.heap.size ≤ W.heap.size) : ∀ k, W.heap.size ≤ k → k ≠ B ∧ some k ≠ v4.ownBlock ∧ some k ≠ v6.ownBlock := fun k hk => ⟨by omega, fun he => by have := Kd.R_lt h.r4 k he.symm; omega, fun he => by have := Kd.R_lt h.r6 k he.symm; omega⟩
theorem R3.fresh6 (h : R3 base B w v4 v5 v6 a b c) (hB : B < w.heap.size) (hs : w.heap.size ≤ W.heap.size) : ∀ k, W.heap.size ≤ k → k ≠ B ∧ some k ≠ v4.ownBlock ∧ some k ≠ v5.ownBlock := fun k hk => ⟨by omega, fun he => by have := Kd.R_lt h.r4 k he.symm; omega, fun he => by have := Kd.R_lt h.r5 k he.symm; omega⟩
theorem R3.b4 (h : R3 base B w v4 v5 v6 a b c) : some B ≠ v4.ownBlock := fun he => (h.r4.1 B he.symm).1 rfl
theorem R3.b5 (h : R3 base B w v4 v5 v6 a b c) : some B ≠ v5.ownBlock := fun he => (h.r5.1 B he.symm).1 rfl
theorem R3.b6 (h : R3 base B w v4 v5 v6 a b c) : some B ≠ v6.ownBlock := fun he => (h.r6.1 B he.symm).1 rfl
end
/-- A call as one step of a region that draws its order. -/
theorem step_call {P : Program} {ops : Array Oper} {o : Oper} {a : Act} {w : World} {K : Act → World → Prop} {Q : Exit → Act → World → Prop} {f : FuncId} {args : Array Value} (hw : Region.wanted o (yielded ops a.tmps) = true) (hr : (execOp a.eval o).run P w = .ok (.enter f args) w)
    (hc : Calls P f args w fun e w' => ∃ v, e = .returned v ∧ K (a.put o.dst v) w') : if Region.wanted o (yielded ops a.tmps) = true then Oper.wp P o a w K Q else K (a.put o.dst undef) w := by
  rw [if_pos hw]
  unfold Oper.wp
  rw [hr]
  refine Calls.mono hc fun e w' h => ?_
  obtain ⟨v, rfl, hk⟩ := h
  exact hk
/-- A literal of one element, wherever it was made. -/
theorem one_str {w : World} {b : Nat} {s : ByteArray} (h : w.cell? ⟨b, 0, none⟩ = some (.string s)) : ReadsRow (Kd.string.K w) Kd.string.sz w (some ⟨b, 0, none⟩) 1 [s] := by
  refine ⟨rfl, by decide, fun _ => ⟨_, rfl, fun j p hj => ?_⟩⟩
  match j, hj with
  | 0, hj =>
    cases hj
    refine ⟨[.string s], rfl, rfl, fun i u hu => ?_⟩
    match i, hu with
    | 0, hu => cases hu; exact h
    | i + 1, hu => cases hu
  | j + 1, hj => cases hj
theorem one_int {w : World} {b : Nat} {x : Int} (h : w.cell? ⟨b, 0, none⟩ = some (.int .i64 x)) : ReadsRow ((Kd.int .i64).K w) (Kd.int .i64).sz w (some ⟨b, 0, none⟩) 1 [x] := by
  refine ⟨rfl, by decide, fun _ => ⟨_, rfl, fun j p hj => ?_⟩⟩
  match j, hj with
  | 0, hj =>
    cases hj
    refine ⟨[.int .i64 x], rfl, rfl, fun i u hu => ?_⟩
    match i, hu with
    | 0, hu => cases hu; exact h
    | i + 1, hu => cases hu
  | j + 1, hj => cases hj
theorem cell_new (w : World) (cs : Array Value) (t k : Nat) : (w.alloc (.cells cs t)).cell? ⟨w.heap.size, k, none⟩ = cs[k]? := by
  unfold World.cell?
  rw [heap_alloc_new]
  simp
theorem one_rule {w : World} {b base : Nat} {okp : Nat → Prop} {x : SR} {a0 a1 a2 a3 : Value} (hM : kSR.M w base okp x [a0, a1, a2, a3]) (h : w.heap[b]? = some (.cells #[a0, a1, a2, a3] 81 (0, 0))) : ReadsRow (fun x cs => kSR.M w base okp x cs) kSR.sz w (some ⟨b, 0, none⟩) 1 [x] := by
  have hb : Bx w b #[a0, a1, a2, a3] 81 := ⟨h⟩
  refine ⟨rfl, by decide, fun _ => ⟨_, rfl, fun j p hj => ?_⟩⟩
  match j, hj with
  | 0, hj =>
    cases hj
    refine ⟨[a0, a1, a2, a3], rfl, hM, fun i u hu => ?_⟩
    match i, hu with
    | 0, hu => cases hu; exact hb.c 0 rfl
    | 1, hu => cases hu; exact hb.c 1 rfl
    | 2, hu => cases hu; exact hb.c 2 rfl
    | 3, hu => cases hu; exact hb.c 3 rfl
    | i + 4, hu => cases hu
  | j + 1, hj => cases hj
theorem lit_row (w : World) (cs : Array Value) (t : Nat) : (w.alloc (.cells cs t)).drew.heap[w.heap.size]? = some (.cells cs t (0, 0)) := heap_alloc_new w _
theorem lit_row2 (w : World) (cs : Array Value) (t : Nat) : (w.drew.alloc (.cells cs t)).heap[w.heap.size]? = some (.cells cs t (0, 0)) := heap_alloc_new w.drew _
theorem lit_new (w : World) (cs : Array Value) (t : Nat) : (w.alloc (.cells cs t)).drew.cell? ⟨w.heap.size, 0, none⟩ = cs[0]? := cell_new w cs t 0
theorem lit_new2 (w : World) (cs : Array Value) (t : Nat) : (w.drew.alloc (.cells cs t)).cell? ⟨w.heap.size, 0, none⟩ = cs[0]? := cell_new w.drew cs t 0
/-- The loop over the tokens: names, levels, assocs of the first i. -/
def TcRel (W8 : World) (B : Nat) (ts : List STk) (t n : Int) (ex : Int) (kq : Nat) (v : Value) (w' : World) : Prop := ∃ (i : Nat) (v4 v5 v6 : Value), i + kq = ts.length ∧ v = .int .i64 (i : Int) ∧ Bx w' B #[.int .i64 t, .int .i64 n, .int .i64 0, .int .i64 ex, v4, v5, v6, .slice none 0 0] 32 ∧ R3 W8.heap.size B w' v4 v5 v6 ((ts.take i).map STk.f0) ((ts.take i).map STk.f1) ((ts.take i).map STk.f2) ∧ Below W8.heap.size W8 w'
/-- Four rows: three that stay, below N; the rules' row, from N on. -/
structure R4 (base B N : Nat) (w : World) (v4 v5 v6 v7 : Value) (a : List ByteArray) (b c : List Int) (d : List SR) : Prop where
  r4 : Kd.R Kd.string 9 w base (fun x => x ≠ B ∧ x < N) v4 a
  r5 : Kd.R (Kd.int .i64) 3 w base (fun x => x ≠ B ∧ x < N) v5 b
  r6 : Kd.R (Kd.int .i64) 3 w base (fun x => x ≠ B ∧ x < N) v6 c
  r7 : Kd.R kSR 81 w base (fun x => N ≤ x) v7 d
  lt : B < N
section
variable {base B N j : Nat} {W w w' : World} {v4 v5 v6 v7 v' u : Value} {a : List ByteArray} {b c : List Int} {d d' : List SR}
theorem R4.of (h : R3 base B w v4 v5 v6 a b c) (hB : B < w.heap.size) : R4 base B w.heap.size w v4 v5 v6 (.slice none 0 0) a b c [] := ⟨Kd.R_mono (Kd.R_bound h.r4) (fun x h => ⟨h.1.1, h.2.2.1⟩), Kd.R_mono (Kd.R_bound h.r5) (fun x h => ⟨h.1.1, h.2.2.1⟩), Kd.R_mono (Kd.R_bound h.r6) (fun x h => ⟨h.1.1, h.2.2.1⟩), Kd.R_nil _ _ _ _ _, hB⟩
theorem R4.below (h : R4 base B N w v4 v5 v6 v7 a b c d) (hb : Below w.heap.size w w') : R4 base B N w' v4 v5 v6 v7 a b c d := ⟨Kd.R_below h.r4 hb, Kd.R_below h.r5 hb, Kd.R_below h.r6 hb, Kd.R_below h.r7 hb, h.lt⟩
theorem R4.far (h : R4 base B N w v4 v5 v6 v7 a b c d) (j : Nat) (u : Value) : R4 base B N (w.setCell ⟨B, j, none⟩ u) v4 v5 v6 v7 a b c d := ⟨Kd.R_far h.r4 (fun x h => h.1) u, Kd.R_far h.r5 (fun x h => h.1) u, Kd.R_far h.r6 (fun x h => h.1) u, Kd.R_far h.r7 (fun x hx => by have := h.lt; show x ≠ B; omega) u, h.lt⟩
theorem R4.put7 (h : R4 base B N W v4 v5 v6 v7 a b c d) (r : Kd.R kSR 81 w base (fun x => N ≤ x) v' d') (hg : W.grownBy w v7.ownBlock) (hat : v'.ownBlock = v7.ownBlock ∨ ∃ x, v'.ownBlock = some x ∧ W.heap.size ≤ x) : R4 base B N w v4 v5 v6 v' a b c d' := by
  have key : ∀ x, x < N → some x ≠ v7.ownBlock := fun x hx he => by have := h.r7.1 x he.symm; simp only at this; omega
  have ha := Kd.R_after (ok := fun x => x ≠ B ∧ x < N) (v := v7) (Kd.R_mono h.r4 (fun x h => ⟨h, key x h.2⟩)) hg hat
  have hb := Kd.R_after (ok := fun x => x ≠ B ∧ x < N) (v := v7) (Kd.R_mono h.r5 (fun x h => ⟨h, key x h.2⟩)) hg hat
  have hc := Kd.R_after (ok := fun x => x ≠ B ∧ x < N) (v := v7) (Kd.R_mono h.r6 (fun x h => ⟨h, key x h.2⟩)) hg hat
  exact ⟨Kd.R_mono ha (fun x h => h.1), Kd.R_mono hb (fun x h => h.1), Kd.R_mono hc (fun x h => h.1), r, h.lt⟩
theorem R4.b7 (h : R4 base B N w v4 v5 v6 v7 a b c d) : some B ≠ v7.ownBlock := fun he => by have := h.r7.1 B he.symm; have := h.lt; simp only at *; omega
end
/-- The literal row of one rule that has one symbol. -/
theorem lit_rule {W : World} {base : Nat} (st : Int) (hb : base ≤ W.heap.size) : kSR.M (W.alloc (.cells #[.int .i64 st] 3)) base (fun x => x = W.heap.size) (⟨-1, [st], 0, 0⟩ : SR) [.int .i64 (-1), .slice (some ⟨W.heap.size, 0, none⟩) 1 1, .int .i64 0, .int .i64 0] := by
  refine kSR_mkM _ _ _ (⟨-1, [st], 0, 0⟩ : SR) ?_
  refine ⟨fun k hk => ?_, [.int .i64 st], World.ownsRow_lit (base := base) (e := 3) (size := 1) W #[.int .i64 st] 1 hb (by decide) (by simp), (Reps.none _ _).snoc (show Kd.M (Kd.int .i64) _ _ _ _ [.int .i64 st] from rfl) rfl⟩
  have : W.heap.size = k := by simpa [Value.ownBlock] using hk
  exact this.symm
/-- The loop over the rules. -/
def RcRel (W6 : World) (B N : Nat) (ts : List STk) (names : List ByteArray) (rs : List SRu) (t n q ex : Int) (v4 v5 v6 : Value) (kq : Nat) (v : Value) (w' : World) : Prop := ∃ (i : Nat) (v7 : Value), i + kq = rs.length ∧ v = .int .i64 (i : Int) ∧ Bx w' B #[.int .i64 t, .int .i64 n, .int .i64 q, .int .i64 ex, v4, v5, v6, v7] 32 ∧ R4 W6.heap.size B N w' v4 v5 v6 v7 names (ts.map STk.f1) (ts.map STk.f2) (⟨-1, [q], 0, 0⟩ :: (rs.take i).map (ruleF ts names)) ∧ Below W6.heap.size W6 w' ∧ N ≤ w'.heap.size
end Go.Proofs.YtjhemobplcelbaaGreatDoor.O
