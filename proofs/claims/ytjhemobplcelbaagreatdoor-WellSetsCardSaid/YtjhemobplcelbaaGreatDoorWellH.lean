/- well: Rules of donatuslaw7: the names and levels. -/
import Derived.Test.YtjhemobplcelbaaGreatDoorWellG
import Derived.Test.YtjhemobplcelbaaGreatDoorKit3
import Derived.Deep.RegionLaw
import Derived.Laws.BytesArg
namespace Go.Proofs.YtjhemobplcelbaaGreatDoor.U
open Go.RowKit Go.Proofs.YtjhemobplcelbaaGreatDoorW.PrintWords Go.Proofs.YtjhemobplcelbaaGreatDoorW.PrintLast Go.Proofs.YtjhemobplcelbaaGreatDoorW.PrintMore
set_option linter.unusedVariables false
set_option linter.unusedSimpArgs false
theorem infoI : (Tryz.prog.info? 3).map (fun i => (i.zero, i.size, i.bytes)) = some (some (.int .i64 0), 1, 8) := by kernel_rfl
theorem infoSR : (Tryz.prog.info? 81).map (fun i => (i.zero, i.size, i.bytes)) = some (some (.agg #[.int .i64 0, .slice none 0 0, .int .i64 0, .int .i64 0]), 4, 48) := by kernel_rfl
theorem infoS : (Tryz.prog.info? 9).map (fun i => (i.zero, i.size, i.bytes)) = some (some (.string ⟨#[]⟩), 1, 16) := by kernel_rfl
/-- Three rows, in the box B: names, levels, assocs. -/
def Rows3 (base B : Nat) (w' : World) (v4 v5 v6 : Value) (k : Nat) : Prop := ∃ (a : List ByteArray) (b c : List Int), a.length ≤ k ∧ b.length ≤ k ∧ c.length ≤ k ∧
  Kd.R Kd.string 9 w' base (fun x => x ≠ B ∧ some x ≠ v5.ownBlock ∧ some x ≠ v6.ownBlock) v4 a ∧ Kd.R (Kd.int .i64) 3 w' base (fun x => x ≠ B ∧ some x ≠ v4.ownBlock ∧ some x ≠ v6.ownBlock) v5 b ∧ Kd.R (Kd.int .i64) 3 w' base (fun x => x ≠ B ∧ some x ≠ v4.ownBlock ∧ some x ≠ v5.ownBlock) v6 c
theorem Rows3.mono {base B k k' : Nat} {w' : World} {v4 v5 v6 : Value} (h : Rows3 base B w' v4 v5 v6 k) (hk : k ≤ k') : Rows3 base B w' v4 v5 v6 k' := by
  obtain ⟨a, b, c, h1, h2, h3, h4⟩ := h
  exact ⟨a, b, c, by omega, by omega, by omega, h4⟩
theorem R_re {α : Type} {d : Kd α} {e base : Nat} {ok ok' : Nat → Prop} {w : World} {v : Value} {xs : List α} (h : d.R e w base ok v xs) (k : ∀ x, ok x → ok' x) : d.R e w base ok' v xs := Kd.R_mono h k
theorem rows3_4 {base B k j : Nat} {W8 w9 : World} {v4 v4' v5 v6 u : Value} {a : List ByteArray} {b c : List Int} (ra : Kd.R Kd.string 9 w9 base (fun x => x ≠ B ∧ some x ≠ v5.ownBlock ∧ some x ≠ v6.ownBlock) v4' a) (rb : Kd.R (Kd.int .i64) 3 W8 base (fun x => x ≠ B ∧ some x ≠ v4.ownBlock ∧ some x ≠ v6.ownBlock) v5 b) (rc : Kd.R (Kd.int .i64) 3 W8 base (fun x => x ≠ B ∧ some x ≠ v4.ownBlock ∧ some x ≠ v5.ownBlock) v6 c)
    (hg : W8.grownBy w9 v4.ownBlock) (hat : v4'.ownBlock = v4.ownBlock ∨ ∃ x, v4'.ownBlock = some x ∧ W8.heap.size ≤ x) (la : a.length ≤ k) (lb : b.length ≤ k) (lc : c.length ≤ k) : Rows3 base B (w9.setCell ⟨B, j, none⟩ u) v4' v5 v6 k := by
  have hb := Kd.R_after (ok := fun x => x ≠ B ∧ some x ≠ v6.ownBlock) (v := v4) (R_re rb (fun x h => ⟨⟨h.1, h.2.2⟩, h.2.1⟩)) hg hat
  have hc := Kd.R_after (ok := fun x => x ≠ B ∧ some x ≠ v5.ownBlock) (v := v4) (R_re rc (fun x h => ⟨⟨h.1, h.2.2⟩, h.2.1⟩)) hg hat
  exact ⟨a, b, c, la, lb, lc, Kd.R_far ra (fun x h => h.1) u, R_re (Kd.R_far hb (fun x h => h.1.1) u) (fun x h => ⟨h.1.1, h.2, h.1.2⟩), R_re (Kd.R_far hc (fun x h => h.1.1) u) (fun x h => ⟨h.1.1, h.2, h.1.2⟩)⟩
theorem SBox.put4 {W : World} {X : Nat} {t n st ex : Int} {v4 v5 v6 v7 : Value} (h : SBox W X t n st ex v4 v5 v6 v7) (u : Value) : SBox (W.setCell ⟨X, 4, none⟩ u) X t n st ex u v5 v6 v7 := by
  refine ⟨?_⟩
  rw [setCell_eq_setRow W X 4 _ 32 (0, 0) u h.heap]
  exact setRow_heap W X _ _ 32 (0, 0) h.heap
theorem SBox.put5 {W : World} {X : Nat} {t n st ex : Int} {v4 v5 v6 v7 : Value} (h : SBox W X t n st ex v4 v5 v6 v7) (u : Value) : SBox (W.setCell ⟨X, 5, none⟩ u) X t n st ex v4 u v6 v7 := by
  refine ⟨?_⟩
  rw [setCell_eq_setRow W X 5 _ 32 (0, 0) u h.heap]
  exact setRow_heap W X _ _ 32 (0, 0) h.heap
theorem SBox.put6 {W : World} {X : Nat} {t n st ex : Int} {v4 v5 v6 v7 : Value} (h : SBox W X t n st ex v4 v5 v6 v7) (u : Value) : SBox (W.setCell ⟨X, 6, none⟩ u) X t n st ex v4 v5 u v7 := by
  refine ⟨?_⟩
  rw [setCell_eq_setRow W X 6 _ 32 (0, 0) u h.heap]
  exact setRow_heap W X _ _ 32 (0, 0) h.heap
theorem SBox.put7 {W : World} {X : Nat} {t n st ex : Int} {v4 v5 v6 v7 : Value} (h : SBox W X t n st ex v4 v5 v6 v7) (u : Value) : SBox (W.setCell ⟨X, 7, none⟩ u) X t n st ex v4 v5 v6 u := by
  refine ⟨?_⟩
  rw [setCell_eq_setRow W X 7 _ 32 (0, 0) u h.heap]
  exact setRow_heap W X _ _ 32 (0, 0) h.heap
theorem SBox.put2 {W : World} {X : Nat} {t n st ex : Int} {v4 v5 v6 v7 : Value} (h : SBox W X t n st ex v4 v5 v6 v7) (u : Int) : SBox (W.setCell ⟨X, 2, none⟩ (.int .i64 u)) X t n u ex v4 v5 v6 v7 := by
  refine ⟨?_⟩
  rw [setCell_eq_setRow W X 2 _ 32 (0, 0) _ h.heap]
  exact setRow_heap W X _ _ 32 (0, 0) h.heap
theorem c_one {w : World} {b : Nat} (h : w.cell? ⟨b, 0, none⟩ = some (.int .i64 0)) : ReadsRow ((Kd.int .i64).K w) (Kd.int .i64).sz w (some ⟨b, 0, none⟩) 1 [(0 : Int)] := by
  refine ⟨rfl, by decide, fun _ => ⟨_, rfl, fun j p hj => ?_⟩⟩
  match j, hj with
  | 0, hj =>
    cases hj
    refine ⟨[.int .i64 0], rfl, rfl, fun i u hu => ?_⟩
    match i, hu with
    | 0, hu => cases hu; exact h
    | i + 1, hu => cases hu
  | j + 1, hj => cases hj
theorem SBox.onto {W : World} {X : Nat} {t n st ex : Int} {v4 v5 v6 v7 : Value} (h : SBox W X t n st ex v4 v5 v6 v7) (o : Obj) : SBox (W.alloc o) X t n st ex v4 v5 v6 v7 := h.move (below_alloc (Below.refl _ _) o) h.lt
theorem SBox.grown {W w1 : World} {X : Nat} {t n st ex : Int} {v4 v5 v6 v7 : Value} {row : Option Nat} (hg : W.grownBy w1 row) (h : SBox W X t n st ex v4 v5 v6 v7) (hne : some X ≠ row) : SBox w1 X t n st ex v4 v5 v6 v7 := ⟨(hg.block X h.lt hne).trans h.heap⟩
theorem lit1 (w : World) (cs : Array Value) (t : Nat) : (w.alloc (.cells cs t)).drew.cell? ⟨w.heap.size, 0, none⟩ = cs[0]? := cell_new w cs t 0
theorem lit2 (w : World) (o : Obj) (cs : Array Value) (t : Nat) (u : Value) (h : cs[0]? = some u) : ((w.alloc (.cells cs t)).alloc o).drew.cell? ⟨w.heap.size, 0, none⟩ = some u := pw_cell_below (below_alloc (Below.refl _ _) o) ((cell_new w cs t 0).trans h)
theorem lit3 (w : World) (o : Obj) (cs : Array Value) (t : Nat) : ((w.alloc o).alloc (.cells cs t)).drew.cell? ⟨w.heap.size + 1, 0, none⟩ = cs[0]? := by
  have := cell_new (w.alloc o) cs t 0
  rw [World.size_alloc] at this
  exact this
theorem fresh3 {W10 Wc : World} {B : Nat} {p q : Option Nat} (hb : Below W10.heap.size W10 Wc) (hB : B < W10.heap.size) (hp : ∀ k, some k = p → k < W10.heap.size) (hq : ∀ k, some k = q → k < W10.heap.size) : ∀ k, Wc.heap.size ≤ k → k ≠ B ∧ some k ≠ p ∧ some k ≠ q := fun k hk => by
  have := hb.size
  exact ⟨by omega, fun he => by have := hp k he; omega, fun he => by have := hq k he; omega⟩
theorem cell_same {w w' : World} {b : Nat} (h : w'.heap[b]? = w.heap[b]?) (k : Nat) : w'.cell? ⟨b, k, none⟩ = w.cell? ⟨b, k, none⟩ := by unfold World.cell?; rw [h]
theorem lit5 (w : World) (p : Addr) (u : Value) (cs : Array Value) (t : Nat) : ((w.setCell p u).alloc (.cells cs t)).cell? ⟨w.heap.size, 0, none⟩ = cs[0]? := by
  have := cell_new (w.setCell p u) cs t 0
  rw [World.size_setCell] at this
  exact this
theorem lit6 (w : World) (B j : Nat) (hB : B < w.heap.size) (u : Value) (cs : Array Value) (t : Nat) : ((w.alloc (.cells cs t)).setCell ⟨B, j, none⟩ u).cell? ⟨w.heap.size, 0, none⟩ = cs[0]? :=
  (cell_same (Below.heap_setCell (w.alloc (.cells cs t)) ⟨B, j, none⟩ u w.heap.size (by show w.heap.size ≠ B; omega)) 0).trans (cell_new w cs t 0)
theorem lit7 {W10 Wc w1 : World} (hk : ∀ k, W10.heap.size ≤ k → k < Wc.heap.size → w1.heap[k]? = Wc.heap[k]?) {b : Nat} {u : Value} (hb : W10.heap.size ≤ b) (h : Wc.cell? ⟨b, 0, none⟩ = some u) : w1.cell? ⟨b, 0, none⟩ = some u :=
  (cell_same (hk b hb (World.block_lt_of_cell? _ _ h)) 0).trans h
theorem lit8 {w1 : World} {b B j : Nat} {u v : Value} (hb : b ≠ B) (h : w1.cell? ⟨b, 0, none⟩ = some u) : (w1.setCell ⟨B, j, none⟩ v).cell? ⟨b, 0, none⟩ = some u := (cell_same (Below.heap_setCell w1 ⟨B, j, none⟩ v b hb) 0).trans h
theorem fresh4 {w1 Wd : World} {B base e : Nat} {t n st ex : Int} {v4 v5 v6 v7 u4 u5 : Value} {ok ok' : Nat → Prop} {a : List ByteArray} {b : List Int} (hx : SBox w1 B t n st ex v4 v5 v6 v7) (ha : Kd.R Kd.string 9 w1 base ok u4 a) (hb : Kd.R (Kd.int .i64) e w1 base ok' u5 b) (hs : w1.heap.size ≤ Wd.heap.size) : ∀ k, Wd.heap.size ≤ k → k ≠ B ∧ some k ≠ u4.ownBlock ∧ some k ≠ u5.ownBlock := fun k hk => by
  have := hx.lt
  exact ⟨by omega, fun he => by have := Kd.R_lt ha k he.symm; omega, fun he => by have := Kd.R_lt hb k he.symm; omega⟩
theorem rows3_fin {W6 w1 Wd w2 : World} {B k : Nat} {t n : Int} {v4 v5 v5' v6 v6' v7 : Value} {a : List ByteArray} {b c : List Int} (hd : Below w1.heap.size w1 Wd) (ra : Kd.R Kd.string 9 w1 W6.heap.size (fun x => x ≠ B ∧ some x ≠ v5'.ownBlock ∧ some x ≠ v6.ownBlock) v4 a) (rb : Kd.R (Kd.int .i64) 3 w1 W6.heap.size (fun x => x ≠ B ∧ some x ≠ v4.ownBlock ∧ some x ≠ v6.ownBlock) v5' b)
    (hg : Wd.grownBy w2 v6.ownBlock) (hat : v6'.ownBlock = v6.ownBlock ∨ ∃ x, v6'.ownBlock = some x ∧ Wd.heap.size ≤ x) (rc : Kd.R (Kd.int .i64) 3 w2 W6.heap.size (fun x => x ≠ B ∧ some x ≠ v4.ownBlock ∧ some x ≠ v5'.ownBlock) v6' c) (hx : SBox w2 B t n 0 0 v4 v5 v6 v7) (hb : Below W6.heap.size W6 w2) (hB : W6.heap.size ≤ B) (la : a.length ≤ k) (lb : b.length ≤ k) (lc : c.length ≤ k) :
    SBox ((w2.setCell ⟨B, 5, none⟩ v5').setCell ⟨B, 6, none⟩ v6') B t n 0 0 v4 v5' v6' v7 ∧ Rows3 W6.heap.size B ((w2.setCell ⟨B, 5, none⟩ v5').setCell ⟨B, 6, none⟩ v6') v4 v5' v6' k ∧ Below W6.heap.size W6 ((w2.setCell ⟨B, 5, none⟩ v5').setCell ⟨B, 6, none⟩ v6') := by
  have ha := Kd.R_after (ok := fun x => x ≠ B ∧ some x ≠ v5'.ownBlock) (v := v6) (R_re (Kd.R_below ra hd) (fun x h => ⟨⟨h.1, h.2.1⟩, h.2.2⟩)) hg hat
  have hb5 := Kd.R_after (ok := fun x => x ≠ B ∧ some x ≠ v4.ownBlock) (v := v6) (R_re (Kd.R_below rb hd) (fun x h => ⟨⟨h.1, h.2.1⟩, h.2.2⟩)) hg hat
  exact ⟨(hx.put5 v5').put6 v6', ⟨a, b, c, la, lb, lc, R_re (Kd.R_far (Kd.R_far ha (fun x h => h.1.1) v5') (fun x h => h.1.1) v6') (fun x h => ⟨h.1.1, h.1.2, h.2⟩), R_re (Kd.R_far (Kd.R_far hb5 (fun x h => h.1.1) v5') (fun x h => h.1.1) v6') (fun x h => ⟨h.1.1, h.1.2, h.2⟩), Kd.R_far (Kd.R_far rc (fun x h => h.1) v5') (fun x h => h.1) v6'⟩, (hb.setCell (p := ⟨B, 5, none⟩) hB v5').setCell (p := ⟨B, 6, none⟩) hB v6'⟩
/-- Rows and box, the levels' row being grown. -/
theorem step_a {base B : Nat} {W10 Wc w1 : World} {t n : Int} {v4 v5 v5' v6 : Value} {a : List ByteArray} {b c : List Int} (hb : Below W10.heap.size W10 Wc) (hx : SBox W10 B t n 0 0 v4 v5 v6 (.slice none 0 0)) (ra : Kd.R Kd.string 9 W10 base (fun x => x ≠ B ∧ some x ≠ v5.ownBlock ∧ some x ≠ v6.ownBlock) v4 a) (rb : Kd.R (Kd.int .i64) 3 W10 base (fun x => x ≠ B ∧ some x ≠ v4.ownBlock ∧ some x ≠ v6.ownBlock) v5 b) (rc : Kd.R (Kd.int .i64) 3 W10 base (fun x => x ≠ B ∧ some x ≠ v4.ownBlock ∧ some x ≠ v5.ownBlock) v6 c)
    (hg : Wc.grownBy w1 v5.ownBlock) (hat : v5'.ownBlock = v5.ownBlock ∨ ∃ x, v5'.ownBlock = some x ∧ Wc.heap.size ≤ x) :
    Kd.R Kd.string 9 w1 base (fun x => x ≠ B ∧ some x ≠ v5'.ownBlock ∧ some x ≠ v6.ownBlock) v4 a ∧ Kd.R (Kd.int .i64) 3 w1 base (fun x => x ≠ B ∧ some x ≠ v4.ownBlock ∧ some x ≠ v5'.ownBlock) v6 c ∧ SBox w1 B t n 0 0 v4 v5 v6 (.slice none 0 0) ∧ (∀ k, W10.heap.size ≤ k → k < Wc.heap.size → w1.heap[k]? = Wc.heap[k]?) := by
  have ha := Kd.R_after (ok := fun x => x ≠ B ∧ some x ≠ v6.ownBlock) (v := v5) (R_re (Kd.R_below ra hb) (fun x h => ⟨⟨h.1, h.2.2⟩, h.2.1⟩)) hg hat
  have hc := Kd.R_after (ok := fun x => x ≠ B ∧ some x ≠ v4.ownBlock) (v := v5) (R_re (Kd.R_below rc hb) (fun x h => ⟨⟨h.1, h.2.1⟩, h.2.2⟩)) hg hat
  exact ⟨R_re ha (fun x h => ⟨h.1.1, h.2, h.1.2⟩), R_re hc (fun x h => ⟨h.1.1, h.1.2, h.2⟩), SBox.grown hg (hx.move hb hx.lt) (fun he => (rb.1 B he.symm).1 rfl), fun k h1 h2 => hg.block k h2 (fun he => by have := Kd.R_lt rb k he.symm; omega)⟩
theorem step_b {base B : Nat} {Wd w2 : World} {v4 v5 v6 v6' : Value} {a : List ByteArray} {b c : List Int} (ra : Kd.R Kd.string 9 Wd base (fun x => x ≠ B ∧ some x ≠ v5.ownBlock ∧ some x ≠ v6.ownBlock) v4 a) (rb : Kd.R (Kd.int .i64) 3 Wd base (fun x => x ≠ B ∧ some x ≠ v4.ownBlock ∧ some x ≠ v6.ownBlock) v5 b)
    (hg : Wd.grownBy w2 v6.ownBlock) (hat : v6'.ownBlock = v6.ownBlock ∨ ∃ x, v6'.ownBlock = some x ∧ Wd.heap.size ≤ x) :
    Kd.R Kd.string 9 w2 base (fun x => x ≠ B ∧ some x ≠ v5.ownBlock ∧ some x ≠ v6'.ownBlock) v4 a ∧ Kd.R (Kd.int .i64) 3 w2 base (fun x => x ≠ B ∧ some x ≠ v4.ownBlock ∧ some x ≠ v6'.ownBlock) v5 b := by
  have ha := Kd.R_after (ok := fun x => x ≠ B ∧ some x ≠ v5.ownBlock) (v := v6) (R_re ra (fun x h => ⟨⟨h.1, h.2.1⟩, h.2.2⟩)) hg hat
  have hb := Kd.R_after (ok := fun x => x ≠ B ∧ some x ≠ v4.ownBlock) (v := v6) (R_re rb (fun x h => ⟨⟨h.1, h.2.1⟩, h.2.2⟩)) hg hat
  exact ⟨R_re ha (fun x h => ⟨h.1.1, h.1.2, h.2⟩), R_re hb (fun x h => ⟨h.1.1, h.1.2, h.2⟩)⟩
def NmRel (W6 : World) (B : Nat) (t n m : Nat) (kq : Nat) (v : Value) (w' : World) : Prop := ∃ (i : Nat) (v4 v5 v6 : Value), i + kq = m ∧ v = .int .i64 (i : Int) ∧ SBox w' B t n 0 0 v4 v5 v6 (.slice none 0 0) ∧ Rows3 W6.heap.size B w' v4 v5 v6 (2 * i) ∧ Below W6.heap.size W6 w'
theorem first_rule {W : World} {base B : Nat} (st : Int) (hb : base ≤ W.heap.size) (hB : B < W.heap.size) : Kd.R kSR 81 ((W.alloc (.cells #[.int .i64 st] 3)).alloc (.cells #[.int .i64 (-1), .slice (some ⟨W.heap.size, 0, none⟩) 1 1, .int .i64 0, .int .i64 0] 81)) base (fun x => x ≠ B) (.slice (some ⟨W.heap.size + 1, 0, none⟩) 1 1) [⟨-1, [st], 0, 0⟩] := by
  have hR : Kd.R (Kd.int .i64) 3 (W.alloc (.cells #[.int .i64 st] 3)) base (fun x => x ≠ B ∧ x ≠ W.heap.size + 1) (.slice (some ⟨W.heap.size, 0, none⟩) 1 1) [st] := by
    refine ⟨fun k hk => ?_, [.int .i64 st], World.ownsRow_lit (base := base) (e := 3) (size := 1) W #[.int .i64 st] 1 hb (by decide) (by simp), (Reps.none _ _).snoc (show Kd.M (Kd.int .i64) _ _ _ _ [.int .i64 st] from rfl) rfl⟩
    have : W.heap.size = k := by simpa [Value.ownBlock] using hk
    omega
  have hR2 := Kd.R_below hR (below_alloc (Below.refl _ _) (.cells #[.int .i64 (-1), .slice (some ⟨W.heap.size, 0, none⟩) 1 1, .int .i64 0, .int .i64 0] 81))
  have hs : (W.alloc (.cells #[.int .i64 st] 3)).heap.size = W.heap.size + 1 := World.size_alloc ..
  have hlit := World.ownsRow_lit (base := base) (e := 81) (size := 4) (W.alloc (.cells #[.int .i64 st] 3)) #[.int .i64 (-1), .slice (some ⟨W.heap.size, 0, none⟩) 1 1, .int .i64 0, .int .i64 0] 1 (by omega) (by decide) (by simp)
  rw [hs] at hlit
  refine ⟨fun k hk => ?_, [.int .i64 (-1), .slice (some ⟨W.heap.size, 0, none⟩) 1 1, .int .i64 0, .int .i64 0], hlit, (Reps.none _ _).snoc (kSR_mkM _ _ _ (⟨-1, [st], 0, 0⟩ : SR) (R_re hR2 (fun x h => ⟨h.1, fun he => h.2 (by simp [Value.ownBlock] at he; omega)⟩))) rfl⟩
  have : W.heap.size + 1 = k := by simpa [Value.ownBlock] using hk
  omega
theorem cell_put {W : World} {X j : Nat} {cs cs' : Array Value} {e : Nat} (v : Value) (h : W.heap[X]? = some (.cells cs e (0, 0))) (he : cs.setIfInBounds j v = cs') : (W.setCell ⟨X, j, none⟩ v).heap[X]? = some (.cells cs' e (0, 0)) := by
  rw [setCell_eq_setRow W X j cs e (0, 0) v h, ← he]
  exact setRow_heap W X cs _ e (0, 0) h
def put8 (W : World) (X : Nat) (v0 v1 v2 v3 v4 v5 v6 v7 : Value) : World := (((((((W.setCell ⟨X, 0, none⟩ v0).setCell ⟨X, 1, none⟩ v1).setCell ⟨X, 2, none⟩ v2).setCell ⟨X, 3, none⟩ v3).setCell ⟨X, 4, none⟩ v4).setCell ⟨X, 5, none⟩ v5).setCell ⟨X, 6, none⟩ v6).setCell ⟨X, 7, none⟩ v7
theorem put8_heap {W : World} {X : Nat} {a0 a1 a2 a3 a4 a5 a6 a7 v0 v1 v2 v3 v4 v5 v6 v7 : Value} {e : Nat} (h : W.heap[X]? = some (.cells #[a0, a1, a2, a3, a4, a5, a6, a7] e (0, 0))) : (put8 W X v0 v1 v2 v3 v4 v5 v6 v7).heap[X]? = some (.cells #[v0, v1, v2, v3, v4, v5, v6, v7] e (0, 0)) :=
  cell_put (cs := #[v0, v1, v2, v3, v4, v5, v6, a7]) v7 (cell_put (cs := #[v0, v1, v2, v3, v4, v5, a6, a7]) v6 (cell_put (cs := #[v0, v1, v2, v3, v4, a5, a6, a7]) v5 (cell_put (cs := #[v0, v1, v2, v3, a4, a5, a6, a7]) v4 (cell_put (cs := #[v0, v1, v2, a3, a4, a5, a6, a7]) v3 (cell_put (cs := #[v0, v1, a2, a3, a4, a5, a6, a7]) v2 (cell_put (cs := #[v0, a1, a2, a3, a4, a5, a6, a7]) v1 (cell_put v0 h rfl) rfl) rfl) rfl) rfl) rfl) rfl) rfl
theorem put8_far {W : World} {X k : Nat} {v0 v1 v2 v3 v4 v5 v6 v7 : Value} (hk : k ≠ X) : (put8 W X v0 v1 v2 v3 v4 v5 v6 v7).heap[k]? = W.heap[k]? := by
  unfold put8
  rw [Below.heap_setCell _ _ _ k hk, Below.heap_setCell _ _ _ k hk, Below.heap_setCell _ _ _ k hk, Below.heap_setCell _ _ _ k hk, Below.heap_setCell _ _ _ k hk, Below.heap_setCell _ _ _ k hk, Below.heap_setCell _ _ _ k hk, Below.heap_setCell _ _ _ k hk]
theorem put8_below {B0 : Nat} {w W : World} {X : Nat} {v0 v1 v2 v3 v4 v5 v6 v7 : Value} (h : Below B0 w W) (hX : B0 ≤ X) : Below B0 w (put8 W X v0 v1 v2 v3 v4 v5 v6 v7) :=
  (((((((h.setCell (p := ⟨X, 0, none⟩) hX _).setCell (p := ⟨X, 1, none⟩) hX _).setCell (p := ⟨X, 2, none⟩) hX _).setCell (p := ⟨X, 3, none⟩) hX _).setCell (p := ⟨X, 4, none⟩) hX _).setCell (p := ⟨X, 5, none⟩) hX _).setCell (p := ⟨X, 6, none⟩) hX _).setCell (p := ⟨X, 7, none⟩) hX _
theorem tmod_in {a : Int} {n : Nat} (h : 0 ≤ a) (hn : 0 < n) : ∃ i : Nat, Int.tmod a (n : Int) = (i : Int) ∧ i < n := by
  have h1 := Int.tmod_nonneg (n : Int) h
  have h2 := Int.tmod_lt_of_pos a (show (0 : Int) < (n : Int) by omega)
  exact ⟨(Int.tmod a n).toNat, by omega, by omega⟩
theorem row_at2 {w : World} {A : Option Addr} {n : Nat} {xs : List (List Int)} (h : Kd.C (Kd.slice 3 (Kd.int .i64)) w A n xs) (i : Nat) (hi : i < xs.length) : ∃ ad A1 c1, A = some ad ∧ w.cell? (ad.add i) = some (.slice A1 xs[i].length c1) ∧ xs[i].length ≤ c1 ∧ (Kd.int .i64).C w A1 xs[i].length xs[i] := by
  obtain ⟨ad, c, e, _, hK, hc0⟩ := Kd.C_get h ([] : List Int) (i : Int) (by omega) (by have := h.1; omega)
  have hc : ∀ j u, c[j]? = some u → w.cell? (ad.add (i * 1 + j)) = some u := hc0
  rw [show xs.getD ((i : Int)).toNat ([] : List Int) = xs[i] by simp [List.getD, hi]] at hK
  obtain ⟨A1, c1, rfl, l1, g1⟩ := hK
  exact ⟨ad, A1, c1, e, by have hq := hc 0 _ rfl; rwa [Nat.mul_one, Nat.add_zero] at hq, l1, g1⟩
theorem RuBox.put1 {W : World} {R : Nat} {rl rv ra : Int} {v : Value} (h : RuBox W R rl v rv ra) (u : Value) : RuBox (W.setCell ⟨R, 1, none⟩ u) R rl u rv ra := ⟨cell_put u h.heap rfl⟩
theorem RuBox.fz {W : World} {R : Nat} {rl rv ra : Int} {v : Value} (h : RuBox W R rl v rv ra) (k : Nat) : W.frozen? ⟨R, k, none⟩ = false := by simp [World.frozen?, h.heap]
theorem RuBox.c2 {W : World} {R : Nat} {rl rv ra : Int} {v : Value} (h : RuBox W R rl v rv ra) : W.cell? ⟨R, 2, none⟩ = some (.int .i64 rv) := by simp [World.cell?, h.heap]
theorem RuBox.c3 {W : World} {R : Nat} {rl rv ra : Int} {v : Value} (h : RuBox W R rl v rv ra) : W.cell? ⟨R, 3, none⟩ = some (.int .i64 ra) := by simp [World.cell?, h.heap]
theorem RuBox.lt {W : World} {R : Nat} {rl rv ra : Int} {v : Value} (h : RuBox W R rl v rv ra) : R < W.heap.size := (Array.getElem?_eq_some_iff.1 h.heap).1
theorem RuBox.grown {W w1 : World} {R : Nat} {rl rv ra : Int} {v : Value} {row : Option Nat} (h : RuBox W R rl v rv ra) (hg : W.grownBy w1 row) (hne : some R ≠ row) : RuBox w1 R rl v rv ra := ⟨(hg.block R h.lt hne).trans h.heap⟩
def InnRel (W : World) (C lf m len : Nat) (kq : Nat) (v : Value) (w' : World) : Prop := ∃ (k : Nat) (v1 : Value) (rt : List Int), k + kq = len ∧ v = .int .i64 (k : Int) ∧ RuBox w' C lf v1 0 0 ∧ Kd.R (Kd.int .i64) 3 w' W.heap.size (fun x => x ≠ C) v1 rt ∧ rt.length ≤ k ∧ (∀ x ∈ rt, 0 ≤ x ∧ x < (m : Int)) ∧ Below W.heap.size W w'
theorem more_rules {rs : List SR} {m i : Nat} {r : SR} (h : rs.length = i + 1) (w1 : ∀ x ∈ rs.tail, okRule m x) (w2 : ∃ r0, rs.head? = some r0 ∧ r0.f0 < 0) (w3 : ∀ x ∈ rs, ∀ y ∈ x.f1, 0 ≤ y ∧ y < (m : Int)) (hr : okRule m r) :
    (rs ++ [r]).length = i + 1 + 1 ∧ (∀ x ∈ (rs ++ [r]).tail, okRule m x) ∧ (∃ r0, (rs ++ [r]).head? = some r0 ∧ r0.f0 < 0) ∧ (∀ x ∈ rs ++ [r], ∀ y ∈ x.f1, 0 ≤ y ∧ y < (m : Int)) := by
  cases rs with
  | nil => cases h
  | cons a rs =>
    refine ⟨by simp at h ⊢; omega, fun x hx => ?_, ?_, fun x hx => ?_⟩
    · simp only [List.cons_append, List.tail_cons] at hx
      rcases List.mem_append.1 hx with hx | hx
      · exact w1 x hx
      · rw [List.mem_singleton.1 hx]; exact hr
    · obtain ⟨r0, e, hn⟩ := w2
      exact ⟨r0, e, hn⟩
    · rcases List.mem_append.1 hx with hx | hx
      · exact w3 x hx
      · rw [List.mem_singleton.1 hx]; exact hr.2
/-- The loop over the rules' numbers. -/
def RuRel (W6 : World) (B : Nat) (t n m : Nat) (len : Nat) (kq : Nat) (v : Value) (w' : World) : Prop := ∃ (i : Nat) (v4 v5 v6 v7 : Value) (rs : List SR), i + kq = len ∧ v = .int .i64 (i : Int) ∧ SBox w' B t n ((t + 1 : Nat) : Int) 0 v4 v5 v6 v7 ∧ Kd.R kSR 81 w' W6.heap.size (fun x => x ≠ B) v7 rs ∧ rs.length = i + 1 ∧ (∀ r ∈ rs.tail, okRule m r) ∧ (∃ r0, rs.head? = some r0 ∧ r0.f0 < 0) ∧ (∀ r ∈ rs, ∀ x ∈ r.f1, 0 ≤ x ∧ x < (m : Int)) ∧ (∃ A4 n4 c4, v4 = .slice A4 n4 c4) ∧ (∃ A5 n5 c5, v5 = .slice A5 n5 c5) ∧ (∃ A6 n6 c6, v6 = .slice A6 n6 c6) ∧ Below W6.heap.size W6 w'
set_option maxRecDepth 100000 in
set_option maxHeartbeats 4000000 in
theorem rules_calls (w : World) (tk nt : Int) (A : Option Addr) (c : Nat) (l : List (List Int)) (hl : Kd.C (Kd.slice 3 (Kd.int .i64)) w A l.length l) (hc : l.length ≤ c) :
    Calls Tryz.prog 36 #[.int .i64 tk, .int .i64 nt, .slice A l.length c] w fun e w' => ∃ (t n st : Nat) (A4 A5 A6 A7 : Option Addr) (n4 c4 n5 c5 n6 c6 c7 : Nat) (rs : List SR), e = .returned (.agg #[.int .i64 (t : Int), .int .i64 (n : Int), .int .i64 (st : Int), .int .i64 0, .slice A4 n4 c4, .slice A5 n5 c5, .slice A6 n6 c6, .slice A7 rs.length c7]) ∧
      Kd.C kSR w' A7 rs.length rs ∧ rs.length ≤ c7 ∧ (∀ r ∈ rs.tail, okRule (t + 1 + n) r) ∧ (∃ r0, rs.head? = some r0 ∧ r0.f0 < 0) ∧ (∀ r ∈ rs, ∀ x ∈ r.f1, 0 ≤ x ∧ x < ((t + 1 + n : Nat) : Int)) ∧ t + n ≤ 10 ∧ st < t + 1 + n ∧ Below w.heap.size w w' := by
  have HL := Aside0.mk (And.intro hl hc)
  have five : ∀ x : Int, ∃ k : Nat, k ≤ 4 ∧ Int.tmod (Int.tmod x 5 + 5) 5 = (k : Int) ∧ IntKind.i64.wrap (Int.tmod x 5 + 5) = Int.tmod x 5 + 5 ∧ IntKind.i64.wrap (1 + (k : Int)) = ((k + 1 : Nat) : Int) := by
    intro x
    have h1 := Int.lt_tmod_of_pos x (show (0 : Int) < 5 by decide)
    have h2 := Int.tmod_lt_of_pos x (show (0 : Int) < 5 by decide)
    have h3 := Int.tmod_nonneg (a := Int.tmod x 5 + 5) (5 : Int) (by omega)
    have h4 := Int.tmod_lt_of_pos (Int.tmod x 5 + 5) (show (0 : Int) < 5 by decide)
    refine ⟨(Int.tmod (Int.tmod x 5 + 5) 5).toNat, by omega, by omega, ?_, ?_⟩
    · rw [IntKind.wrap_i64]; omega
    · rw [IntKind.wrap_i64]; omega
  obtain ⟨t1, ht1, e1, e2, e3⟩ := five tk
  obtain ⟨n1, hn1, e4, e5, e6⟩ := five nt
  clear five hl
  obtain ⟨t, ht⟩ : ∃ t, t = t1 + 1 := ⟨_, rfl⟩
  obtain ⟨n, hn⟩ : ∃ n, n = n1 + 1 := ⟨_, rfl⟩
  rw [← ht] at e3
  rw [← hn] at e6
  have HT : Aside0 (1 ≤ t ∧ t ≤ 5 ∧ 1 ≤ n ∧ n ≤ 5) := ⟨by omega⟩
  obtain ⟨m, hm⟩ : ∃ m, m = t + 1 + n := ⟨_, rfl⟩
  have HM := Aside0.mk hm
  have hw1 : IntKind.i64.wrap ((t : Int) + 1) = ((t + 1 : Nat) : Int) := by rw [IntKind.wrap_i64]; omega
  have hw2 : IntKind.i64.wrap (((t + 1 : Nat) : Int) + (n : Int)) = (m : Int) := by rw [IntKind.wrap_i64]; omega
  have hw3 : IntKind.i64.wrap ((t : Int) + 1 + (n : Int)) = (m : Int) := by rw [IntKind.wrap_i64]; omega
  clear ht1 hn1 ht hn hm
  go_enter Tryz.func36, Tryz.ntmps36
  go_upto_region 3 with fail
  have hbA := below_alloc (Below.refl w.heap.size w) (.cells #[.int .i64 0, .int .i64 0, .int .i64 0, .int .i64 0, .slice none 0 0, .slice none 0 0, .slice none 0 0, .slice none 0 0] 32)
  have hx6 : SBox (w.alloc (.cells #[.int .i64 0, .int .i64 0, .int .i64 0, .int .i64 0, .slice none 0 0, .slice none 0 0, .slice none 0 0, .slice none 0 0] 32)) w.heap.size 0 0 0 0 (.slice none 0 0) (.slice none 0 0) (.slice none 0 0) (.slice none 0 0) := SBox.new w
  have hs6 : (w.alloc (.cells #[.int .i64 0, .int .i64 0, .int .i64 0, .int .i64 0, .slice none 0 0, .slice none 0 0, .slice none 0 0, .slice none 0 0] 32)).heap.size = w.heap.size + 1 := World.size_alloc ..
  rw [← hs6]
  generalize w.alloc (.cells #[.int .i64 0, .int .i64 0, .int .i64 0, .int .i64 0, .slice none 0 0, .slice none 0 0, .slice none 0 0, .slice none 0 0] 32) = W6 at *
  have hbB := below_alloc (Below.refl W6.heap.size W6) (.cells #[.int .i64 (t : Int), .int .i64 (n : Int), .int .i64 0, .int .i64 0, .slice none 0 0, .slice none 0 0, .slice none 0 0, .slice none 0 0] 32)
  have hx7 : SBox (W6.alloc (.cells #[.int .i64 (t : Int), .int .i64 (n : Int), .int .i64 0, .int .i64 0, .slice none 0 0, .slice none 0 0, .slice none 0 0, .slice none 0 0] 32)) W6.heap.size t n 0 0 (.slice none 0 0) (.slice none 0 0) (.slice none 0 0) (.slice none 0 0) := SBox.new W6
  obtain ⟨B6, hB6⟩ : ∃ B6, B6 = w.heap.size := ⟨_, rfl⟩
  obtain ⟨B, hB⟩ : ∃ B, B = W6.heap.size := ⟨_, rfl⟩
  rw [← hB6] at hx6 hs6
  rw [← hB] at hx7 hbB
  rw [← hB6, ← hB]
  generalize W6.alloc (.cells #[.int .i64 (t : Int), .int .i64 (n : Int), .int .i64 0, .int .i64 0, .slice none 0 0, .slice none 0 0, .slice none 0 0, .slice none 0 0] 32) = W7 at *
  have HX6 := Aside0.mk hx6
  have HB6 := Aside0.mk (And.intro hbA (And.intro hB6 (And.intro hs6 hB)))
  have H7 := Aside0.mk (And.intro hx7 (show Below W6.heap.size W6 W7 by rw [← hB]; exact hbB))
  clear hx6 hbA hB6 hs6 hB hbB hx7
  go_wp2_with fail
  go_loopg [9] m (fun kq v9 w' => NmRel W6 B t n m kq v9 w')
  case atStart => exact ⟨0, .slice none 0 0, .slice none 0 0, .slice none 0 0, by omega, rfl, H7.out.1, ⟨[], [], [], Nat.le_refl _, Nat.le_refl _, Nat.le_refl _, Kd.R_nil _ _ _ _ _, Kd.R_nil _ _ _ _ _, Kd.R_nil _ _ _ _ _⟩, H7.out.2⟩
  case round =>
    obtain ⟨i, v4, v5, v6, hi, rfl, hx, hr, hb⟩ := hrel
    have HI := Aside0.mk hi
    have HX := Aside0.mk hx
    have HR := Aside0.mk (And.intro hr hb)
    clear hi hx hr hb
    by_cases hil : i < m
    · have t1 : decide ((i : Int) < (m : Int)) = true := by simp; omega
      have him : i ≤ 11 := by have := HM.out; have := HT.out; omega
      have x0 := HX.out.c0
      have hc0 : ∀ j, j < 1 → (wr.alloc (.cells #[.int .u8 (97 + (i : Int))] 5)).cell? ⟨wr.heap.size, 0 + j, none⟩ = some (.int .u8 ([97 + (i : Int)].getD j 0)) := by
        intro j hj
        obtain rfl : j = 0 := by omega
        exact cell_new wr _ _ 0
      have hcv := run_convert_bytes_arg (P := Tryz.prog) (wr.alloc (.cells #[.int .u8 (97 + (i : Int))] 5)) 69 5 Tryz.underlying69 Tryz.underlying5 wr.heap.size 0 1 1 [97 + (i : Int)] rfl hc0 9 Tryz.underlying9
      have hb8 := below_alloc (Below.refl wr.heap.size wr) (.cells #[.int .u8 (97 + (i : Int))] 5)
      have HB8 := Aside0.mk hb8
      have HX8 := Aside0.mk (HX.out.move hb8 HX.out.lt)
      clear x0
      have x0 := HX8.out.c0
      go_upto_if 45 with fail
      generalize strOfNums [97 + (i : Int)] = s0 at *
      generalize wr.alloc (.cells #[.int .u8 (97 + (i : Int))] 5) = W8 at *
      clear hcv hb8
      go_cut [10] (fun v10 wx => (∃ s, v10 = .string s) ∧ wx = W8)
      case first =>
        go_wp2_with fail
        all_goals (go_meet; exact ⟨⟨_, rfl⟩, rfl⟩)
      case rest =>
        obtain ⟨⟨s, rfl⟩, rfl⟩ := hcut
        obtain ⟨⟨a, b, c0, la, lb, lc, ra, rb, rc⟩, hb⟩ := HR.out
        obtain ⟨A4, c4, rfl⟩ := Kd.R_slice ra
        have ra8 := Kd.R_below ra HB8.out
        have rb8 := Kd.R_below rb HB8.out
        have rc8 := Kd.R_below rc HB8.out
        have HR8 := Aside0.mk (And.intro ra8 (And.intro rb8 rc8))
        have HB68 := Aside0.mk (hb.trans (HB8.out.mono hb.size))
        have HLN := Aside0.mk (And.intro la (And.intro lb lc))
        have la' : a.length ≤ 22 := by omega
        have HBW : Aside0 (W6.heap.size ≤ wc.heap.size ∧ B < wc.heap.size) := ⟨HB68.out.size, HX8.out.lt⟩
        clear ra rb rc hb ra8 rb8 rc8 la lb lc x0
        have x4 := HX8.out.c4
        go_upto_if 55 with (first
          | (at_builtin; refine Kd.R_append Kd.string (w0 := W6) W6.heap.size rfl (.tmp 47) (.tmp 49) 28 9 (.string ⟨#[]⟩) 16 rfl Tryz.underlying28 infoS rfl (by decide) (by omega) _ a s [.string s] (fun x => x ≠ B ∧ some x ≠ v5.ownBlock ∧ some x ≠ v6.ownBlock) (fun _ => False) rfl rfl (show Kd.M Kd.string _ _ _ s [.string s] from rfl) (fun _ h => h.elim) (fun k hk => ⟨by have := HBW.out.2; omega, fun he => by have := Kd.R_lt HR8.out.2.1 k he.symm; omega, fun he => by have := Kd.R_lt HR8.out.2.2 k he.symm; omega⟩) HR8.out.1 HB68.out HBW.out.1 (by omega) ?_; intro v1 w9 ho hb9 hg hat; obtain ⟨A5, c5, e5⟩ := Kd.R_slice ho; subst e5; have H9 := Aside0.mk (And.intro ho (And.intro hb9 (And.intro hg hat))); have HX9 : Aside0 (SBox w9 B t n 0 0 (.slice A4 a.length c4) v5 v6 (.slice none 0 0)) := ⟨⟨(hg.block B HBW.out.2 (fun he => (HR8.out.1.1 B he.symm).1 rfl)).trans HX8.out.heap⟩⟩; have x9 := HX9.out.fz 4; have x10 := HX9.out.c4; have x11 := HX9.out.c0; clear ho hb9 hg hat))
        have hr10 : Rows3 W6.heap.size B (w9.setCell ⟨B, 4, none⟩ (.slice A5 (a.length + 1) c5)) (.slice A5 (a.length + 1) c5) v5 v6 (2 * i + 1) := by
          have := HLN.out
          have hl : (a ++ [s]).length = a.length + 1 := by simp
          obtain ⟨p1, p2, p3, p4⟩ := H9.out
          rw [hl] at p1 p4
          exact rows3_4 p1 HR8.out.2.1 HR8.out.2.2 p3 p4 (by simp; omega) (by omega) (by omega)
        have hb10 : Below W6.heap.size W6 (w9.setCell ⟨B, 4, none⟩ (.slice A5 (a.length + 1) c5)) := H9.out.2.1.setCell (p := ⟨B, 4, none⟩) (by have := HB6.out.2.2.2; show W6.heap.size ≤ B; omega) _
        have hx10 := HX9.out.put4 (.slice A5 (a.length + 1) c5)
        generalize w9.setCell ⟨B, 4, none⟩ (.slice A5 (a.length + 1) c5) = W10 at *
        generalize Value.slice A5 (a.length + 1) c5 = v4' at *
        have HX10 := Aside0.mk (And.intro hx10 (And.intro hr10 hb10))
        clear hx10 hr10 hb10 HX9 HX8 x4 x9 x10 x11 H9 HR8 HB68 HLN HB8 HX HR
        by_cases hit : i < t
        · have t2 : decide ((i : Int) < (t : Int)) = true := by simp; omega
          have t3 : decide (i < t) = true := by simp; omega
          obtain ⟨a', b', c', la, lb, lc, ra, rb, rc⟩ := HX10.out.2.1
          obtain ⟨P5, d5, rfl⟩ := Kd.R_slice rb
          obtain ⟨P6, d6, rfl⟩ := Kd.R_slice rc
          have HRA := Aside0.mk ra
          have HRB := Aside0.mk rb
          have HRC := Aside0.mk rc
          have HLN : Aside0 (a'.length ≤ 2 * (i + 1) ∧ True) := ⟨by omega, trivial⟩
          have HLE : Aside0 ((b' ++ [(0 : Int)]).length ≤ 2 * (i + 1) ∧ (c' ++ [(0 : Int)]).length ≤ 2 * (i + 1)) := ⟨by simp; omega, by simp; omega⟩
          have lb' : b'.length ≤ 23 := by omega
          have lc' : c'.length ≤ 23 := by omega
          have HBX := Aside0.mk HX10.out.1
          have HBW : Aside0 (W6.heap.size ≤ W10.heap.size ∧ B < W10.heap.size ∧ W6.heap.size ≤ B) := ⟨HX10.out.2.2.size, HX10.out.1.lt, by have := HB6.out.2.2.2; omega⟩
          have HOW : Aside0 (∀ k, (some k = v4'.ownBlock ∨ some k = (Value.slice P5 b'.length d5).ownBlock ∨ some k = (Value.slice P6 c'.length d6).ownBlock) → k < W10.heap.size) := ⟨fun k hk => hk.elim (fun h => Kd.R_lt ra k h.symm) (fun h => h.elim (fun h => Kd.R_lt rb k h.symm) (fun h => Kd.R_lt rc k h.symm))⟩
          have x5 := HX10.out.1.c5
          have x6 := HX10.out.1.c6
          have f5 := HX10.out.1.fz 5
          have f6 := HX10.out.1.fz 6
          clear la lb lc ra rb rc
          go_upto_region 11 with fail
          have hdr : ∀ W' : World, (∃ o, W' = W10.alloc o) ∨ (∃ o o', W' = (W10.alloc o).alloc o') → W'.drew.cell? ⟨B, 5, none⟩ = some (.slice P5 b'.length d5) ∧ W'.drew.cell? ⟨B, 6, none⟩ = some (.slice P6 c'.length d6) := by
            rintro W' (⟨o, rfl⟩ | ⟨o, o', rfl⟩)
            · exact ⟨(HBX.out.onto o).c5, (HBX.out.onto o).c6⟩
            · exact ⟨((HBX.out.onto o).onto o').c5, ((HBX.out.onto o).onto o').c6⟩
          have y5 := fun o => (hdr _ (.inl ⟨o, rfl⟩)).1
          have y6 := fun o => (hdr _ (.inl ⟨o, rfl⟩)).2
          have y5' := fun o o' => (hdr _ (.inr ⟨o, o', rfl⟩)).1
          have y6' := fun o o' => (hdr _ (.inr ⟨o, o', rfl⟩)).2
          clear hdr
          go_region_law (first
              | (refine Kd.R_append_rows_step (Kd.int .i64) (w0 := W6) W6.heap.size (by rfl) (.tmp 57) (.tmp 58) 29 3 (.int .i64 0) 8 rfl Tryz.underlying29 infoI rfl (by decide) (by omega) (.slice P5 b'.length d5) b' [0] _ 1 1 (fun x => x ≠ B ∧ some x ≠ v4'.ownBlock ∧ some x ≠ (Value.slice P6 c'.length d6).ownBlock) (fun _ => False) (by rfl) (by rfl) (Kd.R_below HRB.out (show Below W10.heap.size W10 _ from (by repeat (first | (with_reducible first | exact Below.refl _ _ | apply below_alloc | apply below_drew1) | exact Below.refl _ _)))) (c_one (by first | exact lit1 _ _ _ | exact lit2 _ _ _ _ _ rfl | exact lit3 _ _ _ _)) (fun _ _ h => h) (fun _ h => h.elim) (fresh3 (show Below W10.heap.size W10 _ from (by repeat (first | (with_reducible first | exact Below.refl _ _ | apply below_alloc | apply below_drew1) | exact Below.refl _ _))) HBW.out.2.1 (fun k h => HOW.out k (.inl h)) (fun k h => HOW.out k (.inr (.inr h)))) (HX10.out.2.2.trans ((show Below W10.heap.size W10 _ from (by repeat (first | (with_reducible first | exact Below.refl _ _ | apply below_alloc | apply below_drew1) | exact Below.refl _ _))).mono HX10.out.2.2.size)) (Nat.le_trans HBW.out.1 (show Below W10.heap.size W10 _ from (by repeat (first | (with_reducible first | exact Below.refl _ _ | apply below_alloc | apply below_drew1) | exact Below.refl _ _))).size) (by omega) ?_; intro v1 w1 ho1 hb1 hg1 hat1; obtain ⟨Q5, q5, eq5⟩ := Kd.R_slice ho1; subst eq5; have HA := Aside0.mk (step_a (show Below W10.heap.size W10 _ from (by repeat (first | (with_reducible first | exact Below.refl _ _ | apply below_alloc | apply below_drew1) | exact Below.refl _ _))) HBX.out HRA.out HRB.out HRC.out hg1 hat1); have HA1 := Aside0.mk (And.intro ho1 hb1); have x5 := HA.out.2.2.1.c5; have x6 := HA.out.2.2.1.c6; have x6a := fun o => (HA.out.2.2.1.onto o).c6; have f5 := HA.out.2.2.1.fz 5; have f6 := HA.out.2.2.1.fz 6; clear ho1 hb1 hg1 hat1)
              | (refine Kd.R_append_rows_step (Kd.int .i64) (w0 := W6) W6.heap.size (by rfl) (.tmp 61) (.tmp 62) 29 3 (.int .i64 0) 8 rfl Tryz.underlying29 infoI rfl (by decide) (by omega) (.slice P6 c'.length d6) c' [0] _ 1 1 (fun x => x ≠ B ∧ some x ≠ v4'.ownBlock ∧ some x ≠ (Value.slice Q5 (b' ++ [0]).length q5).ownBlock) (fun _ => False) (by rfl) (by rfl) ?_ (c_one ?_) (fun _ _ h => h) (fun _ h => h.elim) (fresh4 HA.out.2.2.1 HA.out.1 HA1.out.1 ?_) ?_ (Nat.le_trans HA1.out.2.size ?_) (by omega) ?_; ((with_reducible repeat (first | apply Kd.R_alloc | (refine Kd.R_far ?_ (fun x h => h.1) _))); exact HA.out.2.1); (first | exact cell_new _ _ _ 0 | exact lit5 _ _ _ _ _ | exact lit6 _ _ _ (by have := HA.out.2.2.1.lt; omega) _ _ _ | exact lit7 HA.out.2.2.2 (by omega) (by first | exact lit1 _ _ _ | exact lit2 _ _ _ _ _ rfl | exact lit3 _ _ _ _) | exact lit8 (by have := HBW.out.2.1; omega) (lit7 HA.out.2.2.2 (by omega) (by first | exact lit1 _ _ _ | exact lit2 _ _ _ _ _ rfl | exact lit3 _ _ _ _))); (simp); (repeat (first | (with_reducible first | exact HA1.out.2 | apply below_alloc | (refine Below.setCell ?_ (p := ⟨B, 5, none⟩) HBW.out.2.2 _)) | exact HA1.out.2)); (simp); intro v2 w2 ho2 hb2 hg2 hat2; obtain ⟨Q6, q6, eq6⟩ := Kd.R_slice ho2; subst eq6; have HD1 := Aside0.mk (And.intro ho2 hb2); have hN4 := HA.out.1; have hN5 := HA1.out.1; (first | have HX2 := Aside0.mk (SBox.grown hg2 HA.out.2.2.1 (fun he => (HRC.out.1 B he.symm).1 rfl)) | have HX2 := Aside0.mk (SBox.grown hg2 (HA.out.2.2.1.onto _) (fun he => (HRC.out.1 B he.symm).1 rfl)) | have HX2 := Aside0.mk (SBox.grown hg2 (HA.out.2.2.1.put5 _) (fun he => (HRC.out.1 B he.symm).1 rfl)) | have HX2 := Aside0.mk (SBox.grown hg2 ((HA.out.2.2.1.onto _).put5 _) (fun he => (HRC.out.1 B he.symm).1 rfl)) | have HX2 := Aside0.mk (SBox.grown hg2 ((HA.out.2.2.1.put5 _).onto _) (fun he => (HRC.out.1 B he.symm).1 rfl))); have f5 := HX2.out.fz 5; have f6 := HX2.out.fz 6; have x5 := HX2.out.c5; have x6 := HX2.out.c6; have HD2 := Aside0.mk (And.intro hg2 hat2); clear ho2 hb2 hg2 hat2))
          all_goals (go_wp2_with fail; go_roundg (gk - 1); (case measure => have := HI.out; omega); (case rel => rw [show b'.length + 1 = (b' ++ [(0 : Int)]).length by simp, show c'.length + 1 = (c' ++ [(0 : Int)]).length by simp]; obtain ⟨z1, z2, z3⟩ := rows3_fin (k := 2 * (i + 1)) (by first | exact Below.refl _ _ | exact below_alloc (Below.refl _ _) _) HA.out.1 HA1.out.1 HD2.out.1 HD2.out.2 HD1.out.1 HX2.out HD1.out.2 HBW.out.2.2 HLN.out.1 HLE.out.1 HLE.out.2; exact ⟨i + 1, _, _, _, by have := HI.out; omega, by go_num, z1, z2, z3⟩))
        · have t2 : decide ((i : Int) < (t : Int)) = false := by simp; omega
          have hI := HI.out
          go_wp2_with fail
          go_roundg (gk - 1)
          case measure => have := HI.out; omega
          case rel => exact ⟨i + 1, v4', v5, v6, by have := HI.out; omega, by go_num, HX10.out.1, HX10.out.2.1.mono (by omega), HX10.out.2.2⟩
    · have t1 : decide ((i : Int) < (m : Int)) = false := by simp; omega
      have x0 := HX.out.c0
      have x1 := HX.out.c1
      have x2 := HX.out.c2
      have f2 := HX.out.fz 2
      have HBB : Aside0 (W6.heap.size ≤ B) := ⟨by have := HB6.out.2.2.2; omega⟩
      have hx2 := HX.out.put2 ((t + 1 : Nat) : Int)
      have hb2 : Below W6.heap.size W6 (wr.setCell ⟨B, 2, none⟩ (.int .i64 ((t + 1 : Nat) : Int))) := HR.out.2.setCell (p := ⟨B, 2, none⟩) HBB.out _
      go_upto_region 13 with fail
      have hr3 := HR.out.1
      obtain ⟨a, b, d, _, _, _, ra, rb, rd⟩ := hr3
      obtain ⟨A4, c4, rfl⟩ := Kd.R_slice ra
      obtain ⟨A5, c5, rfl⟩ := Kd.R_slice rb
      obtain ⟨A6, c6, rfl⟩ := Kd.R_slice rd
      obtain ⟨st, hst⟩ : ∃ st, st = t + 1 := ⟨_, rfl⟩
      rw [← hst] at hx2 hb2
      rw [show (t : Int) + 1 = (st : Int) by omega]
      generalize wr.setCell ⟨B, 2, none⟩ (.int .i64 (st : Int)) = W12 at *
      have HX12 := Aside0.mk (And.intro hx2 (And.intro hb2 hst))
      clear ra rb rd x0 x1 x2 f2 HX HR hst
      have x2 := hx2.c2
      have hA : Below W12.heap.size W12 ((W12.alloc (.cells #[.int .i64 (st : Int)] 3)).alloc (.cells #[.int .i64 (-1), .slice (some ⟨W12.heap.size, 0, none⟩) 1 1, .int .i64 0, .int .i64 0] 81)) := below_alloc (below_alloc (Below.refl _ _) _) _
      have hx13 := hx2.move hA hx2.lt
      have hR13 := first_rule (W := W12) (base := W6.heap.size) (B := B) (st : Int) hb2.size hx2.lt
      have x7 := hx13.c7
      have f7 := hx13.fz 7
      have HX13 : Aside0 (SBox (((W12.alloc (.cells #[.int .i64 (st : Int)] 3)).alloc (.cells #[.int .i64 (-1), .slice (some ⟨W12.heap.size, 0, none⟩) 1 1, .int .i64 0, .int .i64 0] 81)).setCell ⟨B, 7, none⟩ (.slice (some ⟨W12.heap.size + 1, 0, none⟩) 1 1)) B t n (st : Int) 0 (.slice A4 a.length c4) (.slice A5 b.length c5) (.slice A6 d.length c6) (.slice (some ⟨W12.heap.size + 1, 0, none⟩) 1 1) ∧
          Kd.R kSR 81 (((W12.alloc (.cells #[.int .i64 (st : Int)] 3)).alloc (.cells #[.int .i64 (-1), .slice (some ⟨W12.heap.size, 0, none⟩) 1 1, .int .i64 0, .int .i64 0] 81)).setCell ⟨B, 7, none⟩ (.slice (some ⟨W12.heap.size + 1, 0, none⟩) 1 1)) W6.heap.size (fun x => x ≠ B) (.slice (some ⟨W12.heap.size + 1, 0, none⟩) 1 1) [⟨-1, [(st : Int)], 0, 0⟩] ∧
          Below W6.heap.size W6 (((W12.alloc (.cells #[.int .i64 (st : Int)] 3)).alloc (.cells #[.int .i64 (-1), .slice (some ⟨W12.heap.size, 0, none⟩) 1 1, .int .i64 0, .int .i64 0] 81)).setCell ⟨B, 7, none⟩ (.slice (some ⟨W12.heap.size + 1, 0, none⟩) 1 1))) := ⟨hx13.put7 _, Kd.R_far hR13 (fun x h => h) _, (hb2.trans (hA.mono hb2.size)).setCell (p := ⟨B, 7, none⟩) HBB.out _⟩
      clear hA hx13 hR13 hx2 hb2
      go_upto_region 14 with fail
      generalize ((W12.alloc (.cells #[.int .i64 (st : Int)] 3)).alloc (.cells #[.int .i64 (-1), .slice (some ⟨W12.heap.size, 0, none⟩) 1 1, .int .i64 0, .int .i64 0] 81)).setCell ⟨B, 7, none⟩ (.slice (some ⟨W12.heap.size + 1, 0, none⟩) 1 1) = W13 at *
      clear x2 x7 f7
      obtain ⟨len, hlen⟩ : ∃ len, len = min l.length 10 := ⟨_, rfl⟩
      have HLEN := Aside0.mk hlen
      clear hlen t1
      go_wp2_with fail
      go_loopg [11] len (fun kq v11 w' => RuRel W6 B t n m len kq v11 w')
      case atStart =>
        have e1 := HX12.out.2.2
        rw [e1] at HX13
        refine ⟨0, _, _, _, _, [⟨-1, [((t + 1 : Nat) : Int)], 0, 0⟩], by omega, rfl, HX13.out.1, HX13.out.2.1, rfl, fun r hr => (by cases hr), ⟨_, rfl, (by show (-1 : Int) < 0; decide)⟩, fun r hr x hx => ?_, ⟨_, _, _, rfl⟩, ⟨_, _, _, rfl⟩, ⟨_, _, _, rfl⟩, HX13.out.2.2⟩
        rw [List.mem_singleton.1 hr] at hx
        rw [List.mem_singleton.1 hx]
        have := HM.out
        have := HT.out
        omega
      case round =>
        obtain ⟨i, v4, v5, v6, v7, rs, hi, rfl, hx, hr, hrl, w1, w2, w3, ⟨A4, n4, c4, rfl⟩, ⟨A5, n5, c5, rfl⟩, ⟨A6, n6, c6, rfl⟩, hb⟩ := hrel
        have HI := Aside0.mk hi
        have HX := Aside0.mk hx
        have HRS := Aside0.mk (And.intro hr (And.intro hrl (And.intro w1 (And.intro w2 w3))))
        have HBW := Aside0.mk hb
        clear hi hx hr hrl w1 w2 w3 hb
        by_cases hil : i < len
        · have hil1 : i < l.length := by have := HLEN.out; omega
          have hil2 : i < 10 := by have := HLEN.out; omega
          have t2 : decide ((i : Int) < (l.length : Int)) = true := by simp; omega
          have t3 : decide ((i : Int) < 10) = true := by simp; omega
          have hin : (i : Int) < (l.length : Int) := by omega
          have x0 := HX.out.c0
          have x1 := HX.out.c1
          have hT := HT.out
          obtain ⟨q, hq, hqn⟩ := tmod_in (a := (i : Int)) (n := n) (by omega) (by omega)
          obtain ⟨lf, hlf⟩ : ∃ lf, lf = t + 1 + q := ⟨_, rfl⟩
          have hwl : IntKind.i64.wrap ((t : Int) + 1 + (q : Int)) = (lf : Int) := by rw [IntKind.wrap_i64]; omega
          have hn1 : ¬ n = 0 := by omega
          have hn2 : ¬ (n : Int) = 0 := by omega
          have hn3 : ((n : Int) == 0) = false := by simpa using hn2
          have HLF : Aside0 (lf < m ∧ t + 1 ≤ lf) := ⟨by have := HM.out; omega, by omega⟩
          obtain ⟨gko, hgko⟩ : ∃ x, x = gk := ⟨_, rfl⟩
          have HGO := Aside0.mk hgko
          clear hgko
          go_upto_region 17 with fail
          go_cut [12] (fun v12 wx => ∃ C, v12 = .pointer (some ⟨C, 0, none⟩) ∧ wr.heap.size ≤ C ∧ RuBox wx C lf (.slice none 0 0) 0 0 ∧ Below wr.heap.size wr wx)
          case first =>
            have hdr : ∀ o : Obj, (wr.alloc o).drew.cell? ⟨B, 0, none⟩ = some (.int .i64 (t : Int)) ∧ (wr.alloc o).drew.cell? ⟨B, 1, none⟩ = some (.int .i64 (n : Int)) := fun o => ⟨(HX.out.onto o).c0, (HX.out.onto o).c1⟩
            have y0 := fun o => (hdr o).1
            have y1 := fun o => (hdr o).2
            clear hdr
            go_region_with fail
            all_goals (go_wp2_with fail; go_meet; rw [show (t : Int) + 1 + (q : Int) = (lf : Int) by omega]; exact ⟨wr.heap.size, rfl, Nat.le_refl _, ⟨heap_alloc_new wr _⟩, below_drew1 (below_alloc (Below.refl _ _) _)⟩)
          case rest =>
            obtain ⟨C, rfl, hC, hR, hbC⟩ := hcut
            have HCB := Aside0.mk (And.intro hC (And.intro hR hbC))
            obtain ⟨ad, A1, c1, e1, r0, hl1, hrr⟩ := row_at2 HL.out.1 i hil1
            have HB06 : Aside0 (Below w.heap.size w wr) := ⟨HB6.out.1.trans (HBW.out.mono HB6.out.1.size)⟩
            have HB0C : Aside0 (Below w.heap.size w wc) := ⟨HB06.out.trans (hbC.mono HB06.out.size)⟩
            have HROW := Aside0.mk (And.intro r0 (And.intro hrr hl1))
            have HI1 := Aside0.mk (And.intro hil1 (And.intro hil2 hil))
            generalize l[i] = xs at *
            subst e1
            have r1 := pw_cell_below HB0C.out r0
            have hxl := hrr.2.1
            have hT := HT.out
            obtain ⟨m1, hm1⟩ : ∃ m1, m1 = t + n := ⟨_, rfl⟩
            have HM1 : Aside0 (m1 + 1 = m ∧ 2 ≤ m1 ∧ m1 ≤ 10) := ⟨by have := HM.out; omega⟩
            have hmw : IntKind.i64.wrap ((m : Int) - 1) = (m1 : Int) := by have := HM1.out; rw [IntKind.wrap_i64]; omega
            have hm0 : ¬ (m1 : Int) = 0 := by have := HM1.out; omega
            have hm00 : ¬ m1 = 0 := by have := HM1.out; omega
            have hm000 : ((m1 : Int) == 0) = false := by simpa using hm0
            obtain ⟨len2, hlen2⟩ : ∃ len2, len2 = min xs.length 4 := ⟨_, rfl⟩
            have HLEN2 := Aside0.mk hlen2
            clear x0 x1 hq hqn hwl hn1 hn2 hn3 hlf hil1 hil2 hil hR hbC hC r0 hrr hl1 hm1 hlen2 t2 t3
            obtain ⟨Wo, rfl⟩ : ∃ x, x = wr := ⟨_, rfl⟩
            go_wp2_with fail
            go_loopg [13] len2 (fun kq v13 w' => InnRel Wo C lf m len2 kq v13 w')
            case atStart => exact ⟨0, .slice none 0 0, [], by omega, rfl, HCB.out.2.1, Kd.R_nil _ _ _ _ _, Nat.le_refl _, fun x hx => (by cases hx), HCB.out.2.2⟩
            case round =>
              obtain ⟨k, v1, rt, hk, rfl, hR, hrt, hrl, hrx, hbR⟩ := hrel
              have HK := Aside0.mk hk
              have HRT := Aside0.mk (And.intro hR (And.intro hrt (And.intro hrl (And.intro hrx hbR))))
              have HBR : Aside0 (Below w.heap.size w wr) := ⟨HB06.out.trans (hbR.mono HB06.out.size)⟩
              have HXI := Aside0.mk (HX.out.move hbR HX.out.lt)
              have q0 := pw_cell_below HBR.out HROW.out.1
              have hil1 := HI1.out.1
              have hin : (i : Int) < (l.length : Int) := by omega
              clear r1 hk hR hrt hrl hrx hbR
              by_cases hkl : k < len2
              · have hk1 : k < xs.length := by have := HLEN2.out; omega
                have hk2 : k < 4 := by have := HLEN2.out; omega
                have t2 : decide ((k : Int) < (xs.length : Int)) = true := by simp; omega
                have t3 : decide ((k : Int) < 4) = true := by simp; omega
                have hkn : (k : Int) < (xs.length : Int) := by omega
                obtain ⟨bd, e2, hcx⟩ := int_at HROW.out.2.1 k hk1
                subst e2
                have hcx2 := pw_cell_below HBR.out hcx
                have HKL := Aside0.mk hkl
                generalize xs[k] = y at *
                have ha1 := Int.lt_tmod_of_pos y (show (0 : Int) < (m1 : Int) by have := HM1.out; omega)
                have ha2 := Int.tmod_lt_of_pos y (show (0 : Int) < (m1 : Int) by have := HM1.out; omega)
                have e1 : IntKind.i64.wrap (Int.tmod y (m1 : Int) + (m : Int)) = Int.tmod y (m1 : Int) + (m : Int) := by have := HM1.out; rw [IntKind.wrap_i64]; omega
                have e2 : IntKind.i64.wrap (Int.tmod y (m1 : Int) + (m : Int) - 1) = Int.tmod y (m1 : Int) + (m : Int) - 1 := by have := HM1.out; rw [IntKind.wrap_i64]; omega
                obtain ⟨q2, hq2, hq2m⟩ := tmod_in (a := Int.tmod y (m1 : Int) + (m : Int) - 1) (n := m1) (by have := HM1.out; omega) (by omega)
                have x0 := HXI.out.c0
                have HQ2 := Aside0.mk hq2m
                clear ha1 ha2 hcx
                go_upto_if 127 with fail
                go_cut [14] (fun v14 wx => ∃ x : Nat, v14 = .int .i64 (x : Int) ∧ x < m ∧ wx = wr)
                case first =>
                  have hw5 : IntKind.i64.wrap ((q2 : Int) + 1) = ((q2 + 1 : Nat) : Int) := by have := HM1.out; have := HQ2.out; rw [IntKind.wrap_i64]; omega
                  by_cases hge : t ≤ q2
                  · have t5 : decide ((q2 : Int) ≥ (t : Int)) = true := by simp; omega
                    go_wp2_with fail
                    all_goals (go_meet; first | exact ⟨q2 + 1, rfl, by have := HM1.out; have := HQ2.out; omega, rfl⟩ | exact ⟨q2, rfl, by have := HM1.out; have := HQ2.out; omega, rfl⟩)
                  · have t5 : decide ((q2 : Int) ≥ (t : Int)) = false := by simp; omega
                    go_wp2_with fail
                    all_goals (go_meet; first | exact ⟨q2, rfl, by have := HM1.out; have := HQ2.out; omega, rfl⟩ | exact ⟨q2 + 1, rfl, by have := HM1.out; have := HQ2.out; omega, rfl⟩)
                case rest =>
                  obtain ⟨x, rfl, hxm, rfl⟩ := hcut
                  have HXM := Aside0.mk hxm
                  obtain ⟨Av, cv, ev⟩ := Kd.R_slice HRT.out.2.1
                  subst ev
                  have c1' := HRT.out.1.c1
                  have hrl5 : rt.length ≤ 5 := by have := HRT.out.2.2.1; omega
                  have HCL : Aside0 (C < wc.heap.size ∧ Wo.heap.size ≤ wc.heap.size) := ⟨HRT.out.1.lt, HRT.out.2.2.2.2.size⟩
                  clear hxm e1 e2 hq2 x0 hcx2
                  go_wp2_with (first
                    | (at_builtin; refine Kd.R_append (Kd.int .i64) (w0 := Wo) Wo.heap.size rfl (.tmp 131) (.tmp 133) 29 3 (.int .i64 0) 8 rfl Tryz.underlying29 infoI rfl (by decide) (by omega) _ rt (x : Int) [.int .i64 (x : Int)] (fun z => z ≠ C) (fun _ => False) rfl rfl (show Kd.M (Kd.int .i64) _ _ _ (x : Int) [.int .i64 (x : Int)] from rfl) (fun _ h => h.elim) (fun z hz => by have := HCL.out.1; omega) HRT.out.2.1 HRT.out.2.2.2.2 HCL.out.2 (by omega) ?_; intro v2 w5 ho2 hb2 hg2 hat2; obtain ⟨A5', c5', e5⟩ := Kd.R_slice ho2; subst e5; have HR5 : Aside0 (RuBox w5 C lf (.slice Av rt.length cv) 0 0) := ⟨HRT.out.1.grown hg2 (fun he => HRT.out.2.1.1 C he.symm rfl)⟩; have H5 := Aside0.mk (And.intro ho2 hb2); have g1 := HR5.out.c1; have g2 := HR5.out.fz 1; clear ho2 hb2 hg2 hat2))
                  go_roundg (gk - 1)
                  case measure => have := HK.out; have := HKL.out; omega
                  case rel =>
                    have hl1 : (rt ++ [(x : Int)]).length = rt.length + 1 := by simp
                    have h5 := H5.out
                    rw [hl1] at h5
                    exact ⟨k + 1, _, rt ++ [(x : Int)], by have := HK.out; have := HKL.out; omega, by go_num, HR5.out.put1 _, Kd.R_far h5.1 (fun z h => h) _, by rw [hl1]; have := HRT.out.2.2.1; omega, fun z hz => by
                      rcases List.mem_append.1 hz with h | h
                      · exact HRT.out.2.2.2.1 z h
                      · rw [List.mem_singleton.1 h]; have := HXM.out; omega, h5.2.setCell (p := ⟨C, 1, none⟩) HCB.out.1 _⟩
              · obtain ⟨Av, cv, ev⟩ := Kd.R_slice HRT.out.2.1
                subst ev
                obtain ⟨A7, c7, e7⟩ := Kd.R_slice HRS.out.1
                subst e7
                have hrs11 : rs.length ≤ 11 := by have := HRS.out.2.1; have := HI1.out.2.1; omega
                have d0 := HRT.out.1.c0
                have d1 := HRT.out.1.c1
                have d2 := HRT.out.1.c2
                have d3 := HRT.out.1.c3
                have x7 := HXI.out.c7
                have HRI : Aside0 (Kd.R (Kd.int .i64) 3 wr W6.heap.size (fun z => Wo.heap.size ≤ z) (.slice Av rt.length cv) rt) := ⟨Kd.R_lower (Kd.R_mono (Kd.R_bound HRT.out.2.1) (fun z h => h.2.1)) HBW.out.size⟩
                have HOK : Aside0 ((∀ z, Wo.heap.size ≤ z → z ≠ B ∧ some z ≠ (Value.slice A7 rs.length c7).ownBlock) ∧ B < wr.heap.size) := ⟨fun z hz => ⟨by have := HX.out.lt; omega, fun he => by have := Kd.R_lt HRS.out.1 z he.symm; omega⟩, HXI.out.lt⟩
                by_cases hk1 : k < xs.length
                · have t2 : decide ((k : Int) < (xs.length : Int)) = true := by simp; omega
                  have t3 : decide ((k : Int) < 4) = false := by have := HLEN2.out; simp; omega
                  go_wp2_with (first
                    | (at_builtin; refine Kd.R_append kSR (w0 := W6) W6.heap.size rfl (.tmp 137) (.tmp 139) 30 81 (.agg #[.int .i64 0, .slice none 0 0, .int .i64 0, .int .i64 0]) 48 rfl Tryz.underlying30 infoSR rfl (by decide) (by omega) _ rs (⟨(lf : Int), rt, 0, 0⟩ : SR) [.int .i64 (lf : Int), .slice Av rt.length cv, .int .i64 0, .int .i64 0] (fun z => z ≠ B) (fun z => Wo.heap.size ≤ z) rfl rfl (kSR_mkM _ _ _ (⟨(lf : Int), rt, 0, 0⟩ : SR) HRI.out) (fun z hz => HOK.out.1 z hz) (fun z hz => by have := HOK.out.2; omega) (Kd.R_below HRS.out.1 HRT.out.2.2.2.2) (HBW.out.trans (HRT.out.2.2.2.2.mono HBW.out.size)) (Nat.le_trans HBW.out.size HRT.out.2.2.2.2.size) (by omega) ?_; intro v2 w5 ho2 hb2 hg2 hat2; obtain ⟨A8, c8, e8⟩ := Kd.R_slice ho2; subst e8; have HX5 := Aside0.mk (HXI.out.grown hg2 (fun he => HRS.out.1.1 B he.symm rfl)); have H5 := Aside0.mk (And.intro ho2 hb2); have g1 := HX5.out.c7; have g2 := HX5.out.fz 7; clear ho2 hb2 hg2 hat2))
                  go_roundg (gko - 1)
                  case measure => have := HI.out; have := HGO.out; have := HI1.out.2.2; omega
                  case rel =>
                    obtain ⟨k1, k2, k3, k4⟩ := more_rules (r := (⟨(lf : Int), rt, 0, 0⟩ : SR)) HRS.out.2.1 HRS.out.2.2.1 HRS.out.2.2.2.1 HRS.out.2.2.2.2 ⟨⟨by show (0 : Int) ≤ (lf : Int); omega, by show (lf : Int) < (m : Int); have := HLF.out; omega⟩, HRT.out.2.2.2.1⟩
                    have hl1 : rs.length + 1 = (rs ++ [(⟨(lf : Int), rt, 0, 0⟩ : SR)]).length := by simp
                    rw [hl1]
                    exact ⟨i + 1, _, _, _, _, rs ++ [⟨(lf : Int), rt, 0, 0⟩], by have := HI.out; have := HGO.out; have := HI1.out.2.2; omega, by have h3 := HI1.out.2.1; congr 1; unfold wrap64; omega, HX5.out.put7 _, Kd.R_far H5.out.1 (fun z h => h) _, k1, k2, k3, k4, ⟨_, _, _, rfl⟩, ⟨_, _, _, rfl⟩, ⟨_, _, _, rfl⟩, H5.out.2.setCell (p := ⟨B, 7, none⟩) HBB.out _⟩
                · have t2 : decide ((k : Int) < (xs.length : Int)) = false := by simp; omega
                  go_wp2_with (first
                    | (at_builtin; refine Kd.R_append kSR (w0 := W6) W6.heap.size rfl (.tmp 137) (.tmp 139) 30 81 (.agg #[.int .i64 0, .slice none 0 0, .int .i64 0, .int .i64 0]) 48 rfl Tryz.underlying30 infoSR rfl (by decide) (by omega) _ rs (⟨(lf : Int), rt, 0, 0⟩ : SR) [.int .i64 (lf : Int), .slice Av rt.length cv, .int .i64 0, .int .i64 0] (fun z => z ≠ B) (fun z => Wo.heap.size ≤ z) rfl rfl (kSR_mkM _ _ _ (⟨(lf : Int), rt, 0, 0⟩ : SR) HRI.out) (fun z hz => HOK.out.1 z hz) (fun z hz => by have := HOK.out.2; omega) (Kd.R_below HRS.out.1 HRT.out.2.2.2.2) (HBW.out.trans (HRT.out.2.2.2.2.mono HBW.out.size)) (Nat.le_trans HBW.out.size HRT.out.2.2.2.2.size) (by omega) ?_; intro v2 w5 ho2 hb2 hg2 hat2; obtain ⟨A8, c8, e8⟩ := Kd.R_slice ho2; subst e8; have HX5 := Aside0.mk (HXI.out.grown hg2 (fun he => HRS.out.1.1 B he.symm rfl)); have H5 := Aside0.mk (And.intro ho2 hb2); have g1 := HX5.out.c7; have g2 := HX5.out.fz 7; clear ho2 hb2 hg2 hat2))
                  go_roundg (gko - 1)
                  case measure => have := HI.out; have := HGO.out; have := HI1.out.2.2; omega
                  case rel =>
                    obtain ⟨k1, k2, k3, k4⟩ := more_rules (r := (⟨(lf : Int), rt, 0, 0⟩ : SR)) HRS.out.2.1 HRS.out.2.2.1 HRS.out.2.2.2.1 HRS.out.2.2.2.2 ⟨⟨by show (0 : Int) ≤ (lf : Int); omega, by show (lf : Int) < (m : Int); have := HLF.out; omega⟩, HRT.out.2.2.2.1⟩
                    have hl1 : rs.length + 1 = (rs ++ [(⟨(lf : Int), rt, 0, 0⟩ : SR)]).length := by simp
                    rw [hl1]
                    exact ⟨i + 1, _, _, _, _, rs ++ [⟨(lf : Int), rt, 0, 0⟩], by have := HI.out; have := HGO.out; have := HI1.out.2.2; omega, by have h3 := HI1.out.2.1; congr 1; unfold wrap64; omega, HX5.out.put7 _, Kd.R_far H5.out.1 (fun z h => h) _, k1, k2, k3, k4, ⟨_, _, _, rfl⟩, ⟨_, _, _, rfl⟩, ⟨_, _, _, rfl⟩, H5.out.2.setCell (p := ⟨B, 7, none⟩) HBB.out _⟩
        · have hx6 := HX6.out.move HBW.out HX6.out.lt
          have z0 := hx6.c0
          have z1 := hx6.c1
          have z2 := hx6.c2
          have z3 := hx6.c3
          have z4 := hx6.c4
          have z5 := hx6.c5
          have z6 := hx6.c6
          have z7 := hx6.c7
          have zf := fun k => hx6.fz k
          have x0 := HX.out.c0
          have x1 := HX.out.c1
          have x2 := HX.out.c2
          have x3 := HX.out.c3
          have x4 := HX.out.c4
          have x5 := HX.out.c5
          have x6 := HX.out.c6
          have x7 := HX.out.c7
          obtain ⟨A7, c7, e7⟩ := Kd.R_slice HRS.out.1
          subst e7
          have HB66 : Aside0 (B6 ≠ B ∧ w.heap.size ≤ B6) := ⟨by have := HB6.out.2; omega, by have := HB6.out.2.1; omega⟩
          have hne1 : B6 ≠ B := HB66.out.1
          have HEND : Aside0 (∃ (t' n' st : Nat) (A4' A5' A6' A7' : Option Addr) (n4' c4' n5' c5' n6' c6' c7' : Nat) (rs' : List SR), Ending.returned (.agg #[.int .i64 (t : Int), .int .i64 (n : Int), .int .i64 ((t : Int) + 1), .int .i64 0, .slice A4 n4 c4, .slice A5 n5 c5, .slice A6 n6 c6, .slice A7 rs.length c7]) = .returned (.agg #[.int .i64 (t' : Int), .int .i64 (n' : Int), .int .i64 (st : Int), .int .i64 0, .slice A4' n4' c4', .slice A5' n5' c5', .slice A6' n6' c6', .slice A7' rs'.length c7']) ∧
              Kd.C kSR (put8 wr B6 (.int .i64 (t : Int)) (.int .i64 (n : Int)) (.int .i64 ((t : Int) + 1)) (.int .i64 0) (.slice A4 n4 c4) (.slice A5 n5 c5) (.slice A6 n6 c6) (.slice A7 rs.length c7)) A7' rs'.length rs' ∧ rs'.length ≤ c7' ∧ (∀ r ∈ rs'.tail, okRule (t' + 1 + n') r) ∧ (∃ r0, rs'.head? = some r0 ∧ r0.f0 < 0) ∧ (∀ r ∈ rs', ∀ x ∈ r.f1, 0 ≤ x ∧ x < ((t' + 1 + n' : Nat) : Int)) ∧ t' + n' ≤ 10 ∧ st < t' + 1 + n' ∧ Below w.heap.size w (put8 wr B6 (.int .i64 (t : Int)) (.int .i64 (n : Int)) (.int .i64 ((t : Int) + 1)) (.int .i64 0) (.slice A4 n4 c4) (.slice A5 n5 c5) (.slice A6 n6 c6) (.slice A7 rs.length c7))) := ⟨by
            obtain ⟨_, g1, g2⟩ := Kd.R_reads' (Kd.R_move (w1 := put8 wr B6 (.int .i64 (t : Int)) (.int .i64 (n : Int)) (.int .i64 ((t : Int) + 1)) (.int .i64 0) (.slice A4 n4 c4) (.slice A5 n5 c5) (.slice A6 n6 c6) (.slice A7 rs.length c7)) (Kd.R_bound HRS.out.1) (fun k hk => put8_far (by have := hk.2.1; have := HX6.out.lt; omega)))
            have hT := HT.out
            have hM := HM.out
            rw [hM] at HRS
            exact ⟨t, n, t + 1, A4, A5, A6, A7, n4, c4, n5, c5, n6, c6, c7, rs, rfl, g2, g1, HRS.out.2.2.1, HRS.out.2.2.2.1, HRS.out.2.2.2.2, by omega, by omega, put8_below (HB6.out.1.trans (HBW.out.mono HB6.out.1.size)) HB66.out.2⟩⟩
          by_cases hi10 : i < l.length
          · have t2 : decide ((i : Int) < (l.length : Int)) = true := by simp; omega
            have t3 : decide ((i : Int) < 10) = false := by have := HLEN.out; simp; omega
            go_wp2_with fail
            refine bodyPost_ret (results_cell_row rfl _ _ B6 32 #[.int .i64 (t : Int), .int .i64 (n : Int), .int .i64 ((t : Int) + 1), .int .i64 0, .slice A4 n4 c4, .slice A5 n5 c5, .slice A6 n6 c6, .slice A7 rs.length c7] (0, 0) _ rfl (put8_heap hx6.heap) Tryz.underlying32 rfl (by kernel_rfl)) rfl ?_
            exact HEND.out
          · have t2 : decide ((i : Int) < (l.length : Int)) = false := by simp; omega
            go_wp2_with fail
            refine bodyPost_ret (results_cell_row rfl _ _ B6 32 #[.int .i64 (t : Int), .int .i64 (n : Int), .int .i64 ((t : Int) + 1), .int .i64 0, .slice A4 n4 c4, .slice A5 n5 c5, .slice A6 n6 c6, .slice A7 rs.length c7] (0, 0) _ rfl (put8_heap hx6.heap) Tryz.underlying32 rfl (by kernel_rfl)) rfl ?_
            exact HEND.out
end Go.Proofs.YtjhemobplcelbaaGreatDoor.U
