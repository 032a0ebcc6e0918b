/- well: rules by numbers in memory; rows of truth values; a pass over the rules, again and again till nothing comes. -/
import Derived.Test.YtjhemobplcelbaaGreatDoorProg
import Derived.Test.YtjhemobplcelbaaGreatDoorKit
import Derived.Deep.LoopGhost
import Derived.Deep.AppendLies
import Derived.Deep.CutBlock
import Derived.Deep.DeepCutAuto
import Derived.Deep.QuietTactic
import Derived.Deep.RegionHeld3
import Derived.BigQuiet
import Derived.KernelRfl
import Derived.RowKit3
import Derived.WideLaws
import Derived.OrdersHeld
import Derived.Laws.MakeOwn
import Derived.Laws.OwnMore
import Derived.Laws.BitsLemmas
import Derived.Tactics
import Derived.WalkKit
namespace Go.Proofs.YtjhemobplcelbaaGreatDoor.U
open Go.RowKit Go.Proofs.YtjhemobplcelbaaGreatDoorW.PrintWords Go.Proofs.YtjhemobplcelbaaGreatDoorW.PrintLast Go.Proofs.YtjhemobplcelbaaGreatDoorW.PrintMore
set_option linter.unusedVariables false
set_option linter.unusedSimpArgs false
theorem info4 : (Tryz.prog.info? 4).map (fun i => (i.zero, i.size, i.bytes)) = some (some (.bool false), 1, 1) := by kernel_rfl
/-! #### rules by numbers -/
structure SR where
  f0 : Int
  f1 : (List Int)
  f2 : Int
  f3 : Int
def zSR : SR := ⟨(0 : Int), ([] : List Int), (0 : Int), (0 : Int)⟩
def kSR : Kd SR := Kd.iso (Kd.pair (Kd.int .i64) (Kd.pair (Kd.slice 3 (Kd.int .i64)) (Kd.pair (Kd.int .i64) (Kd.int .i64)))) (fun x : SR => (x.f0, x.f1, x.f2, x.f3))
theorem kSR_open {w : World} {x : SR} {cs : List Value} (h : kSR.K w x cs) : ∃ A1 c1, cs = [.int .i64 x.f0, .slice A1 x.f1.length c1, .int .i64 x.f2, .int .i64 x.f3] ∧ x.f1.length ≤ c1 ∧ (Kd.int .i64).C w A1 x.f1.length x.f1 := by
  obtain ⟨_, _, rfl, rfl, ⟨_, _, rfl, ⟨A1, c1, rfl, l1, g1⟩, ⟨_, _, rfl, rfl, rfl⟩⟩⟩ := h
  exact ⟨A1, c1, rfl, l1, g1⟩
theorem kSR_openM {w : World} {base : Nat} {ok : Nat → Prop} {x : SR} {cs : List Value} (h : kSR.M w base ok x cs) : ∃ v1, cs = [.int .i64 x.f0, v1, .int .i64 x.f2, .int .i64 x.f3] ∧ (Kd.int .i64).R 3 w base ok v1 x.f1 := by
  obtain ⟨_, _, rfl, rfl, ⟨_, _, rfl, ⟨v1, rfl, g1⟩, ⟨_, _, rfl, rfl, rfl⟩⟩⟩ := h
  exact ⟨v1, rfl, g1⟩
theorem kSR_mk (w : World) (x : SR) {A1 : Option Addr} {c1 : Nat} (l1 : x.f1.length ≤ c1) (g1 : (Kd.int .i64).C w A1 x.f1.length x.f1) : kSR.K w x [.int .i64 x.f0, .slice A1 x.f1.length c1, .int .i64 x.f2, .int .i64 x.f3] := ⟨[.int .i64 x.f0], [.slice A1 x.f1.length c1, .int .i64 x.f2, .int .i64 x.f3], rfl, rfl, ⟨[.slice A1 x.f1.length c1], [.int .i64 x.f2, .int .i64 x.f3], rfl, ⟨A1, c1, rfl, l1, g1⟩, ⟨[.int .i64 x.f2], [.int .i64 x.f3], rfl, rfl, rfl⟩⟩⟩
theorem kSR_mkM (w : World) (base : Nat) (ok : Nat → Prop) (x : SR) {v1 : Value} (g1 : (Kd.int .i64).R 3 w base ok v1 x.f1) : kSR.M w base ok x [.int .i64 x.f0, v1, .int .i64 x.f2, .int .i64 x.f3] := ⟨[.int .i64 x.f0], [v1, .int .i64 x.f2, .int .i64 x.f3], rfl, rfl, ⟨[v1], [.int .i64 x.f2, .int .i64 x.f3], rfl, ⟨v1, rfl, g1⟩, ⟨[.int .i64 x.f2], [.int .i64 x.f3], rfl, rfl, rfl⟩⟩⟩
theorem kSR_openF {W : World} {ok : Nat → Prop} {x : SR} {cs : List Value} (h : Kd.FK kSR W ok x cs) : ∃ A1 c1, cs = [.int .i64 x.f0, .slice A1 x.f1.length c1, .int .i64 x.f2, .int .i64 x.f3] ∧ x.f1.length ≤ c1 ∧ Kd.F (Kd.int .i64) W ok A1 x.f1.length x.f1 := by
  obtain ⟨A1, c1, rfl, l1, _⟩ := kSR_open (Kd.FK_now h)
  exact ⟨A1, c1, rfl, l1, (fun W' hW => by obtain ⟨A1_, c1_, he, l1_, g1_⟩ := kSR_open (h W' hW); injection (Option.some.inj (show some (Value.slice A1 x.f1.length c1) = some (Value.slice A1_ x.f1.length c1_) from congrArg (fun l => l[1]?) he)) with ha_ _ _; rw [ha_]; exact g1_)⟩
theorem kSR_mkF (W : World) (ok : Nat → Prop) (x : SR) {A1 : Option Addr} {c1 : Nat} (l1 : x.f1.length ≤ c1) (g1 : Kd.F (Kd.int .i64) W ok A1 x.f1.length x.f1) : Kd.FK kSR W ok x [.int .i64 x.f0, .slice A1 x.f1.length c1, .int .i64 x.f2, .int .i64 x.f3] := fun W2 hW => kSR_mk W2 x l1 (g1 W2 hW)
def rdSR (xs : List SR) (i : Int) : SR := xs.getD i.toNat zSR
theorem atSR {w : World} {A : Option Addr} {n : Nat} {xs : List SR} (h : Kd.C kSR w A n xs) (i : Int) (h0 : 0 ≤ i) (h1 : i < n) : ∃ ad A1 c1, A = some ad ∧ w.cell? (ad.add (i.toNat * 4)) = some (.int .i64 (rdSR xs i).f0) ∧ w.cell? ⟨(ad.add (i.toNat * 4)).block, (ad.add (i.toNat * 4)).off + 1, none⟩ = some (.slice A1 (rdSR xs i).f1.length c1) ∧ w.cell? ⟨(ad.add (i.toNat * 4)).block, (ad.add (i.toNat * 4)).off + 2, none⟩ = some (.int .i64 (rdSR xs i).f2) ∧ w.cell? ⟨(ad.add (i.toNat * 4)).block, (ad.add (i.toNat * 4)).off + 3, none⟩ = some (.int .i64 (rdSR xs i).f3) ∧ (rdSR xs i).f1.length ≤ c1 ∧ (Kd.int .i64).C w A1 (rdSR xs i).f1.length (rdSR xs i).f1 := by
  obtain ⟨ad, c, e, _, hK, hc0⟩ := Kd.C_get h zSR i h0 h1
  have hc : ∀ j u, c[j]? = some u → w.cell? (ad.add (i.toNat * 4 + j)) = some u := hc0
  obtain ⟨A1, c1, rfl, l1, g1⟩ := kSR_open hK
  exact ⟨ad, A1, c1, e, hc 0 _ rfl, by rw [← add_field _ _ 1 (by omega)]; exact hc 1 _ rfl, by rw [← add_field _ _ 2 (by omega)]; exact hc 2 _ rfl, by rw [← add_field _ _ 3 (by omega)]; exact hc 3 _ rfl, l1, g1⟩


theorem rule_at {w : World} {A : Option Addr} {n : Nat} {xs : List SR} (h : Kd.C kSR w A n xs) (i : Nat) (hi : i < xs.length) : ∃ ad A1 c1, A = some ad ∧ w.cell? (ad.add (i * 4)) = some (.int .i64 xs[i].f0) ∧ w.cell? ⟨(ad.add (i * 4)).block, (ad.add (i * 4)).off + 1, none⟩ = some (.slice A1 xs[i].f1.length c1) ∧
    w.cell? ⟨(ad.add (i * 4)).block, (ad.add (i * 4)).off + 2, none⟩ = some (.int .i64 xs[i].f2) ∧ w.cell? ⟨(ad.add (i * 4)).block, (ad.add (i * 4)).off + 3, none⟩ = some (.int .i64 xs[i].f3) ∧ xs[i].f1.length ≤ c1 ∧ (Kd.int .i64).C w A1 xs[i].f1.length xs[i].f1 := by
  obtain ⟨ad, c, e, _, hK, hc0⟩ := Kd.C_get h zSR (i : Int) (by omega) (by have := h.1; omega)
  have hc : ∀ j u, c[j]? = some u → w.cell? (ad.add (i * 4 + j)) = some u := hc0
  rw [show xs.getD ((i : Int)).toNat zSR = xs[i] by simp [List.getD, hi]] at hK
  obtain ⟨A1, c1, rfl, l1, g1⟩ := kSR_open hK
  exact ⟨ad, A1, c1, e, hc 0 _ rfl, by rw [← add_field _ _ 1 (by omega)]; exact hc 1 _ rfl, by rw [← add_field _ _ 2 (by omega)]; exact hc 2 _ rfl, by rw [← add_field _ _ 3 (by omega)]; exact hc 3 _ rfl, l1, g1⟩
theorem int_at {w : World} {A : Option Addr} {n : Nat} {xs : List Int} (h : Kd.C (Kd.int .i64) w A n xs) (i : Nat) (hi : i < xs.length) : ∃ ad, A = some ad ∧ w.cell? (ad.add i) = some (.int .i64 xs[i]) := by
  obtain ⟨ad, e, hc⟩ := h.2.2 (by have := h.1; omega)
  obtain ⟨c, hs, hr, hcell⟩ := hc i _ (List.getElem?_eq_getElem hi)
  obtain rfl : c = [.int .i64 xs[i]] := hr
  have := hcell 0 _ rfl
  simp only [Nat.add_zero] at this
  rw [show (Kd.int .i64).sz = 1 from rfl, Nat.mul_one] at this
  exact ⟨ad, e, this⟩
/-- A row of truth values of the call's own. -/
def RowB (w : World) (base g n c : Nat) (y : List Bool) : Prop := Kd.R Kd.bool 4 w base (fun _ => True) (.slice (some ⟨g, 0, none⟩) n c) y
section
variable {w w' : World} {base g n c : Nat} {y : List Bool}
theorem RowB.len (h : RowB w base g n c y) : n = y.length := (Kd.R_reads' h).1
theorem RowB.lt (h : RowB w base g n c y) : g < w.heap.size := Kd.R_lt h g (by simp [Value.ownBlock])
theorem RowB.low (h : RowB w base g n c y) : base ≤ g := Kd.R_base h g (by simp [Value.ownBlock])
theorem RowB.at_ (h : RowB w base g n c y) (i : Nat) (hi : i < y.length) : w.cell? ⟨g, i, none⟩ = some (.bool y[i]) ∧ w.frozen? ⟨g, i, none⟩ = false := by
  obtain ⟨ce, hcl, hM, hcc, hfr⟩ := Kd.R_elem h false (i : Int) (by omega) (by have := h.len; omega)
  rw [show y.getD ((i : Int)).toNat false = y[i] by simp [List.getD, hi]] at hM
  obtain rfl : ce = [.bool y[i]] := hM
  have h1 := hcc 0 _ rfl
  have h2 := hfr 0
  rw [show ((i : Int)).toNat * Kd.bool.sz + 0 = i by simp [show Kd.bool.sz = 1 from rfl]] at h1 h2
  exact ⟨h1, h2⟩
theorem RowB.set (h : RowB w base g n c y) (i : Nat) (hi : i < y.length) (b : Bool) : RowB (w.setCell ⟨g, i, none⟩ (.bool b)) base g n c (y.set i b) := by
  obtain ⟨ce, hcl, hM, hcc, hfr⟩ := Kd.R_elem h false (i : Int) (by omega) (by have := h.len; omega)
  rw [show y.getD ((i : Int)).toNat false = y[i] by simp [List.getD, hi]] at hM
  obtain rfl : ce = [.bool y[i]] := hM
  have hp := (Kd.R_seg h (i : Int) (by omega) (by have := h.len; omega) (seg := [.bool b]) (j := 0) hcl hcc (show 1 ≤ 1 from by decide) (x' := b) (show Kd.M Kd.bool w base (fun _ => True ∧ False) b [.bool b] from rfl) (fun _ hk => hk.2.elim)).1
  have e : w.setCells g (((i : Int)).toNat * Kd.bool.sz + 0) [.bool b] = w.setCell ⟨g, i, none⟩ (.bool b) := by
    rw [show ((i : Int)).toNat * Kd.bool.sz + 0 = i by simp [show Kd.bool.sz = 1 from rfl]]
    rfl
  rw [e] at hp
  exact hp
theorem RowB.below (h : RowB w base g n c y) (hb : Below w.heap.size w w') : RowB w' base g n c y := Kd.R_below h hb
end
/-- A box with a Spec. -/
structure SBox (W : World) (X : Nat) (t n st ex : Int) (v4 v5 v6 v7 : Value) : Prop where
  heap : W.heap[X]? = some (.cells #[.int .i64 t, .int .i64 n, .int .i64 st, .int .i64 ex, v4, v5, v6, v7] 32 (0, 0))
section
variable {W W' : World} {X B : Nat} {t n st ex : Int} {v4 v5 v6 v7 : Value}
theorem SBox.lt (h : SBox W X t n st ex v4 v5 v6 v7) : X < W.heap.size := (Array.getElem?_eq_some_iff.1 h.heap).1
theorem SBox.c0 (h : SBox W X t n st ex v4 v5 v6 v7) : W.cell? ⟨X, 0, none⟩ = some (.int .i64 t) := by simp [World.cell?, h.heap]
theorem SBox.c1 (h : SBox W X t n st ex v4 v5 v6 v7) : W.cell? ⟨X, 1, none⟩ = some (.int .i64 n) := by simp [World.cell?, h.heap]
theorem SBox.c2 (h : SBox W X t n st ex v4 v5 v6 v7) : W.cell? ⟨X, 2, none⟩ = some (.int .i64 st) := by simp [World.cell?, h.heap]
theorem SBox.c3 (h : SBox W X t n st ex v4 v5 v6 v7) : W.cell? ⟨X, 3, none⟩ = some (.int .i64 ex) := by simp [World.cell?, h.heap]
theorem SBox.c4 (h : SBox W X t n st ex v4 v5 v6 v7) : W.cell? ⟨X, 4, none⟩ = some v4 := by simp [World.cell?, h.heap]
theorem SBox.c5 (h : SBox W X t n st ex v4 v5 v6 v7) : W.cell? ⟨X, 5, none⟩ = some v5 := by simp [World.cell?, h.heap]
theorem SBox.c6 (h : SBox W X t n st ex v4 v5 v6 v7) : W.cell? ⟨X, 6, none⟩ = some v6 := by simp [World.cell?, h.heap]
theorem SBox.c7 (h : SBox W X t n st ex v4 v5 v6 v7) : W.cell? ⟨X, 7, none⟩ = some v7 := by simp [World.cell?, h.heap]
theorem SBox.fz (h : SBox W X t n st ex v4 v5 v6 v7) (k : Nat) : W.frozen? ⟨X, k, none⟩ = false := by simp [World.frozen?, h.heap]
theorem SBox.move (h : SBox W X t n st ex v4 v5 v6 v7) (hb : Below B W W') (hX : X < B) : SBox W' X t n st ex v4 v5 v6 v7 := ⟨(hb.block X hX).trans h.heap⟩
theorem SBox.new (w : World) : SBox (w.alloc (.cells #[.int .i64 t, .int .i64 n, .int .i64 st, .int .i64 ex, v4, v5, v6, v7] 32)) w.heap.size t n st ex v4 v5 v6 v7 := ⟨heap_alloc_new w _⟩
end
/-! A pass over the rules. -/
def gt (y : List Bool) (i : Int) : Bool := y.getD i.toNat false
def stepY (p : List Bool × Bool) (r : SR) : List Bool × Bool := if (r.f1.all (gt p.1) && !gt p.1 r.f0) = true then (p.1.set r.f0.toNat true, true) else p
def setS (p : List Bool × Bool) (n : Int) : List Bool × Bool := if gt p.1 n = true then p else (p.1.set n.toNat true, true)
def stepR (p : List Bool × Bool) (r : SR) : List Bool × Bool := if gt p.1 r.f0 = true then r.f1.foldl setS p else p
def passY (rs : List SR) (y : List Bool) : List Bool × Bool := rs.foldl stepY (y, false)
def passR (rs : List SR) (y : List Bool) : List Bool × Bool := rs.foldl stepR (y, false)
/-- Again and again till nothing comes. -/
inductive FixP (pass : List Bool → List Bool × Bool) : List Bool → List Bool → Prop
  | stop {y : List Bool} : (pass y).2 = false → FixP pass y (pass y).1
  | go {y r : List Bool} : (pass y).2 = true → FixP pass (pass y).1 r → FixP pass y r
def cnt (y : List Bool) : Nat := y.countP (fun b => !b)
theorem cnt_le (y : List Bool) : cnt y ≤ y.length := List.countP_le_length
theorem cnt_set : ∀ (y : List Bool) (i : Nat), i < y.length → y.getD i false = false → cnt (y.set i true) + 1 = cnt y := by
  intro y
  induction y with
  | nil => intro i h; exact absurd h (Nat.not_lt_zero i)
  | cons b y ih =>
    intro i h hb
    cases i with
    | zero =>
      simp only [List.getD_cons_zero] at hb
      subst hb
      simp [cnt]
    | succ i =>
      have := ih i (by simpa using h) (by simpa using hb)
      simp only [cnt, List.set_cons_succ, List.countP_cons] at this ⊢
      omega
/-- What a pass keeps: the length; something came just if there are fewer that are not. -/
def Kept (n : Nat) (p q : List Bool × Bool) : Prop := q.1.length = n ∧ cnt q.1 ≤ cnt p.1 ∧ (p.2 = true → q.2 = true) ∧ (q.2 = true → p.2 = true ∨ cnt q.1 < cnt p.1)
theorem Kept.refl {n : Nat} {p : List Bool × Bool} (h : p.1.length = n) : Kept n p p := ⟨h, Nat.le_refl _, id, .inl⟩
theorem Kept.trans {n : Nat} {p q r : List Bool × Bool} (h : Kept n p q) (k : Kept n q r) : Kept n p r := ⟨k.1, Nat.le_trans k.2.1 h.2.1, fun x => k.2.2.1 (h.2.2.1 x), fun x => (k.2.2.2 x).elim (fun x => (h.2.2.2 x).imp id (fun x => Nat.lt_of_le_of_lt k.2.1 x)) (fun x => .inr (Nat.lt_of_lt_of_le x h.2.1))⟩
/-- All symbols are numbers below n. -/
def okRule (n : Nat) (r : SR) : Prop := (0 ≤ r.f0 ∧ r.f0 < n) ∧ ∀ x ∈ r.f1, 0 ≤ x ∧ x < (n : Int)
theorem kept_set {n : Nat} {p : List Bool × Bool} (h : p.1.length = n) {x : Int} (hx : 0 ≤ x ∧ x < (n : Int)) (hg : gt p.1 x = false) : Kept n p (p.1.set x.toNat true, true) := by
  have h1 := cnt_set p.1 x.toNat (by omega) hg
  exact ⟨by simp [h], by simp only; omega, fun _ => rfl, fun _ => .inr (by simp only; omega)⟩
theorem kept_stepY {n : Nat} {p : List Bool × Bool} (h : p.1.length = n) {r : SR} (hr : okRule n r) : Kept n p (stepY p r) := by
  unfold stepY
  split
  · rename_i hc
    simp only [Bool.and_eq_true, Bool.not_eq_true'] at hc
    exact kept_set h hr.1 hc.2
  · exact Kept.refl h
theorem kept_setS {n : Nat} {p : List Bool × Bool} (h : p.1.length = n) {x : Int} (hx : 0 ≤ x ∧ x < (n : Int)) : Kept n p (setS p x) := by
  unfold setS
  split
  · exact Kept.refl h
  · rename_i hc
    exact kept_set h hx (by simpa using hc)
theorem kept_foldl {α : Type} {n : Nat} {f : List Bool × Bool → α → List Bool × Bool} : ∀ (l : List α) (p : List Bool × Bool), p.1.length = n → (∀ x ∈ l, ∀ p : List Bool × Bool, p.1.length = n → Kept n p (f p x)) → Kept n p (l.foldl f p) := by
  intro l
  induction l with
  | nil => intro p h _; exact Kept.refl h
  | cons x l ih =>
    intro p h hf
    have h1 := hf x List.mem_cons_self p h
    exact h1.trans (ih (f p x) h1.1 (fun y hy => hf y (List.mem_cons_of_mem _ hy)))
theorem kept_stepR {n : Nat} {p : List Bool × Bool} (h : p.1.length = n) {r : SR} (hr : okRule n r) : Kept n p (stepR p r) := by
  unfold stepR
  split
  · exact kept_foldl r.f1 p h (fun x hx q hq => kept_setS hq (hr.2 x hx))
  · exact Kept.refl h
theorem fix_some {n : Nat} (pass : List Bool → List Bool × Bool) (hk : ∀ y, y.length = n → Kept n (y, false) (pass y)) : ∀ (m : Nat) (y : List Bool), y.length = n → cnt y ≤ m → ∃ r, FixP pass y r ∧ r.length = n := by
  intro m
  induction m with
  | zero =>
    intro y h hc
    obtain ⟨k1, k2, k3, k4⟩ := hk y h
    cases hp : (pass y).2 with
    | false => exact ⟨_, .stop hp, k1⟩
    | true => rcases k4 hp with h | h
              · cases h
              · simp only at h; omega
  | succ m ih =>
    intro y h hc
    obtain ⟨k1, k2, k3, k4⟩ := hk y h
    cases hp : (pass y).2 with
    | false => exact ⟨_, .stop hp, k1⟩
    | true =>
      rcases k4 hp with h | h
      · cases h
      · simp only at h
        obtain ⟨r, hr, hl⟩ := ih (pass y).1 k1 (by omega)
        exact ⟨r, .go hp hr, hl⟩
theorem keptY {n : Nat} {rs : List SR} (h : ∀ r ∈ rs, okRule n r) (y : List Bool) (hy : y.length = n) : Kept n (y, false) (passY rs y) := kept_foldl rs (y, false) hy (fun r hr q hq => kept_stepY hq (h r hr))
theorem keptR {n : Nat} {rs : List SR} (h : ∀ r ∈ rs, okRule n r) (y : List Bool) (hy : y.length = n) : Kept n (y, false) (passR rs y) := kept_foldl rs (y, false) hy (fun r hr q hq => kept_stepR hq (h r hr))
end Go.Proofs.YtjhemobplcelbaaGreatDoor.U
