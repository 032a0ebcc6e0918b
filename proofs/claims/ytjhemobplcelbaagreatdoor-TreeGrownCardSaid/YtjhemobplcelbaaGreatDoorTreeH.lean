/- tree: trees that a call has built: no two nodes are one. build of donatuslaw13. -/
import Derived.Test.YtjhemobplcelbaaGreatDoorTreeG
import Derived.Test.YtjhemobplcelbaaGreatDoorKit
namespace Go.Proofs.YtjhemobplcelbaaGreatDoor.T
open Go.RowKit Go.Proofs.YtjhemobplcelbaaGreatDoorW.PrintWords Go.Proofs.YtjhemobplcelbaaGreatDoorW.PrintLast Go.Proofs.YtjhemobplcelbaaGreatDoorW.PrintMore
set_option linter.unusedVariables false
set_option linter.unusedSimpArgs false
structure S87 where
  f0 : Int
  f1 : Int
  f2 : Int
def z87 : S87 := ⟨(0 : Int), (0 : Int), (0 : Int)⟩
def k87 : Kd S87 := Kd.iso (Kd.pair (Kd.int .i64) (Kd.pair (Kd.int .i64) (Kd.int .i64))) (fun x : S87 => (x.f0, x.f1, x.f2))
theorem shape_open {w : World} {x : S87} {cs : List Value} (h : k87.K w x cs) : cs = [.int .i64 x.f0, .int .i64 x.f1, .int .i64 x.f2] := by
  obtain ⟨_, _, rfl, rfl, ⟨_, _, rfl, rfl, rfl⟩⟩ := h
  exact rfl
theorem shape_at {w : World} {A : Option Addr} {n : Nat} {xs : List S87} (h : Kd.C k87 w A n xs) (i : Nat) (hi : i < xs.length) : ∃ ad, A = some ad ∧ w.cell? (ad.add (i * 3)) = some (.int .i64 xs[i].f0) ∧ w.cell? ⟨(ad.add (i * 3)).block, (ad.add (i * 3)).off + 1, none⟩ = some (.int .i64 xs[i].f1) ∧ w.cell? ⟨(ad.add (i * 3)).block, (ad.add (i * 3)).off + 2, none⟩ = some (.int .i64 xs[i].f2) := by
  obtain ⟨ad, c, e, _, hK, hc0⟩ := Kd.C_get h z87 (i : Int) (by omega) (by have := h.1; omega)
  have hc : ∀ j u, c[j]? = some u → w.cell? (ad.add (i * 3 + j)) = some u := hc0
  rw [show xs.getD ((i : Int)).toNat z87 = xs[i] by simp [List.getD, hi]] at hK
  obtain rfl := shape_open hK
  exact ⟨ad, e, hc 0 _ rfl, by rw [← add_field _ _ 1 (by omega)]; exact hc 1 _ rfl, by rw [← add_field _ _ 2 (by omega)]; exact hc 2 _ rfl⟩
/-- The trees that stand at these places are these; all their blocks are of S, no two nodes share one. -/
def OwnF (w : World) : F → (Nat → Prop) → List Nat → Prop
  | .nil, _, ps => ps = []
  | .cons r k kids rest, S, ps => ∃ (X : Nat) (ps' : List Nat), ps = X :: ps' ∧ ∃ S1 S2 : Nat → Prop, (∀ b, S1 b → S b) ∧ (∀ b, S2 b → S b) ∧ (∀ b, S1 b → S2 b → False) ∧
    (S1 X ∧ ∃ (A : Option Addr) (c : Nat) (qs : List Nat) (S3 : Nat → Prop), w.heap[X]? = some (.cells #[.int .i64 r, .int .i64 k, .slice A qs.length c] 61 (0, 0)) ∧ Kd.R kP 37 w 0 (fun b => S1 b ∧ b ≠ X) (.slice A qs.length c) qs ∧ (∀ b, S3 b → S1 b ∧ b ≠ X ∧ some b ≠ (Value.slice A qs.length c).ownBlock) ∧ OwnF w kids S3 qs) ∧ OwnF w rest S2 ps'
def OwnN (w : World) (S1 : Nat → Prop) (X : Nat) (r k : Int) (kids : F) : Prop := S1 X ∧ ∃ (A : Option Addr) (c : Nat) (qs : List Nat) (S3 : Nat → Prop), w.heap[X]? = some (.cells #[.int .i64 r, .int .i64 k, .slice A qs.length c] 61 (0, 0)) ∧ Kd.R kP 37 w 0 (fun b => S1 b ∧ b ≠ X) (.slice A qs.length c) qs ∧ (∀ b, S3 b → S1 b ∧ b ≠ X ∧ some b ≠ (Value.slice A qs.length c).ownBlock) ∧ OwnF w kids S3 qs
theorem OwnF.isF {w : World} : ∀ (f : F) (S : Nat → Prop) (ps : List Nat), OwnF w f S ps → IsF w ps f := by
  intro f
  induction f with
  | nil => rintro S ps rfl; trivial
  | cons r k kids rest ih1 ih2 =>
    rintro S ps ⟨X, ps', rfl, S1, S2, h1, h2, h3, ⟨h4, A, c, qs, S3, h5, h6, h7, h8⟩, h9⟩
    obtain ⟨_, g1, g2⟩ := Kd.R_reads' h6
    exact ⟨⟨A, c, qs, h5, g2, g1, ih1 S3 qs h8⟩, ih2 S2 ps' h9⟩
theorem OwnN.isF {w : World} {S1 : Nat → Prop} {X : Nat} {r k : Int} {kids : F} (h : OwnN w S1 X r k kids) : IsF w [X] (.cons r k kids .nil) := by
  obtain ⟨h4, A, c, qs, S3, h5, h6, h7, h8⟩ := h
  obtain ⟨_, g1, g2⟩ := Kd.R_reads' h6
  exact ⟨⟨A, c, qs, h5, g2, g1, h8.isF⟩, trivial⟩
theorem OwnF.mono {w : World} {S S' : Nat → Prop} (hS : ∀ b, S b → S' b) : ∀ (f : F) (ps : List Nat), OwnF w f S ps → OwnF w f S' ps := by
  intro f ps h
  cases f with
  | nil => exact h
  | cons r k kids rest =>
    obtain ⟨X, ps', e, S1, S2, h1, h2, h3⟩ := h
    exact ⟨X, ps', e, S1, S2, fun b hb => hS b (h1 b hb), fun b hb => hS b (h2 b hb), h3⟩
theorem OwnF.move {w w' : World} : ∀ (f : F) (S : Nat → Prop) (ps : List Nat), (∀ b, S b → w'.heap[b]? = w.heap[b]?) → OwnF w f S ps → OwnF w' f S ps := by
  intro f
  induction f with
  | nil => intro S ps _ h; exact h
  | cons r k kids rest ih1 ih2 =>
    rintro S ps hm ⟨X, ps', rfl, S1, S2, h1, h2, h3, ⟨h4, A, c, qs, S3, h5, h6, h7, h8⟩, h9⟩
    exact ⟨X, ps', rfl, S1, S2, h1, h2, h3, ⟨h4, A, c, qs, S3, (hm X (h1 X h4)).trans h5, Kd.R_move h6 (fun b hb => hm b (h1 b hb.1)), h7, ih1 S3 qs (fun b hb => hm b (h1 b (h7 b hb).1)) h8⟩, ih2 S2 ps' (fun b hb => hm b (h2 b hb)) h9⟩
theorem OwnN.move {w w' : World} {S1 : Nat → Prop} {X : Nat} {r k : Int} {kids : F} (hm : ∀ b, S1 b → w'.heap[b]? = w.heap[b]?) (h : OwnN w S1 X r k kids) : OwnN w' S1 X r k kids := by
  obtain ⟨h4, A, c, qs, S3, h5, h6, h7, h8⟩ := h
  exact ⟨h4, A, c, qs, S3, (hm X h4).trans h5, Kd.R_move h6 (fun b hb => hm b hb.1), h7, h8.move _ _ _ (fun b hb => hm b (h7 b hb).1)⟩
theorem OwnN.mono {w : World} {S S' : Nat → Prop} {X : Nat} {r k : Int} {kids : F} (hS : ∀ b, S b → S' b) (h : OwnN w S X r k kids) : OwnN w S' X r k kids := by
  obtain ⟨h4, A, c, qs, S3, h5, h6, h7, h8⟩ := h
  exact ⟨hS X h4, A, c, qs, S3, h5, Kd.R_mono h6 (fun b hb => ⟨hS b hb.1, hb.2⟩), fun b hb => ⟨hS b (h7 b hb).1, (h7 b hb).2⟩, h8⟩
theorem OwnF.snoc {w : World} {S S1 : Nat → Prop} {X : Nat} {r k : Int} {kids : F} (hn : OwnN w S1 X r k kids) : ∀ (f : F) (S0 : Nat → Prop) (ps : List Nat), (∀ b, S0 b → S b) → (∀ b, S1 b → S b) → (∀ b, S0 b → S1 b → False) → OwnF w f S0 ps → OwnF w (f.app (.cons r k kids .nil)) S (ps ++ [X]) := by
  intro f
  induction f generalizing S with
  | nil =>
    rintro S0 ps h0 h1 h2 rfl
    exact ⟨X, [], rfl, S1, fun _ => False, h1, fun b hb => hb.elim, fun b _ hb => hb, hn, rfl⟩
  | cons r' k' kids' rest ih1 ih2 =>
    rintro S0 ps h0 h1 h2 ⟨Y, ps', rfl, T1, T2, g1, g2, g3, g4, g5⟩
    exact ⟨Y, ps' ++ [X], rfl, T1, fun b => T2 b ∨ S1 b, fun b hb => h0 b (g1 b hb), fun b hb => hb.elim (fun hb => h0 b (g2 b hb)) (h1 b), fun b hb hc => hc.elim (g3 b hb) (h2 b (g1 b hb)), g4, ih2 T2 ps' (fun b hb => .inl hb) (fun b hb => .inr hb) (fun b hb => h2 b (g2 b hb)) g5⟩
/-- How many kids a shape asks for. -/
def kn (s : S87) : Nat := if s.f0 = -1 then 0 else (Int.tmod (Int.tmod s.f2 4 + 4) 4).toNat
theorem kn_le (s : S87) : kn s ≤ 3 := by
  unfold kn
  have := Int.tmod_lt_of_pos (Int.tmod s.f2 4 + 4) (show (0 : Int) < 4 by decide)
  split
  · omega
  · omega
def bldK (b : Nat → (Int × Int × F) × Nat) : Nat → Nat → F × Nat
  | 0, i => (.nil, i)
  | n + 1, i => if i < 60 then (F.cons (b i).1.1 (b i).1.2.1 (b i).1.2.2 (bldK b n (b i).2).1, (bldK b n (b i).2).2) else (.nil, i)
/-- What build builds, and where it ends. -/
def bld (l : List S87) : Nat → Nat → (Int × Int × F) × Nat
  | 0, i => ((-1, 0, .nil), i + 1)
  | d + 1, i => if h : i < l.length then ((l[i].f0, l[i].f1, (bldK (bld l d) (kn l[i]) (i + 1)).1), (bldK (bld l d) (kn l[i]) (i + 1)).2) else ((-1, 0, .nil), i + 1)
theorem bldK_le {b : Nat → (Int × Int × F) × Nat} {D : Nat} (hb : ∀ i, i < 60 → i + 1 + (b i).1.2.2.nodes ≤ (b i).2 ∧ (b i).2 ≤ 60 ∧ (b i).1.2.2.height + 1 ≤ D) : ∀ n i, i ≤ 60 → i + (bldK b n i).1.nodes ≤ (bldK b n i).2 ∧ (bldK b n i).2 ≤ 60 ∧ (bldK b n i).1.height ≤ D := by
  intro n
  induction n with
  | zero => intro i hi; simp only [bldK, F.nodes, F.height]; omega
  | succ n ih =>
    intro i hi
    simp only [bldK]
    by_cases h : i < 60
    · rw [if_pos h]
      obtain ⟨h1, h2, h3⟩ := hb i h
      obtain ⟨g1, g2, g3⟩ := ih (b i).2 h2
      simp only [F.nodes, F.height]
      omega
    · rw [if_neg h]; simp only [F.nodes, F.height]; omega
theorem bld_le (l : List S87) : ∀ d i, i < 60 → i + 1 + (bld l d i).1.2.2.nodes ≤ (bld l d i).2 ∧ (bld l d i).2 ≤ 60 ∧ (bld l d i).1.2.2.height + 1 ≤ d + 1 := by
  intro d
  induction d with
  | zero => intro i hi; simp only [bld, F.nodes, F.height]; omega
  | succ d ih =>
    intro i hi
    simp only [bld]
    by_cases h : i < l.length
    · rw [dif_pos h]
      have := bldK_le (D := d + 1) ih (kn l[i]) (i + 1) (by omega)
      simp only []
      omega
    · rw [dif_neg h]; simp only [F.nodes, F.height]; omega
theorem app_nil : ∀ f : F, f.app .nil = f := by
  intro f
  induction f with
  | nil => rfl
  | cons r k kids rest _ ih => simp only [F.app, ih]
theorem app_assoc : ∀ f g h : F, (f.app g).app h = f.app (g.app h) := by
  intro f
  induction f with
  | nil => intro g h; rfl
  | cons r k kids rest _ ih => intro g h; simp only [F.app, ih]
end Go.Proofs.YtjhemobplcelbaaGreatDoor.T
