/- tree: trees as plain things: forests, how great they are, their leaves, which are the same. No program here. -/
import Derived.RowKit
namespace Go.Proofs.YtjhemobplcelbaaGreatDoor.T
set_option linter.unusedVariables false
set_option linter.unusedSimpArgs false
/-- A list of trees: the first one's rule, token, kids; the others. -/
inductive F where
  | nil : F
  | cons : Int → Int → F → F → F
def F.drop : Nat → F → F
  | 0, f => f
  | _ + 1, .nil => .nil
  | n + 1, .cons _ _ _ rest => rest.drop n
def F.len : F → Nat
  | .nil => 0
  | .cons _ _ _ rest => rest.len + 1
def F.app : F → F → F
  | .nil, g => g
  | .cons r k kids rest, g => .cons r k kids (rest.app g)
def F.nodes : F → Nat
  | .nil => 0
  | .cons _ _ kids rest => 1 + kids.nodes + rest.nodes
def F.height : F → Nat
  | .nil => 0
  | .cons _ _ kids rest => max (1 + kids.height) rest.height
def F.leaves : F → List Int
  | .nil => []
  | .cons r k kids rest => (if r = -1 then [k] else kids.leaves) ++ rest.leaves
def F.eqB : F → F → Bool
  | .nil, .nil => true
  | .cons r k kids rest, .cons r' k' kids' rest' => decide (r = r') && (decide (k = k') && (kids.eqB kids' && rest.eqB rest'))
  | _, _ => false
theorem eqB_iff : ∀ f g : F, f.eqB g = true ↔ f = g := by
  intro f
  induction f with
  | nil => intro g; cases g <;> simp [F.eqB]
  | cons r k kids rest ih1 ih2 =>
    intro g
    cases g with
    | nil => simp [F.eqB]
    | cons r' k' kids' rest' => simp [F.eqB, ih1, ih2]
theorem eqB_self (f : F) : f.eqB f = true := (eqB_iff f f).2 rfl
/-- How great: counted on from n, the deepest so far d; false where a limit is passed. -/
def F.size : F → Nat → Nat → Nat → Bool × Nat × Nat
  | .nil, _, n, d => (true, n, d)
  | .cons _ _ kids rest, deep, n, d =>
    if 10000 < n + 1 ∨ 5000 < deep then (false, n + 1, d)
    else if (kids.size (deep + 1) (n + 1) (max d deep)).1 = true then rest.size deep (kids.size (deep + 1) (n + 1) (max d deep)).2.1 (kids.size (deep + 1) (n + 1) (max d deep)).2.2
    else kids.size (deep + 1) (n + 1) (max d deep)
theorem size_ok : ∀ (f : F) (deep n d : Nat), 1 ≤ deep → deep ≤ d + 1 → n + f.nodes ≤ 10000 → deep + f.height ≤ 5001 → f.size deep n d = (true, n + f.nodes, max d (deep + f.height - 1)) := by
  intro f
  induction f with
  | nil => intro deep n d h0 h1 h2 h3; simp only [F.size, F.nodes, F.height]; congr 2; omega
  | cons r k kids rest ih1 ih2 =>
    intro deep n d h0 h1 h2 h3
    simp only [F.nodes, F.height] at h2 h3 ⊢
    simp only [F.size]
    rw [if_neg (by omega), ih1 (deep + 1) (n + 1) (max d deep) (by omega) (by omega) (by omega) (by omega)]
    simp only [if_true]
    rw [ih2 deep _ _ h0 (by omega) (by omega) (by omega)]
    congr 2 <;> omega
theorem size_true : ∀ (f : F) (deep n d : Nat), n ≤ 10000 → deep ≤ 5001 → (f.size deep n d).1 = true → (f.size deep n d).2.1 = n + f.nodes ∧ n + f.nodes ≤ 10000 ∧ deep + f.height ≤ 5001 := by
  intro f
  induction f with
  | nil => intro deep n d h0 h1 _; simp only [F.size, F.nodes, F.height]; omega
  | cons r k kids rest ih1 ih2 =>
    intro deep n d h0 h1 h
    simp only [F.nodes, F.height]
    simp only [F.size] at h ⊢
    by_cases hb : 10000 < n + 1 ∨ 5000 < deep
    · rw [if_pos hb] at h; cases h
    · rw [if_neg hb] at h ⊢
      by_cases hk : (kids.size (deep + 1) (n + 1) (max d deep)).1 = true
      · rw [if_pos hk] at h ⊢
        obtain ⟨a, b, c⟩ := ih1 (deep + 1) (n + 1) (max d deep) (by omega) (by omega) hk
        rw [a] at h ⊢
        obtain ⟨a', b', c'⟩ := ih2 deep _ _ b h1 h
        rw [a']
        omega
      · rw [if_neg hk] at h; exact absurd h hk
theorem size_n_le : ∀ (f : F) (deep n d : Nat), n ≤ 10000 → d ≤ 5000 → n ≤ (f.size deep n d).2.1 ∧ (f.size deep n d).2.1 ≤ 10001 ∧ (f.size deep n d).2.2 ≤ 5000 ∧ ((f.size deep n d).1 = true → (f.size deep n d).2.1 ≤ 10000) := by
  intro f
  induction f with
  | nil => intro deep n d h0 h1; simp only [F.size]; omega
  | cons r k kids rest ih1 ih2 =>
    intro deep n d h0 h1
    simp only [F.size]
    by_cases hb : 10000 < n + 1 ∨ 5000 < deep
    · rw [if_pos hb]; exact ⟨by simp, by simp; omega, h1, fun h => by cases h⟩
    · rw [if_neg hb]
      obtain ⟨a, b, c, e⟩ := ih1 (deep + 1) (n + 1) (max d deep) (by omega) (by omega)
      by_cases hk : (kids.size (deep + 1) (n + 1) (max d deep)).1 = true
      · rw [if_pos hk]
        obtain ⟨a', b', c', e'⟩ := ih2 deep _ _ (e hk) c
        exact ⟨by omega, b', c', e'⟩
      · rw [if_neg hk]; exact ⟨by omega, b, c, e⟩
/-- What Size answers of one tree. -/
def F.Size (f : F) : Nat × Nat := if (f.size 1 0 0).1 = true then ((f.size 1 0 0).2.1, (f.size 1 0 0).2.2) else (0, 0)
theorem Size_ok (f : F) (h : f.nodes ≤ 10000) (h2 : f.height ≤ 5000) : f.Size = (f.nodes, f.height) := by
  unfold F.Size
  rw [size_ok f 1 0 0 (by omega) (by omega) (by omega) (by omega)]
  simp only [if_true, Nat.zero_add]
  congr 1
  omega
theorem Size_not (f : F) (h : 10000 < f.nodes ∨ 5000 < f.height) : f.Size = (0, 0) := by
  unfold F.Size
  rw [if_neg]
  intro ht
  obtain ⟨_, b, c⟩ := size_true f 1 0 0 (by omega) (by omega) ht
  omega
theorem Size_pos (f : F) (h : f.Size.1 ≠ 0) : f.nodes ≤ 10000 ∧ f.height ≤ 5000 := by
  rcases Nat.lt_or_ge 10000 f.nodes with h1 | h1
  · rw [Size_not f (.inl h1)] at h; exact absurd rfl h
  · rcases Nat.lt_or_ge 5000 f.height with h2 | h2
    · rw [Size_not f (.inr h2)] at h; exact absurd rfl h
    · exact ⟨h1, h2⟩
theorem app_nodes (f g : F) : (f.app g).nodes = f.nodes + g.nodes := by
  induction f with
  | nil => simp [F.app, F.nodes]
  | cons r k kids rest _ ih => simp only [F.app, F.nodes, ih]; omega
theorem app_height (f g : F) : (f.app g).height = max f.height g.height := by
  induction f with
  | nil => simp [F.app, F.height]
  | cons r k kids rest _ ih => simp only [F.app, F.height, ih]; omega
theorem app_leaves (f g : F) : (f.app g).leaves = f.leaves ++ g.leaves := by
  induction f with
  | nil => simp [F.app, F.leaves]
  | cons r k kids rest _ ih => simp only [F.app, F.leaves, ih, List.append_assoc]
theorem leaves_len (f : F) : f.leaves.length ≤ f.nodes := by
  induction f with
  | nil => simp [F.leaves]
  | cons r k kids rest ih1 ih2 =>
    simp only [F.leaves, F.nodes, List.length_append]
    split
    · simp only [List.length_cons, List.length_nil]; omega
    · omega
/-- One below the other. -/
def chain : Nat → F
  | 0 => .cons (-1) 0 .nil .nil
  | i + 1 => .cons 1 0 (chain i) .nil
/-- Two of each. -/
def bin : Nat → F
  | 0 => .cons (-1) 0 .nil .nil
  | i + 1 => .cons 1 0 ((bin i).app (bin i)) .nil
theorem chain_nodes (i : Nat) : (chain i).nodes = i + 1 := by
  induction i with
  | zero => rfl
  | succ i ih => simp only [chain, F.nodes, ih]; omega
theorem chain_height (i : Nat) : (chain i).height = i + 1 := by
  induction i with
  | zero => rfl
  | succ i ih => simp only [chain, F.height, ih]; omega
theorem bin_nodes (i : Nat) : (bin i).nodes + 1 = 2 ^ (i + 1) := by
  induction i with
  | zero => rfl
  | succ i ih => simp only [bin, F.nodes, app_nodes]; rw [Nat.pow_succ]; omega
theorem bin_height (i : Nat) : (bin i).height = i + 1 := by
  induction i with
  | zero => rfl
  | succ i ih => simp only [bin, F.height, app_height, ih]; omega
theorem bin_leaves (i : Nat) : (bin i).leaves.length = 2 ^ i := by
  induction i with
  | zero => rfl
  | succ i ih => simp only [bin, F.leaves, app_leaves]; rw [if_neg (by decide), List.append_nil, List.length_append, ih, Nat.pow_succ]; omega
end Go.Proofs.YtjhemobplcelbaaGreatDoor.T
