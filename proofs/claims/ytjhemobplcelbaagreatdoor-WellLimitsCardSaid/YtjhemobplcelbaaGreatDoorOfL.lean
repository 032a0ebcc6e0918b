/- of: plain facts on names, Lefts and rules by numbers. -/
import Derived.Test.YtjhemobplcelbaaGreatDoorOfF
import Derived.Test.YtjhemobplcelbaaGreatDoorWellC
namespace Go.Proofs.YtjhemobplcelbaaGreatDoor.O
open Go.RowKit Go.Proofs.YtjhemobplcelbaaGreatDoorW.PrintWords Go.Proofs.YtjhemobplcelbaaGreatDoorW.PrintLast Go.Proofs.YtjhemobplcelbaaGreatDoorW.PrintMore
open Go.Proofs.YtjhemobplcelbaaGreatDoor.U (SR kSR kSR_mkM okRule)
set_option linter.unusedVariables false
set_option linter.unusedSimpArgs false
def namesF (ts : List STk) (rs : List SRu) : List ByteArray := ts.map STk.f0 ++ [⟨#[]⟩] ++ leftsF rs
def startF (ts : List STk) (st : ByteArray) (rs : List SRu) : Int := (ts.length : Int) + 1 + plc (if st = ⟨#[]⟩ then (leftsF rs).headD ⟨#[]⟩ else st) (leftsF rs) 0
def rulesF (ts : List STk) (st : ByteArray) (rs : List SRu) : List SR := ⟨-1, [startF ts st rs], 0, 0⟩ :: rs.map (ruleF ts (namesF ts rs))
theorem plc_mem (s : ByteArray) : ∀ (a : List ByteArray) (i : Nat), 0 ≤ plc s a i ↔ s ∈ a := by
  intro a
  induction a with
  | nil => intro i; simp [plc]
  | cons x a ih =>
    intro i
    unfold plc
    by_cases h : x = s
    · rw [if_pos h]; simp [h]
    · rw [if_neg h, ih]; simp [Ne.symm h]
theorem leftStep_mem {l : List ByteArray} {r : SRu} {s : ByteArray} : s ∈ leftStep l r ↔ s ∈ l ∨ s = r.f0 := by
  unfold leftStep
  split
  · simp
  · rename_i h
    have : r.f0 ∈ l := (plc_mem _ _ 0).1 (by omega)
    constructor
    · exact .inl
    · rintro (h | rfl)
      · exact h
      · exact this
theorem foldl_mem {s : ByteArray} : ∀ (rs : List SRu) (l : List ByteArray), s ∈ rs.foldl leftStep l ↔ s ∈ l ∨ ∃ r ∈ rs, s = r.f0 := by
  intro rs
  induction rs with
  | nil => intro l; simp
  | cons r rs ih =>
    intro l
    rw [List.foldl_cons, ih, leftStep_mem]
    simp [or_assoc]
theorem lefts_mem {rs : List SRu} {s : ByteArray} : s ∈ leftsF rs ↔ ∃ r ∈ rs, s = r.f0 := by
  unfold leftsF
  rw [foldl_mem]
  simp
theorem foldl_len : ∀ (rs : List SRu) (l : List ByteArray), (rs.foldl leftStep l).length ≤ l.length + rs.length := by
  intro rs
  induction rs with
  | nil => intro l; simp
  | cons r rs ih =>
    intro l
    have h1 := ih (leftStep l r)
    have h2 : (leftStep l r).length ≤ l.length + 1 := by unfold leftStep; split <;> simp
    rw [List.foldl_cons]
    simp only [List.length_cons]
    omega
theorem lefts_len (rs : List SRu) : (leftsF rs).length ≤ rs.length := by have := foldl_len rs []; simpa [leftsF] using this
theorem lefts_pos {rs : List SRu} (h : 1 ≤ rs.length) : 1 ≤ (leftsF rs).length := by
  cases rs with
  | nil => simp at h
  | cons r rs =>
    have : r.f0 ∈ leftsF (r :: rs) := lefts_mem.2 ⟨r, List.mem_cons_self, rfl⟩
    have := List.length_pos_of_mem this
    omega
theorem head_at (l : List ByteArray) (h : 0 < l.length) (d : ByteArray) : l[0] = l.headD d := by
  cases l with
  | nil => simp at h
  | cons x l => rfl
theorem names_len (ts : List STk) (rs : List SRu) : (namesF ts rs).length = ts.length + 1 + (leftsF rs).length := by simp [namesF]; omega
theorem known_names {ts : List STk} {rs : List SRu} {s : ByteArray} (h : known ts rs s) : 0 ≤ plc s (namesF ts rs) 0 ∧ plc s (namesF ts rs) 0 < ((ts.length + 1 + (leftsF rs).length : Nat) : Int) := by
  refine ⟨(plc_mem _ _ _).2 ?_, ?_⟩
  · unfold namesF
    rcases h with h | h
    · have := (plc_mem _ _ _).1 h; simp [this]
    · have := (plc_mem _ _ _).1 h; simp only [List.mem_append]; exact .inl (.inl this)
  · have := plc_lt s (namesF ts rs) 0
    rw [names_len] at this
    omega
theorem rules_ok {ts : List STk} {st : ByteArray} {rs : List SRu} (h : namedOk ts st rs) : ∀ r ∈ (rulesF ts st rs).tail, okRule (ts.length + 1 + (leftsF rs).length) r := by
  intro r hr
  simp only [rulesF, List.tail_cons, List.mem_map] at hr
  obtain ⟨q, hq, rfl⟩ := hr
  refine ⟨known_names (.inl ((plc_mem _ _ _).2 (lefts_mem.2 ⟨q, hq, rfl⟩))), fun x hx => ?_⟩
  simp only [ruleF, List.mem_map] at hx
  obtain ⟨s, hs, rfl⟩ := hx
  exact known_names ((h.2.2.1 q hq).1 s hs)
theorem start_ok {ts : List STk} {st : ByteArray} {rs : List SRu} (h : namedOk ts st rs) : (ts.length : Int) + 1 ≤ startF ts st rs ∧ startF ts st rs < ((ts.length + 1 + (leftsF rs).length : Nat) : Int) := by
  have h1 := plc_lt (if st = ⟨#[]⟩ then (leftsF rs).headD ⟨#[]⟩ else st) (leftsF rs) 0
  have h2 : 0 ≤ plc (if st = ⟨#[]⟩ then (leftsF rs).headD ⟨#[]⟩ else st) (leftsF rs) 0 := by
    rw [plc_mem]
    split
    · have := lefts_pos h.2.1
      cases hl : leftsF rs with
      | nil => rw [hl] at this; simp at this
      | cons x l => simp
    · rename_i hs
      rcases h.2.2.2 with h3 | h3
      · exact absurd h3 hs
      · exact (plc_mem _ _ _).1 h3
  unfold startF
  omega
theorem long_no {ts : List STk} {rs : List SRu} (h : longB ts rs = false) : (∀ r ∈ rs, r.f1.length ≤ 6) ∧ ts.length ≤ 12 ∧ rs.length ≤ 30 ∧ (leftsF rs).length ≤ 10 := by
  unfold longB at h
  simp only [Bool.or_eq_false_iff, List.any_eq_false, decide_eq_true_eq, decide_eq_false_iff_not, Nat.not_lt] at h
  exact ⟨fun r hr => h.1 r hr, h.2.1, h.2.2.1, h.2.2.2⟩
def TwoRows (W1 : World) (m : Nat) (a b : List Bool) (v v' : Value) (wx : World) : Prop := ∃ (g c g' c' : Nat), v = .slice (some ⟨g, 0, none⟩) m c ∧ v' = .slice (some ⟨g', 0, none⟩) m c' ∧ U.RowB wx W1.heap.size g m c a ∧ U.RowB wx W1.heap.size g' m c' b ∧ Below W1.heap.size W1 wx
def ChRel (W : World) (t n : Nat) (ry rr : List Bool) (kq : Nat) (v : Value) (w' : World) : Prop := ∃ k : Nat, k + kq = n ∧ v = .int .i64 ((t + 1 + k : Nat) : Int) ∧ w' = W ∧ ∀ z, t + 1 ≤ z → z < t + 1 + k → ry.getD z false = true ∧ rr.getD z false = true
theorem fix_one {pass : List Bool → List Bool × Bool} {y r r' : List Bool} (h : U.FixP pass y r) (h' : U.FixP pass y r') : r = r' := by
  induction h with
  | stop hs => exact ((U.FixP.inv h').1 hs).symm
  | go hs _ ih => exact ih ((U.FixP.inv h').2 hs)
end Go.Proofs.YtjhemobplcelbaaGreatDoor.O
