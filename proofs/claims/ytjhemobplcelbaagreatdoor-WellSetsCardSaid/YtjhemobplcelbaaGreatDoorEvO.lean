/- The machine for closed calls: regions whose order is open: any order leaves what the text's order leaves. Condition: no function of the program bears the name that the model asks for itself. -/
import Derived.Test.YtjhemobplcelbaaGreatDoorEvN
namespace Go.Proofs.YtjhemobplcelbaaGreatDoor.V
open Go.RowKit
set_option linter.unusedVariables false
set_option linter.unusedSimpArgs false
/-- A step of the text's order. -/
structure St where
  o : Oper
  ts : T Value
  h : CH
  v : Value
  h' : CH
  ts' : T Value
section
variable {P : Program} {call : Call'} {N : Nat} {ops : Array Oper}
inductive Tr (P : Program) (call : Call') (N : Nat) (ops : Array Oper) : Nat → T Value → CH → List St → T Value → CH → Prop
  | nil {j ts h} : Tr P call N ops j ts h [] ts h
  | cons {j ts h o v h' ts1 l te he} : ops[j]? = some o → stepEv P call ops o ts ⟨h.t, h.n, 0, 0⟩ = some (v, h') → putC N ts o.dst v = some ts1 → Tr P call N ops (j + 1) ts1 ⟨h'.t, h'.n, h.rd ||| h'.rd, h.wr ||| h'.wr⟩ l te he →
      Tr P call N ops j ts h (⟨o, ts, ⟨h.t, h.n, 0, 0⟩, v, h', ts1⟩ :: l) te he
/-- Two operations that have nothing to do with each other's memory, or the later one waits. -/
def ApartP (ops : Array Oper) (j rd wr i rd' wr' : Nat) : Prop :=
  ((∀ b, On wr' b → ¬ On rd b ∧ ¬ On wr b) ∧ ∀ b, On rd' b → ¬ On wr b) ∨ waits ops ops.size j i = true
theorem and_zero {x y : Nat} (h : Nat.beq (x &&& y) 0 = true) : ∀ b, On x b → ¬ On y b := by
  intro b hx hy
  have := on_and.2 ⟨hx, hy⟩
  rw [beq_t h] at this
  exact on_zero this
theorem apartAll_of {j rd wr : Nat} : ∀ l : List (Nat × Nat × Nat), apartAll ops j rd wr l = true → ∀ x ∈ l, ApartP ops j rd wr x.1 x.2.1 x.2.2 := by
  intro l
  induction l with
  | nil => intro _ x hx; cases hx
  | cons y l ih =>
    obtain ⟨i, rd', wr'⟩ := y
    intro h x hx
    unfold apartAll at h
    split at h
    · rename_i hh
      rcases List.mem_cons.1 hx with rfl | hx
      · rw [Bool.or_eq_true, Bool.and_eq_true] at hh
        rcases hh with ⟨h1, h2⟩ | h1
        · refine .inl ⟨fun b hb => ?_, and_zero h2⟩
          have := and_zero h1 b hb
          exact ⟨fun k => this (on_or.2 (.inl k)), fun k => this (on_or.2 (.inr k))⟩
        · exact .inr h1
      · exact ih h x hx
    · cases h
theorem opsD_tr : ∀ (l : List Oper) (j : Nat) (before : List (Nat × Nat × Nat)) (ts te : T Value) (h he : CH), ops.toList.drop j = l → opsD P call N ops j before l ts h = some (te, he) →
    ∃ L, Tr P call N ops j ts h L te he ∧ L.length = l.length ∧ (∀ k s, L[k]? = some s → ∀ x ∈ before, ApartP ops (j + k) s.h'.rd s.h'.wr x.1 x.2.1 x.2.2) ∧
      (∀ i k s s', i < k → L[i]? = some s → L[k]? = some s' → ApartP ops (j + k) s'.h'.rd s'.h'.wr (j + i) s.h'.rd s.h'.wr) := by
  intro l
  induction l with
  | nil =>
    intro j before ts te h he hl e
    have e := Option.some.inj e
    injection e with e1 e2
    subst e1 e2
    exact ⟨[], .nil, rfl, fun k s hs => by simp at hs, fun i k s s' _ hs => by simp at hs⟩
  | cons o l ih =>
    intro j before ts te h he hl e
    have hoi : ops[j]? = some o := by
      rw [← Array.getElem?_toList]
      have := congrArg (fun l => l[0]?) hl
      simpa using this
    have hl' : ops.toList.drop (j + 1) = l := by
      rw [← List.drop_drop, hl]; rfl
    unfold opsD at e
    split at e
    · rename_i v h1 hs
      split at e
      · rename_i hap
        split at e
        · rename_i ts1 hp
          obtain ⟨L, k1, k2, k3, k4⟩ := ih (j + 1) _ ts1 te _ he hl' e
          refine ⟨_ :: L, .cons hoi hs hp k1, by simp [k2], fun k s hk x hx => ?_, fun i k s s' hik hi hk => ?_⟩
          · cases k with
            | zero =>
              simp only [List.getElem?_cons_zero, Option.some.injEq] at hk
              subst hk
              exact apartAll_of _ hap x hx
            | succ k =>
              have := k3 k s (by simpa using hk) x (List.mem_cons_of_mem _ hx)
              rw [Nat.add_assoc, Nat.add_comm 1 k] at this
              exact this
          · cases k with
            | zero => omega
            | succ k =>
              have hk : L[k]? = some s' := by simpa using hk
              cases i with
              | zero =>
                simp only [List.getElem?_cons_zero, Option.some.injEq] at hi
                subst hi
                have := k3 k s' hk (j, h1.rd, h1.wr) (by simp)
                rw [Nat.add_assoc, Nat.add_comm 1 k] at this
                exact this
              | succ i =>
                have := k4 i k s s' (by omega) (by simpa using hi) hk
                rw [Nat.add_assoc, Nat.add_comm 1 k, Nat.add_assoc, Nat.add_comm 1 i] at this
                exact this
        · cases e
      · cases e
    · cases e
theorem Tr.at (hC : CallOk P call) : ∀ {j : Nat} {ts te : T Value} {h he : CH} {L : List St}, Tr P call N ops j ts h L te he → ∀ {k : Nat} {s : St}, L[k]? = some s →
    ∃ hk : CH, Tr P call N ops j ts h (L.take k) s.ts hk ∧ s.h = ⟨hk.t, hk.n, 0, 0⟩ ∧ ops[j + k]? = some s.o ∧ stepEv P call ops s.o s.ts s.h = some (s.v, s.h') ∧ putC N s.ts s.o.dst s.v = some s.ts' ∧
      Tr P call N ops (j + k + 1) s.ts' ⟨s.h'.t, s.h'.n, hk.rd ||| s.h'.rd, hk.wr ||| s.h'.wr⟩ (L.drop (k + 1)) te he := by
  intro j ts te h he L hT
  induction hT with
  | nil => intro k s hs; simp at hs
  | cons h1 h2 h3 h4 ih =>
    intro k s hs
    cases k with
    | zero =>
      simp only [List.getElem?_cons_zero, Option.some.injEq] at hs
      subst hs
      exact ⟨_, .nil, rfl, h1, h2, h3, h4⟩
    | succ k =>
      obtain ⟨hk, g1, g2, g3, g4, g5, g6⟩ := ih (by simpa using hs)
      refine ⟨hk, .cons h1 h2 h3 g1, g2, by rw [← g3]; congr 1; omega, g4, g5, ?_⟩
      have : ∀ n, n + 1 + k + 1 = n + (k + 1) + 1 := fun n => by omega
      rw [← this]
      exact g6
/-- What the steps up to a place do. -/
theorem Tr.can (hC : CallOk P call) : ∀ {j : Nat} {ts te : T Value} {h he : CH} {L : List St}, Tr P call N ops j ts h L te he → Can h he := by
  intro j ts te h he L hT
  induction hT with
  | nil => exact Can.refl _
  | @cons j ts h o v h' ts1 l te he h1 h2 h3 h4 ih =>
    have hc := step_can hC h2
    refine Can.trans (hm := ⟨h'.t, h'.n, h.rd ||| h'.rd, h.wr ||| h'.wr⟩) ⟨hc.n, fun b hb => on_or.2 (.inl hb), fun b hb => on_or.2 (.inl hb), fun b hb => hc.keep b fun k => hb (on_or.2 (.inr k)), fun b hb => ?_, hc.now⟩ ih
    rcases on_or.1 hb with hb | hb
    · exact .inl hb
    · rcases hc.was b hb with k | k | ⟨k1, k2⟩
      · exact absurd k on_zero
      · exact .inr (.inl k)
      · exact .inr (.inr ⟨on_or.2 (.inr k1), k2⟩)
theorem Tr.masks (hC : CallOk P call) {j : Nat} {ts te : T Value} {h he : CH} {L : List St} (hT : Tr P call N ops j ts h L te he) {k : Nat} {s : St} (hs : L[k]? = some s) : (∀ b, On s.h'.rd b → On he.rd b) ∧ (∀ b, On s.h'.wr b → On he.wr b) ∧ h.n ≤ s.h.n ∧ s.h.n ≤ s.h'.n ∧ s.h'.n ≤ he.n ∧ s.h.rd = 0 ∧ s.h.wr = 0 ∧ Can s.h s.h' := by
  obtain ⟨hk, g1, g2, g3, g4, g5, g6⟩ := hT.at hC hs
  have c1 := g1.can hC
  have c2 := step_can hC g4
  have c3 := g6.can hC
  refine ⟨fun b hb => c3.rd b (on_or.2 (.inr hb)), fun b hb => c3.wr b (on_or.2 (.inr hb)), by rw [g2]; exact c1.n, c2.n, c3.n, by rw [g2], by rw [g2], c2⟩
theorem Tr.order (hC : CallOk P call) {j : Nat} {ts te : T Value} {h he : CH} {L : List St} (hT : Tr P call N ops j ts h L te he) {i k : Nat} {s s' : St} (hik : i < k) (hs : L[i]? = some s) (hs' : L[k]? = some s') : s.h'.n ≤ s'.h.n := by
  obtain ⟨hk, g1, g2, g3, g4, g5, g6⟩ := hT.at hC hs
  have : (L.drop (i + 1))[k - (i + 1)]? = some s' := by rw [List.getElem?_drop, show i + 1 + (k - (i + 1)) = k by omega]; exact hs'
  exact (g6.masks hC this).2.2.1
/-! The temporaries and the blocks when the operations of a set have come up. -/
def valS (S : Nat → Bool) : Nat → List St → Option Value → Nat → Option Value
  | _, [], x, _ => x
  | k, s :: l, x, t => valS S (k + 1) l (if S k = true ∧ s.o.dst = some t then some s.v else x) t
def blkS (S : Nat → Bool) : Nat → List St → Option Blk → Nat → Option Blk
  | _, [], x, _ => x
  | k, s :: l, x, b => blkS S (k + 1) l (if S k = true ∧ s.h'.wr.testBit b = true then s.h'.t.get b else x) b
variable {S S' : Nat → Bool}
theorem valS_none : ∀ (l : List St) (k : Nat) (x : Option Value) (t : Nat), (∀ i s, l[i]? = some s → S (k + i) = true → s.o.dst ≠ some t) → valS S k l x t = x := by
  intro l
  induction l with
  | nil => intro k x t _; rfl
  | cons s l ih =>
    intro k x t h
    unfold valS
    rw [if_neg (fun hh => h 0 s rfl hh.1 hh.2)]
    exact ih (k + 1) x t fun i s' hs hS => h (i + 1) s' (by simpa using hs) (by rw [← Nat.add_assoc, Nat.add_right_comm]; exact hS)
theorem blkS_none : ∀ (l : List St) (k : Nat) (x : Option Blk) (b : Nat), (∀ i s, l[i]? = some s → S (k + i) = true → ¬ On s.h'.wr b) → blkS S k l x b = x := by
  intro l
  induction l with
  | nil => intro k x b _; rfl
  | cons s l ih =>
    intro k x b h
    unfold blkS
    rw [if_neg (fun hh => h 0 s rfl hh.1 hh.2)]
    exact ih (k + 1) x b fun i s' hs hS => h (i + 1) s' (by simpa using hs) (by rw [← Nat.add_assoc, Nat.add_right_comm]; exact hS)
theorem valS_append (l2 : List St) (t : Nat) : ∀ (l1 : List St) (k : Nat) (x : Option Value), valS S k (l1 ++ l2) x t = valS S (k + l1.length) l2 (valS S k l1 x t) t := by
  intro l1
  induction l1 with
  | nil => intro k x; rfl
  | cons s l ih =>
    intro k x
    show valS S (k + 1) (l ++ l2) _ t = _
    rw [ih (k + 1)]
    show _ = valS S (k + (l.length + 1)) l2 (valS S (k + 1) l _ t) t
    rw [Nat.add_right_comm k 1, Nat.add_assoc]
theorem blkS_append (l2 : List St) (t : Nat) : ∀ (l1 : List St) (k : Nat) (x : Option Blk), blkS S k (l1 ++ l2) x t = blkS S (k + l1.length) l2 (blkS S k l1 x t) t := by
  intro l1
  induction l1 with
  | nil => intro k x; rfl
  | cons s l ih =>
    intro k x
    show blkS S (k + 1) (l ++ l2) _ t = _
    rw [ih (k + 1)]
    show _ = blkS S (k + (l.length + 1)) l2 (blkS S (k + 1) l _ t) t
    rw [Nat.add_right_comm k 1, Nat.add_assoc]
theorem valS_all (t : Nat) : ∀ {j : Nat} {ts te : T Value} {h he : CH} {L : List St}, Tr P call N ops j ts h L te he → ∀ k, (∀ i s, L[i]? = some s → S (k + i) = false → s.o.dst ≠ some t) → valS S k L (ts.get t) t = te.get t := by
  intro j ts te h he L hT
  induction hT with
  | nil => intro k _; rfl
  | @cons j ts h o v h' ts1 l te he h1 h2 h3 h4 ih =>
    intro k hS
    unfold valS
    have e1 : (if S k = true ∧ o.dst = some t then some v else ts.get t) = ts1.get t := by
      rw [putC_some h3 t]
      cases hk : S k with
      | true => simp
      | false =>
        have := hS 0 _ rfl hk
        rw [if_neg (by simp), if_neg this]
    show valS S (k + 1) l (if S k = true ∧ o.dst = some t then some v else ts.get t) t = _
    rw [e1]
    exact ih (k + 1) fun i s' hs hh => hS (i + 1) s' (by simpa using hs) (by rw [← Nat.add_assoc, Nat.add_right_comm]; exact hh)
theorem blkS_all (hC : CallOk P call) (b : Nat) : ∀ {j : Nat} {ts te : T Value} {h he : CH} {L : List St}, Tr P call N ops j ts h L te he → ∀ k, (∀ i s, L[i]? = some s → S (k + i) = false → ¬ On s.h'.wr b) → blkS S k L (h.t.get b) b = he.t.get b := by
  intro j ts te h he L hT
  induction hT with
  | nil => intro k _; rfl
  | @cons j ts h o v h' ts1 l te he h1 h2 h3 h4 ih =>
    intro k hS
    unfold blkS
    have hc := step_can hC h2
    have e1 : (if S k = true ∧ h'.wr.testBit b = true then h'.t.get b else h.t.get b) = h'.t.get b := by
      by_cases hb : On h'.wr b
      · cases hk : S k with
        | true => rw [if_pos ⟨rfl, hb⟩]
        | false => exact absurd hb (hS 0 _ rfl hk)
      · rw [if_neg fun hh => hb hh.2]
        exact (hc.keep b hb).symm
    show blkS S (k + 1) l (if S k = true ∧ h'.wr.testBit b = true then h'.t.get b else h.t.get b) b = _
    rw [e1]
    exact ih (k + 1) fun i s' hs hh => hS (i + 1) s' (by simpa using hs) (by rw [← Nat.add_assoc, Nat.add_right_comm]; exact hh)
theorem split_at {L : List St} {k : Nat} {s : St} (h : L[k]? = some s) : L = L.take k ++ s :: L.drop (k + 1) ∧ (L.take k).length = k := by
  obtain ⟨hk, rfl⟩ := List.getElem?_eq_some_iff.1 h
  refine ⟨?_, by rw [List.length_take]; omega⟩
  rw [← List.drop_eq_getElem_cons hk, List.take_append_drop]
/-- Behind a step's own place nobody of the set has a say. -/
theorem valS_here {ts te : T Value} {h he : CH} {L : List St} (hC : CallOk P call) (hT : Tr P call N ops 0 ts h L te he) {k : Nat} {s : St} (hs : L[k]? = some s) (t : Nat) (h1 : ∀ i s', i < k → L[i]? = some s' → S i = false → s'.o.dst ≠ some t) (h2 : ∀ i s', k < i → L[i]? = some s' → S i = true → s'.o.dst ≠ some t) :
    valS S 0 L (ts.get t) t = if S k = true ∧ s.o.dst = some t then some s.v else s.ts.get t := by
  obtain ⟨hk, g1, _⟩ := hT.at hC hs
  obtain ⟨e1, e2⟩ := split_at hs
  rw [e1, valS_append, e2, Nat.zero_add]
  rw [valS_all t g1 0 fun i s' hi hS => h1 i s' (by have := (List.getElem?_eq_some_iff.1 hi).1; omega) (by rw [List.getElem?_take] at hi; split at hi; exact hi; cases hi) (by rwa [Nat.zero_add] at hS)]
  unfold valS
  refine valS_none _ _ _ _ fun i s' hi hS => h2 (k + 1 + i) s' (by omega) (by rw [List.getElem?_drop] at hi; exact hi) hS
theorem blkS_here {ts te : T Value} {h he : CH} {L : List St} (hC : CallOk P call) (hT : Tr P call N ops 0 ts h L te he) {k : Nat} {s : St} (hs : L[k]? = some s) (b : Nat) (h1 : ∀ i s', i < k → L[i]? = some s' → S i = false → ¬ On s'.h'.wr b) (h2 : ∀ i s', k < i → L[i]? = some s' → S i = true → ¬ On s'.h'.wr b) :
    blkS S 0 L (h.t.get b) b = if S k = true ∧ s.h'.wr.testBit b = true then s.h'.t.get b else s.h.t.get b := by
  obtain ⟨hk, g1, g2, _⟩ := hT.at hC hs
  obtain ⟨e1, e2⟩ := split_at hs
  rw [e1, blkS_append, e2, Nat.zero_add]
  rw [blkS_all hC b g1 0 fun i s' hi hS => h1 i s' (by have := (List.getElem?_eq_some_iff.1 hi).1; omega) (by rw [List.getElem?_take] at hi; split at hi; exact hi; cases hi) (by rwa [Nat.zero_add] at hS)]
  unfold blkS
  rw [g2]
  refine blkS_none _ _ _ _ fun i s' hi hS => h2 (k + 1 + i) s' (by omega) (by rw [List.getElem?_drop] at hi; exact hi) hS
theorem valS_same (t : Nat) : ∀ (l : List St) (k : Nat) (x : Option Value), (∀ i s, l[i]? = some s → s.o.dst = some t → S (k + i) = S' (k + i)) → valS S k l x t = valS S' k l x t := by
  intro l
  induction l with
  | nil => intro k x _; rfl
  | cons s l ih =>
    intro k x h
    unfold valS
    have e : (if S k = true ∧ s.o.dst = some t then some s.v else x) = (if S' k = true ∧ s.o.dst = some t then some s.v else x) := by
      by_cases hd : s.o.dst = some t
      · have := h 0 s rfl hd
        rw [Nat.add_zero] at this
        rw [this]
      · rw [if_neg fun k => hd k.2, if_neg fun k => hd k.2]
    rw [e]
    exact ih (k + 1) _ fun i s' hs hd => by
      have := h (i + 1) s' (by simpa using hs) hd
      rwa [← Nat.add_assoc, Nat.add_right_comm] at this
theorem blkS_same (b : Nat) : ∀ (l : List St) (k : Nat) (x : Option Blk), (∀ i s, l[i]? = some s → On s.h'.wr b → S (k + i) = S' (k + i)) → blkS S k l x b = blkS S' k l x b := by
  intro l
  induction l with
  | nil => intro k x _; rfl
  | cons s l ih =>
    intro k x h
    unfold blkS
    have e : (if S k = true ∧ s.h'.wr.testBit b = true then s.h'.t.get b else x) = (if S' k = true ∧ s.h'.wr.testBit b = true then s.h'.t.get b else x) := by
      by_cases hd : On s.h'.wr b
      · have := h 0 s rfl hd
        rw [Nat.add_zero] at this
        rw [this]
      · rw [if_neg fun k => hd k.2, if_neg fun k => hd k.2]
    rw [e]
    exact ih (k + 1) _ fun i s' hs hd => by
      have := h (i + 1) s' (by simpa using hs) hd
      rwa [← Nat.add_assoc, Nat.add_right_comm] at this
end
end Go.Proofs.YtjhemobplcelbaaGreatDoor.V
