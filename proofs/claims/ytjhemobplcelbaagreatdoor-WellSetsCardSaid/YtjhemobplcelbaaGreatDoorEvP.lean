/- The machine for closed calls: regions whose order is open, the theorem. Condition: no function of the program bears the name that the model asks for itself. -/
import Derived.Test.YtjhemobplcelbaaGreatDoorEvO
namespace Go.Proofs.YtjhemobplcelbaaGreatDoor.V
open Go.RowKit
set_option linter.unusedVariables false
set_option linter.unusedSimpArgs false
section
variable {ops : Array Oper}
/-- What the text's order says: deps lie ahead; those that don't wait for one another at once are apart. -/
theorem lex_at : ∀ (fuel k : Nat) (listed : Array Bool), k + fuel = ops.size → listed.size = ops.size → (∀ j, j < ops.size → (listed.getD j true = false ↔ k ≤ j)) → Region.lexFrom .any ops fuel k listed = true →
    ∀ i, k ≤ i → i < ops.size → (∀ o, ops[i]? = some o → ∀ e ∈ o.after, Region.binds .any e = true → e.on < i) ∧
      ∀ o, ops[i]? = some o → ∀ j oj, i < j → ops[j]? = some oj → (∀ e ∈ oj.after, Region.binds .any e = true → e.on ≠ i) → o.apart ops oj = true := by
  intro fuel
  induction fuel with
  | zero => intro k listed hk _ _ _ i h1 h2; omega
  | succ fuel ih =>
    intro k listed hk hs hU hl i h1 h2
    unfold Region.lexFrom at hl
    simp only [Bool.and_eq_true] at hl
    obtain ⟨⟨hr, hf⟩, hl⟩ := hl
    by_cases hik : i = k
    · subst hik
      have hr : i ∈ Region.ready .any ops listed := by simpa using hr
      obtain ⟨_, o', ho', hd⟩ := mem_ready.1 hr
      refine ⟨fun o ho e he hb => ?_, fun o ho j oj hj hoj hno => ?_⟩
      · obtain rfl := Option.some.inj (ho.symm.trans ho')
        have h3 := hd e he hb
        rcases Nat.lt_or_ge e.on i with h4 | h4
        · exact h4
        · exfalso
          rcases Nat.lt_or_ge e.on ops.size with h5 | h5
          · have h6 := (hU e.on h5).2 h4
            have h7 : listed.getD e.on false = listed.getD e.on true := by
              simp [Array.getD_eq_getD_getElem?, hs, h5]
            rw [h7, h6] at h3; cases h3
          · have : listed.getD e.on false = false := by simp [Array.getD_eq_getD_getElem?, Array.getElem?_eq_none (by omega : listed.size ≤ e.on)]
            rw [this] at h3; cases h3
      · exact Region.free_spec ho hf j oj hoj (by omega) ((hU j (Array.getElem?_eq_some_iff.1 hoj).1).2 (by omega)) hno
    · refine ih (k + 1) _ (by omega) (by simp [hs]) (fun j hj => ?_) hl i (by omega) h2
      by_cases hjk : k = j
      · subst hjk
        have : (listed.setIfInBounds k true).getD k true = true := by simp [Array.getD_eq_getD_getElem?, Array.getElem?_setIfInBounds, hs, hj]
        rw [this]
        constructor
        · intro h; cases h
        · intro h; omega
      · rw [getD_set_ne true hjk, hU j hj]
        omega
theorem lex_facts (hlex : Region.lexB .any ops = true) : ∀ i, i < ops.size → (∀ o, ops[i]? = some o → ∀ e ∈ o.after, Region.binds .any e = true → e.on < i) ∧
      ∀ o, ops[i]? = some o → ∀ j oj, i < j → ops[j]? = some oj → (∀ e ∈ oj.after, Region.binds .any e = true → e.on ≠ i) → o.apart ops oj = true := by
  unfold Region.lexB at hlex
  rw [Bool.and_eq_true] at hlex
  intro i hi
  refine lex_at ops.size 0 _ (by omega) (by simp) (fun j hj => ?_) hlex.2 i (Nat.zero_le _) hi
  simp [Array.getD_eq_getD_getElem?, hj]
/-- A set that holds whatever its members wait for. -/
def Down (ops : Array Oper) (S : Nat → Bool) : Prop := ∀ j o, S j = true → ops[j]? = some o → ∀ e ∈ o.after, Region.binds .any e = true → S e.on = true
theorem waits_in {S : Nat → Bool} (hS : Down ops S) : ∀ (k j i : Nat), (S j = true ∨ ∀ o, ops[j]? = some o → ∀ e ∈ o.after, Region.binds .any e = true → S e.on = true) → waits ops k j i = true → S i = true := by
  intro k
  induction k with
  | zero => intro j i _ h; cases h
  | succ k ih =>
    intro j i hj h
    unfold waits at h
    rw [Array.getElem?_toList] at h
    cases ho : ops[j]? with
    | none => rw [ho] at h; cases h
    | some o =>
      rw [ho] at h
      simp only [List.any_eq_true, Bool.and_eq_true, Bool.or_eq_true, Array.mem_toList_iff] at h
      obtain ⟨e, he, hb, h⟩ := h
      have hd : S e.on = true := by
        rcases hj with hj | hj
        · exact hS j o hj ho e he hb
        · exact hj o ho e he hb
      rcases h with h | h
      · rw [← beq_t h]; exact hd
      · exact ih e.on i (.inl hd) h
theorem waits_dep {j i : Nat} {o : Oper} (ho : ops[j]? = some o) {e : Edge} (he : e ∈ o.after) (hb : Region.binds .any e = true) (hi : e.on = i) : waits ops ops.size j i = true := by
  have : 0 < ops.size := by have := (Array.getElem?_eq_some_iff.1 ho).1; omega
  obtain ⟨k, hk⟩ : ∃ k, ops.size = k + 1 := ⟨ops.size - 1, by omega⟩
  rw [hk]
  unfold waits
  rw [Array.getElem?_toList, ho]
  simp only [List.any_eq_true, Bool.and_eq_true, Bool.or_eq_true, Array.mem_toList_iff]
  exact ⟨e, he, hb, .inl (by rw [hi]; exact Nat.beq_refl i)⟩
end
section
variable {P : Program} {call : Call'} {N : Nat} {ops : Array Oper}
/-- What holds when the operations of a set have come up. -/
structure Inv (N : Nat) (L : List St) (ts0 : T Value) (h0 he : CH) (D : Nat → Prop) (top : Nat) (m0 : Map) (a0 : Act) (w0 : World) (S : Nat → Bool) (m : Map) (a : Act) (w : World) : Prop where
  size : a.tmps.size = N
  tmp : ∀ t, TR m ((valS S 0 L (ts0.get t) t).getD undef) (a.tmps.getD t undef)
  dfr : a.defers = a0.defers
  le : Map.le m0 m
  fresh : ∀ b p, m b = some p → b < h0.n ∨ top ≤ b ∨ ∃ i s, L[i]? = some s ∧ S i = true ∧ s.h.n ≤ b ∧ b < s.h'.n
  lt : ∀ b p, m b = some p → p.r < w.heap.size
  blk : ∀ b x, D b → blkS S 0 L (h0.t.get b) b = some x → ∃ p cs, m b = some p ∧ w.heap[p.r]? = some (.cells cs x.ty (0, 0)) ∧ cs.size = p.R ∧ p.sz = x.sz ∧ p.s + x.cs.length ≤ p.R ∧ F2 (SR m) x.cs ((cs.toList.drop p.s).take x.cs.length)
  inj : ∀ b1 b2 x1 x2 p1 p2, D b1 → D b2 → blkS S 0 L (h0.t.get b1) b1 = some x1 → blkS S 0 L (h0.t.get b2) b2 = some x2 → m b1 = some p1 → m b2 = some p2 → p1.r = p2.r → b1 = b2
  fr : ∀ W, Fr W m0 w0 → Fr W m w
  sz : w0.heap.size ≤ w.heap.size
  frame : ∀ r, r < w0.heap.size → (∀ b p, On he.wr b → m0 b = some p → p.r ≠ r) → w.heap[r]? = w0.heap[r]?
  newm : ∀ b p, m b = some p → m0 b = some p ∨ (h0.n ≤ b ∧ b < he.n ∧ (w0.heap.size ≤ p.r ∨ ∃ c q, On he.wr c ∧ m0 c = some q ∧ q.r = p.r))
def upd (S : Nat → Bool) (k : Nat) : Nat → Bool := fun i => if i = k then true else S i
theorem unl_lt {S : Nat → Bool} {k n : Nat} (hk : k < n) (hS : S k = false) : (List.range n).countP (fun i => !upd S k i) < (List.range n).countP (fun i => !S i) := by
  have key : ∀ l : List Nat, k ∈ l → l.countP (fun i => !upd S k i) < l.countP (fun i => !S i) := by
    intro l
    have le : ∀ l : List Nat, l.countP (fun i => !upd S k i) ≤ l.countP (fun i => !S i) := by
      intro l
      apply List.countP_mono_left
      intro i _ h
      unfold upd at h
      by_cases hi : i = k
      · subst hi; simp at h
      · rw [if_neg hi] at h; exact h
    induction l with
    | nil => intro h; cases h
    | cons x l ih =>
      intro h
      by_cases hx : x = k
      · subst hx
        rw [List.countP_cons, List.countP_cons]
        have e1 : (!upd S x x) = false := by unfold upd; rw [if_pos rfl]; rfl
        have e2 : (!S x) = true := by rw [hS]; rfl
        rw [e1, e2]
        have := le l
        simp
        omega
      · have h : k ∈ l := by
          rcases List.mem_cons.1 h with h | h
          · exact absurd h.symm hx
          · exact h
        rw [List.countP_cons, List.countP_cons]
        have e1 : upd S k x = S x := by unfold upd; rw [if_neg hx]
        rw [e1]
        have := ih h
        omega
  exact key _ (List.mem_range.2 hk)
theorem inv_step (hN : Named P) (hC : CallOk P call) (hlex : Region.lexB .any ops = true) {L : List St} {ts0 te : T Value} {h0 he : CH} (hTr : Tr P call N ops 0 ts0 h0 L te he) (hlen : L.length = ops.size)
    (hap : ∀ i k s s', i < k → L[i]? = some s → L[k]? = some s' → ApartP ops k s'.h'.rd s'.h'.wr i s.h'.rd s.h'.wr) {D : Nat → Prop} {top : Nat} (hT : Sub he.rd D) (htop : he.n ≤ top) {m0 : Map} {a0 : Act} {w0 : World} (hr0 : HR D top m0 h0 w0)
    {S : Nat → Bool} (hS : Down ops S) {m : Map} {a : Act} {w : World} (I : Inv N L ts0 h0 he D top m0 a0 w0 S m a w) {k : Nat} (hk : S k = false) {s : St} (hs : L[k]? = some s) (hdep : ∀ o, ops[k]? = some o → ∀ e ∈ o.after, Region.binds .any e = true → S e.on = true)
    {K : Act → World → Prop} {Q : Exit → Act → World → Prop} (hK : ∀ m' a' w', Inv N L ts0 h0 he D top m0 a0 w0 (upd S k) m' a' w' → K a' w') : wpOp P ops Q k K a w := by
  obtain ⟨hk1, g1, g2, g3, g4, g5, g6⟩ := hTr.at hC hs
  rw [Nat.zero_add] at g3
  obtain ⟨q1, q2, q3, q4, q5, q6, q7, q8⟩ := hTr.masks hC hs
  -- who has nothing to do with k
  have nw1 : ∀ i : Nat, i < k → S i = false → waits ops ops.size k i = false := fun i _ hi => by
    cases hw : waits ops ops.size k i with
    | false => rfl
    | true => have := waits_in hS _ k i (.inr hdep) hw; rw [hi] at this; cases this
  have nw2 : ∀ i : Nat, k < i → S i = true → waits ops ops.size i k = false := fun i _ hi => by
    cases hw : waits ops ops.size i k with
    | false => rfl
    | true => have := waits_in hS _ i k (.inl hi) hw; rw [hk] at this; cases this
  have mem1 : ∀ (i : Nat) (s' : St), i < k → L[i]? = some s' → S i = false → (∀ b, On s'.h'.wr b → ¬ On s.h'.rd b ∧ ¬ On s.h'.wr b) ∧ ∀ b, On s'.h'.rd b → ¬ On s.h'.wr b := fun i s' hik hi hSi => by
    rcases hap i k s' s hik hi hs with h | h
    · exact h
    · rw [nw1 i hik hSi] at h; cases h
  have mem2 : ∀ (i : Nat) (s' : St), k < i → L[i]? = some s' → S i = true → (∀ b, On s.h'.wr b → ¬ On s'.h'.rd b ∧ ¬ On s'.h'.wr b) ∧ ∀ b, On s.h'.rd b → ¬ On s'.h'.wr b := fun i s' hik hi hSi => by
    rcases hap k i s s' hik hs hi with h | h
    · exact h
    · rw [nw2 i hik hSi] at h; cases h
  have opAt : ∀ (i : Nat) (s' : St), L[i]? = some s' → ops[i]? = some s'.o := fun i s' hi => by
    obtain ⟨_, _, _, e, _⟩ := hTr.at hC hi
    rwa [Nat.zero_add] at e
  have tmp1 : ∀ (i : Nat) (s' : St), i < k → L[i]? = some s' → S i = false → s'.o.apart ops s.o = true := fun i s' hik hi hSi => by
    refine (lex_facts hlex i (Array.getElem?_eq_some_iff.1 (opAt i s' hi)).1).2 s'.o (opAt i s' hi) k s.o hik g3 fun e he hb hei => ?_
    have := waits_dep g3 he hb hei
    rw [nw1 i hik hSi] at this; cases this
  have tmp2 : ∀ (i : Nat) (s' : St), k < i → L[i]? = some s' → S i = true → s.o.apart ops s'.o = true := fun i s' hik hi hSi => by
    refine (lex_facts hlex k (Array.getElem?_eq_some_iff.1 g3).1).2 s.o g3 i s'.o hik (opAt i s' hi) fun e he hb hei => ?_
    have := waits_dep (opAt i s' hi) he hb hei
    rw [nw2 i hik hSi] at this; cases this
  -- what k looks at is as it was in the text's order
  have look : ∀ t, t ∈ s.o.looksAt ops → TR m ((s.ts.get t).getD undef) (a.tmps.getD t undef) := fun t ht => by
    have := valS_here (S := S) hC hTr hs t (fun i s' hik hi hSi hd => (Oper.apart_spec (tmp1 i s' hik hi hSi)).1 t hd ht) (fun i s' hik hi hSi hd => (Oper.apart_spec (tmp2 i s' hik hi hSi)).2.2 t hd ht)
    rw [if_neg (by rw [hk]; simp)] at this
    rw [← this]
    exact I.tmp t
  have blkAt : ∀ b, On s.h'.rd b → blkS S 0 L (h0.t.get b) b = s.h.t.get b := fun b hb => by
    have := blkS_here (S := S) hC hTr hs b (fun i s' hik hi hSi hw => ((mem1 i s' hik hi hSi).1 b hw).1 hb) (fun i s' hik hi hSi => (mem2 i s' hik hi hSi).2 b hb)
    rwa [if_neg (by rw [hk]; simp)] at this
  have tight : ∀ b, s.h.n ≤ b → s.h.t.get b = none := fun b hb => by
    cases hx : s.h.t.get b with
    | none => rfl
    | some x =>
      rw [g2] at hx hb
      obtain ⟨y, hy⟩ := (g1.can hC).now b x hb hx
      rw [hr0.tight b (Nat.le_trans (g1.can hC).n hb)] at hy
      cases hy
  -- the memory that k sees
  have hrk : HR (fun b => On s.h'.rd b ∨ (s.h.n ≤ b ∧ b < s.h'.n)) s.h'.n m s.h w := by
    refine ⟨fun b p e => ?_, I.lt, fun b x d e => ?_, fun b1 b2 x1 x2 p1 p2 d1 d2 e1 e2 => ?_, fun b h1 h2 => .inr ⟨h1, h2⟩, tight⟩
    · rcases I.fresh b p e with h1 | h1 | ⟨i, s', hi, hSi, h1, h2⟩
      · exact .inl (by omega)
      · exact .inr (by omega)
      · rcases Nat.lt_trichotomy i k with h3 | h3 | h3
        · have := hTr.order hC h3 hi hs; exact .inl (by omega)
        · subst h3; rw [hk] at hSi; cases hSi
        · have := hTr.order hC h3 hs hi; exact .inr (by omega)
    · rcases d with d | d
      · exact I.blk b x (hT b (q1 b d)) ((blkAt b d).trans e)
      · rw [tight b d.1] at e; cases e
    · rcases d1 with d1 | d1
      · rcases d2 with d2 | d2
        · exact I.inj b1 b2 x1 x2 p1 p2 (hT _ (q1 _ d1)) (hT _ (q1 _ d2)) ((blkAt b1 d1).trans e1) ((blkAt b2 d2).trans e2)
        · rw [tight b2 d2.1] at e2; cases e2
      · rw [tight b1 d1.1] at e1; cases e1
  refine step_ok hN hC g3 g4 (fun b hb => .inl hb) (Nat.le_refl _) hrk (fun x hx => opv_of fun t ht => look t ?_) (fun b hb => wanted_of (fun j w d hg hd => look d ?_) hb) fun m' v' w' hv p => hK m' _ w' ?_
  · subst ht
    exact List.mem_append.2 (.inl (List.mem_filterMap.2 ⟨.tmp t, Array.mem_toList_iff.2 hx, rfl⟩))
  · refine List.mem_append.2 (.inr ?_)
    rw [hg]
    simp only [hd, Option.toList_some, List.mem_singleton]
  -- and what holds behind it
  have vs' : ∀ t, valS (upd S k) 0 L (ts0.get t) t = if s.o.dst = some t then some s.v else valS S 0 L (ts0.get t) t := fun t => by
    by_cases hd : s.o.dst = some t
    · have := valS_here (S := upd S k) hC hTr hs t (fun i s' hik hi hSi hd' => ?_) (fun i s' hik hi hSi hd' => ?_)
      · rw [this, if_pos ⟨by unfold upd; rw [if_pos rfl], hd⟩, if_pos hd]
      · unfold upd at hSi; rw [if_neg (by omega)] at hSi
        exact (Oper.apart_spec (tmp1 i s' hik hi hSi)).2.1 t hd' hd
      · unfold upd at hSi; rw [if_neg (by omega)] at hSi
        exact (Oper.apart_spec (tmp2 i s' hik hi hSi)).2.1 t hd hd'
    · rw [if_neg hd]
      refine valS_same t L 0 _ fun i s' hi hd' => ?_
      unfold upd
      rw [Nat.zero_add]
      by_cases hik : i = k
      · subst hik; obtain rfl := Option.some.inj (hi.symm.trans hs); exact absurd hd' hd
      · rw [if_neg hik]
  have bs' : ∀ b, blkS (upd S k) 0 L (h0.t.get b) b = if s.h'.wr.testBit b = true then s.h'.t.get b else blkS S 0 L (h0.t.get b) b := fun b => by
    by_cases hd : s.h'.wr.testBit b = true
    · have := blkS_here (S := upd S k) hC hTr hs b (fun i s' hik hi hSi hd' => ?_) (fun i s' hik hi hSi hd' => ?_)
      · rw [this, if_pos ⟨by unfold upd; rw [if_pos rfl], hd⟩, if_pos hd]
      · unfold upd at hSi; rw [if_neg (by omega)] at hSi
        exact ((mem1 i s' hik hi hSi).1 b hd').2 hd
      · unfold upd at hSi; rw [if_neg (by omega)] at hSi
        exact ((mem2 i s' hik hi hSi).1 b hd).2 hd'
    · rw [if_neg hd]
      refine blkS_same b L 0 _ fun i s' hi hd' => ?_
      unfold upd
      rw [Nat.zero_add]
      by_cases hik : i = k
      · subst hik; obtain rfl := Option.some.inj (hi.symm.trans hs); exact absurd hd' hd
      · rw [if_neg hik]
  -- what k writes it looked at, or it is new
  have wrD : ∀ b, On s.h'.wr b → (On s.h'.rd b ∧ ∃ x, s.h.t.get b = some x) ∨ (s.h.n ≤ b ∧ b < s.h'.n) := fun b hb => by
    rcases q8.was b hb with h | h | h
    · rw [q7] at h; exact absurd h on_zero
    · exact .inr h
    · exact .inl h
  have oldD : ∀ b p, On s.h'.wr b → m b = some p → On s.h'.rd b ∧ ∃ x, s.h.t.get b = some x := fun b p hb e => by
    rcases wrD b hb with h | h
    · exact h
    · rcases hrk.fresh b p e with h1 | h1 <;> omega
  have newD : ∀ b, s.h.n ≤ b → b < s.h'.n → D b := fun b h1 h2 => hr0.new b (by omega) (by omega)
  refine ⟨by rw [size_put]; exact I.size, fun t => ?_, (defers_put _ _ _).trans I.dfr, I.le.trans p.le, fun b l e => ?_, p.hr.lt, fun b x d e => ?_, fun b1 b2 x1 x2 p1 p2 d1 d2 e1 e2 f1 f2 hh => ?_, fun W hf => p.fr W (I.fr W hf), Nat.le_trans I.sz p.sz, fun r hr hb => ?_, fun b l e => ?_⟩
  · rw [vs' t, getD_put a s.o.dst v' t (fun d hd => by rw [I.size]; exact putC_lt (hd ▸ g5))]
    by_cases hd : s.o.dst = some t
    · rw [if_pos hd, if_pos hd]; exact hv
    · rw [if_neg hd, if_neg hd]; exact (I.tmp t).mono p.le
  · rcases p.newm b l e with e | ⟨h1, h2, _⟩
    · rcases I.fresh b l e with h1 | h1 | ⟨i, s', hi, hSi, h1, h2⟩
      · exact .inl h1
      · exact .inr (.inl h1)
      · exact .inr (.inr ⟨i, s', hi, by unfold upd; split; rfl; exact hSi, h1, h2⟩)
    · exact .inr (.inr ⟨k, s, hs, by unfold upd; rw [if_pos rfl], h1, h2⟩)
  · rw [bs' b] at e
    by_cases hd : s.h'.wr.testBit b = true
    · rw [if_pos hd] at e
      refine p.hr.blk b x ?_ e
      rcases wrD b hd with h | h
      · exact .inl h.1
      · exact .inr h
    · rw [if_neg hd] at e
      obtain ⟨l, cs, c1, c2, c3, c4, c5, c6⟩ := I.blk b x d e
      refine ⟨l, cs, p.le _ _ c1, (p.frame l.r (I.lt b l c1) fun c q hc hq hh => ?_).trans c2, c3, c4, c5, c6.imp fun _ _ h => h.mono p.le⟩
      obtain ⟨o1, y, o2⟩ := oldD c q hc hq
      have := I.inj c b y x q l (hT _ (q1 _ o1)) d ((blkAt c o1).trans o2) e hq c1 hh
      subst this
      exact hd hc
  · rw [bs' b1] at e1
    rw [bs' b2] at e2
    -- a block that k wrote, and one that it did not
    have mix : ∀ (b1 b2 : Nat) (x2 : Blk) (p1 p2 : Loc), D b2 → On s.h'.wr b1 → ¬ On s.h'.wr b2 → blkS S 0 L (h0.t.get b2) b2 = some x2 → m' b1 = some p1 → m' b2 = some p2 → p1.r = p2.r → b1 = b2 := by
      intro b1 b2 x2 p1 p2 d2 w1 w2 e2 f1 f2 hh
      obtain ⟨l, cs, c1, _⟩ := I.blk b2 x2 d2 e2
      obtain rfl := Option.some.inj ((p.le _ _ c1).symm.trans f2)
      rcases p.newm b1 p1 f1 with f1 | ⟨_, _, f1 | ⟨c, q, hc, hq, hqr⟩⟩
      · obtain ⟨o1, y, o2⟩ := oldD b1 p1 w1 f1
        exact I.inj b1 b2 y x2 p1 l (hT _ (q1 _ o1)) d2 ((blkAt b1 o1).trans o2) e2 f1 c1 hh
      · have := I.lt b2 l c1; omega
      · obtain ⟨o1, y, o2⟩ := oldD c q hc hq
        have := I.inj c b2 y x2 q l (hT _ (q1 _ o1)) d2 ((blkAt c o1).trans o2) e2 hq c1 (hqr.trans hh)
        subst this
        exact absurd hc w2
    by_cases hd1 : s.h'.wr.testBit b1 = true
    · by_cases hd2 : s.h'.wr.testBit b2 = true
      · rw [if_pos hd1] at e1
        rw [if_pos hd2] at e2
        refine p.hr.inj b1 b2 x1 x2 p1 p2 ?_ ?_ e1 e2 f1 f2 hh
        · rcases wrD b1 hd1 with h | h
          · exact .inl h.1
          · exact .inr h
        · rcases wrD b2 hd2 with h | h
          · exact .inl h.1
          · exact .inr h
      · rw [if_neg hd2] at e2
        exact mix b1 b2 x2 p1 p2 d2 hd1 hd2 e2 f1 f2 hh
    · rw [if_neg hd1] at e1
      by_cases hd2 : s.h'.wr.testBit b2 = true
      · exact (mix b2 b1 x1 p2 p1 d1 hd2 hd1 e1 f2 f1 hh.symm).symm
      · rw [if_neg hd2] at e2
        obtain ⟨l1, _, c1, _⟩ := I.blk b1 x1 d1 e1
        obtain ⟨l2, _, c2, _⟩ := I.blk b2 x2 d2 e2
        obtain rfl := Option.some.inj ((p.le _ _ c1).symm.trans f1)
        obtain rfl := Option.some.inj ((p.le _ _ c2).symm.trans f2)
        exact I.inj b1 b2 x1 x2 l1 l2 d1 d2 e1 e2 c1 c2 hh
  · refine (p.frame r (Nat.lt_of_lt_of_le hr I.sz) fun c q hc hq hh => ?_).trans (I.frame r hr hb)
    rcases I.newm c q hq with e | ⟨_, _, e | ⟨c', q', hc', e, e2⟩⟩
    · exact hb c q (q2 c hc) e hh
    · omega
    · exact hb c' q' hc' e (e2.trans hh)
  · rcases p.newm b l e with e | ⟨h1, h2, e⟩
    · exact I.newm b l e
    · refine .inr ⟨by omega, by omega, ?_⟩
      rcases e with e | ⟨c, q, hc, hq, hqr⟩
      · exact .inl (Nat.le_trans I.sz e)
      · rcases I.newm c q hq with e | ⟨_, _, e | ⟨c', q', hc', e, e2⟩⟩
        · exact .inr ⟨c, q, q2 c hc, e, hqr⟩
        · exact .inl (by rw [← hqr]; exact e)
        · exact .inr ⟨c', q', hc', e, e2.trans hqr⟩
theorem setS {listed : Array Bool} {k : Nat} (hk : k < listed.size) : (fun i => (listed.setIfInBounds k true).getD i false) = upd (fun i => listed.getD i false) k := by
  funext i
  unfold upd
  by_cases hi : i = k
  · subst hi
    rw [if_pos rfl]
    simp [Array.getD_eq_getD_getElem?, Array.getElem?_setIfInBounds, hk]
  · rw [if_neg hi]
    simp [Array.getD_eq_getD_getElem?, Array.getElem?_setIfInBounds, Ne.symm hi]
/-- A region whose order is open: any order. -/
theorem drawn_ok (hN : Named P) (hC : CallOk P call) (hlex : Region.lexB .any ops = true) {L : List St} {ts0 te : T Value} {h0 he : CH} (hTr : Tr P call N ops 0 ts0 h0 L te he) (hlen : L.length = ops.size)
    (hap : ∀ i k s s', i < k → L[i]? = some s → L[k]? = some s' → ApartP ops k s'.h'.rd s'.h'.wr i s.h'.rd s.h'.wr) {D : Nat → Prop} {top : Nat} (hT : Sub he.rd D) (htop : he.n ≤ top) {m0 : Map} {a0 : Act} {w0 : World} (hr0 : HR D top m0 h0 w0) (ht0 : TsR m0 N ts0 a0.tmps) {Q : Exit → Act → World → Prop}
    (hQ : ∀ m' a' w', Post D top m0 h0 w0 m' he w' → TsR m' N te a'.tmps → a'.defers = a0.defers → Q .normal a' w') : wpAny P .any ops Q ops.size (Array.replicate ops.size false) a0 w0 := by
  have main : ∀ (fuel : Nat) (listed : Array Bool) (m : Map) (a : Act) (w : World), listed.size = ops.size → (List.range ops.size).countP (fun i => !listed.getD i false) ≤ fuel → Down ops (fun i => listed.getD i false) → Inv N L ts0 h0 he D top m0 a0 w0 (fun i => listed.getD i false) m a w → wpAny P .any ops Q fuel listed a w := by
    intro fuel
    have fin : ∀ (listed : Array Bool) (m : Map) (a : Act) (w : World), (∀ i, i < ops.size → listed.getD i false = true) → Inv N L ts0 h0 he D top m0 a0 w0 (fun i => listed.getD i false) m a w → Q .normal a w := by
      intro listed m a w hall I
      have hLS : ∀ (i : Nat) (s : St), L[i]? = some s → listed.getD (0 + i) false = true := fun i s hi => by
        rw [Nat.zero_add]
        exact hall i (by rw [← hlen]; exact (List.getElem?_eq_some_iff.1 hi).1)
      have hv : ∀ t, valS (fun i => listed.getD i false) 0 L (ts0.get t) t = te.get t := fun t => valS_all t hTr 0 fun i s hi hS => by
        have hS : listed.getD (0 + i) false = false := hS
        rw [hLS i s hi] at hS; cases hS
      have hb : ∀ b, blkS (fun i => listed.getD i false) 0 L (h0.t.get b) b = he.t.get b := fun b => blkS_all hC b hTr 0 fun i s hi hS => by
        have hS : listed.getD (0 + i) false = false := hS
        rw [hLS i s hi] at hS; cases hS
      have hcan := hTr.can hC
      refine hQ m a w ⟨I.le, ⟨fun b p e => ?_, I.lt, fun b x d e => I.blk b x d ((hb b).trans e), fun (b1 b2 : Nat) (x1 x2 : Blk) (p1 p2 : Loc) d1 d2 e1 e2 => I.inj b1 b2 x1 x2 p1 p2 d1 d2 ((hb b1).trans e1) ((hb b2).trans e2), fun b h1 h2 => hr0.new b (Nat.le_trans hcan.n h1) h2, fun b hb2 => ?_⟩, I.fr, I.sz, I.frame, I.newm⟩ ⟨I.size, fun t => by rw [← hv t]; exact I.tmp t⟩ I.dfr
      · rcases I.fresh b p e with h1 | h1 | ⟨i, s, hi, _, _, h2⟩
        · have := hcan.n; exact .inl (by omega)
        · exact .inr h1
        · have := (hTr.masks hC hi).2.2.2.2.1; exact .inl (by omega)
      · cases hx : he.t.get b with
        | none => rfl
        | some x =>
          obtain ⟨y, hy⟩ := hcan.now b x hb2 hx
          rw [hr0.tight b (Nat.le_trans hcan.n hb2)] at hy
          cases hy
    have allL : ∀ listed : Array Bool, (List.range ops.size).countP (fun i => !listed.getD i false) = 0 → ∀ i, i < ops.size → listed.getD i false = true := by
      intro listed h i hi
      have := List.countP_eq_zero.1 h i (List.mem_range.2 hi)
      simpa using this
    have gdt : ∀ (listed : Array Bool) (i : Nat), listed.size = ops.size → i < ops.size → listed.getD i true = listed.getD i false := by
      intro listed i hs hi
      simp [Array.getD_eq_getD_getElem?, hs, hi]
    induction fuel with
    | zero =>
      intro listed m a w hs hc hd I
      have hall := allL listed (by omega)
      refine ⟨?_, fin listed m a w hall I⟩
      apply List.eq_nil_iff_forall_not_mem.2
      intro j hj
      obtain ⟨h1, o, ho, _⟩ := mem_ready.1 hj
      have hjn := (Array.getElem?_eq_some_iff.1 ho).1
      rw [gdt listed j hs hjn, hall j hjn] at h1
      cases h1
    | succ fuel ih =>
      intro listed m a w hs hc hd I
      refine ⟨fun hnil => ?_, fun k hk => ?_⟩
      · -- nobody can come up: all have
        refine fin listed m a w ?_ I
        apply Classical.byContradiction
        intro hne
        have hex : ∃ i, i < ops.size ∧ listed.getD i false = false := by
          apply Classical.byContradiction
          intro hno
          exact hne fun i hi => by
            cases hb : listed.getD i false with
            | true => rfl
            | false => exact absurd ⟨i, hi, hb⟩ hno
        have hmin : ∃ i, (i < ops.size ∧ listed.getD i false = false) ∧ ∀ j, j < i → ¬ (j < ops.size ∧ listed.getD j false = false) := by
          obtain ⟨i, hi⟩ := hex
          induction i using Nat.strongRecOn with
          | ind i ih =>
            by_cases hj : ∃ j, j < i ∧ (j < ops.size ∧ listed.getD j false = false)
            · obtain ⟨j, h1, h2⟩ := hj
              exact ih j h1 h2
            · exact ⟨i, hi, fun j h1 h2 => hj ⟨j, h1, h2⟩⟩
        obtain ⟨i, ⟨hi, hl⟩, hmin⟩ := hmin
        have : i ∈ Region.ready .any ops listed := by
          refine mem_ready.2 ⟨by rw [gdt listed i hs hi]; exact hl, _, Array.getElem?_eq_getElem hi, fun e he hb => ?_⟩
          have hlt := (lex_facts hlex i hi).1 _ (Array.getElem?_eq_getElem hi) e he hb
          cases hq : listed.getD e.on false with
          | true => rfl
          | false => exact absurd ⟨by omega, hq⟩ (hmin e.on hlt)
        rw [hnil] at this
        cases this
      · obtain ⟨h1, o, ho, hdep⟩ := mem_ready.1 hk
        have hkn := (Array.getElem?_eq_some_iff.1 ho).1
        rw [gdt listed k hs hkn] at h1
        obtain ⟨s, hsL⟩ : ∃ s, L[k]? = some s := ⟨_, List.getElem?_eq_getElem (by rw [hlen]; exact hkn)⟩
        refine inv_step hN hC hlex hTr hlen hap hT htop hr0 hd I h1 hsL (fun o' ho' e he hb => by obtain rfl := Option.some.inj (ho.symm.trans ho'); exact hdep e he hb) fun m' a' w' I' => ?_
        have hset := setS (listed := listed) (k := k) (by rw [hs]; exact hkn)
        refine ih (listed.setIfInBounds k true) m' a' w' (by simp [hs]) ?_ ?_ (by rw [hset]; exact I')
        · have hlt := unl_lt (S := fun i => listed.getD i false) hkn h1
          have e1 : (fun i => !(listed.setIfInBounds k true).getD i false) = fun i => !upd (fun i => listed.getD i false) k i := by
            funext i
            rw [← hset]
          rw [e1]
          omega
        · rw [hset]
          intro j o' hj ho' e he hb
          unfold upd at hj ⊢
          by_cases hek : e.on = k
          · rw [if_pos hek]
          · rw [if_neg hek]
            by_cases hjk : j = k
            · subst hjk
              obtain rfl := Option.some.inj (ho.symm.trans ho')
              exact hdep e he hb
            · rw [if_neg hjk] at hj
              exact hd j o' hj ho' e he hb
  have hf : ∀ i, (Array.replicate ops.size false).getD i false = false := fun i => by
    rw [Array.getD_eq_getD_getElem?, Array.getElem?_replicate]
    split <;> rfl
  have hS0 : (fun i => (Array.replicate ops.size false).getD i false) = fun _ => false := funext hf
  refine main ops.size _ m0 a0 w0 (by simp) ?_ (fun j o hj => ?_) ?_
  · have := List.countP_le_length (p := fun i => !(Array.replicate ops.size false).getD i false) (l := List.range ops.size)
    rw [List.length_range] at this
    exact this
  · have hj : (Array.replicate ops.size false).getD j false = true := hj
    rw [hf j] at hj; cases hj
  · rw [hS0]
    have hv : ∀ t, valS (fun _ => false) 0 L (ts0.get t) t = ts0.get t := fun t => valS_none L 0 _ t fun i s hi h => by cases h
    have hb : ∀ b, blkS (fun _ => false) 0 L (h0.t.get b) b = h0.t.get b := fun b => blkS_none L 0 _ b fun i s hi h => by cases h
    exact ⟨ht0.size, fun t => by rw [hv t]; exact ht0.at_ t, rfl, Map.le.refl m0, fun b p e => (hr0.fresh b p e).imp id .inl, hr0.lt, fun b x d e => hr0.blk b x d ((hb b).symm.trans e), fun (b1 b2 : Nat) (x1 x2 : Blk) (p1 p2 : Loc) d1 d2 e1 e2 => hr0.inj b1 b2 x1 x2 p1 p2 d1 d2 ((hb b1).symm.trans e1) ((hb b2).symm.trans e2), fun W hf => hf, Nat.le_refl _, fun _ _ _ => rfl, fun b p e => .inl e⟩
end
end Go.Proofs.YtjhemobplcelbaaGreatDoor.V
