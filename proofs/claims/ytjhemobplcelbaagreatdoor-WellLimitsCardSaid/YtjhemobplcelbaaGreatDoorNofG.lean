/- wof: three rows that grow in a drawn region: the state between, the literals. -/
import Derived.Test.YtjhemobplcelbaaGreatDoorNofE
import Derived.Test.YtjhemobplcelbaaGreatDoorNofF
namespace Go.Proofs.YtjhemobplcelbaaGreatDoor.O
open Go.RowKit Go.Proofs.YtjhemobplcelbaaGreatDoorW.PrintWords Go.Proofs.YtjhemobplcelbaaGreatDoorW.PrintLast Go.Proofs.YtjhemobplcelbaaGreatDoorW.PrintMore
set_option linter.unusedVariables false
set_option linter.unusedSimpArgs false
/-- A literal of one cell, no row's block. -/
structure Lit (w : World) (p : Nat) (u v4 v5 v6 : Value) : Prop where
  c : w.cell? ⟨p, 0, none⟩ = some u
  lt : p < w.heap.size
  n4 : some p ≠ v4.ownBlock
  n5 : some p ≠ v5.ownBlock
  n6 : some p ≠ v6.ownBlock
/-- The three rows, the Spec's box as it was, the token's box. -/
structure Q3 (B T : Nat) (w6 : World) (cs tk : Array Value) (w : World) (v4 v5 v6 : Value) (a : List ByteArray) (b c : List Int) : Prop where
  r3 : R3 w6.heap.size B w v4 v5 v6 a b c
  bx : Bx w B cs 32
  tx : Bx w T tk 71
  bw : Below w6.heap.size w6 w
  t4 : some T ≠ v4.ownBlock
  t5 : some T ≠ v5.ownBlock
  t6 : some T ≠ v6.ownBlock
section
variable {B T p q : Nat} {w6 w W w' : World} {cs tk : Array Value} {u v4 v5 v6 v' : Value} {a : List ByteArray} {b c : List Int}
theorem cell_eq {x : Nat} (h : w'.heap[x]? = w.heap[x]?) : w'.cell? ⟨x, 0, none⟩ = w.cell? ⟨x, 0, none⟩ := by simp only [World.cell?, h]
theorem Lit.onto (h : Lit w p u v4 v5 v6) (o : Obj) : Lit (w.alloc o) p u v4 v5 v6 := ⟨(cell_eq (Below.heap_alloc w o p h.lt)).trans h.c, by rw [World.size_alloc]; have := h.lt; omega, h.n4, h.n5, h.n6⟩
theorem Lit.new (h : R3 w6.heap.size B w v4 v5 v6 a b c) (u : Value) (e : TypeId) : Lit (w.alloc (.cells #[u] e)) w.heap.size u v4 v5 v6 :=
  ⟨by have h2 := heap_alloc_new w (.cells #[u] e); simp only [World.cell?, h2]; rfl, by rw [World.size_alloc]; omega, fun he => by have := Kd.R_lt h.r4 _ he.symm; omega, fun he => by have := Kd.R_lt h.r5 _ he.symm; omega, fun he => by have := Kd.R_lt h.r6 _ he.symm; omega⟩
theorem Q3.onto (h : Q3 B T w6 cs tk w v4 v5 v6 a b c) (o : Obj) : Q3 B T w6 cs tk (w.alloc o) v4 v5 v6 a b c := ⟨h.r3.below (below_alloc (Below.refl _ _) o), h.bx.onto o, h.tx.onto o, below_alloc h.bw o, h.t4, h.t5, h.t6⟩
theorem Q3.drew (h : Q3 B T w6 cs tk w v4 v5 v6 a b c) : Q3 B T w6 cs tk w.drew v4 v5 v6 a b c := ⟨h.r3.below (below_drew1 (Below.refl _ _)), h.bx.drew, h.tx.drew, below_drew1 h.bw, h.t4, h.t5, h.t6⟩
theorem ne_own {v : Value} (hp : p < W.heap.size) (hn : some p ≠ v.ownBlock) (hat : v'.ownBlock = v.ownBlock ∨ ∃ x, v'.ownBlock = some x ∧ W.heap.size ≤ x) : some p ≠ v'.ownBlock := by
  rcases hat with h | ⟨x, h, hx⟩
  · rw [h]; exact hn
  · rw [h]; intro he; injection he with he; omega
theorem Lit.grown4 (h : Lit W p u v4 v5 v6) (hg : W.grownBy w' v4.ownBlock) (hat : v'.ownBlock = v4.ownBlock ∨ ∃ x, v'.ownBlock = some x ∧ W.heap.size ≤ x) : Lit w' p u v' v5 v6 := ⟨(cell_eq (hg.block p h.lt h.n4)).trans h.c, Nat.lt_of_lt_of_le h.lt hg.size, ne_own h.lt h.n4 hat, h.n5, h.n6⟩
theorem Lit.grown5 (h : Lit W p u v4 v5 v6) (hg : W.grownBy w' v5.ownBlock) (hat : v'.ownBlock = v5.ownBlock ∨ ∃ x, v'.ownBlock = some x ∧ W.heap.size ≤ x) : Lit w' p u v4 v' v6 := ⟨(cell_eq (hg.block p h.lt h.n5)).trans h.c, Nat.lt_of_lt_of_le h.lt hg.size, h.n4, ne_own h.lt h.n5 hat, h.n6⟩
theorem Lit.grown6 (h : Lit W p u v4 v5 v6) (hg : W.grownBy w' v6.ownBlock) (hat : v'.ownBlock = v6.ownBlock ∨ ∃ x, v'.ownBlock = some x ∧ W.heap.size ≤ x) : Lit w' p u v4 v5 v' := ⟨(cell_eq (hg.block p h.lt h.n6)).trans h.c, Nat.lt_of_lt_of_le h.lt hg.size, h.n4, h.n5, ne_own h.lt h.n6 hat⟩
end
section
variable {ops : Array Oper} {o : Oper} {a : Act} {Q : Exit → Act → World → Prop} {Kc : Act → World → Prop} {B T p : Nat} {w6 W : World} {cs tk : Array Value} {v4 v5 v6 : Value} {la : List ByteArray} {lb lc : List Int} {s0 : ByteArray} {x0 : Int} {A9 : Option Addr} {c9 : Nat}
theorem app4 (hw : Region.wanted o (yielded ops a.tmps) = true) (s x : Operand) (ho : o.op = .call { callee := .builtin .append, args := #[s, x], argTypes := #[28, 28] })
    (hs : a.eval s = .slice A9 la.length c9) (hx : a.eval x = .slice (some ⟨p, 0, none⟩) 1 1) (h : Q3 B T w6 cs tk W (.slice A9 la.length c9) v5 v6 la lb lc) (hl : Lit W p (.string s0) (.slice A9 la.length c9) v5 v6) (hll : la.length ≤ 100000)
    (k : ∀ A c w9, Q3 B T w6 cs tk w9 (.slice A (la ++ [s0]).length c) v5 v6 (la ++ [s0]) lb lc → (∀ q u, Lit W q u (.slice A9 la.length c9) v5 v6 → Lit w9 q u (.slice A (la ++ [s0]).length c) v5 v6) → Kc (a.put o.dst (.slice A (la ++ [s0]).length c)) w9) :
    if Region.wanted o (yielded ops a.tmps) = true then Oper.wp Tryz.prog o a W Kc Q else Kc (a.put o.dst undef) W := by
  refine Kd.R_append_rows_step Kd.string (w0 := w6) w6.heap.size hw s x 28 9 (.string ⟨#[]⟩) 16 ho Tryz.underlying28 infoS rfl (by decide) (by omega) (.slice A9 la.length c9) la [s0] (some ⟨p, 0, none⟩) 1 1 (fun y => y ≠ B ∧ some y ≠ v5.ownBlock ∧ some y ≠ v6.ownBlock) (fun _ => False) hs hx h.r3.r4 (one_str hl.c) (fun _ _ h => h) (fun _ h => h.elim) (h.r3.fresh4 h.bx.lt (Nat.le_refl _)) h.bw h.bw.size (by omega) ?_
  intro v1 w9 hr hb9 hg hat
  obtain ⟨A, c, e⟩ := Kd.R_slice hr
  subst e
  exact k A c w9 ⟨R3.put4 h.r3 hr hg hat, h.bx.grown hg h.r3.b4, h.tx.grown hg h.t4, hb9, ne_own h.tx.lt h.t4 hat, h.t5, h.t6⟩ (fun q u hq => hq.grown4 hg hat)
theorem app5 (hw : Region.wanted o (yielded ops a.tmps) = true) (s x : Operand) (ho : o.op = .call { callee := .builtin .append, args := #[s, x], argTypes := #[29, 29] })
    (hs : a.eval s = .slice A9 lb.length c9) (hx : a.eval x = .slice (some ⟨p, 0, none⟩) 1 1) (h : Q3 B T w6 cs tk W v4 (.slice A9 lb.length c9) v6 la lb lc) (hl : Lit W p (.int .i64 x0) v4 (.slice A9 lb.length c9) v6) (hll : lb.length ≤ 100000)
    (k : ∀ A c w9, Q3 B T w6 cs tk w9 v4 (.slice A (lb ++ [x0]).length c) v6 la (lb ++ [x0]) lc → (∀ q u, Lit W q u v4 (.slice A9 lb.length c9) v6 → Lit w9 q u v4 (.slice A (lb ++ [x0]).length c) v6) → Kc (a.put o.dst (.slice A (lb ++ [x0]).length c)) w9) :
    if Region.wanted o (yielded ops a.tmps) = true then Oper.wp Tryz.prog o a W Kc Q else Kc (a.put o.dst undef) W := by
  refine Kd.R_append_rows_step (Kd.int .i64) (w0 := w6) w6.heap.size hw s x 29 3 (.int .i64 0) 8 ho Tryz.underlying29 infoI rfl (by decide) (by omega) (.slice A9 lb.length c9) lb [x0] (some ⟨p, 0, none⟩) 1 1 (fun y => y ≠ B ∧ some y ≠ v4.ownBlock ∧ some y ≠ v6.ownBlock) (fun _ => False) hs hx h.r3.r5 (one_int hl.c) (fun _ _ h => h) (fun _ h => h.elim) (h.r3.fresh5 h.bx.lt (Nat.le_refl _)) h.bw h.bw.size (by omega) ?_
  intro v1 w9 hr hb9 hg hat
  obtain ⟨A, c, e⟩ := Kd.R_slice hr
  subst e
  exact k A c w9 ⟨R3.put5 h.r3 hr hg hat, h.bx.grown hg h.r3.b5, h.tx.grown hg h.t5, hb9, h.t4, ne_own h.tx.lt h.t5 hat, h.t6⟩ (fun q u hq => hq.grown5 hg hat)
theorem app6 (hw : Region.wanted o (yielded ops a.tmps) = true) (s x : Operand) (ho : o.op = .call { callee := .builtin .append, args := #[s, x], argTypes := #[29, 29] })
    (hs : a.eval s = .slice A9 lc.length c9) (hx : a.eval x = .slice (some ⟨p, 0, none⟩) 1 1) (h : Q3 B T w6 cs tk W v4 v5 (.slice A9 lc.length c9) la lb lc) (hl : Lit W p (.int .i64 x0) v4 v5 (.slice A9 lc.length c9)) (hll : lc.length ≤ 100000)
    (k : ∀ A c w9, Q3 B T w6 cs tk w9 v4 v5 (.slice A (lc ++ [x0]).length c) la lb (lc ++ [x0]) → (∀ q u, Lit W q u v4 v5 (.slice A9 lc.length c9) → Lit w9 q u v4 v5 (.slice A (lc ++ [x0]).length c)) → Kc (a.put o.dst (.slice A (lc ++ [x0]).length c)) w9) :
    if Region.wanted o (yielded ops a.tmps) = true then Oper.wp Tryz.prog o a W Kc Q else Kc (a.put o.dst undef) W := by
  refine Kd.R_append_rows_step (Kd.int .i64) (w0 := w6) w6.heap.size hw s x 29 3 (.int .i64 0) 8 ho Tryz.underlying29 infoI rfl (by decide) (by omega) (.slice A9 lc.length c9) lc [x0] (some ⟨p, 0, none⟩) 1 1 (fun y => y ≠ B ∧ some y ≠ v4.ownBlock ∧ some y ≠ v5.ownBlock) (fun _ => False) hs hx h.r3.r6 (one_int hl.c) (fun _ _ h => h) (fun _ h => h.elim) (h.r3.fresh6 h.bx.lt (Nat.le_refl _)) h.bw h.bw.size (by omega) ?_
  intro v1 w9 hr hb9 hg hat
  obtain ⟨A, c, e⟩ := Kd.R_slice hr
  subst e
  exact k A c w9 ⟨R3.put6 h.r3 hr hg hat, h.bx.grown hg h.r3.b6, h.tx.grown hg h.t6, hb9, h.t4, h.t5, ne_own h.tx.lt h.t6 hat⟩ (fun q u hq => hq.grown6 hg hat)
end
/-- The literal row of the first rule. -/
theorem lit_rules {W : World} {base : Nat} (q : Int) (hb : base ≤ W.heap.size) : Kd.R Go.Proofs.YtjhemobplcelbaaGreatDoor.U.kSR 81 ((W.alloc (.cells #[.int .i64 q] 3)).alloc (.cells #[.int .i64 (-1), .slice (some ⟨W.heap.size, 0, none⟩) 1 1, .int .i64 0, .int .i64 0] 81)) base (fun x => W.heap.size ≤ x) (.slice (some ⟨W.heap.size + 1, 0, none⟩) 1 1) [⟨-1, [q], 0, 0⟩] := by
  have hs : (W.alloc (.cells #[.int .i64 q] 3)).heap.size = W.heap.size + 1 := World.size_alloc ..
  refine ⟨fun k hk => ?_, [.int .i64 (-1), .slice (some ⟨W.heap.size, 0, none⟩) 1 1, .int .i64 0, .int .i64 0], ?_, (Reps.none _ _).snoc (Kd.M_mono _ (fun k hk => ⟨?_, ?_⟩) (Kd.M_below (Kd.M_bound _ (lit_rule (W := W) (base := base) q hb)) (below_alloc (Below.refl _ _) _))) rfl⟩
  · have : W.heap.size + 1 = k := by simpa [Value.ownBlock] using hk
    omega
  · have h := World.ownsRow_lit (base := base) (e := 81) (size := 4) (W.alloc (.cells #[.int .i64 q] 3)) #[.int .i64 (-1), .slice (some ⟨W.heap.size, 0, none⟩) 1 1, .int .i64 0, .int .i64 0] 1 (by omega) (by decide) (by simp)
    rw [hs] at h
    exact h
  · have := hk.1; omega
  · intro he
    have h1 := hk.1
    have h2 : W.heap.size + 1 = k := by simpa [Value.ownBlock] using he.symm
    omega
/-! #### the same numbers, the same rules -/
theorem plc_app (s : ByteArray) : ∀ (a b : List ByteArray) (k : Nat), plc s (a ++ b) k = if 0 ≤ plc s a k then plc s a k else plc s b (k + a.length) := by
  intro a
  induction a with
  | nil => intro b k; simp [plc]
  | cons x a ih =>
    intro b k
    simp only [List.cons_append, plc]
    by_cases hx : x = s
    · simp [hx]
    · simp only [if_neg hx]
      rw [ih b (k + 1), List.length_cons, show k + 1 + a.length = k + (a.length + 1) by omega]
theorem plc_shift (s : ByteArray) : ∀ (a : List ByteArray) (k : Nat), plc s a k = if 0 ≤ plc s a 0 then (k : Int) + plc s a 0 else -1 := by
  intro a
  induction a with
  | nil => intro k; rfl
  | cons x a ih =>
    intro k
    simp only [plc]
    by_cases hx : x = s
    · simp [hx]
    · simp only [if_neg hx]
      rw [ih (k + 1), ih (0 + 1)]
      by_cases hm : 0 ≤ plc s a 0
      · rw [if_pos hm, if_pos hm, if_pos (by omega)]; push_cast; omega
      · rw [if_neg hm, if_neg hm, if_neg (by decide)]
theorem num_names {ts : List STk} {rs : List SRu} {s : ByteArray} (hs : s ≠ ⟨#[]⟩) (hk : s ∈ ts.map STk.f0 ∨ s ∈ leftsF rs) : numF ts.length (namesF ts rs) s = plc s (namesF ts rs) 0 := by
  have e1 : (namesF ts rs).take ts.length = ts.map STk.f0 := by
    unfold namesF
    rw [List.append_assoc, List.take_left' (by simp)]
  have e2 : (namesF ts rs).drop (ts.length + 1) = leftsF rs := by
    unfold namesF
    rw [List.drop_left' (by simp)]
  unfold numF
  rw [e1, e2]
  unfold namesF
  rw [List.append_assoc, plc_app]
  by_cases h : 0 ≤ plc s (ts.map STk.f0) 0
  · rw [if_pos h, if_pos h]
  · rw [if_neg h, if_neg h, List.length_map, plc_app]
    have e3 : plc s [(⟨#[]⟩ : ByteArray)] (0 + ts.length) = -1 := by simp only [plc]; rw [if_neg (fun e => hs e.symm)]
    rw [e3, if_neg (by decide)]
    have hm : 0 ≤ plc s (leftsF rs) 0 := (plc_mem _ _ 0).2 (hk.resolve_left (fun h2 => h ((plc_mem _ _ 0).2 h2)))
    have e4 := plc_shift s (leftsF rs) (0 + ts.length + 1)
    rw [if_pos hm] at e4
    simp only [List.length_cons, List.length_nil]
    rw [e4]
    push_cast
    omega
theorem nm_ne {s : ByteArray} (h : M.Nm s = true) : s ≠ ⟨#[]⟩ := by
  rintro rfl
  rw [show M.Nm ⟨#[]⟩ = false from rfl] at h
  cases h
theorem may_names {ts : List STk} {st : ByteArray} {ex : Int} {rs : List SRu} (hm : M.rmayB ts st ex rs = true) : (∀ t ∈ ts, t.f0 ≠ ⟨#[]⟩) ∧ ∀ r ∈ rs, r.f0 ≠ ⟨#[]⟩ ∧ ∀ s ∈ r.f1, s ≠ ⟨#[]⟩ := by
  unfold M.rmayB at hm
  simp only [Bool.and_eq_true, Bool.not_eq_true'] at hm
  obtain ⟨⟨⟨_, h1⟩, _⟩, h2⟩ := hm
  refine ⟨fun t ht => ?_, fun r hr => ?_⟩
  · obtain ⟨i, hi, rfl⟩ := List.getElem_of_mem ht
    have h3 := M.rnewsB_iff.1 h1 i hi
    unfold M.rnewB M.basicB at h3
    simp only [Bool.and_eq_true] at h3
    exact nm_ne h3.1.1.1.1.1.1
  · rw [List.any_eq_false] at h2
    have h3 := h2 r hr
    unfold M.ruleBad at h3
    simp only [Bool.or_eq_true, Bool.not_eq_true', not_or, Bool.not_eq_false] at h3
    refine ⟨nm_ne h3.1.1.1, fun s hs => ?_⟩
    have h4 := h3.2
    rw [Bool.not_eq_true, List.any_eq_false] at h4
    have h5 := h4 s hs
    exact nm_ne (by simpa using h5)
theorem rule_same {ts : List STk} {st : ByteArray} {ex : Int} {rs : List SRu} (hm : M.rmayB ts st ex rs = true) (hn : namedOk ts st rs) : ∀ r ∈ rs, ruleW ts (namesF ts rs) r = ruleF ts (namesF ts rs) r := by
  intro r hr
  obtain ⟨h1, h2⟩ := may_names hm
  obtain ⟨h3, h4⟩ := h2 r hr
  have e0 : numF ts.length (namesF ts rs) r.f0 = plc r.f0 (namesF ts rs) 0 := num_names h3 (.inr (lefts_mem.2 ⟨r, hr, rfl⟩))
  have e1 : r.f1.map (numF ts.length (namesF ts rs)) = r.f1.map (fun s => plc s (namesF ts rs) 0) := by
    refine List.map_congr_left fun s hs => num_names (h4 s hs) ?_
    rcases (hn.2.2.1 r hr).1 s hs with h | h
    · exact .inr ((plc_mem _ _ 0).1 h)
    · exact .inl ((plc_mem _ _ 0).1 h)
  have e2 : ruleWB ts (namesF ts rs) r = ruleBy ts (namesF ts rs) r := by
    unfold ruleWB ruleBy
    by_cases he : r.f2 = ⟨#[]⟩
    · rw [if_pos he, if_pos he, e1, he]
      have h5 : ¬ 0 ≤ plc (⟨#[]⟩ : ByteArray) (ts.map STk.f0) 0 := fun h => by
        obtain ⟨t, ht, e⟩ := List.mem_map.1 ((plc_mem _ _ 0).1 h)
        exact h1 t ht e
      have h6 := plc_ge (⟨#[]⟩ : ByteArray) (ts.map STk.f0) 0
      rw [show plc (⟨#[]⟩ : ByteArray) (ts.map STk.f0) 0 = -1 by omega]
    · rw [if_neg he, if_neg he]
  unfold ruleW ruleF
  rw [e0, e1, e2]
theorem start_same {ts : List STk} {st : ByteArray} {ex : Int} {rs : List SRu} (hm : M.rmayB ts st ex rs = true) (hn : namedOk ts st rs) : numF ts.length (namesF ts rs) (startS st rs) = startF ts st rs := by
  obtain ⟨h1, h2⟩ := may_names hm
  have hpos := hn.2.1
  have hh : (leftsF rs).headD ⟨#[]⟩ = (rs.headD zRu).f0 := by
    cases rs with
    | nil => simp at hpos
    | cons r rs =>
      have : ∀ (l : List SRu) (x : ByteArray) (a : List ByteArray), ∃ b, l.foldl leftStep (x :: a) = x :: b := by
        intro l
        induction l with
        | nil => intro x a; exact ⟨a, rfl⟩
        | cons r l ih =>
          intro x a
          rw [List.foldl_cons]
          unfold leftStep
          split
          · exact ih x (a ++ [r.f0])
          · exact ih x a
      obtain ⟨b, hb⟩ := this rs r.f0 []
      unfold leftsF
      rw [List.foldl_cons, show leftStep [] r = [r.f0] from rfl, hb]
      rfl
  have hs : startS st rs = if st = ⟨#[]⟩ then (leftsF rs).headD ⟨#[]⟩ else st := by
    unfold startS
    by_cases he : st = ⟨#[]⟩
    · rw [if_pos ⟨he, by omega⟩, if_pos he, hh]
    · rw [if_neg (fun h => he h.1), if_neg he]
  have hm2 : startS st rs ∈ leftsF rs := by
    unfold startS
    by_cases he : st = ⟨#[]⟩
    · rw [if_pos ⟨he, by omega⟩]
      cases rs with
      | nil => simp at hpos
      | cons r rs => exact lefts_mem.2 ⟨r, List.mem_cons_self, rfl⟩
    · rw [if_neg (fun h => he h.1)]
      exact (plc_mem _ _ 0).1 (hn.2.2.2.resolve_left he)
  obtain ⟨r, hr, hr2⟩ := lefts_mem.1 hm2
  have hne : startS st rs ≠ ⟨#[]⟩ := by rw [hr2]; exact (h2 r hr).1
  have hnt : ¬ 0 ≤ plc (startS st rs) (ts.map STk.f0) 0 := fun h => by
    obtain ⟨t, ht, e⟩ := List.mem_map.1 ((plc_mem _ _ 0).1 h)
    have h3 := hn.1 t ht
    rw [e] at h3
    have := (plc_mem (startS st rs) (leftsF rs) 0).2 hm2
    omega
  have e2 : (namesF ts rs).drop (ts.length + 1) = leftsF rs := by
    unfold namesF
    rw [List.drop_left' (by simp)]
  have e1 : (namesF ts rs).take ts.length = ts.map STk.f0 := by
    unfold namesF
    rw [List.append_assoc, List.take_left' (by simp)]
  unfold numF startF
  rw [e1, e2, if_neg hnt, ← hs]
end Go.Proofs.YtjhemobplcelbaaGreatDoor.O
