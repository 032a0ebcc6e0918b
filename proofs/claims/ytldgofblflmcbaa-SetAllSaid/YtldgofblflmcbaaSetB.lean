/- slices.Insert over a row of the call's own, by cells: in place or into a new row. -/
import Derived.Test.YtldgofblflmcbaaSetA
import Derived.Laws.CopyOwn
import Derived.Lib.Overlaps
import Derived.Lib.AppendZerosOnto
import Derived.Lib.SliceRun
import Derived.Lib.AppendZeros
import Derived.Laws.NewBlocks
import Derived.Laws.Externs
import Derived.Deep.RegionLaw
namespace Go.Proofs.Ytldgofblflmcbaa.S
open Go.RowKit Go.Proofs.YtldgofblflmcbaaW.PrintWords Go.Proofs.YtldgofblflmcbaaW.PrintLast Go.Proofs.YtldgofblflmcbaaW.PrintMore
set_option linter.unusedVariables false
set_option linter.unusedSimpArgs false

/-! ### copy over elements of any size -/
theorem run_copy_rowN {P : Program} (w : World) (dT sT ty elem : TypeId) (g o dLen dCap : Nat) (a : Addr) (sLen sCap : Nat) (cur : Array Value) (t : TypeId) (cs : List Value) (sz : Nat)
    (hu : P.underlying dT = some (.slice elem)) (hs : (P.info? elem).map (·.size) = some sz)
    (hg : w.heap[g]? = some (.cells cur t (0, 0))) (hn : cs.length = Nat.min sLen dLen * sz)
    (hsrc : ∀ j v, cs[j]? = some v → w.cell? (a.add j) = some v) (hfit : o + cs.length ≤ cur.size) (h1 : ∀ v ∈ cs, v.oneCell' = true) :
    (Builtin.copy_ #[dT, sT] ty #[.slice (some ⟨g, o, none⟩) dLen dCap, .slice (some a) sLen sCap]).run P w =
      .ok (goInt (Nat.min sLen dLen)) (w.setRow g (cur.toList.take o ++ cs ++ cur.toList.drop (o + cs.length)).toArray) := by
  have hl := run_loadCells_list (P := P) w a cs hsrc
  have hst := run_storeCells_at P g o t cs 0 cur w hg (by simpa using hfit) h1
  cases hq : P.info? elem with
  | none => simp [hq] at hs
  | some i =>
    have hi : i.size = sz := by simpa [hq] using hs
    rw [hn] at hl
    simp [Builtin.copy_, run_underlying hu, Builtin.lenOf, Builtin.firstCells, sizeOf, typeInfo, hq, hi, hl, hst]
    done
theorem wp_copy_runI {P : Program} (w : World) {o : Oper} {a : Act} {K : Act → World → Prop} {Q : Exit → Act → World → Prop} (d s : Operand) (t t' : TypeId)
    (ho : o.op = .call { callee := .builtin .copy, args := #[d, s], argTypes := #[t, t'] }) (v u : Value) (hd : a.eval d = v) (hs : a.eval s = u) {v' : Value} {w' : World}
    (hr : (Builtin.copy_ #[t, t'] o.type #[v, u]).run P w = .ok v' w') (h : K (a.put o.dst v') w') : o.wp P a w K Q := by
  unfold Oper.wp execOp
  simp only [ho, resolve, invoke, builtin, Sem.run_bind, Sem.run_pure, Result.andThen_ok, List.map_toArray, List.map_cons, List.map_nil, hd, hs, hr]
  exact h
theorem wpList_copy_runI {P : Program} (w : World) {ops : Array Oper} {rest : List Oper} {o : Oper} {a : Act} {Q : Exit → Act → World → Prop} (hgd : o.guard = none) (d s : Operand) (t t' : TypeId)
    (ho : o.op = .call { callee := .builtin .copy, args := #[d, s], argTypes := #[t, t'] }) (v u : Value) (hd : a.eval d = v) (hs : a.eval s = u) {v' : Value} {w' : World}
    (hr : (Builtin.copy_ #[t, t'] o.type #[v, u]).run P w = .ok v' w') (h : wpList P ops Q rest (a.put o.dst v') w') : wpList P ops Q (o :: rest) a w :=
  wpList_plain hgd fun _ hK => wp_copy_runI w d s t t' ho v u hd hs hr (hK _ _ h)
theorem step_copy_runI {P : Program} {ops : Array Oper} {o : Oper} {a : Act} {w : World} {K : Act → World → Prop} {Q : Exit → Act → World → Prop} {E : Prop}
    (hg : o.guard = none) (d x : Operand) (dT sT : TypeId) (hop : o.op = Op.call { callee := Callee.builtin Builtin.copy, args := #[d, x], argTypes := #[dT, sT] })
    (v u : Value) (hd : a.eval d = v) (hx : a.eval x = u) {v' : Value} {w' : World} (hr : (Builtin.copy_ #[dT, sT] o.type #[v, u]).run P w = .ok v' w') (hK : K (a.put o.dst v') w') :
    if Region.wanted o (yielded ops a.tmps) = true then Oper.wp P o a w K Q else E := by
  have hw : Region.wanted o (yielded ops a.tmps) = true := by simp [Region.wanted, hg]
  rw [if_pos hw]
  unfold Oper.wp
  simp [execOp, hop, resolve, invoke, builtin, hd, hx, hr, Result.andThen]
  exact hK

/-! ### slices.Insert: what it leaves -/
theorem grown_setRow {w0 w : World} {g : Nat} (h : w0.grownBy w (some g)) (cs : Array Value) : w0.grownBy (w.setRow g cs) (some g) :=
  ⟨h.os, h.tape, h.output, by show w0.heap.size ≤ (w.heap.modify g _).size; rw [Array.size_modify]; exact h.size, fun k hk hn => (setRow_other w g k cs (fun e => hn (by rw [e]))).trans (h.block k hk hn)⟩
theorem grown_drew {w0 w : World} {r : Option Nat} (h : w0.grownBy w r) : w0.grownBy w.drew r := ⟨h.os, h.tape, h.output, h.size, fun k hk hn => h.block k hk hn⟩
theorem shape_at {w : World} {g : Nat} {cs : Array Value} {t : TypeId} {f : Nat × Nat} (h : w.heap[g]? = some (.cells cs t f)) : w.shape? g = some (t, cs.size) := by
  simp [World.shape?, h]
/-- v1 is the row v with cs set in behind i elements. -/
def InsPost (W : World) (base : Nat) (e : TypeId) (sz : Nat) (v : Value) (n i : Nat) (inner cs : List Value) (en : Ending) (w' : World) : Prop :=
  ∃ v1, en = .returned v1 ∧ w'.ownsRow base e sz v1 (n + 1) (inner.take (i * sz) ++ cs ++ inner.drop (i * sz)) ∧ W.grownBy w' v.ownBlock ∧ (v1.ownBlock = v.ownBlock ∨ ∃ b, v1.ownBlock = some b ∧ W.heap.size ≤ b)
/-- The row after the two copies of the shift: cells i on are moved by one element, then cs is laid at i. -/
theorem shift_row (cur cs inner : List Value) (n i sz cap : Nat) (hi : i ≤ n) (hc : cur.length = cap * sz) (hn : n + 1 ≤ cap) (hcs : cs.length = sz) (ht : cur.take (n * sz) = inner) :
    let c1 := cur.take ((i + 1) * sz) ++ inner.drop (i * sz) ++ cur.drop ((i + 1) * sz + (inner.drop (i * sz)).length)
    let c2 := c1.take (i * sz) ++ cs ++ c1.drop (i * sz + cs.length)
    c2.length = cap * sz ∧ c2.take ((n + 1) * sz) = inner.take (i * sz) ++ cs ++ inner.drop (i * sz) := by
  have h1 : i * sz ≤ n * sz := Nat.mul_le_mul_right _ hi
  have h2 : (n + 1) * sz ≤ cap * sz := Nat.mul_le_mul_right _ hn
  have h3 : (i + 1) * sz = i * sz + sz := Nat.succ_mul ..
  have h4 : (n + 1) * sz = n * sz + sz := Nat.succ_mul ..
  have hil : inner.length = n * sz := by rw [← ht, List.length_take]; omega
  rw [h3]
  rw [h4] at h2 ⊢
  generalize i * sz = a at *
  generalize n * sz = b at *
  generalize cap * sz = c at *
  intro c1 c2
  have hl1 : c1.length = c := by
    simp only [c1, List.length_append, List.length_take, List.length_drop]
    omega
  have e1 : c1.take a = inner.take a := by
    simp only [c1]
    rw [List.append_assoc, List.take_append_of_le_length (by rw [List.length_take]; omega), List.take_take, Nat.min_eq_left (by omega), ← ht, List.take_take, Nat.min_eq_left (by omega)]
  have e2 : c1.drop (a + cs.length) = inner.drop a ++ cur.drop (a + sz + (inner.drop a).length) := by
    simp only [c1]
    rw [hcs, List.append_assoc, List.drop_append, List.drop_eq_nil_of_le (by rw [List.length_take]; omega), List.nil_append, List.length_take, Nat.min_eq_left (by omega), Nat.sub_self, List.drop_zero]
  have e3 : c2 = (inner.take a ++ cs ++ inner.drop a) ++ cur.drop (a + sz + (inner.drop a).length) := by
    simp only [c2]
    rw [e1, e2, List.append_assoc (inner.take a ++ cs)]
  refine ⟨?_, ?_⟩
  · rw [e3]
    simp only [List.length_append, List.length_take, List.length_drop]
    omega
  · rw [e3, List.take_append_of_le_length (by simp only [List.length_append, List.length_take, List.length_drop]; omega)]
    exact List.take_of_length_le (by simp only [List.length_append, List.length_take, List.length_drop]; omega)

theorem grow_row (row cs inner : List Value) (n i sz : Nat) (hi : i ≤ n) (hr : (n + 1) * sz ≤ row.length) (hcs : cs.length = sz) (hin : inner.length = n * sz) (ht : row.take (i * sz) = inner.take (i * sz)) :
    let c1 := row.take (i * sz) ++ cs ++ row.drop (i * sz + cs.length)
    let c2 := c1.take ((i + 1) * sz) ++ inner.drop (i * sz) ++ c1.drop ((i + 1) * sz + (inner.drop (i * sz)).length)
    c1.length = row.length ∧ c2.length = row.length ∧ c2.take ((n + 1) * sz) = inner.take (i * sz) ++ cs ++ inner.drop (i * sz) := by
  have h1 : i * sz ≤ n * sz := Nat.mul_le_mul_right _ hi
  have h3 : (i + 1) * sz = i * sz + sz := Nat.succ_mul ..
  have h4 : (n + 1) * sz = n * sz + sz := Nat.succ_mul ..
  rw [h3]
  rw [h4] at hr ⊢
  generalize i * sz = a at *
  generalize n * sz = b at *
  intro c1 c2
  have hl1 : c1.length = row.length := by
    simp only [c1, List.length_append, List.length_take, List.length_drop]
    omega
  have e1 : c1.take (a + sz) = inner.take a ++ cs := by
    simp only [c1]
    rw [List.take_append_of_le_length (by simp only [List.length_append, List.length_take]; omega), ht]
    exact List.take_of_length_le (by simp only [List.length_append, List.length_take]; omega)
  refine ⟨hl1, ?_, ?_⟩
  · simp only [c2, List.length_append, List.length_take, List.length_drop]
    omega
  · simp only [c2]
    rw [e1, List.take_append_of_le_length (by simp only [List.length_append, List.length_take, List.length_drop]; omega)]
    exact List.take_of_length_le (by simp only [List.length_append, List.length_take, List.length_drop]; omega)

theorem info_int : (Try.prog.info? 3).map (fun i => (i.zero, i.size, i.bytes)) = some (some (.int .i64 0), 1, 8) := by kernel_rfl
theorem overlaps_int (w : World) (a b : Addr) (la ca lb cb : Nat) (hne : a.block ≠ b.block) (tA tB : TypeId) (kA kB : Nat)
    (hsa : w.shape? a.block = some (tA, kA)) (hsb : w.shape? b.block = some (tB, kB)) (hkB : kB ≠ 0) (hfa : w.frozen? a = false) (hfe : w.frozen? { block := a.block, off := kA } = false) :
    (callFunc 47 #[.slice (some a) la ca, .slice (some b) lb cb]).run Try.prog w = .ok (.value (.bool false)) w := by
  rw [run_callFunc_extern Try.func47 (by kernel_rfl) (by kernel_rfl) (by kernel_rfl) (e := Extern.SlicesOverlaps.overlaps #[27, 27] #[4]) (by kernel_rfl),
    Lib.run_overlaps_apart w 27 4 3 Try.underlying27 1 (fun _ => by kernel_rfl) a b la ca lb cb hne tA tB kA kB hsa hsb hkB hfa hfe]
  rfl
set_option maxHeartbeats 4000000 in
set_option maxRecDepth 100000 in
theorem insert_end_int (W : World) (base : Nat) (v : Value) (n : Nat) (inner cs : List Value) (hcl : cs.length = 1) (h1 : ∀ u ∈ cs, u.oneCell' = true) (hown : W.ownsRow base 3 1 v n inner) (hbase : base ≤ W.heap.size) (hn : n ≤ 1000000) :
    Calls Try.prog 35 #[v, .int .i64 (n : Int), .slice (some ⟨W.heap.size, 0, none⟩) 1 1] (W.alloc (.cells cs.toArray 3)) (InsPost W base 3 1 v n n inner cs) := by
  have hil := hown.1
  have HO := Aside0.mk hown
  have hvs : ∃ A c, v = .slice A n c ∧ n ≤ c := by
    rcases hown.2 with ⟨rfl, h0⟩ | ⟨g, cap, cur, rfl, hb, hh, hnc, r⟩
    · exact ⟨none, 0, by rw [h0], by omega⟩
    · exact ⟨_, cap, rfl, hnc⟩
  obtain ⟨A, c, rfl, hnc⟩ := hvs
  clear hown
  have hpost : ∀ v1 w1, w1.ownsRow base 3 1 v1 (n + 1) (inner ++ cs) → W.grownBy w1 (Value.slice A n c).ownBlock → (v1.ownBlock = (Value.slice A n c).ownBlock ∨ ∃ b, v1.ownBlock = some b ∧ W.heap.size ≤ b) → InsPost W base 3 1 (.slice A n c) n n inner cs (.returned v1) w1 := fun v1 w1 ho hg hat =>
    ⟨v1, rfl, by rw [List.take_of_length_le (by omega), List.drop_eq_nil_of_le (by omega), List.append_nil]; exact ho, hg, hat⟩
  have HP := Aside0.mk hpost
  clear hpost
  by_cases hcn : c = n
  · subst hcn
    go_enter Try.func35, Try.ntmps35
    go_wp2_with (first
      | (at_builtin; refine print_append_cells (w0 := W) base rfl (.tmp 23) (.tmp 24) 27 3 (.int .i64 0) 1 8 rfl Try.underlying27 info_int rfl (by omega) (by omega) (.slice A c c) c inner cs rfl rfl hcl h1 HO.out ((Below.refl _ _).mono hbase) hbase (by omega) ?_; intro v1 w1 ho1 hb1 hg1 hat1; have HG := Aside0.mk (HP.out v1 w1 ho1 hg1 hat1); clear ho1 hb1 hg1 hat1))
    all_goals (go_ret; exact HG.out)
  · skip
    go_enter Try.func35, Try.ntmps35
    go_wp2_with (first
      | (at_builtin; refine print_append_cells (w0 := W) base rfl (.tmp 23) (.tmp 24) 27 3 (.int .i64 0) 1 8 rfl Try.underlying27 info_int rfl (by omega) (by omega) (.slice A n c) n inner cs rfl rfl hcl h1 HO.out ((Below.refl _ _).mono hbase) hbase (by omega) ?_; intro v1 w1 ho1 hb1 hg1 hat1; have HG := Aside0.mk (HP.out v1 w1 ho1 hg1 hat1); clear ho1 hb1 hg1 hat1))
    all_goals (go_ret; exact HG.out)
set_option maxHeartbeats 4000000 in
set_option maxRecDepth 100000 in
theorem insert_shift_int (W : World) (base : Nat) (g n c i : Nat) (cur : Array Value) (inner cs : List Value) (hcl : cs.length = 1) (h1 : ∀ u ∈ cs, u.oneCell' = true) (h1i : ∀ u ∈ inner, u.oneCell' = true) (hb : base ≤ g) (hh : W.heap[g]? = some (.cells cur 3 (0, 0))) (hcs : cur.size = c * 1) (ht : cur.toList.take (n * 1) = inner) (hcm : c ≤ maxLen)
    (hi : i < n) (hroom : n + 1 ≤ c) (hn : n ≤ 1000000) :
    Calls Try.prog 35 #[.slice (some ⟨g, 0, none⟩) n c, .int .i64 (i : Int), .slice (some ⟨W.heap.size, 0, none⟩) 1 1] (W.alloc (.cells cs.toArray 3)) (InsPost W base 3 1 (.slice (some ⟨g, 0, none⟩) n c) n i inner cs) := by
  have hgw : g < W.heap.size := by
    rcases Nat.lt_or_ge g W.heap.size with h' | h'
    · exact h'
    · rw [Array.getElem?_eq_none h'] at hh; cases hh
  have hilen : inner.length = n * 1 := by rw [← ht, List.length_take, Array.length_toList]; omega
  obtain ⟨X, hX⟩ : ∃ X, X = W.heap.size := ⟨_, rfl⟩
  obtain ⟨w, hw⟩ : ∃ w, w = W.alloc (.cells cs.toArray 3) := ⟨_, rfl⟩
  have hgX : X ≠ g := by omega
  have hhw : w.heap[g]? = some (.cells cur 3 (0, 0)) := by rw [hw, Below.heap_alloc W _ g hgw]; exact hh
  have hxw : w.heap[X]? = some (.cells cs.toArray 3 (0, 0)) := by rw [hw, hX]; exact heap_alloc_new W _
  have hgr : W.grownBy w (some g) := by rw [hw]; exact World.grownBy_alloc W _ _
  rw [← hX, ← hw]
  have hsr := shift_row cur.toList cs inner n i 1 c (by omega) (by rw [Array.length_toList]; exact hcs) hroom hcl ht
  obtain ⟨R1, hR1⟩ : ∃ R1, R1 = cur.toList.take (i + 1) ++ inner.drop (i) ++ cur.toList.drop (i + 1 + (inner.drop (i)).length) := ⟨_, rfl⟩
  obtain ⟨R2, hR2⟩ : ∃ R2, R2 = R1.take (i) ++ cs ++ R1.drop (i + cs.length) := ⟨_, rfl⟩
  simp only [Nat.mul_one] at hsr
  simp only [← hR1, ← hR2] at hsr
  have hdl : (inner.drop (i)).length = (n - i) * 1 := by rw [List.length_drop, hilen]; omega
  have hR1l : R1.length = cur.size := by rw [hR1]; simp only [List.length_append, List.length_take, List.length_drop, Array.length_toList]; omega
  have hov : ∀ lb cb, (callFunc 47 #[.slice (some ⟨X, 0, none⟩) 1 1, .slice (some ⟨g, i + 1, none⟩) lb cb]).run Try.prog w = .ok (.value (.bool false)) w := fun lb cb =>
    overlaps_int w ⟨X, 0, none⟩ ⟨g, i + 1, none⟩ 1 1 lb cb hgX 3 3 cs.toArray.size cur.size (shape_at hxw) (shape_at hhw) (by omega) (by simp [World.frozen?, hxw]) (by simp [World.frozen?, hxw])
  have hsz : (Try.prog.info? 3).map (·.size) = some 1 := by kernel_rfl
  have hcp1 : ∀ ty dc sc, (Builtin.copy_ #[27, 27] ty #[.slice (some ⟨g, i + 1, none⟩) (n + 1 - (i + 1)) dc, .slice (some ⟨g, i, none⟩) (n + 1 - i) sc]).run Try.prog w.drew = .ok (goInt ((n - i : Nat) : Int)) (w.drew.setRow g R1.toArray) := fun ty dc sc => by
    have hmin : Nat.min (n + 1 - i) (n + 1 - (i + 1)) = n - i := by simp only [Nat.min_def]; split <;> omega
    rw [run_copy_rowN w.drew 27 27 ty 3 g (i + 1) (n + 1 - (i + 1)) dc ⟨g, i, none⟩ (n + 1 - i) sc cur 3 (inner.drop (i)) 1 Try.underlying27 hsz hhw (by rw [hmin, hdl])
      (fun j u hj => by
        have e : (⟨g, i, none⟩ : Addr).add j = ⟨g, i + j, none⟩ := by unfold Addr.add; split <;> simp_all
        rw [e, World.cell?_drew, cell_of_row w g _ cur 3 (0, 0) hhw]
        rw [List.getElem?_drop, ← ht, List.getElem?_take] at hj
        split at hj
        · rw [← Array.getElem?_toList]; exact hj
        · cases hj) (by omega) (fun u hu => h1i u (List.mem_of_mem_drop hu)), hmin, ← hR1]
  have hcp2 : ∀ ty dc, (Builtin.copy_ #[27, 27] ty #[.slice (some ⟨g, i, none⟩) (n + 1 - i) dc, .slice (some ⟨X, 0, none⟩) 1 1]).run Try.prog (w.drew.setRow g R1.toArray) = .ok (goInt ((1 : Nat) : Int)) ((w.drew.setRow g R1.toArray).setRow g R2.toArray) := fun ty dc => by
    have hmin : Nat.min 1 (n + 1 - i) = 1 := by simp only [Nat.min_def]; split <;> omega
    have hg2 : (w.drew.setRow g R1.toArray).heap[g]? = some (.cells R1.toArray 3 (0, 0)) := setRow_heap w.drew g cur R1.toArray 3 (0, 0) hhw
    have hx2 : (w.drew.setRow g R1.toArray).heap[X]? = some (.cells cs.toArray 3 (0, 0)) := by rw [setRow_other w.drew g X R1.toArray hgX]; exact hxw
    rw [run_copy_rowN _ 27 27 ty 3 g (i) (n + 1 - i) dc ⟨X, 0, none⟩ 1 1 R1.toArray 3 cs 1 Try.underlying27 hsz hg2 (by rw [hmin, hcl])
      (fun j u hj => by
        have e : (⟨X, 0, none⟩ : Addr).add j = ⟨X, j, none⟩ := by unfold Addr.add; split <;> simp_all
        rw [e, cell_of_row _ X j cs.toArray 3 (0, 0) hx2]
        simpa using hj) (by simp; omega) h1, hmin, hR2]
  have hpost : InsPost W base 3 1 (.slice (some ⟨g, 0, none⟩) n c) n i inner cs (.returned (.slice (some ⟨g, 0, none⟩) (n + 1) c)) ((w.drew.setRow g R1.toArray).setRow g R2.toArray) := by
    refine ⟨_, rfl, ⟨by simp only [List.length_append, List.length_take, List.length_drop]; omega, .inr ⟨g, c, R2.toArray, rfl, hb, ?_, hroom, hcm, by simpa using hsr.1, by simpa using hsr.2⟩⟩, ?_, .inl rfl⟩
    · exact setRow_heap _ g R1.toArray _ 3 (0, 0) (setRow_heap w.drew g cur _ 3 (0, 0) hhw)
    · exact grown_setRow (grown_setRow (grown_drew hgr) _) _
  have HP := Aside0.mk hpost
  have hz2 : ((i : Int) == (n : Int)) = false := beq_eq_false_iff_ne.mpr (by omega)
  have hz3 : decide ((n : Int) + 1 > (c : Int)) = false := by simp; omega
  have hb2 : ¬ (c = i + 1) := by omega
  have hb4 : ¬ (c = i) := by omega
  have hin : i ≤ n := by omega
  have hb3 : (i : Int) ≤ (n : Int) + 1 := by omega
  clear hpost hsr hR1 hR2 hgr hhw hxw hh ht hcs hilen hX hw hdl hR1l
  unfold maxLen at hcm
  go_enter Try.func35, Try.ntmps35
  go_wp2_with (simp only [hov])
  have hw1 : IntKind.i64.wrap ((i : Int) + 1) = (i : Int) + 1 := by rw [IntKind.wrap_i64]; omega
  have hw2 : (0 : Int) ≤ (i : Int) + 1 := by omega
  have hw3 : (i : Int) + 1 ≤ (n : Int) + 1 := by omega
  have hw4 : ((i : Int) + 1).toNat = i + 1 := by omega
  go_region_law ((refine step_copy_runI rfl (.tmp 73) (.tmp 76) 27 27 rfl (.slice (some ⟨g, i + 1, none⟩) (n + 1 - (i + 1)) (c - (i + 1))) (.slice (some ⟨g, i, none⟩) (n + 1 - i) (c - i)) (by simp [Act.eval, Act.put]) (by simp [Act.eval, Act.put]) (hcp1 _ _ _) ?_))
  clear hw1 hw2 hw3 hw4
  go_wp2_with (at_builtin; refine wpList_copy_runI _ rfl (.tmp 80) (.tmp 81) 27 27 rfl _ _ rfl rfl (hcp2 _ _) ?_)
  go_ret
  exact HP.out
set_option maxHeartbeats 4000000 in
set_option maxRecDepth 100000 in
theorem insert_grow_int (W : World) (base : Nat) (g n c i : Nat) (cur : Array Value) (inner cs : List Value) (hcl : cs.length = 1) (h1 : ∀ u ∈ cs, u.oneCell' = true) (h1i : ∀ u ∈ inner, u.oneCell' = true) (hb : base ≤ g) (hbW : base ≤ W.heap.size) (hh : W.heap[g]? = some (.cells cur 3 (0, 0))) (hcs : cur.size = c * 1) (ht : cur.toList.take (n * 1) = inner) (hnc : n ≤ c)
    (hi : i < n) (hroom : c < n + 1) (hn : n ≤ 1000000) :
    Calls Try.prog 35 #[.slice (some ⟨g, 0, none⟩) n c, .int .i64 (i : Int), .slice (some ⟨W.heap.size, 0, none⟩) 1 1] (W.alloc (.cells cs.toArray 3)) (InsPost W base 3 1 (.slice (some ⟨g, 0, none⟩) n c) n i inner cs) := by
  obtain rfl : c = n := by omega
  have hgw : g < W.heap.size := by
    rcases Nat.lt_or_ge g W.heap.size with h' | h'
    · exact h'
    · rw [Array.getElem?_eq_none h'] at hh; cases hh
  have hilen : inner.length = c * 1 := by rw [← ht, List.length_take, Array.length_toList]; omega
  obtain ⟨X, hX⟩ : ∃ X, X = W.heap.size := ⟨_, rfl⟩
  obtain ⟨w, hw⟩ : ∃ w, w = W.alloc (.cells cs.toArray 3) := ⟨_, rfl⟩
  have hwz : w.heap.size = X + 1 := by rw [hw, World.size_alloc, hX]
  obtain ⟨Y, hY⟩ : ∃ Y, Y = w.heap.size := ⟨_, rfl⟩
  have hgX : X ≠ g := by omega
  have hgY : g ≠ Y := by omega
  have hXY : X ≠ Y := by omega
  have hhw : w.heap[g]? = some (.cells cur 3 (0, 0)) := by rw [hw, Below.heap_alloc W _ g hgw]; exact hh
  have hxw : w.heap[X]? = some (.cells cs.toArray 3 (0, 0)) := by rw [hw, hX]; exact heap_alloc_new W _
  have hgr : W.grownBy w (some g) := by rw [hw]; exact World.grownBy_alloc W _ _
  rw [← hX, ← hw]
  have hsz : (Try.prog.info? 3).map (·.size) = some 1 := by kernel_rfl
  obtain ⟨i0, hi0, hz0, hzs, hzb⟩ := info_parts info_int
  have hcell : ∀ j u, inner[j]? = some u → cur[j]? = some u := fun j u hj => by
    rw [← ht, List.getElem?_take] at hj
    split at hj
    · rw [← Array.getElem?_toList]; exact hj
    · cases hj
  have hold : (Builtin.firstCells i0.size i (.slice (some ⟨g, 0, none⟩) i c)).run Try.prog w.drew = .ok (inner.take (i)).toArray w.drew := by
    rw [hzs]
    exact run_firstCells_some w.drew 1 i ⟨g, 0, none⟩ i c (inner.take (i)) (by rw [List.length_take]; omega) (fun j u hj => by
      have e : (⟨g, 0, none⟩ : Addr).add j = ⟨g, j, none⟩ := by unfold Addr.add; split <;> simp_all
      rw [e, World.cell?_drew, cell_of_row w g _ cur 3 (0, 0) hhw]
      rw [List.getElem?_take] at hj
      split at hj
      · exact hcell j u hj
      · cases hj)
  obtain ⟨G, hG⟩ : ∃ G, G = grownCap w (c + 1) c 3 := ⟨_, rfl⟩
  obtain ⟨ROW, hROW⟩ : ∃ ROW : Array Value, ROW = (inner.take (i)).toArray ++ Builtin.zeroCells ((.int .i64 0) : Value).cells (c + 1 - i) ++ Builtin.zeroCells ((.int .i64 0) : Value).cells (G - (c + 1)) := ⟨_, rfl⟩
  have hkk : (c : Int) + 1 - (i : Int) = ((c + 1 - i : Nat) : Int) := by omega
  have hrz : ∀ ty, (Builtin.append_ #[27, 3] ty #[.slice (some ⟨g, 0, none⟩) i c, .int .i64 ((c : Int) + 1 - (i : Int))]).run Try.prog w = .ok (.slice (some ⟨Y, 0, none⟩) (c + 1) G) (w.drew.alloc (.cells ROW 3)) := fun ty => by
    have h := Lib.run_append_grow_zeros w 27 3 ty 3 i0 _ .i64 .i64 Try.underlying27 Try.underlying3 hi0 hz0 (some ⟨g, 0, none⟩) i c (inner.take (i)) hold (c + 1 - i) (by omega) (by rw [hzs]; omega) (by omega) (by omega) (by rw [hzb]; omega) (by rw [hzb, show i + (c + 1 - i) = c + 1 by omega]; exact growslice_fits (by omega) (by omega))
    rw [show i + (c + 1 - i) = c + 1 by omega, ← hG, ← hY] at h
    rw [hkk, hROW]
    exact h
  have hGn : c + 1 ≤ G := by rw [hG]; exact grownCap_ge w _ _ _
  have hGm : G ≤ maxLen := by rw [hG]; exact grownCap_le_maxLen w (c + 1) c 3 (by unfold maxLen; omega)
  have hRl : ROW.size = G * 1 := by
    rw [hROW]
    simp [Builtin.zeroCells, Value.cells]
    omega
  have hRt : ROW.toList.take (i) = inner.take (i) := by
    rw [hROW]
    simp only [Array.toList_append, List.append_assoc]
    rw [List.take_append_of_le_length (by simp only [List.length_take]; omega)]
    exact List.take_of_length_le (by simp only [List.length_take]; omega)
  have hsr := grow_row ROW.toList cs inner c i 1 (by omega) (by rw [Array.length_toList, hRl]; omega) hcl hilen (by rw [Nat.mul_one]; exact hRt)
  simp only [Nat.mul_one] at hsr
  obtain ⟨R1, hR1⟩ : ∃ R1, R1 = ROW.toList.take (i) ++ cs ++ ROW.toList.drop (i + cs.length) := ⟨_, rfl⟩
  obtain ⟨R2, hR2⟩ : ∃ R2, R2 = R1.take (i + 1) ++ inner.drop (i) ++ R1.drop (i + 1 + (inner.drop (i)).length) := ⟨_, rfl⟩
  simp only [← hR1, ← hR2] at hsr
  obtain ⟨hl1, hl2, hf⟩ := hsr
  have hdl : (inner.drop (i)).length = (c - i) * 1 := by rw [List.length_drop, hilen]; omega
  obtain ⟨W1, hW1⟩ : ∃ W1, W1 = w.alloc (.cells ROW 3) := ⟨_, rfl⟩
  have hrz' : ∀ ty, (Builtin.append_ #[27, 3] ty #[.slice (some ⟨g, 0, none⟩) i c, .int .i64 ((c : Int) + 1 - (i : Int))]).run Try.prog w = .ok (.slice (some ⟨Y, 0, none⟩) (c + 1) G) W1.drew := fun ty => by rw [hrz ty, hW1]; rfl
  have hy1 : W1.heap[Y]? = some (.cells ROW 3 (0, 0)) := by rw [hW1, hY]; exact heap_alloc_new w _
  have hg1 : W1.heap[g]? = some (.cells cur 3 (0, 0)) := by rw [hW1, Below.heap_alloc w _ g (by omega)]; exact hhw
  have hx1 : W1.heap[X]? = some (.cells cs.toArray 3 (0, 0)) := by rw [hW1, Below.heap_alloc w _ X (by omega)]; exact hxw
  have hgr1 : W.grownBy W1 (some g) := hgr.trans (by rw [hW1]; exact World.grownBy_alloc w _ _)
  have hcp1 : ∀ ty dc, (Builtin.copy_ #[27, 27] ty #[.slice (some ⟨Y, i, none⟩) (c + 1 - i) dc, .slice (some ⟨X, 0, none⟩) 1 1]).run Try.prog W1.drew = .ok (goInt ((1 : Nat) : Int)) (W1.drew.setRow Y R1.toArray) := fun ty dc => by
    have hmin : Nat.min 1 (c + 1 - i) = 1 := by simp only [Nat.min_def]; split <;> omega
    rw [run_copy_rowN W1.drew 27 27 ty 3 Y (i) (c + 1 - i) dc ⟨X, 0, none⟩ 1 1 ROW 3 cs 1 Try.underlying27 hsz hy1 (by rw [hmin, hcl])
      (fun j u hj => by
        have e : (⟨X, 0, none⟩ : Addr).add j = ⟨X, j, none⟩ := by unfold Addr.add; split <;> simp_all
        rw [e, World.cell?_drew, cell_of_row W1 X j cs.toArray 3 (0, 0) hx1]
        simpa using hj) (by omega) h1, hmin, hR1]
  have hy2 : (W1.drew.setRow Y R1.toArray).heap[Y]? = some (.cells R1.toArray 3 (0, 0)) := setRow_heap W1.drew Y ROW R1.toArray 3 (0, 0) hy1
  have hg2 : (W1.drew.setRow Y R1.toArray).heap[g]? = some (.cells cur 3 (0, 0)) := by rw [setRow_other W1.drew Y g R1.toArray hgY]; exact hg1
  obtain ⟨W2, hW2⟩ : ∃ W2, W2 = W1.drew.setRow Y R1.toArray := ⟨_, rfl⟩
  rw [← hW2] at hy2 hg2
  simp only [← hW2] at hcp1
  have hcp2 : ∀ ty dc sc, (Builtin.copy_ #[27, 27] ty #[.slice (some ⟨Y, i + 1, none⟩) (c + 1 - (i + 1)) dc, .slice (some ⟨g, i, none⟩) (c - i) sc]).run Try.prog W2.drew = .ok (goInt ((c - i : Nat) : Int)) (W2.drew.setRow Y R2.toArray) := fun ty dc sc => by
    have hmin : Nat.min (c - i) (c + 1 - (i + 1)) = c - i := by simp only [Nat.min_def]; split <;> omega
    rw [run_copy_rowN W2.drew 27 27 ty 3 Y (i + 1) (c + 1 - (i + 1)) dc ⟨g, i, none⟩ (c - i) sc R1.toArray 3 (inner.drop (i)) 1 Try.underlying27 hsz hy2 (by rw [hmin, hdl])
      (fun j u hj => by
        have e : (⟨g, i, none⟩ : Addr).add j = ⟨g, i + j, none⟩ := by unfold Addr.add; split <;> simp_all
        rw [e, World.cell?_drew, cell_of_row W2 g _ cur 3 (0, 0) hg2]
        rw [List.getElem?_drop] at hj
        exact hcell _ u hj) (by have h5 : R1.toArray.size = R1.length := rfl; have h6 : ROW.toList.length = ROW.size := Array.length_toList; omega) (fun u hu => h1i u (List.mem_of_mem_drop hu)), hmin, hR2]
  have hpost : InsPost W base 3 1 (.slice (some ⟨g, 0, none⟩) c c) c i inner cs (.returned (.slice (some ⟨Y, 0, none⟩) (c + 1) G)) (W2.drew.setRow Y R2.toArray) := by
    refine ⟨_, rfl, ⟨by simp only [List.length_append, List.length_take, List.length_drop]; omega, .inr ⟨Y, G, R2.toArray, rfl, by omega, ?_, hGn, hGm, by rw [List.size_toArray, hl2, Array.length_toList, hRl], by simpa using hf⟩⟩, ?_, .inr ⟨Y, rfl, by omega⟩⟩
    · exact setRow_heap _ Y R1.toArray _ 3 (0, 0) hy2
    · have hk : ∀ k, k < W.heap.size → (W2.drew.setRow Y R2.toArray).heap[k]? = W1.heap[k]? := fun k hk => by
        rw [setRow_other W2.drew Y k R2.toArray (by omega)]
        show W2.heap[k]? = _
        rw [hW2, setRow_other W1.drew Y k R1.toArray (by omega)]
        rfl
      have hz2 : (W2.drew.setRow Y R2.toArray).heap.size = W1.heap.size := by
        show (W2.heap.modify Y _).size = _
        rw [Array.size_modify, hW2]
        show (W1.heap.modify Y _).size = _
        rw [Array.size_modify]
      exact ⟨by rw [← hgr1.os, hW2]; rfl, by rw [← hgr1.tape, hW2]; rfl, by rw [← hgr1.output, hW2]; rfl, by rw [hz2]; exact hgr1.size, fun k hk2 hn => (hk k hk2).trans (hgr1.block k hk2 hn)⟩
  have HP := Aside0.mk hpost
  have hz2 : ((i : Int) == (c : Int)) = false := beq_eq_false_iff_ne.mpr (by omega)
  have hz3 : decide ((c : Int) + 1 > (c : Int)) = true := by simp; omega
  have hb2 : ¬ (G = i + 1) := by omega
  have hb4 : ¬ (G = i) := by omega
  have hb5 : ¬ (c = i) := by omega
  have hin : i ≤ c := by omega
  have hb3 : (i : Int) ≤ (c : Int) + 1 := by omega
  unfold maxLen at hGm
  clear hpost hf hl1 hl2 hR1 hR2 hgr hhw hxw hh ht hcs hilen hX hw hdl hrz hold hROW hG hRl hRt hy1 hg1 hx1 hgr1 hy2 hg2 hW1 hW2 hkk hcell hwz hY
  go_enter Try.func35, Try.ntmps35
  go_wp2_with (first
    | (at_builtin; refine Lib.wpList_append_run _ rfl _ _ _ _ rfl _ _ rfl rfl _ _ (hrz' _) ?_)
    | (at_builtin; refine wpList_copy_runI _ rfl (.tmp 43) (.tmp 44) 27 27 rfl _ _ rfl rfl (hcp1 _ _) ?_))
  have hw1 : IntKind.i64.wrap ((i : Int) + 1) = (i : Int) + 1 := by rw [IntKind.wrap_i64]; omega
  have hw2 : (0 : Int) ≤ (i : Int) + 1 := by omega
  have hw3 : (i : Int) + 1 ≤ (c : Int) + 1 := by omega
  have hw4 : ((i : Int) + 1).toNat = i + 1 := by omega
  have hw5 : (i : Int) ≤ (c : Int) := by omega
  go_region_law ((refine step_copy_runI rfl (.tmp 50) (.tmp 53) 27 27 rfl (.slice (some ⟨Y, i + 1, none⟩) (c + 1 - (i + 1)) (G - (i + 1))) (.slice (some ⟨g, i, none⟩) (c - i) (c - i)) (by simp [Act.eval, Act.put]) (by simp [Act.eval, Act.put]) (hcp2 _ _ _) ?_))
  clear hw1 hw2 hw3 hw4 hw5
  go_wp2_with fail
  go_ret
  exact HP.out

theorem info_pair : (Try.prog.info? 44).map (fun i => (i.zero, i.size, i.bytes)) = some (some (.agg #[.int .i64 0, .int .i64 0]), 2, 16) := by kernel_rfl
theorem overlaps_pair (w : World) (a b : Addr) (la ca lb cb : Nat) (hne : a.block ≠ b.block) (tA tB : TypeId) (kA kB : Nat)
    (hsa : w.shape? a.block = some (tA, kA)) (hsb : w.shape? b.block = some (tB, kB)) (hkB : kB ≠ 0) (hfa : w.frozen? a = false) (hfe : w.frozen? { block := a.block, off := kA } = false) :
    (callFunc 50 #[.slice (some a) la ca, .slice (some b) lb cb]).run Try.prog w = .ok (.value (.bool false)) w := by
  rw [run_callFunc_extern Try.func50 (by kernel_rfl) (by kernel_rfl) (by kernel_rfl) (e := Extern.SlicesOverlaps.overlaps #[47, 47] #[4]) (by kernel_rfl),
    Lib.run_overlaps_apart w 47 4 44 Try.underlying47 2 (fun _ => by kernel_rfl) a b la ca lb cb hne tA tB kA kB hsa hsb hkB hfa hfe]
  rfl
set_option maxHeartbeats 4000000 in
set_option maxRecDepth 100000 in
theorem insert_end_pair (W : World) (base : Nat) (v : Value) (n : Nat) (inner cs : List Value) (hcl : cs.length = 2) (h1 : ∀ u ∈ cs, u.oneCell' = true) (hown : W.ownsRow base 44 2 v n inner) (hbase : base ≤ W.heap.size) (hn : n ≤ 1000000) :
    Calls Try.prog 40 #[v, .int .i64 (n : Int), .slice (some ⟨W.heap.size, 0, none⟩) 1 1] (W.alloc (.cells cs.toArray 44)) (InsPost W base 44 2 v n n inner cs) := by
  have hil := hown.1
  have HO := Aside0.mk hown
  have hvs : ∃ A c, v = .slice A n c ∧ n ≤ c := by
    rcases hown.2 with ⟨rfl, h0⟩ | ⟨g, cap, cur, rfl, hb, hh, hnc, r⟩
    · exact ⟨none, 0, by rw [h0], by omega⟩
    · exact ⟨_, cap, rfl, hnc⟩
  obtain ⟨A, c, rfl, hnc⟩ := hvs
  clear hown
  have hpost : ∀ v1 w1, w1.ownsRow base 44 2 v1 (n + 1) (inner ++ cs) → W.grownBy w1 (Value.slice A n c).ownBlock → (v1.ownBlock = (Value.slice A n c).ownBlock ∨ ∃ b, v1.ownBlock = some b ∧ W.heap.size ≤ b) → InsPost W base 44 2 (.slice A n c) n n inner cs (.returned v1) w1 := fun v1 w1 ho hg hat =>
    ⟨v1, rfl, by rw [List.take_of_length_le (by omega), List.drop_eq_nil_of_le (by omega), List.append_nil]; exact ho, hg, hat⟩
  have HP := Aside0.mk hpost
  clear hpost
  by_cases hcn : c = n
  · subst hcn
    go_enter Try.func40, Try.ntmps40
    go_wp2_with (first
      | (at_builtin; refine print_append_cells (w0 := W) base rfl (.tmp 23) (.tmp 24) 47 44 (.agg #[.int .i64 0, .int .i64 0]) 2 16 rfl Try.underlying47 info_pair rfl (by omega) (by omega) (.slice A c c) c inner cs rfl rfl hcl h1 HO.out ((Below.refl _ _).mono hbase) hbase (by omega) ?_; intro v1 w1 ho1 hb1 hg1 hat1; have HG := Aside0.mk (HP.out v1 w1 ho1 hg1 hat1); clear ho1 hb1 hg1 hat1))
    all_goals (go_ret; exact HG.out)
  · skip
    go_enter Try.func40, Try.ntmps40
    go_wp2_with (first
      | (at_builtin; refine print_append_cells (w0 := W) base rfl (.tmp 23) (.tmp 24) 47 44 (.agg #[.int .i64 0, .int .i64 0]) 2 16 rfl Try.underlying47 info_pair rfl (by omega) (by omega) (.slice A n c) n inner cs rfl rfl hcl h1 HO.out ((Below.refl _ _).mono hbase) hbase (by omega) ?_; intro v1 w1 ho1 hb1 hg1 hat1; have HG := Aside0.mk (HP.out v1 w1 ho1 hg1 hat1); clear ho1 hb1 hg1 hat1))
    all_goals (go_ret; exact HG.out)
set_option maxHeartbeats 4000000 in
set_option maxRecDepth 100000 in
theorem insert_shift_pair (W : World) (base : Nat) (g n c i : Nat) (cur : Array Value) (inner cs : List Value) (hcl : cs.length = 2) (h1 : ∀ u ∈ cs, u.oneCell' = true) (h1i : ∀ u ∈ inner, u.oneCell' = true) (hb : base ≤ g) (hh : W.heap[g]? = some (.cells cur 44 (0, 0))) (hcs : cur.size = c * 2) (ht : cur.toList.take (n * 2) = inner) (hcm : c ≤ maxLen)
    (hi : i < n) (hroom : n + 1 ≤ c) (hn : n ≤ 1000000) :
    Calls Try.prog 40 #[.slice (some ⟨g, 0, none⟩) n c, .int .i64 (i : Int), .slice (some ⟨W.heap.size, 0, none⟩) 1 1] (W.alloc (.cells cs.toArray 44)) (InsPost W base 44 2 (.slice (some ⟨g, 0, none⟩) n c) n i inner cs) := by
  have hgw : g < W.heap.size := by
    rcases Nat.lt_or_ge g W.heap.size with h' | h'
    · exact h'
    · rw [Array.getElem?_eq_none h'] at hh; cases hh
  have hilen : inner.length = n * 2 := by rw [← ht, List.length_take, Array.length_toList]; omega
  obtain ⟨X, hX⟩ : ∃ X, X = W.heap.size := ⟨_, rfl⟩
  obtain ⟨w, hw⟩ : ∃ w, w = W.alloc (.cells cs.toArray 44) := ⟨_, rfl⟩
  have hgX : X ≠ g := by omega
  have hhw : w.heap[g]? = some (.cells cur 44 (0, 0)) := by rw [hw, Below.heap_alloc W _ g hgw]; exact hh
  have hxw : w.heap[X]? = some (.cells cs.toArray 44 (0, 0)) := by rw [hw, hX]; exact heap_alloc_new W _
  have hgr : W.grownBy w (some g) := by rw [hw]; exact World.grownBy_alloc W _ _
  rw [← hX, ← hw]
  have hsr := shift_row cur.toList cs inner n i 2 c (by omega) (by rw [Array.length_toList]; exact hcs) hroom hcl ht
  obtain ⟨R1, hR1⟩ : ∃ R1, R1 = cur.toList.take ((i + 1) * 2) ++ inner.drop (i * 2) ++ cur.toList.drop ((i + 1) * 2 + (inner.drop (i * 2)).length) := ⟨_, rfl⟩
  obtain ⟨R2, hR2⟩ : ∃ R2, R2 = R1.take (i * 2) ++ cs ++ R1.drop (i * 2 + cs.length) := ⟨_, rfl⟩
  skip
  simp only [← hR1, ← hR2] at hsr
  have hdl : (inner.drop (i * 2)).length = (n - i) * 2 := by rw [List.length_drop, hilen]; omega
  have hR1l : R1.length = cur.size := by rw [hR1]; simp only [List.length_append, List.length_take, List.length_drop, Array.length_toList]; omega
  have hov : ∀ lb cb, (callFunc 50 #[.slice (some ⟨X, 0, none⟩) 1 1, .slice (some ⟨g, (i + 1) * 2, none⟩) lb cb]).run Try.prog w = .ok (.value (.bool false)) w := fun lb cb =>
    overlaps_pair w ⟨X, 0, none⟩ ⟨g, (i + 1) * 2, none⟩ 1 1 lb cb hgX 44 44 cs.toArray.size cur.size (shape_at hxw) (shape_at hhw) (by omega) (by simp [World.frozen?, hxw]) (by simp [World.frozen?, hxw])
  have hsz : (Try.prog.info? 44).map (·.size) = some 2 := by kernel_rfl
  have hcp1 : ∀ ty dc sc, (Builtin.copy_ #[47, 47] ty #[.slice (some ⟨g, (i + 1) * 2, none⟩) (n + 1 - (i + 1)) dc, .slice (some ⟨g, i * 2, none⟩) (n + 1 - i) sc]).run Try.prog w.drew = .ok (goInt ((n - i : Nat) : Int)) (w.drew.setRow g R1.toArray) := fun ty dc sc => by
    have hmin : Nat.min (n + 1 - i) (n + 1 - (i + 1)) = n - i := by simp only [Nat.min_def]; split <;> omega
    rw [run_copy_rowN w.drew 47 47 ty 44 g ((i + 1) * 2) (n + 1 - (i + 1)) dc ⟨g, i * 2, none⟩ (n + 1 - i) sc cur 44 (inner.drop (i * 2)) 2 Try.underlying47 hsz hhw (by rw [hmin, hdl])
      (fun j u hj => by
        have e : (⟨g, i * 2, none⟩ : Addr).add j = ⟨g, i * 2 + j, none⟩ := by unfold Addr.add; split <;> simp_all
        rw [e, World.cell?_drew, cell_of_row w g _ cur 44 (0, 0) hhw]
        rw [List.getElem?_drop, ← ht, List.getElem?_take] at hj
        split at hj
        · rw [← Array.getElem?_toList]; exact hj
        · cases hj) (by omega) (fun u hu => h1i u (List.mem_of_mem_drop hu)), hmin, ← hR1]
  have hcp2 : ∀ ty dc, (Builtin.copy_ #[47, 47] ty #[.slice (some ⟨g, i * 2, none⟩) (n + 1 - i) dc, .slice (some ⟨X, 0, none⟩) 1 1]).run Try.prog (w.drew.setRow g R1.toArray) = .ok (goInt ((1 : Nat) : Int)) ((w.drew.setRow g R1.toArray).setRow g R2.toArray) := fun ty dc => by
    have hmin : Nat.min 1 (n + 1 - i) = 1 := by simp only [Nat.min_def]; split <;> omega
    have hg2 : (w.drew.setRow g R1.toArray).heap[g]? = some (.cells R1.toArray 44 (0, 0)) := setRow_heap w.drew g cur R1.toArray 44 (0, 0) hhw
    have hx2 : (w.drew.setRow g R1.toArray).heap[X]? = some (.cells cs.toArray 44 (0, 0)) := by rw [setRow_other w.drew g X R1.toArray hgX]; exact hxw
    rw [run_copy_rowN _ 47 47 ty 44 g (i * 2) (n + 1 - i) dc ⟨X, 0, none⟩ 1 1 R1.toArray 44 cs 2 Try.underlying47 hsz hg2 (by rw [hmin, hcl])
      (fun j u hj => by
        have e : (⟨X, 0, none⟩ : Addr).add j = ⟨X, j, none⟩ := by unfold Addr.add; split <;> simp_all
        rw [e, cell_of_row _ X j cs.toArray 44 (0, 0) hx2]
        simpa using hj) (by simp; omega) h1, hmin, hR2]
  have hpost : InsPost W base 44 2 (.slice (some ⟨g, 0, none⟩) n c) n i inner cs (.returned (.slice (some ⟨g, 0, none⟩) (n + 1) c)) ((w.drew.setRow g R1.toArray).setRow g R2.toArray) := by
    refine ⟨_, rfl, ⟨by simp only [List.length_append, List.length_take, List.length_drop]; omega, .inr ⟨g, c, R2.toArray, rfl, hb, ?_, hroom, hcm, by simpa using hsr.1, by simpa using hsr.2⟩⟩, ?_, .inl rfl⟩
    · exact setRow_heap _ g R1.toArray _ 44 (0, 0) (setRow_heap w.drew g cur _ 44 (0, 0) hhw)
    · exact grown_setRow (grown_setRow (grown_drew hgr) _) _
  have HP := Aside0.mk hpost
  have hz2 : ((i : Int) == (n : Int)) = false := beq_eq_false_iff_ne.mpr (by omega)
  have hz3 : decide ((n : Int) + 1 > (c : Int)) = false := by simp; omega
  have hb2 : ¬ (c = i + 1) := by omega
  have hb4 : ¬ (c = i) := by omega
  have hin : i ≤ n := by omega
  have hb3 : (i : Int) ≤ (n : Int) + 1 := by omega
  clear hpost hsr hR1 hR2 hgr hhw hxw hh ht hcs hilen hX hw hdl hR1l
  unfold maxLen at hcm
  go_enter Try.func40, Try.ntmps40
  go_wp2_with (simp only [hov])
  have hw1 : IntKind.i64.wrap ((i : Int) + 1) = (i : Int) + 1 := by rw [IntKind.wrap_i64]; omega
  have hw2 : (0 : Int) ≤ (i : Int) + 1 := by omega
  have hw3 : (i : Int) + 1 ≤ (n : Int) + 1 := by omega
  have hw4 : ((i : Int) + 1).toNat = i + 1 := by omega
  go_region_law ((refine step_copy_runI rfl (.tmp 73) (.tmp 76) 47 47 rfl (.slice (some ⟨g, (i + 1) * 2, none⟩) (n + 1 - (i + 1)) (c - (i + 1))) (.slice (some ⟨g, i * 2, none⟩) (n + 1 - i) (c - i)) (by simp [Act.eval, Act.put]) (by simp [Act.eval, Act.put]) (hcp1 _ _ _) ?_))
  clear hw1 hw2 hw3 hw4
  go_wp2_with (at_builtin; refine wpList_copy_runI _ rfl (.tmp 80) (.tmp 81) 47 47 rfl _ _ rfl rfl (hcp2 _ _) ?_)
  go_ret
  exact HP.out
set_option maxHeartbeats 4000000 in
set_option maxRecDepth 100000 in
theorem insert_grow_pair (W : World) (base : Nat) (g n c i : Nat) (cur : Array Value) (inner cs : List Value) (hcl : cs.length = 2) (h1 : ∀ u ∈ cs, u.oneCell' = true) (h1i : ∀ u ∈ inner, u.oneCell' = true) (hb : base ≤ g) (hbW : base ≤ W.heap.size) (hh : W.heap[g]? = some (.cells cur 44 (0, 0))) (hcs : cur.size = c * 2) (ht : cur.toList.take (n * 2) = inner) (hnc : n ≤ c)
    (hi : i < n) (hroom : c < n + 1) (hn : n ≤ 1000000) :
    Calls Try.prog 40 #[.slice (some ⟨g, 0, none⟩) n c, .int .i64 (i : Int), .slice (some ⟨W.heap.size, 0, none⟩) 1 1] (W.alloc (.cells cs.toArray 44)) (InsPost W base 44 2 (.slice (some ⟨g, 0, none⟩) n c) n i inner cs) := by
  obtain rfl : c = n := by omega
  have hgw : g < W.heap.size := by
    rcases Nat.lt_or_ge g W.heap.size with h' | h'
    · exact h'
    · rw [Array.getElem?_eq_none h'] at hh; cases hh
  have hilen : inner.length = c * 2 := by rw [← ht, List.length_take, Array.length_toList]; omega
  obtain ⟨X, hX⟩ : ∃ X, X = W.heap.size := ⟨_, rfl⟩
  obtain ⟨w, hw⟩ : ∃ w, w = W.alloc (.cells cs.toArray 44) := ⟨_, rfl⟩
  have hwz : w.heap.size = X + 1 := by rw [hw, World.size_alloc, hX]
  obtain ⟨Y, hY⟩ : ∃ Y, Y = w.heap.size := ⟨_, rfl⟩
  have hgX : X ≠ g := by omega
  have hgY : g ≠ Y := by omega
  have hXY : X ≠ Y := by omega
  have hhw : w.heap[g]? = some (.cells cur 44 (0, 0)) := by rw [hw, Below.heap_alloc W _ g hgw]; exact hh
  have hxw : w.heap[X]? = some (.cells cs.toArray 44 (0, 0)) := by rw [hw, hX]; exact heap_alloc_new W _
  have hgr : W.grownBy w (some g) := by rw [hw]; exact World.grownBy_alloc W _ _
  rw [← hX, ← hw]
  have hsz : (Try.prog.info? 44).map (·.size) = some 2 := by kernel_rfl
  obtain ⟨i0, hi0, hz0, hzs, hzb⟩ := info_parts info_pair
  have hcell : ∀ j u, inner[j]? = some u → cur[j]? = some u := fun j u hj => by
    rw [← ht, List.getElem?_take] at hj
    split at hj
    · rw [← Array.getElem?_toList]; exact hj
    · cases hj
  have hold : (Builtin.firstCells i0.size i (.slice (some ⟨g, 0, none⟩) i c)).run Try.prog w.drew = .ok (inner.take (i * 2)).toArray w.drew := by
    rw [hzs]
    exact run_firstCells_some w.drew 2 i ⟨g, 0, none⟩ i c (inner.take (i * 2)) (by rw [List.length_take]; omega) (fun j u hj => by
      have e : (⟨g, 0, none⟩ : Addr).add j = ⟨g, j, none⟩ := by unfold Addr.add; split <;> simp_all
      rw [e, World.cell?_drew, cell_of_row w g _ cur 44 (0, 0) hhw]
      rw [List.getElem?_take] at hj
      split at hj
      · exact hcell j u hj
      · cases hj)
  obtain ⟨G, hG⟩ : ∃ G, G = grownCap w (c + 1) c 44 := ⟨_, rfl⟩
  obtain ⟨ROW, hROW⟩ : ∃ ROW : Array Value, ROW = (inner.take (i * 2)).toArray ++ Builtin.zeroCells ((.agg #[.int .i64 0, .int .i64 0]) : Value).cells (c + 1 - i) ++ Builtin.zeroCells ((.agg #[.int .i64 0, .int .i64 0]) : Value).cells (G - (c + 1)) := ⟨_, rfl⟩
  have hkk : (c : Int) + 1 - (i : Int) = ((c + 1 - i : Nat) : Int) := by omega
  have hrz : ∀ ty, (Builtin.append_ #[47, 3] ty #[.slice (some ⟨g, 0, none⟩) i c, .int .i64 ((c : Int) + 1 - (i : Int))]).run Try.prog w = .ok (.slice (some ⟨Y, 0, none⟩) (c + 1) G) (w.drew.alloc (.cells ROW 44)) := fun ty => by
    have h := Lib.run_append_grow_zeros w 47 3 ty 44 i0 _ .i64 .i64 Try.underlying47 Try.underlying3 hi0 hz0 (some ⟨g, 0, none⟩) i c (inner.take (i * 2)) hold (c + 1 - i) (by omega) (by rw [hzs]; omega) (by omega) (by omega) (by rw [hzb]; omega) (by rw [hzb, show i + (c + 1 - i) = c + 1 by omega]; exact growslice_fits (by omega) (by omega))
    rw [show i + (c + 1 - i) = c + 1 by omega, ← hG, ← hY] at h
    rw [hkk, hROW]
    exact h
  have hGn : c + 1 ≤ G := by rw [hG]; exact grownCap_ge w _ _ _
  have hGm : G ≤ maxLen := by rw [hG]; exact grownCap_le_maxLen w (c + 1) c 44 (by unfold maxLen; omega)
  have hRl : ROW.size = G * 2 := by
    rw [hROW]
    simp [Builtin.zeroCells, Value.cells]
    omega
  have hRt : ROW.toList.take (i * 2) = inner.take (i * 2) := by
    rw [hROW]
    simp only [Array.toList_append, List.append_assoc]
    rw [List.take_append_of_le_length (by simp only [List.length_take]; omega)]
    exact List.take_of_length_le (by simp only [List.length_take]; omega)
  have hsr := grow_row ROW.toList cs inner c i 2 (by omega) (by rw [Array.length_toList, hRl]; omega) hcl hilen (by exact hRt)
  skip
  obtain ⟨R1, hR1⟩ : ∃ R1, R1 = ROW.toList.take (i * 2) ++ cs ++ ROW.toList.drop (i * 2 + cs.length) := ⟨_, rfl⟩
  obtain ⟨R2, hR2⟩ : ∃ R2, R2 = R1.take ((i + 1) * 2) ++ inner.drop (i * 2) ++ R1.drop ((i + 1) * 2 + (inner.drop (i * 2)).length) := ⟨_, rfl⟩
  simp only [← hR1, ← hR2] at hsr
  obtain ⟨hl1, hl2, hf⟩ := hsr
  have hdl : (inner.drop (i * 2)).length = (c - i) * 2 := by rw [List.length_drop, hilen]; omega
  obtain ⟨W1, hW1⟩ : ∃ W1, W1 = w.alloc (.cells ROW 44) := ⟨_, rfl⟩
  have hrz' : ∀ ty, (Builtin.append_ #[47, 3] ty #[.slice (some ⟨g, 0, none⟩) i c, .int .i64 ((c : Int) + 1 - (i : Int))]).run Try.prog w = .ok (.slice (some ⟨Y, 0, none⟩) (c + 1) G) W1.drew := fun ty => by rw [hrz ty, hW1]; rfl
  have hy1 : W1.heap[Y]? = some (.cells ROW 44 (0, 0)) := by rw [hW1, hY]; exact heap_alloc_new w _
  have hg1 : W1.heap[g]? = some (.cells cur 44 (0, 0)) := by rw [hW1, Below.heap_alloc w _ g (by omega)]; exact hhw
  have hx1 : W1.heap[X]? = some (.cells cs.toArray 44 (0, 0)) := by rw [hW1, Below.heap_alloc w _ X (by omega)]; exact hxw
  have hgr1 : W.grownBy W1 (some g) := hgr.trans (by rw [hW1]; exact World.grownBy_alloc w _ _)
  have hcp1 : ∀ ty dc, (Builtin.copy_ #[47, 47] ty #[.slice (some ⟨Y, i * 2, none⟩) (c + 1 - i) dc, .slice (some ⟨X, 0, none⟩) 1 1]).run Try.prog W1.drew = .ok (goInt ((1 : Nat) : Int)) (W1.drew.setRow Y R1.toArray) := fun ty dc => by
    have hmin : Nat.min 1 (c + 1 - i) = 1 := by simp only [Nat.min_def]; split <;> omega
    rw [run_copy_rowN W1.drew 47 47 ty 44 Y (i * 2) (c + 1 - i) dc ⟨X, 0, none⟩ 1 1 ROW 44 cs 2 Try.underlying47 hsz hy1 (by rw [hmin, hcl])
      (fun j u hj => by
        have e : (⟨X, 0, none⟩ : Addr).add j = ⟨X, j, none⟩ := by unfold Addr.add; split <;> simp_all
        rw [e, World.cell?_drew, cell_of_row W1 X j cs.toArray 44 (0, 0) hx1]
        simpa using hj) (by omega) h1, hmin, hR1]
  have hy2 : (W1.drew.setRow Y R1.toArray).heap[Y]? = some (.cells R1.toArray 44 (0, 0)) := setRow_heap W1.drew Y ROW R1.toArray 44 (0, 0) hy1
  have hg2 : (W1.drew.setRow Y R1.toArray).heap[g]? = some (.cells cur 44 (0, 0)) := by rw [setRow_other W1.drew Y g R1.toArray hgY]; exact hg1
  obtain ⟨W2, hW2⟩ : ∃ W2, W2 = W1.drew.setRow Y R1.toArray := ⟨_, rfl⟩
  rw [← hW2] at hy2 hg2
  simp only [← hW2] at hcp1
  have hcp2 : ∀ ty dc sc, (Builtin.copy_ #[47, 47] ty #[.slice (some ⟨Y, (i + 1) * 2, none⟩) (c + 1 - (i + 1)) dc, .slice (some ⟨g, i * 2, none⟩) (c - i) sc]).run Try.prog W2.drew = .ok (goInt ((c - i : Nat) : Int)) (W2.drew.setRow Y R2.toArray) := fun ty dc sc => by
    have hmin : Nat.min (c - i) (c + 1 - (i + 1)) = c - i := by simp only [Nat.min_def]; split <;> omega
    rw [run_copy_rowN W2.drew 47 47 ty 44 Y ((i + 1) * 2) (c + 1 - (i + 1)) dc ⟨g, i * 2, none⟩ (c - i) sc R1.toArray 44 (inner.drop (i * 2)) 2 Try.underlying47 hsz hy2 (by rw [hmin, hdl])
      (fun j u hj => by
        have e : (⟨g, i * 2, none⟩ : Addr).add j = ⟨g, i * 2 + j, none⟩ := by unfold Addr.add; split <;> simp_all
        rw [e, World.cell?_drew, cell_of_row W2 g _ cur 44 (0, 0) hg2]
        rw [List.getElem?_drop] at hj
        exact hcell _ u hj) (by have h5 : R1.toArray.size = R1.length := rfl; have h6 : ROW.toList.length = ROW.size := Array.length_toList; omega) (fun u hu => h1i u (List.mem_of_mem_drop hu)), hmin, hR2]
  have hpost : InsPost W base 44 2 (.slice (some ⟨g, 0, none⟩) c c) c i inner cs (.returned (.slice (some ⟨Y, 0, none⟩) (c + 1) G)) (W2.drew.setRow Y R2.toArray) := by
    refine ⟨_, rfl, ⟨by simp only [List.length_append, List.length_take, List.length_drop]; omega, .inr ⟨Y, G, R2.toArray, rfl, by omega, ?_, hGn, hGm, by rw [List.size_toArray, hl2, Array.length_toList, hRl], by simpa using hf⟩⟩, ?_, .inr ⟨Y, rfl, by omega⟩⟩
    · exact setRow_heap _ Y R1.toArray _ 44 (0, 0) hy2
    · have hk : ∀ k, k < W.heap.size → (W2.drew.setRow Y R2.toArray).heap[k]? = W1.heap[k]? := fun k hk => by
        rw [setRow_other W2.drew Y k R2.toArray (by omega)]
        show W2.heap[k]? = _
        rw [hW2, setRow_other W1.drew Y k R1.toArray (by omega)]
        rfl
      have hz2 : (W2.drew.setRow Y R2.toArray).heap.size = W1.heap.size := by
        show (W2.heap.modify Y _).size = _
        rw [Array.size_modify, hW2]
        show (W1.heap.modify Y _).size = _
        rw [Array.size_modify]
      exact ⟨by rw [← hgr1.os, hW2]; rfl, by rw [← hgr1.tape, hW2]; rfl, by rw [← hgr1.output, hW2]; rfl, by rw [hz2]; exact hgr1.size, fun k hk2 hn => (hk k hk2).trans (hgr1.block k hk2 hn)⟩
  have HP := Aside0.mk hpost
  have hz2 : ((i : Int) == (c : Int)) = false := beq_eq_false_iff_ne.mpr (by omega)
  have hz3 : decide ((c : Int) + 1 > (c : Int)) = true := by simp; omega
  have hb2 : ¬ (G = i + 1) := by omega
  have hb4 : ¬ (G = i) := by omega
  have hb5 : ¬ (c = i) := by omega
  have hin : i ≤ c := by omega
  have hb3 : (i : Int) ≤ (c : Int) + 1 := by omega
  unfold maxLen at hGm
  clear hpost hf hl1 hl2 hR1 hR2 hgr hhw hxw hh ht hcs hilen hX hw hdl hrz hold hROW hG hRl hRt hy1 hg1 hx1 hgr1 hy2 hg2 hW1 hW2 hkk hcell hwz hY
  go_enter Try.func40, Try.ntmps40
  go_wp2_with (first
    | (at_builtin; refine Lib.wpList_append_run _ rfl _ _ _ _ rfl _ _ rfl rfl _ _ (hrz' _) ?_)
    | (at_builtin; refine wpList_copy_runI _ rfl (.tmp 43) (.tmp 44) 47 47 rfl _ _ rfl rfl (hcp1 _ _) ?_))
  have hw1 : IntKind.i64.wrap ((i : Int) + 1) = (i : Int) + 1 := by rw [IntKind.wrap_i64]; omega
  have hw2 : (0 : Int) ≤ (i : Int) + 1 := by omega
  have hw3 : (i : Int) + 1 ≤ (c : Int) + 1 := by omega
  have hw4 : ((i : Int) + 1).toNat = i + 1 := by omega
  have hw5 : (i : Int) ≤ (c : Int) := by omega
  go_region_law ((refine step_copy_runI rfl (.tmp 50) (.tmp 53) 47 47 rfl (.slice (some ⟨Y, (i + 1) * 2, none⟩) (c + 1 - (i + 1)) (G - (i + 1))) (.slice (some ⟨g, i * 2, none⟩) (c - i) (c - i)) (by simp [Act.eval, Act.put]) (by simp [Act.eval, Act.put]) (hcp2 _ _ _) ?_))
  clear hw1 hw2 hw3 hw4 hw5
  go_wp2_with fail
  go_ret
  exact HP.out

theorem info_str : (Try.prog.info? 9).map (fun i => (i.zero, i.size, i.bytes)) = some (some (.string ⟨#[]⟩), 1, 16) := by kernel_rfl
theorem overlaps_str (w : World) (a b : Addr) (la ca lb cb : Nat) (hne : a.block ≠ b.block) (tA tB : TypeId) (kA kB : Nat)
    (hsa : w.shape? a.block = some (tA, kA)) (hsb : w.shape? b.block = some (tB, kB)) (hkB : kB ≠ 0) (hfa : w.frozen? a = false) (hfe : w.frozen? { block := a.block, off := kA } = false) :
    (callFunc 53 #[.slice (some a) la ca, .slice (some b) lb cb]).run Try.prog w = .ok (.value (.bool false)) w := by
  rw [run_callFunc_extern Try.func53 (by kernel_rfl) (by kernel_rfl) (by kernel_rfl) (e := Extern.SlicesOverlaps.overlaps #[50, 50] #[4]) (by kernel_rfl),
    Lib.run_overlaps_apart w 50 4 9 Try.underlying50 1 (fun _ => by kernel_rfl) a b la ca lb cb hne tA tB kA kB hsa hsb hkB hfa hfe]
  rfl
set_option maxHeartbeats 4000000 in
set_option maxRecDepth 100000 in
theorem insert_end_str (W : World) (base : Nat) (v : Value) (n : Nat) (inner cs : List Value) (hcl : cs.length = 1) (h1 : ∀ u ∈ cs, u.oneCell' = true) (hown : W.ownsRow base 9 1 v n inner) (hbase : base ≤ W.heap.size) (hn : n ≤ 1000000) :
    Calls Try.prog 44 #[v, .int .i64 (n : Int), .slice (some ⟨W.heap.size, 0, none⟩) 1 1] (W.alloc (.cells cs.toArray 9)) (InsPost W base 9 1 v n n inner cs) := by
  have hil := hown.1
  have HO := Aside0.mk hown
  have hvs : ∃ A c, v = .slice A n c ∧ n ≤ c := by
    rcases hown.2 with ⟨rfl, h0⟩ | ⟨g, cap, cur, rfl, hb, hh, hnc, r⟩
    · exact ⟨none, 0, by rw [h0], by omega⟩
    · exact ⟨_, cap, rfl, hnc⟩
  obtain ⟨A, c, rfl, hnc⟩ := hvs
  clear hown
  have hpost : ∀ v1 w1, w1.ownsRow base 9 1 v1 (n + 1) (inner ++ cs) → W.grownBy w1 (Value.slice A n c).ownBlock → (v1.ownBlock = (Value.slice A n c).ownBlock ∨ ∃ b, v1.ownBlock = some b ∧ W.heap.size ≤ b) → InsPost W base 9 1 (.slice A n c) n n inner cs (.returned v1) w1 := fun v1 w1 ho hg hat =>
    ⟨v1, rfl, by rw [List.take_of_length_le (by omega), List.drop_eq_nil_of_le (by omega), List.append_nil]; exact ho, hg, hat⟩
  have HP := Aside0.mk hpost
  clear hpost
  by_cases hcn : c = n
  · subst hcn
    go_enter Try.func44, Try.ntmps44
    go_wp2_with (first
      | (at_builtin; refine print_append_cells (w0 := W) base rfl (.tmp 23) (.tmp 24) 50 9 (.string ⟨#[]⟩) 1 16 rfl Try.underlying50 info_str rfl (by omega) (by omega) (.slice A c c) c inner cs rfl rfl hcl h1 HO.out ((Below.refl _ _).mono hbase) hbase (by omega) ?_; intro v1 w1 ho1 hb1 hg1 hat1; have HG := Aside0.mk (HP.out v1 w1 ho1 hg1 hat1); clear ho1 hb1 hg1 hat1))
    all_goals (go_ret; exact HG.out)
  · skip
    go_enter Try.func44, Try.ntmps44
    go_wp2_with (first
      | (at_builtin; refine print_append_cells (w0 := W) base rfl (.tmp 23) (.tmp 24) 50 9 (.string ⟨#[]⟩) 1 16 rfl Try.underlying50 info_str rfl (by omega) (by omega) (.slice A n c) n inner cs rfl rfl hcl h1 HO.out ((Below.refl _ _).mono hbase) hbase (by omega) ?_; intro v1 w1 ho1 hb1 hg1 hat1; have HG := Aside0.mk (HP.out v1 w1 ho1 hg1 hat1); clear ho1 hb1 hg1 hat1))
    all_goals (go_ret; exact HG.out)
set_option maxHeartbeats 4000000 in
set_option maxRecDepth 100000 in
theorem insert_shift_str (W : World) (base : Nat) (g n c i : Nat) (cur : Array Value) (inner cs : List Value) (hcl : cs.length = 1) (h1 : ∀ u ∈ cs, u.oneCell' = true) (h1i : ∀ u ∈ inner, u.oneCell' = true) (hb : base ≤ g) (hh : W.heap[g]? = some (.cells cur 9 (0, 0))) (hcs : cur.size = c * 1) (ht : cur.toList.take (n * 1) = inner) (hcm : c ≤ maxLen)
    (hi : i < n) (hroom : n + 1 ≤ c) (hn : n ≤ 1000000) :
    Calls Try.prog 44 #[.slice (some ⟨g, 0, none⟩) n c, .int .i64 (i : Int), .slice (some ⟨W.heap.size, 0, none⟩) 1 1] (W.alloc (.cells cs.toArray 9)) (InsPost W base 9 1 (.slice (some ⟨g, 0, none⟩) n c) n i inner cs) := by
  have hgw : g < W.heap.size := by
    rcases Nat.lt_or_ge g W.heap.size with h' | h'
    · exact h'
    · rw [Array.getElem?_eq_none h'] at hh; cases hh
  have hilen : inner.length = n * 1 := by rw [← ht, List.length_take, Array.length_toList]; omega
  obtain ⟨X, hX⟩ : ∃ X, X = W.heap.size := ⟨_, rfl⟩
  obtain ⟨w, hw⟩ : ∃ w, w = W.alloc (.cells cs.toArray 9) := ⟨_, rfl⟩
  have hgX : X ≠ g := by omega
  have hhw : w.heap[g]? = some (.cells cur 9 (0, 0)) := by rw [hw, Below.heap_alloc W _ g hgw]; exact hh
  have hxw : w.heap[X]? = some (.cells cs.toArray 9 (0, 0)) := by rw [hw, hX]; exact heap_alloc_new W _
  have hgr : W.grownBy w (some g) := by rw [hw]; exact World.grownBy_alloc W _ _
  rw [← hX, ← hw]
  have hsr := shift_row cur.toList cs inner n i 1 c (by omega) (by rw [Array.length_toList]; exact hcs) hroom hcl ht
  obtain ⟨R1, hR1⟩ : ∃ R1, R1 = cur.toList.take (i + 1) ++ inner.drop (i) ++ cur.toList.drop (i + 1 + (inner.drop (i)).length) := ⟨_, rfl⟩
  obtain ⟨R2, hR2⟩ : ∃ R2, R2 = R1.take (i) ++ cs ++ R1.drop (i + cs.length) := ⟨_, rfl⟩
  simp only [Nat.mul_one] at hsr
  simp only [← hR1, ← hR2] at hsr
  have hdl : (inner.drop (i)).length = (n - i) * 1 := by rw [List.length_drop, hilen]; omega
  have hR1l : R1.length = cur.size := by rw [hR1]; simp only [List.length_append, List.length_take, List.length_drop, Array.length_toList]; omega
  have hov : ∀ lb cb, (callFunc 53 #[.slice (some ⟨X, 0, none⟩) 1 1, .slice (some ⟨g, i + 1, none⟩) lb cb]).run Try.prog w = .ok (.value (.bool false)) w := fun lb cb =>
    overlaps_str w ⟨X, 0, none⟩ ⟨g, i + 1, none⟩ 1 1 lb cb hgX 9 9 cs.toArray.size cur.size (shape_at hxw) (shape_at hhw) (by omega) (by simp [World.frozen?, hxw]) (by simp [World.frozen?, hxw])
  have hsz : (Try.prog.info? 9).map (·.size) = some 1 := by kernel_rfl
  have hcp1 : ∀ ty dc sc, (Builtin.copy_ #[50, 50] ty #[.slice (some ⟨g, i + 1, none⟩) (n + 1 - (i + 1)) dc, .slice (some ⟨g, i, none⟩) (n + 1 - i) sc]).run Try.prog w.drew = .ok (goInt ((n - i : Nat) : Int)) (w.drew.setRow g R1.toArray) := fun ty dc sc => by
    have hmin : Nat.min (n + 1 - i) (n + 1 - (i + 1)) = n - i := by simp only [Nat.min_def]; split <;> omega
    rw [run_copy_rowN w.drew 50 50 ty 9 g (i + 1) (n + 1 - (i + 1)) dc ⟨g, i, none⟩ (n + 1 - i) sc cur 9 (inner.drop (i)) 1 Try.underlying50 hsz hhw (by rw [hmin, hdl])
      (fun j u hj => by
        have e : (⟨g, i, none⟩ : Addr).add j = ⟨g, i + j, none⟩ := by unfold Addr.add; split <;> simp_all
        rw [e, World.cell?_drew, cell_of_row w g _ cur 9 (0, 0) hhw]
        rw [List.getElem?_drop, ← ht, List.getElem?_take] at hj
        split at hj
        · rw [← Array.getElem?_toList]; exact hj
        · cases hj) (by omega) (fun u hu => h1i u (List.mem_of_mem_drop hu)), hmin, ← hR1]
  have hcp2 : ∀ ty dc, (Builtin.copy_ #[50, 50] ty #[.slice (some ⟨g, i, none⟩) (n + 1 - i) dc, .slice (some ⟨X, 0, none⟩) 1 1]).run Try.prog (w.drew.setRow g R1.toArray) = .ok (goInt ((1 : Nat) : Int)) ((w.drew.setRow g R1.toArray).setRow g R2.toArray) := fun ty dc => by
    have hmin : Nat.min 1 (n + 1 - i) = 1 := by simp only [Nat.min_def]; split <;> omega
    have hg2 : (w.drew.setRow g R1.toArray).heap[g]? = some (.cells R1.toArray 9 (0, 0)) := setRow_heap w.drew g cur R1.toArray 9 (0, 0) hhw
    have hx2 : (w.drew.setRow g R1.toArray).heap[X]? = some (.cells cs.toArray 9 (0, 0)) := by rw [setRow_other w.drew g X R1.toArray hgX]; exact hxw
    rw [run_copy_rowN _ 50 50 ty 9 g (i) (n + 1 - i) dc ⟨X, 0, none⟩ 1 1 R1.toArray 9 cs 1 Try.underlying50 hsz hg2 (by rw [hmin, hcl])
      (fun j u hj => by
        have e : (⟨X, 0, none⟩ : Addr).add j = ⟨X, j, none⟩ := by unfold Addr.add; split <;> simp_all
        rw [e, cell_of_row _ X j cs.toArray 9 (0, 0) hx2]
        simpa using hj) (by simp; omega) h1, hmin, hR2]
  have hpost : InsPost W base 9 1 (.slice (some ⟨g, 0, none⟩) n c) n i inner cs (.returned (.slice (some ⟨g, 0, none⟩) (n + 1) c)) ((w.drew.setRow g R1.toArray).setRow g R2.toArray) := by
    refine ⟨_, rfl, ⟨by simp only [List.length_append, List.length_take, List.length_drop]; omega, .inr ⟨g, c, R2.toArray, rfl, hb, ?_, hroom, hcm, by simpa using hsr.1, by simpa using hsr.2⟩⟩, ?_, .inl rfl⟩
    · exact setRow_heap _ g R1.toArray _ 9 (0, 0) (setRow_heap w.drew g cur _ 9 (0, 0) hhw)
    · exact grown_setRow (grown_setRow (grown_drew hgr) _) _
  have HP := Aside0.mk hpost
  have hz2 : ((i : Int) == (n : Int)) = false := beq_eq_false_iff_ne.mpr (by omega)
  have hz3 : decide ((n : Int) + 1 > (c : Int)) = false := by simp; omega
  have hb2 : ¬ (c = i + 1) := by omega
  have hb4 : ¬ (c = i) := by omega
  have hin : i ≤ n := by omega
  have hb3 : (i : Int) ≤ (n : Int) + 1 := by omega
  clear hpost hsr hR1 hR2 hgr hhw hxw hh ht hcs hilen hX hw hdl hR1l
  unfold maxLen at hcm
  go_enter Try.func44, Try.ntmps44
  go_wp2_with (simp only [hov])
  have hw1 : IntKind.i64.wrap ((i : Int) + 1) = (i : Int) + 1 := by rw [IntKind.wrap_i64]; omega
  have hw2 : (0 : Int) ≤ (i : Int) + 1 := by omega
  have hw3 : (i : Int) + 1 ≤ (n : Int) + 1 := by omega
  have hw4 : ((i : Int) + 1).toNat = i + 1 := by omega
  go_region_law ((refine step_copy_runI rfl (.tmp 73) (.tmp 76) 50 50 rfl (.slice (some ⟨g, i + 1, none⟩) (n + 1 - (i + 1)) (c - (i + 1))) (.slice (some ⟨g, i, none⟩) (n + 1 - i) (c - i)) (by simp [Act.eval, Act.put]) (by simp [Act.eval, Act.put]) (hcp1 _ _ _) ?_))
  clear hw1 hw2 hw3 hw4
  go_wp2_with (at_builtin; refine wpList_copy_runI _ rfl (.tmp 80) (.tmp 81) 50 50 rfl _ _ rfl rfl (hcp2 _ _) ?_)
  go_ret
  exact HP.out
set_option maxHeartbeats 4000000 in
set_option maxRecDepth 100000 in
theorem insert_grow_str (W : World) (base : Nat) (g n c i : Nat) (cur : Array Value) (inner cs : List Value) (hcl : cs.length = 1) (h1 : ∀ u ∈ cs, u.oneCell' = true) (h1i : ∀ u ∈ inner, u.oneCell' = true) (hb : base ≤ g) (hbW : base ≤ W.heap.size) (hh : W.heap[g]? = some (.cells cur 9 (0, 0))) (hcs : cur.size = c * 1) (ht : cur.toList.take (n * 1) = inner) (hnc : n ≤ c)
    (hi : i < n) (hroom : c < n + 1) (hn : n ≤ 1000000) :
    Calls Try.prog 44 #[.slice (some ⟨g, 0, none⟩) n c, .int .i64 (i : Int), .slice (some ⟨W.heap.size, 0, none⟩) 1 1] (W.alloc (.cells cs.toArray 9)) (InsPost W base 9 1 (.slice (some ⟨g, 0, none⟩) n c) n i inner cs) := by
  obtain rfl : c = n := by omega
  have hgw : g < W.heap.size := by
    rcases Nat.lt_or_ge g W.heap.size with h' | h'
    · exact h'
    · rw [Array.getElem?_eq_none h'] at hh; cases hh
  have hilen : inner.length = c * 1 := by rw [← ht, List.length_take, Array.length_toList]; omega
  obtain ⟨X, hX⟩ : ∃ X, X = W.heap.size := ⟨_, rfl⟩
  obtain ⟨w, hw⟩ : ∃ w, w = W.alloc (.cells cs.toArray 9) := ⟨_, rfl⟩
  have hwz : w.heap.size = X + 1 := by rw [hw, World.size_alloc, hX]
  obtain ⟨Y, hY⟩ : ∃ Y, Y = w.heap.size := ⟨_, rfl⟩
  have hgX : X ≠ g := by omega
  have hgY : g ≠ Y := by omega
  have hXY : X ≠ Y := by omega
  have hhw : w.heap[g]? = some (.cells cur 9 (0, 0)) := by rw [hw, Below.heap_alloc W _ g hgw]; exact hh
  have hxw : w.heap[X]? = some (.cells cs.toArray 9 (0, 0)) := by rw [hw, hX]; exact heap_alloc_new W _
  have hgr : W.grownBy w (some g) := by rw [hw]; exact World.grownBy_alloc W _ _
  rw [← hX, ← hw]
  have hsz : (Try.prog.info? 9).map (·.size) = some 1 := by kernel_rfl
  obtain ⟨i0, hi0, hz0, hzs, hzb⟩ := info_parts info_str
  have hcell : ∀ j u, inner[j]? = some u → cur[j]? = some u := fun j u hj => by
    rw [← ht, List.getElem?_take] at hj
    split at hj
    · rw [← Array.getElem?_toList]; exact hj
    · cases hj
  have hold : (Builtin.firstCells i0.size i (.slice (some ⟨g, 0, none⟩) i c)).run Try.prog w.drew = .ok (inner.take (i)).toArray w.drew := by
    rw [hzs]
    exact run_firstCells_some w.drew 1 i ⟨g, 0, none⟩ i c (inner.take (i)) (by rw [List.length_take]; omega) (fun j u hj => by
      have e : (⟨g, 0, none⟩ : Addr).add j = ⟨g, j, none⟩ := by unfold Addr.add; split <;> simp_all
      rw [e, World.cell?_drew, cell_of_row w g _ cur 9 (0, 0) hhw]
      rw [List.getElem?_take] at hj
      split at hj
      · exact hcell j u hj
      · cases hj)
  obtain ⟨G, hG⟩ : ∃ G, G = grownCap w (c + 1) c 9 := ⟨_, rfl⟩
  obtain ⟨ROW, hROW⟩ : ∃ ROW : Array Value, ROW = (inner.take (i)).toArray ++ Builtin.zeroCells ((.string ⟨#[]⟩) : Value).cells (c + 1 - i) ++ Builtin.zeroCells ((.string ⟨#[]⟩) : Value).cells (G - (c + 1)) := ⟨_, rfl⟩
  have hkk : (c : Int) + 1 - (i : Int) = ((c + 1 - i : Nat) : Int) := by omega
  have hrz : ∀ ty, (Builtin.append_ #[50, 3] ty #[.slice (some ⟨g, 0, none⟩) i c, .int .i64 ((c : Int) + 1 - (i : Int))]).run Try.prog w = .ok (.slice (some ⟨Y, 0, none⟩) (c + 1) G) (w.drew.alloc (.cells ROW 9)) := fun ty => by
    have h := Lib.run_append_grow_zeros w 50 3 ty 9 i0 _ .i64 .i64 Try.underlying50 Try.underlying3 hi0 hz0 (some ⟨g, 0, none⟩) i c (inner.take (i)) hold (c + 1 - i) (by omega) (by rw [hzs]; omega) (by omega) (by omega) (by rw [hzb]; omega) (by rw [hzb, show i + (c + 1 - i) = c + 1 by omega]; exact growslice_fits (by omega) (by omega))
    rw [show i + (c + 1 - i) = c + 1 by omega, ← hG, ← hY] at h
    rw [hkk, hROW]
    exact h
  have hGn : c + 1 ≤ G := by rw [hG]; exact grownCap_ge w _ _ _
  have hGm : G ≤ maxLen := by rw [hG]; exact grownCap_le_maxLen w (c + 1) c 9 (by unfold maxLen; omega)
  have hRl : ROW.size = G * 1 := by
    rw [hROW]
    simp [Builtin.zeroCells, Value.cells]
    omega
  have hRt : ROW.toList.take (i) = inner.take (i) := by
    rw [hROW]
    simp only [Array.toList_append, List.append_assoc]
    rw [List.take_append_of_le_length (by simp only [List.length_take]; omega)]
    exact List.take_of_length_le (by simp only [List.length_take]; omega)
  have hsr := grow_row ROW.toList cs inner c i 1 (by omega) (by rw [Array.length_toList, hRl]; omega) hcl hilen (by rw [Nat.mul_one]; exact hRt)
  simp only [Nat.mul_one] at hsr
  obtain ⟨R1, hR1⟩ : ∃ R1, R1 = ROW.toList.take (i) ++ cs ++ ROW.toList.drop (i + cs.length) := ⟨_, rfl⟩
  obtain ⟨R2, hR2⟩ : ∃ R2, R2 = R1.take (i + 1) ++ inner.drop (i) ++ R1.drop (i + 1 + (inner.drop (i)).length) := ⟨_, rfl⟩
  simp only [← hR1, ← hR2] at hsr
  obtain ⟨hl1, hl2, hf⟩ := hsr
  have hdl : (inner.drop (i)).length = (c - i) * 1 := by rw [List.length_drop, hilen]; omega
  obtain ⟨W1, hW1⟩ : ∃ W1, W1 = w.alloc (.cells ROW 9) := ⟨_, rfl⟩
  have hrz' : ∀ ty, (Builtin.append_ #[50, 3] ty #[.slice (some ⟨g, 0, none⟩) i c, .int .i64 ((c : Int) + 1 - (i : Int))]).run Try.prog w = .ok (.slice (some ⟨Y, 0, none⟩) (c + 1) G) W1.drew := fun ty => by rw [hrz ty, hW1]; rfl
  have hy1 : W1.heap[Y]? = some (.cells ROW 9 (0, 0)) := by rw [hW1, hY]; exact heap_alloc_new w _
  have hg1 : W1.heap[g]? = some (.cells cur 9 (0, 0)) := by rw [hW1, Below.heap_alloc w _ g (by omega)]; exact hhw
  have hx1 : W1.heap[X]? = some (.cells cs.toArray 9 (0, 0)) := by rw [hW1, Below.heap_alloc w _ X (by omega)]; exact hxw
  have hgr1 : W.grownBy W1 (some g) := hgr.trans (by rw [hW1]; exact World.grownBy_alloc w _ _)
  have hcp1 : ∀ ty dc, (Builtin.copy_ #[50, 50] ty #[.slice (some ⟨Y, i, none⟩) (c + 1 - i) dc, .slice (some ⟨X, 0, none⟩) 1 1]).run Try.prog W1.drew = .ok (goInt ((1 : Nat) : Int)) (W1.drew.setRow Y R1.toArray) := fun ty dc => by
    have hmin : Nat.min 1 (c + 1 - i) = 1 := by simp only [Nat.min_def]; split <;> omega
    rw [run_copy_rowN W1.drew 50 50 ty 9 Y (i) (c + 1 - i) dc ⟨X, 0, none⟩ 1 1 ROW 9 cs 1 Try.underlying50 hsz hy1 (by rw [hmin, hcl])
      (fun j u hj => by
        have e : (⟨X, 0, none⟩ : Addr).add j = ⟨X, j, none⟩ := by unfold Addr.add; split <;> simp_all
        rw [e, World.cell?_drew, cell_of_row W1 X j cs.toArray 9 (0, 0) hx1]
        simpa using hj) (by omega) h1, hmin, hR1]
  have hy2 : (W1.drew.setRow Y R1.toArray).heap[Y]? = some (.cells R1.toArray 9 (0, 0)) := setRow_heap W1.drew Y ROW R1.toArray 9 (0, 0) hy1
  have hg2 : (W1.drew.setRow Y R1.toArray).heap[g]? = some (.cells cur 9 (0, 0)) := by rw [setRow_other W1.drew Y g R1.toArray hgY]; exact hg1
  obtain ⟨W2, hW2⟩ : ∃ W2, W2 = W1.drew.setRow Y R1.toArray := ⟨_, rfl⟩
  rw [← hW2] at hy2 hg2
  simp only [← hW2] at hcp1
  have hcp2 : ∀ ty dc sc, (Builtin.copy_ #[50, 50] ty #[.slice (some ⟨Y, i + 1, none⟩) (c + 1 - (i + 1)) dc, .slice (some ⟨g, i, none⟩) (c - i) sc]).run Try.prog W2.drew = .ok (goInt ((c - i : Nat) : Int)) (W2.drew.setRow Y R2.toArray) := fun ty dc sc => by
    have hmin : Nat.min (c - i) (c + 1 - (i + 1)) = c - i := by simp only [Nat.min_def]; split <;> omega
    rw [run_copy_rowN W2.drew 50 50 ty 9 Y (i + 1) (c + 1 - (i + 1)) dc ⟨g, i, none⟩ (c - i) sc R1.toArray 9 (inner.drop (i)) 1 Try.underlying50 hsz hy2 (by rw [hmin, hdl])
      (fun j u hj => by
        have e : (⟨g, i, none⟩ : Addr).add j = ⟨g, i + j, none⟩ := by unfold Addr.add; split <;> simp_all
        rw [e, World.cell?_drew, cell_of_row W2 g _ cur 9 (0, 0) hg2]
        rw [List.getElem?_drop] at hj
        exact hcell _ u hj) (by have h5 : R1.toArray.size = R1.length := rfl; have h6 : ROW.toList.length = ROW.size := Array.length_toList; omega) (fun u hu => h1i u (List.mem_of_mem_drop hu)), hmin, hR2]
  have hpost : InsPost W base 9 1 (.slice (some ⟨g, 0, none⟩) c c) c i inner cs (.returned (.slice (some ⟨Y, 0, none⟩) (c + 1) G)) (W2.drew.setRow Y R2.toArray) := by
    refine ⟨_, rfl, ⟨by simp only [List.length_append, List.length_take, List.length_drop]; omega, .inr ⟨Y, G, R2.toArray, rfl, by omega, ?_, hGn, hGm, by rw [List.size_toArray, hl2, Array.length_toList, hRl], by simpa using hf⟩⟩, ?_, .inr ⟨Y, rfl, by omega⟩⟩
    · exact setRow_heap _ Y R1.toArray _ 9 (0, 0) hy2
    · have hk : ∀ k, k < W.heap.size → (W2.drew.setRow Y R2.toArray).heap[k]? = W1.heap[k]? := fun k hk => by
        rw [setRow_other W2.drew Y k R2.toArray (by omega)]
        show W2.heap[k]? = _
        rw [hW2, setRow_other W1.drew Y k R1.toArray (by omega)]
        rfl
      have hz2 : (W2.drew.setRow Y R2.toArray).heap.size = W1.heap.size := by
        show (W2.heap.modify Y _).size = _
        rw [Array.size_modify, hW2]
        show (W1.heap.modify Y _).size = _
        rw [Array.size_modify]
      exact ⟨by rw [← hgr1.os, hW2]; rfl, by rw [← hgr1.tape, hW2]; rfl, by rw [← hgr1.output, hW2]; rfl, by rw [hz2]; exact hgr1.size, fun k hk2 hn => (hk k hk2).trans (hgr1.block k hk2 hn)⟩
  have HP := Aside0.mk hpost
  have hz2 : ((i : Int) == (c : Int)) = false := beq_eq_false_iff_ne.mpr (by omega)
  have hz3 : decide ((c : Int) + 1 > (c : Int)) = true := by simp; omega
  have hb2 : ¬ (G = i + 1) := by omega
  have hb4 : ¬ (G = i) := by omega
  have hb5 : ¬ (c = i) := by omega
  have hin : i ≤ c := by omega
  have hb3 : (i : Int) ≤ (c : Int) + 1 := by omega
  unfold maxLen at hGm
  clear hpost hf hl1 hl2 hR1 hR2 hgr hhw hxw hh ht hcs hilen hX hw hdl hrz hold hROW hG hRl hRt hy1 hg1 hx1 hgr1 hy2 hg2 hW1 hW2 hkk hcell hwz hY
  go_enter Try.func44, Try.ntmps44
  go_wp2_with (first
    | (at_builtin; refine Lib.wpList_append_run _ rfl _ _ _ _ rfl _ _ rfl rfl _ _ (hrz' _) ?_)
    | (at_builtin; refine wpList_copy_runI _ rfl (.tmp 43) (.tmp 44) 50 50 rfl _ _ rfl rfl (hcp1 _ _) ?_))
  have hw1 : IntKind.i64.wrap ((i : Int) + 1) = (i : Int) + 1 := by rw [IntKind.wrap_i64]; omega
  have hw2 : (0 : Int) ≤ (i : Int) + 1 := by omega
  have hw3 : (i : Int) + 1 ≤ (c : Int) + 1 := by omega
  have hw4 : ((i : Int) + 1).toNat = i + 1 := by omega
  have hw5 : (i : Int) ≤ (c : Int) := by omega
  go_region_law ((refine step_copy_runI rfl (.tmp 50) (.tmp 53) 50 50 rfl (.slice (some ⟨Y, i + 1, none⟩) (c + 1 - (i + 1)) (G - (i + 1))) (.slice (some ⟨g, i, none⟩) (c - i) (c - i)) (by simp [Act.eval, Act.put]) (by simp [Act.eval, Act.put]) (hcp2 _ _ _) ?_))
  clear hw1 hw2 hw3 hw4 hw5
  go_wp2_with fail
  go_ret
  exact HP.out
end Go.Proofs.Ytldgofblflmcbaa.S
