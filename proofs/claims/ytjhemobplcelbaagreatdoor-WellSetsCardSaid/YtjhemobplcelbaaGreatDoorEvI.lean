/- The machine for closed calls: operations that make or write memory. No condition. -/
import Derived.Test.YtjhemobplcelbaaGreatDoorEvH
namespace Go.Proofs.YtjhemobplcelbaaGreatDoor.V
open Go.RowKit
set_option linter.unusedVariables false
set_option linter.unusedSimpArgs false
section
variable {P : Program} {D : Nat → Prop} {top : Nat} {m : Map} {h h' : CH} {w : World} {ρ ρ' : Operand → Value}
/-- What is asked of an operation that makes or writes memory. -/
def Writes (P : Program) (D : Nat → Prop) (top : Nat) (m : Map) (h : CH) (w : World) (ρ' : Operand → Value) (op : Op) (v : Value) (h' : CH) : Prop :=
  ∃ m' v' w' nx, TR m' v v' ∧ Post D top m h w m' h' w' ∧ (nx = .value v' ∨ (nx = .skip ∧ v' = undef)) ∧ ∀ o : Oper, o.op = op → (execOp ρ' o).run P w = .ok nx w'
theorem newRow_run (P : Program) (e : TypeId) (cs : Array Value) (w : World) : (newRow e cs).run P w = .ok ⟨w.heap.size, 0, none⟩ (w.alloc (.cells cs e)) := rfl
theorem HR.make0 (hr : HR D top m h w) {cs cs' : List Value} {ty sz : Nat} (ht : h'.n ≤ top) (e : h.new cs ty sz = some h') (hv : F2 (SR m) cs cs') :
    Post D top m h w (m.more h.n ⟨w.heap.size, 0, cs'.length, sz⟩) h' (w.alloc (.cells ⟨cs'⟩ ty)) := by
  have := hr.make (by have := (new_some e).2.1; omega) e hv []
  rwa [List.append_nil] at this
theorem write_new (hr : HR D top m h w) (ht : h'.n ≤ top) {op : Op} {cs cs' : List Value} {e : TypeId} (he : h.new cs e 0 = some h') (hv : F2 (SR m) cs cs') (hx : ∀ o : Oper, o.op = op → (execOp ρ' o).run P w = .ok (.value (.pointer (some ⟨w.heap.size, 0, none⟩))) (w.alloc (.cells ⟨cs'⟩ e))) :
    Writes P D top m h w ρ' op (.pointer (some ⟨h.n, 0, none⟩)) h' :=
  ⟨_, .pointer (some ⟨w.heap.size, 0 + 0, none⟩), _, _, .o (.s (.b (.ptr (Map.more_new m h.n _)))), hr.make0 ht he hv, .inl rfl, hx⟩
theorem write_alloc (hr : HR D top m h w) (ht : h'.n ≤ top) {e : TypeId} {v : Value} (he : writeEv P (.alloc e) ρ h = some (v, h')) : Writes P D top m h w ρ' (.alloc e) v h' := by
  simp only [writeEv] at he
  split at he
  · rename_i z hz
    split at he
    · rename_i hzz
      rw [Bool.and_eq_true] at hzz
      split at he
      · rename_i h2 hh
        have he := Option.some.inj he
        injection he with h3 h4
        subst h3 h4
        refine write_new hr ht hh (zero_cells hzz.1 hzz.2) fun o ho => ?_
        simp only [execOp, ho, Instr.alloc, Sem.run_bind, zeroOf_run hz, Result.andThen_ok, newVar, newRow_run]
        rfl
      · cases he
    · cases he
  · cases he
theorem write_box (hr : HR D top m h w) (ht : h'.n ≤ top) (hρ : ∀ x, TR m (ρ x) (ρ' x)) {e : TypeId} {x : Operand} {v : Value} (he : writeEv P (.box e x) ρ h = some (v, h')) : Writes P D top m h w ρ' (.box e x) v h' := by
  simp only [writeEv] at he
  split at he
  · rename_i hv
    split at he
    · rename_i h2 hh
      have he := Option.some.inj he
      injection he with h3 h4
      subst h3 h4
      refine write_new hr ht hh ((hρ x).vr hv).cells fun o ho => ?_
      simp only [execOp, ho, Instr.box, Sem.run_bind, newVar, newRow_run, Result.andThen_ok]
      rfl
    · cases he
  · cases he
theorem rep_eq (z : Array Value) (n : Nat) : ((Array.range (n * z.size)).map fun i => z[i % z.size]!).toList = repL z.toList n := by
  rw [Array.toList_map, Array.toList_range]
  induction n with
  | zero => simp [repL]
  | succ n ih =>
    rw [Nat.succ_mul, Nat.add_comm, List.range_add, List.map_append]
    show _ = z.toList ++ repL z.toList n
    rw [← ih]
    congr 1
    · apply List.ext_getElem?
      intro i
      by_cases hi : i < z.size
      · rw [List.getElem?_map, List.getElem?_range hi, Option.map_some, Array.getElem?_toList, Nat.mod_eq_of_lt hi, Array.getElem?_eq_getElem hi, getElem!_pos z i hi]
      · rw [List.getElem?_eq_none (by simp; omega), List.getElem?_eq_none (by simp; omega)]
    · rw [List.map_map]
      apply List.map_congr_left
      intro i _
      simp only [Function.comp, Nat.add_mod_left]
theorem rep_len (z : List Value) (n : Nat) : (repL z n).length = n * z.length := by
  induction n with
  | zero => simp [repL]
  | succ n ih => show (z ++ repL z n).length = _; rw [List.length_append, ih, Nat.succ_mul, Nat.add_comm]
theorem rep_F2 {z : List Value} (hz : F2 (SR m) z z) : ∀ n, F2 (SR m) (repL z n) (repL z n)
  | 0 => .nil
  | n + 1 => hz.append (rep_F2 hz n)
theorem elem_some {t e : TypeId} (h : elemOf P t = some e) : P.underlying t = some (.slice e) := by
  unfold elemOf at h
  split at h
  · rename_i x hx; obtain rfl := Option.some.inj h; exact hx
  · cases h
theorem zcells_size {z : Value} {n : Nat} (h : Nat.beq z.cells.toList.length n = true) : z.cells.size = n := by rw [← Array.length_toList]; exact beq_t h
theorem fillE_len (size : Nat) : ∀ (l : List (Nat × List Value)) (cs r : List Value), fillE size cs l = some r → r.length = cs.length := by
  intro l
  induction l with
  | nil => intro cs r h; obtain rfl := Option.some.inj h; rfl
  | cons p l ih =>
    intro cs r h
    unfold fillE at h
    split at h
    · rw [ih _ _ h, setL_len]
    · cases h
theorem write_buildSlice (hr : HR D top m h w) (ht : h'.n ≤ top) (hρ : ∀ x, TR m (ρ x) (ρ' x)) {t len : Nat} {parts : Array (Nat × Operand)} {v : Value} (he : writeEv P (.buildSlice t len parts) ρ h = some (v, h')) : Writes P D top m h w ρ' (.buildSlice t len parts) v h' := by
  simp only [writeEv] at he
  split at he
  · rename_i e hel
    have hu := elem_some hel
    split at he
    · rename_i size z ps hsz hz hps
      split at he
      · rename_i hzz
        simp only [Bool.and_eq_true] at hzz
        obtain ⟨⟨⟨za, zv⟩, zs⟩, zl⟩ := hzz
        have hzc : F2 (SR m) z.cells.toList z.cells.toList := zero_cells za zv
        have hzsz := zcells_size zs
        split at he
        · rename_i l hl
          split at he
          · rename_i h2 hh
            have he := Option.some.inj he
            injection he with h3 h4
            subst h3 h4
            obtain ⟨r', k1, k2⟩ := fillE_ok hρ size _ _ _ _ _ hps hl (rep_F2 hzc len)
            have g1 := hr.make0 ht hh k2
            have hrl : r'.length = len * size := by rw [← k2.len, fillE_len _ _ _ _ hl, rep_len, beq_t zs]
            refine ⟨_, .slice (some ⟨w.heap.size, 0 + 0, none⟩) len len, _, _, .o (.s (.b (.sl (Map.more_new m h.n _) (Nat.le_refl _) (by show 0 + 0 + len * size ≤ r'.length ∧ len ≤ 9223372036854775807; have := ble_t zl; omega)))), g1, .inl rfl, fun o ho => ?_⟩
            have c1 : ¬ (len * size > 2 ^ 24) := by have := ble_t zl; omega
            have k3 : Instr.fill (fun i => some (i * size, size)) ⟨repL z.cells.toList len⟩ (parts.map fun x => (x.1, ρ' x.2)).toList = some ⟨r'⟩ := by
              rw [Array.toList_map]; exact k1
            have k4 : ((Array.range (len * size)).map fun i => z.cells[i % z.cells.size]!) = ⟨repL z.cells.toList len⟩ := by
              apply Array.ext'
              have := rep_eq z.cells len
              rw [hzsz] at this ⊢
              exact this
            simp only [execOp, ho, Instr.buildSlice, Sem.run_bind, run_underlying hu, Result.andThen_ok, szOf_run hsz, if_neg c1, Sem.run_pure]
            by_cases h0 : len * size = 0
            · have k5 : repL z.cells.toList len = [] := List.eq_nil_of_length_eq_zero (by rw [rep_len, Array.length_toList, hzsz]; exact h0)
              have k6 : ((Array.range (len * size)).map fun i => (#[] : Array Value)[i % (#[] : Array Value).size]!) = ⟨repL z.cells.toList len⟩ := by
                rw [h0, k5]; simp
              rw [if_pos h0]
              try simp only [Sem.run_pure, Result.andThen_ok, pure_bind, Sem.run_bind]
              rw [k6, k3]
              rfl
            · rw [if_neg h0]
              simp only [Sem.run_bind, zeroOf_run hz, Result.andThen_ok, Sem.run_pure]
              rw [k4, k3]
              rfl
          · cases he
        · cases he
      · cases he
    · cases he
  · cases he
theorem write_store (hr : HR D top m h w) (hT : Sub h'.rd D) (hρ : ∀ x, TR m (ρ x) (ρ' x)) {t : TypeId} {a x : Operand} {v : Value} (he : writeEv P (.store t a x) ρ h = some (v, h')) : Writes P D top m h w ρ' (.store t a x) v h' := by
  simp only [writeEv] at he
  split at he
  · rename_i b o ea
    obtain ⟨p, hp, e1⟩ := TR.ptr (ea ▸ hρ a)
    split at he
    · rename_i n hsz hv
      split at he
      · rename_i hnl
        split at he
        · rename_i h2 hh
          have he := Option.some.inj he
          injection he with h3 h4
          subst h3 h4
          have hvc := ((hρ x).vr hv).cells
          obtain ⟨q, hq, w', g1, g2⟩ := hr.store (P := P) (hT b (by obtain ⟨_, _, _, _, _, k, _⟩ := storeL_some hh; rw [k]; exact on_or.2 (.inr (on_pow b)))) hh hvc
          obtain rfl := Option.some.inj (hp.symm.trans hq)
          refine ⟨m, undef, w', .skip, TR.same m rfl, g2, .inr ⟨rfl, rfl⟩, fun o ho => ?_⟩
          have c1 : (ρ' x).cells.size = n := by rw [← Array.length_toList, ← hvc.len]; exact (beq_t hnl).symm
          simp only [execOp, ho, Instr.storeAt, e1, Instr.sureAddr, Sem.run_bind, Sem.run_pure, Result.andThen_ok, storeVar, szOf_run hsz, c1, ne_eq, not_true_eq_false, if_false, g1]
        · cases he
      · cases he
    · cases he
  · cases he
theorem write_makeSlice (hr : HR D top m h w) (ht : h'.n ≤ top) (hρ : ∀ x, TR m (ρ x) (ρ' x)) {t : TypeId} {l c : Operand} {v : Value} (he : writeEv P (.makeSlice t l c) ρ h = some (v, h')) : Writes P D top m h w ρ' (.makeSlice t l c) v h' := by
  simp only [writeEv] at he
  split at he
  · rename_i e n cap hel hn hc
    have hu := elem_some hel
    obtain ⟨kl, el⟩ := int_of hρ hn
    obtain ⟨kc, ec⟩ := int_of hρ hc
    split at he
    · rename_i size z bytes hsz hz hby
      split at he
      · rename_i hzz
        simp only [Bool.and_eq_true] at hzz
        obtain ⟨⟨⟨⟨⟨za, zv⟩, zs⟩, zl⟩, zc⟩, zb⟩ := hzz
        have hzc : F2 (SR m) z.cells.toList z.cells.toList := zero_cells za zv
        have hzsz := zcells_size zs
        split at he
        · rename_i h2 hh
          have he := Option.some.inj he
          injection he with h3 h4
          subst h3 h4
          have hl := ble_t zl
          have hcc := ble_t zc
          have hbb := ble_t zb
          have g1 := hr.make0 ht hh (rep_F2 hzc cap)
          have hrl : (repL z.cells.toList cap).length = cap * size := by rw [rep_len, beq_t zs]
          refine ⟨_, .slice (some ⟨w.heap.size, 0 + 0, none⟩) n cap, _, _, .o (.s (.b (.sl (Map.more_new m h.n _) (Nat.le_refl _) (by show 0 + 0 + cap * size ≤ (repL z.cells.toList cap).length ∧ cap ≤ 9223372036854775807; omega)))), g1, .inl rfl, fun o ho => ?_⟩
          obtain ⟨i, hi, rfl⟩ : ∃ i, P.info? e = some i ∧ i.bytes = bytes := by
            cases hi : P.info? e with
            | none => rw [hi] at hby; cases hby
            | some i => rw [hi] at hby; exact ⟨i, rfl, Option.some.inj hby⟩
          have w1 : IntKind.i64.wrap (Int.ofNat n) = (n : Int) := by
            show IntKind.i64.wrap (n : Int) = _
            unfold IntKind.wrap; simp [IntKind.bits, IntKind.signed]; omega
          have w2 : IntKind.i64.wrap (Int.ofNat cap) = (cap : Int) := by
            show IntKind.i64.wrap (cap : Int) = _
            unfold IntKind.wrap; simp [IntKind.bits, IntKind.signed]; omega
          have hmul : i.bytes * cap ≤ 10000 * 10000 := Nat.mul_le_mul hbb hcc
          have c1 : (decide ((cap : Int) < 0) || decide ((i.bytes : Int) * (cap : Int) > 2 ^ 48)) = false := by
            simp only [Bool.or_eq_false_iff, decide_eq_false_iff_not]
            refine ⟨by omega, ?_⟩
            rw [← Int.natCast_mul]
            omega
          have c2 : ((decide ((cap : Int) < 0) || decide ((i.bytes : Int) * (cap : Int) > 2 ^ 48)) || decide ((n : Int) < 0) || decide ((n : Int) > (cap : Int))) = false := by
            rw [c1]
            simp only [Bool.false_or, Bool.or_eq_false_iff, decide_eq_false_iff_not]
            omega
          have c3 : ¬ (cap * i.bytes > roomBytes) := by unfold roomBytes; rw [Nat.mul_comm]; omega
          have k4 : ((Array.range (cap * size)).map fun i => z.cells[i % z.cells.size]!) = ⟨repL z.cells.toList cap⟩ := by
            apply Array.ext'
            have := rep_eq z.cells cap
            rw [hzsz] at this ⊢
            exact this
          have hti : (typeInfo e).run P w = .ok i w := by simp [typeInfo, hi]
          have hlast : (do
              let n' := cap * size
              let zero ← if n' = 0 then pure #[] else do pure (← zeroValue e).cells
              let a ← newRow e ((Array.range n').map (zero[· % zero.size]!))
              pure (Value.slice (some a) n cap) : Sem Value).run P w = .ok (.slice (some ⟨w.heap.size, 0, none⟩) n cap) (w.alloc (.cells ⟨repL z.cells.toList cap⟩ e)) := by
            by_cases h0 : cap * size = 0
            · have k5 : repL z.cells.toList cap = [] := List.eq_nil_of_length_eq_zero (by rw [rep_len, Array.length_toList, hzsz]; exact h0)
              have k6 : ((Array.range (cap * size)).map fun i => (#[] : Array Value)[i % (#[] : Array Value).size]!) = ⟨repL z.cells.toList cap⟩ := by
                rw [h0, k5]; simp
              simp only [h0, if_true, pure_bind, Sem.run_bind]
              rw [h0] at k6
              rw [k6]
              rfl
            · simp only [if_neg h0, Sem.run_bind, zeroOf_run hz, Result.andThen_ok, Sem.run_pure, k4, newRow_run]
          have hmain : (Instr.makeSlice t (ρ' l) (ρ' c)).run P w = .ok (.slice (some ⟨w.heap.size, 0, none⟩) n cap) (w.alloc (.cells ⟨repL z.cells.toList cap⟩ e)) := by
            unfold Instr.makeSlice
            simp only [el, ec, asInt, asIntOf, Sem.run_bind, run_underlying hu, Result.andThen_ok, Sem.run_pure, hti, szOf_run hsz, w1, w2, c2, Bool.false_eq_true, if_false, askRoom, Int.toNat_natCast, if_neg c3]
            exact hlast
          simp only [execOp, ho, Sem.run_bind, hmain]
          rfl
        · cases he
      · cases he
    · cases he
  · cases he
end
end Go.Proofs.YtjhemobplcelbaaGreatDoor.V
