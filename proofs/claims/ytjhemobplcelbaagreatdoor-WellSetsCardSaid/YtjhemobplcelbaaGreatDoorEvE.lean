/- The machine for closed calls: operations that only read, continued. No condition. -/
import Derived.Test.YtjhemobplcelbaaGreatDoorEvD
namespace Go.Proofs.YtjhemobplcelbaaGreatDoor.V
open Go.RowKit
set_option linter.unusedVariables false
set_option linter.unusedSimpArgs false
theorem places_run {P : Program} : ∀ (fs : List Field) (pl : List (Nat × Nat)), places P fs = some pl → ∀ w, (fs.mapM fun f => (do pure (f.offset, ← sizeOf f.type) : Sem (Nat × Nat))).run P w = .ok pl w := by
  intro fs
  induction fs with
  | nil => intro pl h w; obtain rfl := Option.some.inj h; rfl
  | cons f fs ih =>
    intro pl h w
    unfold places at h
    split at h
    · rename_i s l hs hl
      obtain rfl := Option.some.inj h
      simp only [List.mapM_cons, bind_assoc, pure_bind, Sem.run_bind, szOf_run hs, Result.andThen_ok, ih l hl, Sem.run_pure]
    · cases h
theorem setL_step : ∀ (xs : List Value) (o : Nat) (v : Value) (vs : List Value), o < xs.length → setL (xs.set o v) (o + 1) vs = setL xs o (v :: vs) := by
  intro xs
  induction xs with
  | nil => intro o v vs h; simp at h
  | cons x xs ih =>
    intro o v vs h
    cases o with
    | zero =>
      cases vs with
      | nil => show v :: xs = v :: setL xs 0 []; cases xs <;> rfl
      | cons u vs => rfl
    | succ o =>
      have h2 := ih o v vs (by simpa using h)
      cases vs with
      | nil =>
        show x :: (xs.set o v) = x :: setL xs o [v]
        rw [← h2]
        congr 1
        cases (xs.set o v) <;> rfl
      | cons u vs =>
        show x :: setL (xs.set o v) (o + 1) (u :: vs) = x :: setL xs o (v :: u :: vs)
        rw [h2]
theorem zip_set (off : Nat) : ∀ (vs : List Value) (k : Nat) (cs : Array Value), off + k + vs.length ≤ cs.size → ((vs.zipIdx k).foldl (fun cs (c : Value × Nat) => cs.setIfInBounds (off + c.2) c.1) cs).toList = setL cs.toList (off + k) vs := by
  intro vs
  induction vs with
  | nil => intro k cs _; show cs.toList = setL cs.toList (off + k) []; cases cs.toList <;> cases (off + k) <;> rfl
  | cons v vs ih =>
    intro k cs h
    rw [List.zipIdx_cons, List.foldl_cons, ih (k + 1) _ (by rw [Array.size_setIfInBounds]; simp at h; omega), Array.toList_setIfInBounds, ← Nat.add_assoc]
    exact setL_step _ _ _ _ (by rw [Array.length_toList]; simp at h; omega)
section
variable {P : Program} {m : Map} {h : CH} {w : World} {ρ ρ' : Operand → Value}
theorem fill_step {place : Nat → Option (Nat × Nat)} {i off size : Nat} {v' : Value} {cs cs' : List Value} {v : List Value} {rest : List (Nat × Value)} (hp : place i = some (off, size)) (hv : F2 (SR m) v v'.cells.toList) (hc : F2 (SR m) cs cs') (h1 : v.length = size) (h2 : off + size ≤ cs.length) :
    Instr.fill place ⟨cs'⟩ ((i, v') :: rest) = Instr.fill place ⟨setL cs' off v'.cells.toList⟩ rest ∧ F2 (SR m) (setL cs off v) (setL cs' off v'.cells.toList) := by
  have e1 : v'.cells.size = size := by rw [← Array.length_toList, ← hv.len, h1]
  have e2 : off + v'.cells.size ≤ cs'.length := by rw [e1, ← hc.len]; exact h2
  refine ⟨?_, hc.setL hv off (by omega)⟩
  have e3 : v'.cells.zipIdx.foldl (fun cs (c : Value × Nat) => cs.setIfInBounds (off + c.2) c.1) (⟨cs'⟩ : Array Value) = ⟨setL cs' off v'.cells.toList⟩ := by
    apply Array.ext'
    rw [← Array.foldl_toList, Array.toList_zipIdx]
    exact zip_set off v'.cells.toList 0 ⟨cs'⟩ (by rw [Array.length_toList]; exact e2)
  show (match place i with | none => none | some (off, size) => if v'.cells.size ≠ size || off + v'.cells.size > (⟨cs'⟩ : Array Value).size then none else Instr.fill place (v'.cells.zipIdx.foldl (fun cs (c, j) => cs.setIfInBounds (off + j) c) ⟨cs'⟩) rest) = _
  rw [hp]
  have c1 : (decide (v'.cells.size ≠ size) || decide (off + v'.cells.size > (⟨cs'⟩ : Array Value).size)) = false := by
    simp only [Bool.or_eq_false_iff, decide_eq_false_iff_not]
    exact ⟨fun h => h e1, fun h => by have h : off + v'.cells.size > cs'.length := h; omega⟩
  show (if (decide (v'.cells.size ≠ size) || decide (off + v'.cells.size > (⟨cs'⟩ : Array Value).size)) = true then none else _) = _
  rw [c1, if_neg (by decide)]
  exact congrArg (fun c => Instr.fill place c rest) e3
theorem fillL_ok (hρ : ∀ x, TR m (ρ x) (ρ' x)) (pl : List (Nat × Nat)) : ∀ (ps : List (Nat × Operand)) (l : List (Nat × List Value)) (cs cs' r : List Value), partsL ρ ps = some l → fillL pl cs l = some r → F2 (SR m) cs cs' → ∃ r', Instr.fill (fun i => pl[i]?) ⟨cs'⟩ (ps.map fun x => (x.1, ρ' x.2)) = some ⟨r'⟩ ∧ F2 (SR m) r r' := by
  intro ps
  induction ps with
  | nil => intro l cs cs' r h1 h2 h3; obtain rfl := Option.some.inj h1; obtain rfl := Option.some.inj h2; exact ⟨cs', rfl, h3⟩
  | cons p ps ih =>
    obtain ⟨i, x⟩ := p
    intro l cs cs' r h1 h2 h3
    unfold partsL at h1
    split at h1
    · rename_i l2 hv hl
      obtain rfl := Option.some.inj h1
      unfold fillL at h2
      split at h2
      · cases h2
      · rename_i off size hp
        split at h2
        · rename_i hb
          rw [Bool.and_eq_true] at hb
          obtain ⟨g1, g2⟩ := fill_step (place := fun i => pl[i]?) (rest := ps.map fun x => (x.1, ρ' x.2)) hp ((hρ x).vr hv).cells h3 (beq_t hb.1) (ble_t hb.2)
          obtain ⟨r', k1, k2⟩ := ih _ _ _ _ hl h2 g2
          exact ⟨r', g1.trans k1, k2⟩
        · cases h2
    · cases h1
theorem fillE_ok (hρ : ∀ x, TR m (ρ x) (ρ' x)) (size : Nat) : ∀ (ps : List (Nat × Operand)) (l : List (Nat × List Value)) (cs cs' r : List Value), partsL ρ ps = some l → fillE size cs l = some r → F2 (SR m) cs cs' → ∃ r', Instr.fill (fun i => some (i * size, size)) ⟨cs'⟩ (ps.map fun x => (x.1, ρ' x.2)) = some ⟨r'⟩ ∧ F2 (SR m) r r' := by
  intro ps
  induction ps with
  | nil => intro l cs cs' r h1 h2 h3; obtain rfl := Option.some.inj h1; obtain rfl := Option.some.inj h2; exact ⟨cs', rfl, h3⟩
  | cons p ps ih =>
    obtain ⟨i, x⟩ := p
    intro l cs cs' r h1 h2 h3
    unfold partsL at h1
    split at h1
    · rename_i l2 hv hl
      obtain rfl := Option.some.inj h1
      unfold fillE at h2
      split at h2
      · rename_i hb
        rw [Bool.and_eq_true] at hb
        obtain ⟨g1, g2⟩ := fill_step (place := fun i => some (i * size, size)) (rest := ps.map fun x => (x.1, ρ' x.2)) rfl ((hρ x).vr hv).cells h3 (beq_t hb.1) (ble_t hb.2)
        obtain ⟨r', k1, k2⟩ := ih _ _ _ _ hl h2 g2
        exact ⟨r', g1.trans k1, k2⟩
      · cases h2
    · cases h1
theorem zero_cells {z : Value} (h : af z = true) (hv : vr z = true) : F2 (SR m) z.cells.toList z.cells.toList := ((TR.same m h).vr hv).cells
theorem read_build (hρ : ∀ x, TR m (ρ x) (ρ' x)) {t : TypeId} {parts : Array (Nat × Operand)} {v : Value} (e : readEv P (.build t parts) ρ h = some v) : Reads P m w ρ' (.build t parts) v := by
  simp only [readEv] at e
  split at e
  · rename_i z hz
    split at e
    · rename_i ps haf hvr hps
      have hzc : F2 (SR m) z.cells.toList z.cells.toList := zero_cells haf hvr
      split at e
      · rename_i fs hu
        split at e
        · rename_i pl hpl
          split at e
          · rename_i l hl
            obtain rfl := Option.some.inj e
            obtain ⟨r', k1, k2⟩ := fillL_ok hρ pl _ _ _ _ _ hps hl hzc
            refine ⟨.agg ⟨r'⟩, .o (.agg k2), fun w2 hb o ho => ?_⟩
            have hm : (fs.mapM fun f => (do pure (f.offset, ← sizeOf f.type) : Sem (Nat × Nat))).run P w2 = .ok ⟨pl⟩ w2 := by
              rw [Array.mapM_eq_mapM_toList, Sem.run_map, places_run _ _ hpl]; rfl
            have k3 : Instr.fill (fun x => (⟨pl⟩ : Array (Nat × Nat))[x]?) z.cells (parts.map fun x => (x.1, ρ' x.2)).toList = some ⟨r'⟩ := by
              rw [Array.toList_map]
              have e1 : (fun x => (⟨pl⟩ : Array (Nat × Nat))[x]?) = fun i => pl[i]? := funext fun i => (List.getElem?_toArray : pl.toArray[i]? = pl[i]?)
              rw [e1]; exact k1
            simp only [execOp, ho, Instr.build, Sem.run_bind, zeroOf_run hz, Result.andThen_ok, run_underlying hu, hm]
            rw [k3]
            rfl
          · cases e
        · cases e
      · rename_i n el hu
        split at e
        · rename_i size hsz
          split at e
          · rename_i l hl
            obtain rfl := Option.some.inj e
            obtain ⟨r', k1, k2⟩ := fillE_ok hρ size _ _ _ _ _ hps hl hzc
            refine ⟨.agg ⟨r'⟩, .o (.agg k2), fun w2 hb o ho => ?_⟩
            have k3 : Instr.fill (fun i => some (i * size, size)) z.cells (parts.map fun x => (x.1, ρ' x.2)).toList = some ⟨r'⟩ := by
              rw [Array.toList_map]; exact k1
            simp only [execOp, ho, Instr.build, Sem.run_bind, zeroOf_run hz, Result.andThen_ok, run_underlying hu, szOf_run hsz]
            rw [k3]
            rfl
          · cases e
        · cases e
      · cases e
    · cases e
  · cases e
end
end Go.Proofs.YtjhemobplcelbaaGreatDoor.V
