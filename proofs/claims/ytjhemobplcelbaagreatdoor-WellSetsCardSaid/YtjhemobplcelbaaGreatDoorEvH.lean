/- The machine for closed calls: all operations that only read. No condition. -/
import Derived.Test.YtjhemobplcelbaaGreatDoorEvG
namespace Go.Proofs.YtjhemobplcelbaaGreatDoor.V
open Go.RowKit
set_option linter.unusedVariables false
set_option linter.unusedSimpArgs false
theorem str_extract (s : List UInt8) (l h : Nat) : (⟨⟨s⟩⟩ : ByteArray).extract l h = ⟨⟨(s.take h).drop l⟩⟩ := by
  apply ByteArray.ext
  rw [ByteArray.data_extract]
  apply Array.ext'
  simp [Array.toList_extract, List.extract_eq_take_drop, List.drop_take]
theorem str_get (s : List UInt8) (i : Nat) : (⟨⟨s⟩⟩ : ByteArray)[i]? = s[i]? := by
  have e1 : (⟨⟨s⟩⟩ : ByteArray).size = s.length := rfl
  by_cases h : i < s.length
  · rw [List.getElem?_eq_getElem h, getElem?_pos _ _ (by rw [e1]; exact h)]
    rfl
  · rw [List.getElem?_eq_none (by omega), getElem?_neg _ _ (by rw [e1]; exact h)]
section
variable {P : Program} {D : Nat → Prop} {top : Nat} {m : Map} {h : CH} {w : World} {ρ ρ' : Operand → Value}
theorem read_field (hρ : ∀ x, TR m (ρ x) (ρ' x)) {t : TypeId} {x : Operand} {i : Nat} {v : Value} (e : readEv P (.field t x i) ρ h = some v) : Reads P m w ρ' (.field t x i) v := by
  simp only [readEv] at e
  split at e
  · rename_i cs ex
    obtain ⟨cs', e1, hcs⟩ := TR.agg (ex ▸ hρ x)
    split at e
    · rename_i fs hu
      split at e
      · rename_i f hf
        have hf' : fs[i]? = some f := by rw [← Array.getElem?_toList]; exact hf
        split at e
        · rename_i n hag hn
          obtain rfl := Option.some.inj e
          refine ⟨.agg ⟨(cs'.drop f.offset).take n⟩, .o (.agg ((hcs.drop _).take _)), fun w2 hb o ho => ?_⟩
          have e3 : (⟨cs'⟩ : Array Value).extract f.offset (f.offset + n) = ⟨(cs'.drop f.offset).take n⟩ := by
            apply Array.ext'
            simp [Array.toList_extract, List.extract_eq_take_drop]
          simp only [execOp, ho, Instr.field, Sem.run_bind, run_underlying hu, Result.andThen_ok, hf', e1, asAgg, Sem.run_pure, part, isAgg_run hag, szOf_run hn, if_true, e3]
        · rename_i hag
          obtain ⟨v', hv', hvr⟩ := hcs.at e
          refine ⟨v', .o (.s hvr), fun w2 hb o ho => ?_⟩
          have e3 : (⟨cs'⟩ : Array Value)[f.offset]? = some v' := by rw [← Array.getElem?_toList]; exact hv'
          simp only [execOp, ho, Instr.field, Sem.run_bind, run_underlying hu, Result.andThen_ok, hf', e1, asAgg, Sem.run_pure, part, isAgg_run hag, if_false, e3, Bool.false_eq_true]
        · cases e
      · cases e
    · cases e
  · cases e
theorem read_fieldAddr (hρ : ∀ x, TR m (ρ x) (ρ' x)) {t : TypeId} {x : Operand} {i : Nat} {v : Value} (e : readEv P (.fieldAddr t x i) ρ h = some v) : Reads P m w ρ' (.fieldAddr t x i) v := by
  simp only [readEv] at e
  split at e
  · rename_i b o ex
    obtain ⟨p, hp, e1⟩ := TR.ptr (ex ▸ hρ x)
    split at e
    · rename_i fs hu
      split at e
      · rename_i f hf
        have hf' : fs[i]? = some f := by rw [← Array.getElem?_toList]; exact hf
        split at e
        · rename_i n hn
          obtain rfl := Option.some.inj e
          refine ⟨.pointer (some ⟨p.r, p.s + (o + f.offset), none⟩), .o (.s (.b (.ptr hp))), fun w2 hb op ho => ?_⟩
          have e2 : ¬ (n + 1 = 0) := by omega
          simp only [execOp, ho, Instr.fieldAt, Sem.run_bind, run_underlying hu, Result.andThen_ok, hf', e1, Instr.sureAddr, Sem.run_pure, fieldPlace, szOf_run hn, e2, if_false, addr_add]
          rw [Nat.add_assoc]
        · cases e
      · cases e
    · cases e
  · cases e
theorem read_extract (hρ : ∀ x, TR m (ρ x) (ρ' x)) {x : Operand} {i : Nat} {v : Value} (e : readEv P (.extract x i) ρ h = some v) : Reads P m w ρ' (.extract x i) v := by
  simp only [readEv] at e
  split at e
  · rename_i vs ex
    obtain ⟨vs', e1, hvs⟩ := TR.tupl (ex ▸ hρ x)
    obtain ⟨v', hv', hvr⟩ := hvs.at e
    have e3 : (⟨vs'⟩ : Array Value)[i]? = some v' := by rw [← Array.getElem?_toList]; exact hv'
    exact ⟨v', .o hvr, fun w2 hb o ho => by simp only [execOp, ho, Instr.extract, e1, e3]; rfl⟩
  · cases e
theorem int_of (hρ : ∀ x, TR m (ρ x) (ρ' x)) {x : Operand} {n : Nat} (e : natOf (ρ x) = some n) : ∃ k, ρ' x = .int k (.ofNat n) := by
  obtain ⟨k, e⟩ := natOf_some e
  exact ⟨k, TR.int (e ▸ hρ x)⟩
theorem read_indexAddr (hρ : ∀ x, TR m (ρ x) (ρ' x)) {t : TypeId} {x i : Operand} {v : Value} (e : readEv P (.indexAddr t x i) ρ h = some v) : Reads P m w ρ' (.indexAddr t x i) v := by
  simp only [readEv] at e
  split at e
  · cases e
  · rename_i j hj
    obtain ⟨k, ei⟩ := int_of hρ hj
    split at e
    · rename_i b o n c ex
      split at e
      · rename_i el hlt hu
        split at e
        · rename_i size hsz
          obtain rfl := Option.some.inj e
          have hjn := blt_t hlt
          rcases TR.sl (ex ▸ hρ x) with ⟨p, c', hp, _, _, e1⟩ | ⟨hn, _⟩
          · refine ⟨.pointer (some ⟨p.r, p.s + (o + j * size), none⟩), .o (.s (.b (.ptr hp))), fun w2 hb op ho => ?_⟩
            have e2 : (0 : Int) ≤ Int.ofNat j ∧ Int.ofNat j < (n : Int) := ⟨Int.natCast_nonneg j, by show (j : Int) < n; omega⟩
            simp only [execOp, ho, Instr.indexAt, Sem.run_bind, e1, ei, asIntOf, Sem.run_pure, Result.andThen_ok, run_underlying hu, if_pos e2, szOf_run hsz, addr_add]
            rw [Nat.add_assoc]
            rfl
          · omega
        · cases e
      · cases e
    · rename_i b o ex
      obtain ⟨p, hp, e1⟩ := TR.ptr (ex ▸ hρ x)
      split at e
      · rename_i n el hu
        split at e
        · rename_i hlt
          split at e
          · rename_i size hsz
            obtain rfl := Option.some.inj e
            have hjn := blt_t hlt
            refine ⟨.pointer (some ⟨p.r, p.s + (o + j * size), none⟩), .o (.s (.b (.ptr hp))), fun w2 hb op ho => ?_⟩
            have e2 : (0 : Int) ≤ Int.ofNat j ∧ Int.ofNat j < (n : Int) := ⟨Int.natCast_nonneg j, by show (j : Int) < n; omega⟩
            simp only [execOp, ho, Instr.indexAt, Sem.run_bind, e1, ei, asIntOf, Sem.run_pure, Result.andThen_ok, run_underlying hu, Instr.sureAddr, if_pos e2, szOf_run hsz, addr_add]
            rw [Nat.add_assoc]
            rfl
          · cases e
        · cases e
      · cases e
    · cases e
theorem read_index (hρ : ∀ x, TR m (ρ x) (ρ' x)) {t : TypeId} {x i : Operand} {v : Value} (e : readEv P (.index t x i) ρ h = some v) : Reads P m w ρ' (.index t x i) v := by
  simp only [readEv] at e
  split at e
  · cases e
  · rename_i j hj
    obtain ⟨k, ei⟩ := int_of hρ hj
    split at e
    · rename_i l ex
      have e1 := TR.str (ex ▸ hρ x)
      split at e
      · rename_i b hb hu
        obtain rfl := Option.some.inj e
        refine ⟨_, TR.same m rfl, fun w2 _ op ho => ?_⟩
        have e2 : (if (0 : Int) ≤ Int.ofNat j then (⟨⟨l⟩⟩ : ByteArray)[(Int.ofNat j).toNat]? else none) = some b := by
          rw [if_pos (show (0 : Int) ≤ Int.ofNat j from Int.natCast_nonneg j)]
          exact (str_get l j).trans hb
        simp only [execOp, ho, Instr.index, Sem.run_bind, e1, ei, asIntOf, Sem.run_pure, Result.andThen_ok, run_underlying hu, e2]
        rfl
      · cases e
    · rename_i cs ex
      obtain ⟨cs', e1, hcs⟩ := TR.agg (ex ▸ hρ x)
      split at e
      · rename_i n el hu
        split at e
        · rename_i hlt hsz hag
          have hjn := blt_t hlt
          obtain ⟨v', hv', hvr⟩ := hcs.at e
          refine ⟨v', .o (.s hvr), fun w2 hb op ho => ?_⟩
          have e2 : (0 : Int) ≤ Int.ofNat j ∧ Int.ofNat j < (n : Int) := ⟨Int.natCast_nonneg j, by show (j : Int) < n; omega⟩
          have e3 : (⟨cs'⟩ : Array Value)[(Int.ofNat j).toNat * 1]? = some v' := by rw [Nat.mul_one, ← Array.getElem?_toList]; exact hv'
          simp only [execOp, ho, Instr.index, Sem.run_bind, e1, ei, asIntOf, Sem.run_pure, Result.andThen_ok, run_underlying hu, if_pos e2, szOf_run hsz, part, isAgg_run hag, Bool.false_eq_true, if_false, e3]
        · cases e
      · cases e
    · cases e
theorem read_makeFunc (hρ : ∀ x, TR m (ρ x) (ρ' x)) {fn : Fn} {first cap : Array Operand} {v : Value} (e : readEv P (.makeFunc fn first cap) ρ h = some v) : Reads P m w ρ' (.makeFunc fn first cap) v := by
  simp only [readEv] at e
  split at e
  · rename_i hb
    rw [Bool.and_eq_true] at hb
    obtain rfl := Option.some.inj e
    refine ⟨.func fn ⟨first.toList.map ρ'⟩ ⟨cap.toList.map ρ'⟩, .o (.s (.func fn (opvL_br hρ _ hb.1) (opvL_br hρ _ hb.2))), fun w2 _ op ho => ?_⟩
    have e1 : first.map ρ' = ⟨first.toList.map ρ'⟩ := Array.ext' (by simp)
    have e2 : cap.map ρ' = ⟨cap.toList.map ρ'⟩ := Array.ext' (by simp)
    simp only [execOp, ho, Instr.makeFunc, e1, e2]
    rfl
  · cases e
theorem bound_run {P : Program} {x : Value} {k : IntKind} {n y : Nat} (hx : x = .int k (.ofNat n)) (h : n ≤ y) (c : BoundsCode) (w : World) : (Instr.sliceBound x y c).run P w = .ok n w := by
  subst hx
  have e2 : (0 : Int) ≤ Int.ofNat n ∧ Int.ofNat n ≤ (y : Int) := ⟨Int.natCast_nonneg n, by show (n : Int) ≤ y; omega⟩
  simp only [Instr.sliceBound, Sem.run_bind, asIntOf, Sem.run_pure, Result.andThen_ok, if_pos e2]
  rfl
def optN (ρ : Operand → Value) (d : Nat) : Option Operand → Option Nat
  | some x => natOf (ρ x)
  | none => some d
theorem bounds_run (hρ : ∀ x, TR m (ρ x) (ρ' x)) {lo hi : Option Operand} {isS : Bool} {len cap l h : Nat} (hh : (match hi with | some x => natOf (ρ x) | none => some len) = some h) (hl : (match lo with | some x => natOf (ρ x) | none => some 0) = some l) (h1 : l ≤ h) (h2 : h ≤ cap) (w : World) :
    (Instr.sliceBounds isS len cap (lo.map ρ') (hi.map ρ') none).run P w = .ok (l, h, cap) w := by
  unfold Instr.sliceBounds
  cases hi with
  | none =>
    obtain rfl := Option.some.inj hh
    cases lo with
    | none => obtain rfl := Option.some.inj hl; rfl
    | some y =>
      obtain ⟨k, e⟩ := int_of hρ hl
      simp only [Option.map_none, Option.map_some, Sem.run_bind, Sem.run_pure, Result.andThen_ok, bound_run e h1]
  | some x =>
    obtain ⟨k, e⟩ := int_of hρ hh
    cases lo with
    | none =>
      obtain rfl := Option.some.inj hl
      simp only [Option.map_none, Option.map_some, Sem.run_bind, Sem.run_pure, Result.andThen_ok, bound_run e h2]
    | some y =>
      obtain ⟨k', e'⟩ := int_of hρ hl
      simp only [Option.map_none, Option.map_some, Sem.run_bind, Sem.run_pure, Result.andThen_ok, bound_run e h2, bound_run e' h1]
theorem sliceAt_sl {t el size : Nat} (hu : P.underlying t = some (.slice el)) (hsz : szOf P el = some size) {a : Option Addr} {n c l h : Nat} {lo hi : Option Value} {w2 : World} (hb : (Instr.sliceBounds true n c lo hi none).run P w2 = .ok (l, h, c) w2) : (Instr.sliceAt t (.slice a n c) lo hi none).run P w2 = .ok (.slice (if c = l then a else a.map (·.add (l * size))) (h - l) (c - l)) w2 := by
  simp only [Instr.sliceAt, Instr.slice, Sem.run_bind, run_underlying hu, Result.andThen_ok, hb, szOf_run hsz, Sem.run_pure]
theorem read_slice (hr : HR D top m h w) (hρ : ∀ x, TR m (ρ x) (ρ' x)) {t : TypeId} {x : Operand} (hT : Sub (maskV (ρ x)) D) {lo hi mx : Option Operand} {v : Value} (e : readEv P (.slice t x lo hi mx) ρ h = some v) : Reads P m w ρ' (.slice t x lo hi mx) v := by
  cases mx with
  | some _ => simp only [readEv] at e; cases e
  | none =>
  simp only [readEv] at e
  split at e
  · rename_i l hl
    split at e
    · rename_i a n c ex
      split at e
      · rename_i hh el hhi hu
        split at e
        · rename_i size hsz
          split at e
          · rename_i hb
            rw [Bool.and_eq_true] at hb
            have b1 := ble_t hb.1
            have b2 := ble_t hb.2
            split at e
            · obtain rfl := Option.some.inj e
              have e1 : ρ' x = .slice none n c := (ex ▸ hρ x).afEq rfl
              refine ⟨_, TR.same m rfl, fun w2 _ op ho => ?_⟩
              have hs := sliceAt_sl hu hsz (a := none) (bounds_run (P := P) (isS := true) hρ hhi hl b1 b2 w2)
              simp only [execOp, ho, e1, Sem.run_bind, Option.map_none, hs, Result.andThen_ok, Sem.run_pure]
              congr 3
              split <;> rfl
            · rename_i b o
              split at e
              · rename_i y hy
                split at e
                · rename_i hyz
                  have hyz := beq_t hyz
                  have hps : ∀ p, m b = some p → p.sz = size := by
                    intro p hp
                    obtain ⟨q, cs, h1, _, _, h4, _⟩ := hr.blk b y (hT b (by rw [ex]; exact on_pow b)) hy
                    obtain rfl := Option.some.inj (hp.symm.trans h1)
                    rw [h4, hyz]
                  rcases TR.sl (ex ▸ hρ x) with ⟨p, c', hp, hc, hR, e1⟩ | ⟨hn, hc0, p, o', c', hp, hR, e1⟩
                  · have hs := fun w2 => sliceAt_sl hu hsz (a := some ⟨p.r, p.s + o, none⟩) (bounds_run (P := P) (isS := true) hρ hhi hl b1 (Nat.le_trans b2 hc) w2)
                    have hpz := hps p hp
                    have hle : l ≤ c' := by omega
                    have hmul : l * size + (c' - l) * size = c' * size := by rw [← Nat.add_mul]; congr 1; omega
                    rw [hpz] at hR
                    split at e
                    · rename_i hcl
                      obtain rfl := Option.some.inj e
                      have hcl := beq_t hcl
                      have hh0 : hh - l = 0 := by omega
                      by_cases hc2 : c' = l
                      · refine ⟨.slice (some ⟨p.r, p.s + o, none⟩) 0 0, .o (.s (.b (.slE hp (by omega)))), fun w2 _ op ho => ?_⟩
                        simp only [execOp, ho, e1, Sem.run_bind, Option.map_none, hs w2, Result.andThen_ok, Sem.run_pure, if_pos hc2, hh0]
                        rw [hc2, Nat.sub_self]
                      · refine ⟨.slice (some ⟨p.r, p.s + o + l * size, none⟩) 0 (c' - l), .o (.s (.b (.slE hp (by rw [hpz]; omega)))), fun w2 _ op ho => ?_⟩
                        simp only [execOp, ho, e1, Sem.run_bind, Option.map_none, hs w2, Result.andThen_ok, Sem.run_pure, if_neg hc2, hh0, Option.map_some, addr_add]
                    · rename_i hcl
                      obtain rfl := Option.some.inj e
                      have hcl := beq_f hcl
                      refine ⟨.slice (some ⟨p.r, p.s + (o + l * size), none⟩) (hh - l) (c' - l), .o (.s (.b (.sl hp (by omega) (by rw [hpz]; omega)))), fun w2 _ op ho => ?_⟩
                      simp only [execOp, ho, e1, Sem.run_bind, Option.map_none, hs w2, Result.andThen_ok, Sem.run_pure, if_neg (show ¬ c' = l by omega), Option.map_some, addr_add]
                      rw [Nat.add_assoc]
                  · subst hn hc0
                    obtain rfl : hh = 0 := by omega
                    obtain rfl : l = 0 := by omega
                    obtain rfl := Option.some.inj e
                    have hs := fun w2 => sliceAt_sl hu hsz (a := some ⟨p.r, o', none⟩) (bounds_run (P := P) (isS := true) (cap := c') hρ hhi hl (Nat.le_refl 0) (Nat.zero_le _) w2)
                    refine ⟨.slice (some ⟨p.r, o', none⟩) 0 c', .o (.s (.b (.slE hp hR))), fun w2 _ op ho => ?_⟩
                    simp only [execOp, ho, e1, Sem.run_bind, Option.map_none, hs w2, Result.andThen_ok, Sem.run_pure, Nat.zero_mul, Option.map_some, addr_add, Nat.add_zero, Nat.sub_zero]
                    congr 3
                    split <;> rfl
                · cases e
              · cases e
            · cases e
          · cases e
        · cases e
      · cases e
    · rename_i s ex
      have e1 := TR.str (ex ▸ hρ x)
      split at e
      · rename_i hh hhi hu
        split at e
        · rename_i hb
          rw [Bool.and_eq_true] at hb
          obtain rfl := Option.some.inj e
          refine ⟨_, TR.same m rfl, fun w2 _ op ho => ?_⟩
          have hs := bounds_run (P := P) (isS := false) (len := s.length) (cap := s.length) hρ hhi hl (ble_t hb.1) (ble_t hb.2) w2
          have hsz : (⟨⟨s⟩⟩ : ByteArray).size = s.length := rfl
          simp only [execOp, ho, e1, Instr.sliceAt, Instr.slice, Sem.run_bind, run_underlying hu, Result.andThen_ok, Option.map_none, Option.isSome_none, Bool.false_eq_true, if_false, hsz, hs, Sem.run_pure, str_extract]
        · cases e
      · cases e
    · cases e
  · cases e
theorem args_eq (args : Array Operand) : args.map ρ' = ⟨args.toList.map ρ'⟩ := Array.ext' (by simp)
theorem read_call (hρ : ∀ x, TR m (ρ x) (ρ' x)) {b : Builtin} {args : Array Operand} {ats : Array TypeId} {v : Value} (e : readEv P (.call { callee := .builtin b, args := args, argTypes := ats }) ρ h = some v) : Reads P m w ρ' (.call { callee := .builtin b, args := args, argTypes := ats }) v := by
  simp only [readEv] at e
  have hargs := opvL_ok hρ args.toList
  split at e
  · rename_i t ts a n c hat hal
    rw [hal] at hargs
    split at e
    · rename_i el hu
      obtain rfl := Option.some.inj e
      cases hl : args.toList.map ρ' with
      | nil => rw [hl] at hargs; cases hargs
      | cons y ys =>
        rw [hl] at hargs
        cases hargs with
        | cons h1 h2 =>
          cases h2
          obtain ⟨a', c', rfl, _⟩ := TR.slA h1
          refine ⟨_, TR.same m rfl, fun w2 _ op ho => ?_⟩
          have ea : args.map ρ' = #[.slice a' n c'] := by rw [args_eq, hl]
          have et : ats[0]? = some t := by rw [← Array.getElem?_toList, hat]; rfl
          simp only [execOp, ho, resolve, ea, Sem.run_bind, Sem.run_pure, Result.andThen_ok, invoke, builtin, Builtin.len_, et]
          simp [run_underlying hu, goInt]
    · cases e
  · rename_i t ts l hat hal
    rw [hal] at hargs
    split at e
    · rename_i hu
      obtain rfl := Option.some.inj e
      cases hl : args.toList.map ρ' with
      | nil => rw [hl] at hargs; cases hargs
      | cons y ys =>
        rw [hl] at hargs
        cases hargs with
        | cons h1 h2 =>
          cases h2
          have h1 := TR.str h1
          subst h1
          refine ⟨_, TR.same m rfl, fun w2 _ op ho => ?_⟩
          have ea : args.map ρ' = #[.string ⟨⟨l⟩⟩] := by rw [args_eq, hl]
          have et : ats[0]? = some t := by rw [← Array.getElem?_toList, hat]; rfl
          simp only [execOp, ho, resolve, ea, Sem.run_bind, Sem.run_pure, Result.andThen_ok, invoke, builtin, Builtin.len_, et]
          simp [run_underlying hu, goInt]
          rfl
    · cases e
  · rename_i k a k2 b hal
    rw [hal] at hargs
    obtain rfl := Option.some.inj e
    cases hl : args.toList.map ρ' with
    | nil => rw [hl] at hargs; cases hargs
    | cons y ys =>
      rw [hl] at hargs
      cases hargs with
      | cons h1 h2 =>
        cases h2 with
        | cons h2 h3 =>
          cases h3
          have h1 := TR.int h1
          have h2 := TR.int h2
          subst h1 h2
          refine ⟨_, TR.same m rfl, fun w2 _ op ho => ?_⟩
          have ea : args.map ρ' = #[.int k a, .int k2 b] := by rw [args_eq, hl]
          simp only [execOp, ho, resolve, ea, Sem.run_bind, Sem.run_pure, Result.andThen_ok, invoke, builtin, Builtin.max_]
          rfl
  · rename_i k a k2 b hal
    rw [hal] at hargs
    obtain rfl := Option.some.inj e
    cases hl : args.toList.map ρ' with
    | nil => rw [hl] at hargs; cases hargs
    | cons y ys =>
      rw [hl] at hargs
      cases hargs with
      | cons h1 h2 =>
        cases h2 with
        | cons h2 h3 =>
          cases h3
          have h1 := TR.int h1
          have h2 := TR.int h2
          subst h1 h2
          refine ⟨_, TR.same m rfl, fun w2 _ op ho => ?_⟩
          have ea : args.map ρ' = #[.int k a, .int k2 b] := by rw [args_eq, hl]
          simp only [execOp, ho, resolve, ea, Sem.run_bind, Sem.run_pure, Result.andThen_ok, invoke, builtin, Builtin.min_]
          rfl
  · cases e
/-- Whatever is read: what the machine for closed calls reads stands for what is read. -/
theorem read_ok (hr : HR D top m h w) (hρ : ∀ x, TR m (ρ x) (ρ' x)) : ∀ {op : Op} {v : Value}, Sub (touch op ρ) D → readEv P op ρ h = some v → Reads P m w ρ' op v
  | .move x, v, hT, e => by obtain rfl := Option.some.inj e; exact read_val hρ fun o ho => by simp only [execOp, ho]; rfl
  | .assign x, v, hT, e => by obtain rfl := Option.some.inj e; exact read_val hρ fun o ho => by simp only [execOp, ho]; rfl
  | .pick .., v, hT, e => read_pick hρ e
  | .build .., v, hT, e => read_build hρ e
  | .load t a, v, hT, e => by
    simp only [readEv] at e
    split at e
    · rename_i b o ea
      exact read_load hr hρ (hT b (by show On (maskV (ρ a)) b; rw [ea]; exact on_pow b)) ea e
    · cases e
  | .nilCheck .., v, hT, e => read_nilCheck hρ e
  | .binOp .., v, hT, e => read_bin hr hρ hT e
  | .unOp .., v, hT, e => read_un hρ e
  | .convert .., v, hT, e => read_convert hr hρ hT e
  | .makeFunc .., v, hT, e => read_makeFunc hρ e
  | .slice .., v, hT, e => read_slice hr hρ hT e
  | .fieldAddr .., v, hT, e => read_fieldAddr hρ e
  | .field .., v, hT, e => read_field hρ e
  | .indexAddr .., v, hT, e => read_indexAddr hρ e
  | .index .., v, hT, e => read_index hρ e
  | .extract .., v, hT, e => read_extract hρ e
  | .call { callee := .builtin b, args, argTypes }, v, hT, e => read_call hρ e
  | .call { callee := .value _, .. }, v, hT, e => by cases e
  | .call { callee := .invoke .., .. }, v, hT, e => by cases e
  | .alloc _, v, hT, e => by cases e
  | .box .., v, hT, e => by cases e
  | .buildSlice .., v, hT, e => by cases e
  | .insert .., v, hT, e => by cases e
  | .store .., v, hT, e => by cases e
  | .ready _, v, hT, e => by cases e
  | .waits _, v, hT, e => by cases e
  | .sliceToArrayPointer .., v, hT, e => by cases e
  | .makeInterface .., v, hT, e => by cases e
  | .makeMap .., v, hT, e => by cases e
  | .makeChan .., v, hT, e => by cases e
  | .makeSlice .., v, hT, e => by cases e
  | .lookup .., v, hT, e => by cases e
  | .mapUpdate .., v, hT, e => by cases e
  | .mapEntry .., v, hT, e => by cases e
  | .entryStore .., v, hT, e => by cases e
  | .range .., v, hT, e => by cases e
  | .next .., v, hT, e => by cases e
  | .entry _, v, hT, e => by cases e
  | .typeAssert .., v, hT, e => by cases e
  | .go _, v, hT, e => by cases e
  | .defer _, v, hT, e => by cases e
  | .panic _, v, hT, e => by cases e
  | .send .., v, hT, e => by cases e
  | .recv .., v, hT, e => by cases e
  | .select .., v, hT, e => by cases e
end
end Go.Proofs.YtjhemobplcelbaaGreatDoor.V
