/- The machine for closed calls: all operations that make or write memory. No condition. -/
import Derived.Test.YtjhemobplcelbaaGreatDoorEvJ
namespace Go.Proofs.YtjhemobplcelbaaGreatDoor.V
open Go.RowKit
set_option linter.unusedVariables false
set_option linter.unusedSimpArgs false
section
variable {P : Program} {D : Nat → Prop} {top : Nat} {m : Map} {h h' : CH} {w : World} {ρ ρ' : Operand → Value}
theorem TR.slQ {v' : Value} {b o n c : Nat} (h : TR m (.slice (some ⟨b, o, none⟩) n c) v') : ∃ p q c', m b = some p ∧ v' = .slice (some ⟨p.r, q, none⟩) n c' ∧ c ≤ c' ∧ (q + c' * p.sz ≤ p.R ∧ c' ≤ 9223372036854775807) ∧ (q = p.s + o ∨ n = 0) := by
  rcases TR.sl h with ⟨p, c', hp, hc, hR, e⟩ | ⟨h0, hc0, p, o', c', hp, hR, e⟩
  · exact ⟨p, _, c', hp, e, hc, hR, .inl rfl⟩
  · subst h0 hc0
    exact ⟨p, o', c', hp, e, Nat.zero_le _, hR, .inr rfl⟩
theorem Post.dr {m' : Map} {w' : World} (k : Post D top m h (World.dr w) m' h' w') : Post D top m h w m' h' w' :=
  ⟨k.le, k.hr, fun W hf => k.fr W ⟨hf.bel.trans ⟨rfl, rfl, rfl, Nat.le_refl _, fun _ _ => rfl⟩, hf.new⟩, k.sz, k.frame, k.newm⟩
theorem Post.of_drop {h1 : CH} {m' : Map} {w' : World} (hn : h1.n = h.n) (k : Post D top m h1 w m' h' w') : Post D top m h w m' h' w' :=
  ⟨k.le, k.hr, k.fr, k.sz, k.frame, fun b p e => by rw [← hn]; exact k.newm b p e⟩
theorem noInt_of {t : TypeId} (h : (match P.underlying t with | some (.slice _) => true | some .string => true | _ => false) = true) : noInt P t := by
  split at h
  · exact .inl ⟨_, ‹_›⟩
  · exact .inr ‹_›
  · cases h
/-- What append answers. -/
theorem append_ok (hr : HR D top m h w) (ht : h'.n ≤ top) {st xt : TypeId} {s s' x x' v : Value} {ty : TypeId} (hT : Sub h'.rd D) (hS : Sub (maskV s) D) (hX : Sub (maskV x) D) (hs : TR m s s') (hx : TR m x x') (he : appendV P h st xt s x = some (v, h')) :
    ∃ m' v' w', TR m' v v' ∧ Post D top m h w m' h' w' ∧ (Builtin.append_ #[st, xt] ty #[s', x']).run P w = .ok v' w' := by
  unfold appendV at he
  split at he
  · rename_i e k base n c hel hk
    have hu := elem_some hel
    split at he
    · rename_i size z bytes hsz hz hby hni
      have hni := noInt_of hni
      split at he
      · rename_i hb
        simp only [Bool.and_eq_true] at hb
        obtain ⟨⟨⟨zs, hnk⟩, hb1⟩, hb2⟩ := hb
        have hnk := ble_t hnk
        have hb1 := ble_t hb1
        have hb2 := ble_t hb2
        have hzs : z.cells.toList.length = size := beq_t zs
        split at he
        · cases he
        · rename_i new hnew
          obtain ⟨new', hn1, hn2, hn3⟩ := src_ok (P := P) hr hX hx hk (Nat.le_refl k) hnew
          split at he
          · cases he
          · rename_i hnl
            have hnl : new'.length = k * size := by rw [← hn1.len]; exact beq_t hnl
            have hbel := below_dr w
            have hrd := hr.below hbel
            split at he
            · rename_i hroom
              have hroom := ble_t hroom
              split at he
              · have he := Option.some.inj he
                injection he with h3 h4
                subst h3 h4
                have e1 := hs.afEq rfl
                subst e1
                refine ⟨m, _, w, TR.same m rfl, Post.refl hr, ?_⟩
                rw [append_room hu hni hsz (hn3 w) (hn2 w (Below.refl _ _)) hroom]
                rfl
              · rename_i b o
                split at he
                · rename_i h2 hst
                  have he := Option.some.inj he
                  injection he with h3 h4
                  subst h3 h4
                  obtain ⟨q, hq, w', g1, g2⟩ := hr.store (P := P) (hS b (on_pow b)) hst hn1
                  rcases TR.sl hs with ⟨p, c', hp, hc, hR, rfl⟩ | ⟨h0, hc0, p, o', c', hp, hR, rfl⟩
                  · obtain rfl := Option.some.inj (hp.symm.trans hq)
                    refine ⟨m, .slice (some ⟨p.r, p.s + o, none⟩) (n + k) c', w', .o (.s (.b (.sl hp hc hR))), g2, ?_⟩
                    rw [append_room hu hni hsz (hn3 w) (hn2 w (Below.refl _ _)) (by omega)]
                    simp only [addr_add]
                    rw [Nat.add_assoc, g1]
                    rfl
                  · subst h0 hc0
                    obtain rfl : k = 0 := by omega
                    have hnil : new' = [] := List.eq_nil_of_length_eq_zero (by rw [hnl, Nat.zero_mul])
                    subst hnil
                    obtain rfl := Option.some.inj (hp.symm.trans hq)
                    have hnil2 : new = [] := by cases hn1; rfl
                    have hw : w' = w := by
                      have : (storeCells ⟨p.r, p.s + (o + 0 * size), none⟩ []).run P w = .ok () w := rfl
                      rw [this] at g1
                      injection g1 with _ g1
                      exact g1.symm
                    subst hw
                    refine ⟨m, .slice (some ⟨p.r, o', none⟩) 0 c', w', .o (.s (.b (.slE hp hR))), g2, ?_⟩
                    rw [append_room hu hni hsz (hn3 w') (hn2 w' (Below.refl _ _)) (by omega)]
                    rfl
                · cases he
              · cases he
            · rename_i hroom
              have hroom := ble_f hroom
              unfold growV at he
              split at he
              · split at he
                · rename_i hn0
                  have hn0 := beq_t hn0
                  subst hn0
                  split at he
                  · rename_i h2 hh
                    have he := Option.some.inj he
                    injection he with h3 h4
                    subst h3 h4
                    have e1 := hs.afEq rfl
                    subst e1
                    obtain ⟨cap, hcap, hcap2, hrun⟩ := append_grow (ty := ty) (base := none) (old' := []) hu hni hsz hz hby hb1 hb2 hnk (hn3 w) (hn2 _ hbel) rfl hroom
                    rw [List.nil_append] at hrun
                    have k1 := hrd.make (by have := (new_some hh).2.1; omega) hh hn1 (repL z.cells.toList (cap - (0 + k)))
                    refine ⟨_, .slice (some ⟨w.heap.size, 0 + 0, none⟩) (0 + k) cap, _, ?_, Post.dr k1, hrun⟩
                    rw [Nat.zero_add]
                    refine .o (.s (.b (.sl (Map.more_new m h.n _) (by omega) ⟨?_, hcap2⟩)))
                    show 0 + 0 + cap * size ≤ (new' ++ repL z.cells.toList (cap - k)).length
                    rw [List.length_append, rep_len, hnl, hzs, ← Nat.add_mul]
                    have : k + (cap - k) = cap := by omega
                    rw [this]; omega
                  · cases he
                · cases he
              · rename_i b o
                split at he
                · rename_i y old hy hold
                  split at he
                  · rename_i hyy
                    rw [Bool.and_eq_true] at hyy
                    have hyz := beq_t hyy.1
                    have hyt := beq_t hyy.2
                    split at he
                    · rename_i h1 hd
                      split at he
                      · rename_i h2 hh
                        have he := Option.some.inj he
                        injection he with h3 h4
                        subst h3 h4
                        obtain ⟨d1, d2, d3, d4⟩ := drop_some hd
                        obtain ⟨n1, n2, n3, n4⟩ := new_some hh
                        have hDb : D b := hS b (on_pow b)
                        obtain ⟨p, q, c', hp, rfl, hc, hR, hqo⟩ := TR.slQ hs
                        obtain ⟨p', cs, f1, f2, f3, f4, f5, f6⟩ := hr.blk b y hDb hy
                        obtain rfl := Option.some.inj (hp.symm.trans f1)
                        have hpz : p.sz = size := by rw [f4, hyz]
                        obtain ⟨y', hy', hyle, rfl⟩ := loadL_some hold
                        obtain rfl := Option.some.inj (hy.symm.trans hy')
                        have hlen : cs.toList.length = p.R := by rw [Array.length_toList, f3]
                        rw [hpz] at hR
                        -- the old cells, as they lie
                        have hO : F2 (SR m) ((y.cs.drop o).take (n * size)) ((cs.toList.drop q).take (n * size)) := by
                          rcases hqo with rfl | h0
                          · have := (f6.drop o).take (n * size)
                            rw [List.drop_take, List.drop_drop, List.take_take, Nat.min_eq_left (by omega)] at this
                            exact this
                          · subst h0
                            rw [Nat.zero_mul, List.take_zero, List.take_zero]
                            exact .nil
                        have hOl : ((cs.toList.drop q).take (n * size)).length = n * size := by
                          have := hO.len
                          rw [← this, List.length_take, List.length_drop]; omega
                        have hmul : n * size + k * size = (n + k) * size := (Nat.add_mul _ _ _).symm
                        by_cases hc2 : n + k ≤ c'
                        · have hmul2 : (n + k) * size ≤ c' * size := Nat.mul_le_mul_right _ hc2
                          have k1 := hr.regrow (by omega) hDb hy hp f2 f3 hd (by rw [hpz]; exact hh) hyt hO hn1 (by rw [hOl]) (by rw [hOl, hnl]; omega)
                          refine ⟨_, .slice (some ⟨p.r, q + 0, none⟩) (n + k) c', _, .o (.s (.b (.sl (Map.more_new m h.n _) (by omega) (by show q + 0 + c' * p.sz ≤ p.R ∧ c' ≤ 9223372036854775807; rw [hpz]; omega)))), k1, ?_⟩
                          rw [append_room hu hni hsz (hn3 w) (hn2 w (Below.refl _ _)) hc2]
                          simp only [addr_add]
                          have := run_storeCells_at P p.r (q + n * size) y.ty new' 0 cs w f2 (by rw [f3, hnl]; omega) hn1.oneCell
                          rw [this]
                          simp only [Nat.add_zero, hOl]
                          rfl
                        · have hO2 : (Builtin.firstCells size n (.slice (some ⟨p.r, q, none⟩) n c')).run P (World.dr w) = .ok ⟨(cs.toList.drop q).take (n * size)⟩ (World.dr w) := by
                            show (loadCells ⟨p.r, q, none⟩ (n * size)).run P (World.dr w) = _
                            have := run_loadCells_list (P := P) (World.dr w) ⟨p.r, q, none⟩ ((cs.toList.drop q).take (n * size)) (fun j v hj => by
                              rw [addr_add]
                              show (match (World.dr w).heap[p.r]? with | some (.cells c _ _) => if (none : Option Nat).isSome then none else c[q + j]? | _ => none) = some v
                              have : (World.dr w).heap[p.r]? = some (.cells cs y.ty (0, 0)) := f2
                              rw [this]
                              show cs[q + j]? = some v
                              rw [List.getElem?_take] at hj
                              split at hj
                              · rw [List.getElem?_drop, Array.getElem?_toList] at hj; exact hj
                              · cases hj)
                            rw [hOl] at this
                            exact this
                          obtain ⟨cap, hcap, hcap2, hrun⟩ := append_grow (ty := ty) hu hni hsz hz hby hb1 hb2 hnk (hn3 w) (hn2 _ hbel) hO2 (by omega)
                          have hr1 := (hr.drop hd).below hbel
                          have k1 := hr1.make (by omega) hh (hO.append hn1) (repL z.cells.toList (cap - (n + k)))
                          rw [d2] at k1
                          refine ⟨_, .slice (some ⟨w.heap.size, 0 + 0, none⟩) (n + k) cap, _, ?_, Post.dr (Post.of_drop d2 k1), hrun⟩
                          refine .o (.s (.b (.sl (Map.more_new m h.n _) (by omega) ⟨?_, hcap2⟩)))
                          show 0 + 0 + cap * size ≤ ((((cs.toList.drop q).take (n * size)) ++ new') ++ repL z.cells.toList (cap - (n + k))).length
                          rw [List.length_append, List.length_append, rep_len, hOl, hnl, hzs, ← Nat.add_mul, ← Nat.add_mul]
                          have : n + k + (cap - (n + k)) = cap := by omega
                          rw [this]; omega
                      · cases he
                    · cases he
                  · cases he
                · cases he
              · cases he
      · cases he
    · cases he
  · cases he
theorem split2 {args : Array Operand} {a b : Value} (hρ : ∀ x, TR m (ρ x) (ρ' x)) (h : opvL ρ args.toList = [a, b]) : ∃ a' b', args.map ρ' = #[a', b'] ∧ TR m a a' ∧ TR m b b' := by
  have hargs := opvL_ok hρ args.toList
  rw [h] at hargs
  cases hl : args.toList.map ρ' with
  | nil => rw [hl] at hargs; cases hargs
  | cons y ys =>
    rw [hl] at hargs
    cases hargs with
    | cons h1 h2 =>
      cases h2 with
      | cons h2 h3 =>
        cases h3
        exact ⟨_, _, by rw [args_eq, hl], h1, h2⟩
theorem split1 {args : Array Operand} {a : Value} (hρ : ∀ x, TR m (ρ x) (ρ' x)) (h : opvL ρ args.toList = [a]) : ∃ a', args.map ρ' = #[a'] ∧ TR m a a' := by
  have hargs := opvL_ok hρ args.toList
  rw [h] at hargs
  cases hl : args.toList.map ρ' with
  | nil => rw [hl] at hargs; cases hargs
  | cons y ys =>
    rw [hl] at hargs
    cases hargs with
    | cons h1 h2 =>
      cases h2
      exact ⟨_, by rw [args_eq, hl], h1⟩
theorem ats_eq {ats : Array TypeId} {l : List TypeId} (h : ats.toList = l) : ats = ⟨l⟩ := Array.ext' h
theorem src_zero {k size : Nat} {x : Value} {l : List Value} (e : srcCells h size (Nat.min k 0) x = some l) : l = [] := by
  have e : srcCells h size 0 x = some l := by rwa [show Nat.min k 0 = 0 from Nat.min_zero k] at e
  unfold srcCells at e
  split at e
  · exact (Option.some.inj e).symm
  · rw [Nat.zero_mul] at e
    obtain ⟨y, _, _, rfl⟩ := loadL_some e
    rfl
  · exact (Option.some.inj e).symm
  · cases e
theorem mask2 {args : Array Operand} {a b : Value} (h : opvL ρ args.toList = [a, b]) (hT : Sub (maskL ρ args.toList) D) : Sub (maskV a) D ∧ Sub (maskV b) D := by
  cases hl : args.toList with
  | nil => rw [hl] at h; cases h
  | cons x xs =>
    rw [hl] at h hT
    cases xs with
    | nil => cases h
    | cons y ys =>
      injection h with h1 h2
      injection h2 with h2 h3
      subst h1 h2
      exact ⟨hT.or.1, hT.or.2.or.1⟩
theorem write_call (hr : HR D top m h w) (ht : h'.n ≤ top) (hT : Sub h'.rd D) (hρ : ∀ x, TR m (ρ x) (ρ' x)) {b : Builtin} {args : Array Operand} {ats : Array TypeId} {v : Value} (hT1 : Sub (touch (.call { callee := .builtin b, args := args, argTypes := ats }) ρ) D) (he : writeEv P (.call { callee := .builtin b, args := args, argTypes := ats }) ρ h = some (v, h')) : Writes P D top m h w ρ' (.call { callee := .builtin b, args := args, argTypes := ats }) v h' := by
  simp only [writeEv] at he
  split at he
  · rename_i st xt s x hat hal
    obtain ⟨s', x', ea, hs, hx⟩ := split2 hρ hal
    have et := ats_eq hat
    obtain ⟨hS, hX⟩ := mask2 hal (show Sub (maskL ρ args.toList) D from hT1)
    obtain ⟨m', v', w', k1, k2, _⟩ := append_ok (P := P) (ty := 0) hr ht hT hS hX hs hx he
    refine ⟨m', v', w', .value v', k1, k2, .inl rfl, fun o ho => ?_⟩
    simp only [execOp, ho, resolve, ea, et, Sem.run_bind, Sem.run_pure, Result.andThen_ok, invoke, builtin]
    have k9 := ‹(Builtin.append_ #[st, xt] 0 #[s', x']).run P w = .ok v' w'›
    have k9 : (Builtin.append_ ⟨[st, xt]⟩ o.type #[s', x']).run P w = .ok v' w' := k9
    rw [k9]
    rfl
  · rename_i t a n c hat hal
    obtain ⟨a', ea, ha⟩ := split1 hρ hal
    have et := ats_eq hat
    split at he
    · rename_i e hel
      have hu := elem_some hel
      split at he
      · have he := Option.some.inj he
        injection he with h3 h4
        subst h3 h4
        have := ha.afEq rfl
        subst this
        refine ⟨m, .tuple #[], w, .value (.tuple #[]), TR.same m rfl, Post.refl hr, .inl rfl, fun o ho => ?_⟩
        simp only [execOp, ho, resolve, ea, et, Sem.run_bind, Sem.run_pure, Result.andThen_ok, invoke, builtin, Builtin.clear_]
        simp [run_underlying hu]
      · rename_i b o z hz
        split at he
        · rename_i hzz
          rw [Bool.and_eq_true] at hzz
          have hzc : F2 (SR m) z.cells.toList z.cells.toList := zero_cells hzz.1 hzz.2
          split at he
          · rename_i h2 hst
            have he := Option.some.inj he
            injection he with h3 h4
            subst h3 h4
            obtain ⟨q, hq, w', g1, g2⟩ := hr.store (P := P) (hT b (by obtain ⟨_, _, _, _, _, k, _⟩ := storeL_some hst; rw [k]; exact on_or.2 (.inr (on_pow b)))) hst (rep_F2 hzc n)
            have hrep : (Builtin.zeroCells z.cells n).toList = repL z.cells.toList n := rep_eq z.cells n
            refine ⟨m, .tuple #[], w', .value (.tuple #[]), TR.same m rfl, g2, .inl rfl, fun op ho => ?_⟩
            rcases TR.sl ha with ⟨p, c', hp, hc, hR, rfl⟩ | ⟨h0, hc0, p, o', c', hp, hR, rfl⟩
            · obtain rfl := Option.some.inj (hp.symm.trans hq)
              have key : (Builtin.clear_ #[t] op.type #[.slice (some ⟨p.r, p.s + o, none⟩) n c']).run P w = .ok (.tuple #[]) w' := by
                unfold Builtin.clear_
                cases n with
                | zero =>
                  have : (storeCells ⟨p.r, p.s + o, none⟩ (repL z.cells.toList 0)).run P w = .ok () w := rfl
                  rw [this] at g1
                  injection g1 with _ g1
                  subst g1
                  simp [run_underlying hu]
                | succ n =>
                  simp only [List.getElem?_toArray, List.getElem?_cons_zero, Sem.run_bind, run_underlying hu, Result.andThen_ok, zeroOf_run hz, hrep, g1]
                  rfl
              simp only [execOp, ho, resolve, ea, et, Sem.run_bind, Sem.run_pure, Result.andThen_ok, invoke, builtin]
              have key2 : (Builtin.clear_ ⟨[t]⟩ op.type #[.slice (some ⟨p.r, p.s + o, none⟩) n c']).run P w = .ok (.tuple #[]) w' := key
              rw [key2]
              rfl
            · subst h0 hc0
              have : (storeCells ⟨q.r, q.s + o, none⟩ (repL z.cells.toList 0)).run P w = .ok () w := rfl
              rw [this] at g1
              injection g1 with _ g1
              subst g1
              simp only [execOp, ho, resolve, ea, et, Sem.run_bind, Sem.run_pure, Result.andThen_ok, invoke, builtin, Builtin.clear_]
              simp [run_underlying hu]
          · cases he
        · cases he
      · cases he
    · cases he
  · rename_i dt xt a n c x hat hal
    obtain ⟨a', x', ea, ha, hx⟩ := split2 hρ hal
    have et := ats_eq hat
    split at he
    · rename_i e k hel hk
      have hu := elem_some hel
      split at he
      · rename_i size hsz
        split at he
        · rename_i l hl
          have hX := (mask2 hal (show Sub (maskL ρ args.toList) D from hT1)).2
          obtain ⟨l', hn1, hn2, hn3⟩ := src_ok (P := P) hr hX hx hk (Nat.min_le_left k n) hl
          have hn2 := hn2 w (Below.refl _ _)
          split at he
          · have he := Option.some.inj he
            injection he with h3 h4
            subst h3 h4
            have := ha.afEq rfl
            subst this
            refine ⟨m, _, w, .value (.int .i64 (.ofNat (Nat.min k n))), TR.same m rfl, Post.refl hr, .inl rfl, fun o ho => ?_⟩
            simp only [execOp, ho, resolve, ea, et, Sem.run_bind, Sem.run_pure, Result.andThen_ok, invoke, builtin, Builtin.copy_]
            simp only [List.getElem?_toArray, List.getElem?_cons_zero, List.getElem?_cons_succ, Sem.run_bind, run_underlying hu, Result.andThen_ok, szOf_run hsz, hn3, hn2, Sem.run_pure]
            rfl
          · rename_i b o
            split at he
            · rename_i h2 hst
              have he := Option.some.inj he
              injection he with h3 h4
              subst h3 h4
              obtain ⟨q, hq, w', g1, g2⟩ := hr.store (P := P) (hT b (by obtain ⟨_, _, _, _, _, k, _⟩ := storeL_some hst; rw [k]; exact on_or.2 (.inr (on_pow b)))) hst hn1
              refine ⟨m, _, w', .value (.int .i64 (.ofNat (Nat.min k n))), TR.same m rfl, g2, .inl rfl, fun op ho => ?_⟩
              rcases TR.sl ha with ⟨p, c', hp, hc, hR, rfl⟩ | ⟨h0, hc0, p, o', c', hp, hR, rfl⟩
              · obtain rfl := Option.some.inj (hp.symm.trans hq)
                simp only [execOp, ho, resolve, ea, et, Sem.run_bind, Sem.run_pure, Result.andThen_ok, invoke, builtin, Builtin.copy_]
                simp only [List.getElem?_toArray, List.getElem?_cons_zero, List.getElem?_cons_succ, Sem.run_bind, run_underlying hu, Result.andThen_ok, szOf_run hsz, hn3, hn2, Sem.run_pure, g1]
                rfl
              · subst h0 hc0
                have hl0 : l = [] := src_zero hl
                subst hl0
                cases hn1
                have : (storeCells ⟨q.r, q.s + o, none⟩ []).run P w = .ok () w := rfl
                rw [this] at g1
                injection g1 with _ g1
                subst g1
                simp only [execOp, ho, resolve, ea, et, Sem.run_bind, Sem.run_pure, Result.andThen_ok, invoke, builtin, Builtin.copy_]
                simp only [List.getElem?_toArray, List.getElem?_cons_zero, List.getElem?_cons_succ, Sem.run_bind, run_underlying hu, Result.andThen_ok, szOf_run hsz, hn3, hn2, Sem.run_pure]
                rfl
            · cases he
          · cases he
        · cases he
      · cases he
    · cases he
  · cases he
/-- Whatever makes or writes memory. -/
theorem write_ok (hr : HR D top m h w) (ht : h'.n ≤ top) (hT : Sub h'.rd D) (hρ : ∀ x, TR m (ρ x) (ρ' x)) : ∀ {op : Op} {v : Value}, Sub (touch op ρ) D → writeEv P op ρ h = some (v, h') → Writes P D top m h w ρ' op v h'
  | .alloc _, v, hT1, e => write_alloc hr ht e
  | .box .., v, hT1, e => write_box hr ht hρ e
  | .buildSlice .., v, hT1, e => write_buildSlice hr ht hρ e
  | .store .., v, hT1, e => write_store hr hT hρ e
  | .makeSlice .., v, hT1, e => write_makeSlice hr ht hρ e
  | .call { callee := .builtin b, args, argTypes }, v, hT1, e => write_call hr ht hT hρ hT1 e
  | .call { callee := .value _, .. }, v, hT1, e => by cases e
  | .call { callee := .invoke .., .. }, v, hT1, e => by cases e
  | .move x, v, hT1, e => by cases e
  | .assign x, v, hT1, e => by cases e
  | .pick .., v, hT1, e => by cases e
  | .build .., v, hT1, e => by cases e
  | .load t a, v, hT1, e => by cases e
  | .nilCheck .., v, hT1, e => by cases e
  | .binOp .., v, hT1, e => by cases e
  | .unOp .., v, hT1, e => by cases e
  | .convert .., v, hT1, e => by cases e
  | .makeFunc .., v, hT1, e => by cases e
  | .slice .., v, hT1, e => by cases e
  | .fieldAddr .., v, hT1, e => by cases e
  | .field .., v, hT1, e => by cases e
  | .indexAddr .., v, hT1, e => by cases e
  | .index .., v, hT1, e => by cases e
  | .extract .., v, hT1, e => by cases e
  | .insert .., v, hT1, e => by cases e
  | .ready _, v, hT1, e => by cases e
  | .waits _, v, hT1, e => by cases e
  | .sliceToArrayPointer .., v, hT1, e => by cases e
  | .makeInterface .., v, hT1, e => by cases e
  | .makeMap .., v, hT1, e => by cases e
  | .makeChan .., v, hT1, e => by cases e
  | .lookup .., v, hT1, e => by cases e
  | .mapUpdate .., v, hT1, e => by cases e
  | .mapEntry .., v, hT1, e => by cases e
  | .entryStore .., v, hT1, e => by cases e
  | .range .., v, hT1, e => by cases e
  | .next .., v, hT1, e => by cases e
  | .entry _, v, hT1, e => by cases e
  | .typeAssert .., v, hT1, e => by cases e
  | .go _, v, hT1, e => by cases e
  | .defer _, v, hT1, e => by cases e
  | .panic _, v, hT1, e => by cases e
  | .send .., v, hT1, e => by cases e
  | .recv .., v, hT1, e => by cases e
  | .select .., v, hT1, e => by cases e
end
end Go.Proofs.YtjhemobplcelbaaGreatDoor.V
