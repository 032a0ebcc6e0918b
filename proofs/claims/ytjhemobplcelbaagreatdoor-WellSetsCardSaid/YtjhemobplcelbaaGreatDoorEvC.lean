/- The machine for closed calls: reading, writing and making memory. No condition. -/
import Derived.Test.YtjhemobplcelbaaGreatDoorEvB
import Derived.Laws.CopyOwn
namespace Go.Proofs.YtjhemobplcelbaaGreatDoor.V
open Go.RowKit
set_option linter.unusedVariables false
set_option linter.unusedSimpArgs false
theorem addr_add (r o j : Nat) : (⟨r, o, none⟩ : Addr).add j = ⟨r, o + j, none⟩ := by unfold Addr.add; split <;> simp_all
section
variable {P : Program} {D : Nat → Prop} {top : Nat} {m : Map} {h h' : CH} {w : World}
theorem loadL_some {b o n : Nat} {l : List Value} (e : h.loadL b o n = some l) : ∃ x, h.t.get b = some x ∧ o + n ≤ x.cs.length ∧ l = (x.cs.drop o).take n := by
  unfold CH.loadL at e
  split at e
  · rename_i x hx
    split at e
    · rename_i hb
      exact ⟨x, hx, ble_t hb, (Option.some.inj e).symm⟩
    · cases e
  · cases e
/-- What is read, in every world in which the blocks lie as they do. -/
theorem HR.load (hr : HR D top m h w) {b o n : Nat} {l : List Value} (hD : D b) (e : h.loadL b o n = some l) :
    ∃ p l', m b = some p ∧ F2 (SR m) l l' ∧ l'.length = n ∧ p.s + o + n ≤ p.R ∧ ∀ w2, Below w.heap.size w w2 → (∀ j v, l'[j]? = some v → w2.cell? ⟨p.r, p.s + o + j, none⟩ = some v) ∧ ∀ P : Program, (loadCells ⟨p.r, p.s + o, none⟩ n).run P w2 = .ok ⟨l'⟩ w2 := by
  obtain ⟨x, hx, hle, rfl⟩ := loadL_some e
  obtain ⟨p, cs, h1, h2, h3, h4, h5, h6⟩ := hr.blk b x hD hx
  have hlen : cs.toList.length = p.R := by rw [Array.length_toList, h3]
  refine ⟨p, (((cs.toList.drop p.s).take x.cs.length).drop o).take n, h1, (h6.drop o).take n, ?_, by omega, fun w2 hb => ?_⟩
  · simp only [List.length_take, List.length_drop, hlen]; omega
  · have hc : ∀ j v, ((((cs.toList.drop p.s).take x.cs.length).drop o).take n)[j]? = some v → w2.cell? ⟨p.r, p.s + o + j, none⟩ = some v := by
      intro j v hj
      have hh := (hb.block _ (hr.lt b p h1)).trans h2
      unfold World.cell?
      rw [hh]
      show (if (none : Option Nat).isSome = true then none else cs[p.s + o + j]?) = some v
      rw [if_neg (by decide)]
      rw [List.getElem?_take] at hj
      split at hj
      · rw [List.getElem?_drop, List.getElem?_take] at hj
        split at hj
        · rw [List.getElem?_drop, Array.getElem?_toList] at hj
          rw [← hj]; congr 1; omega
        · cases hj
      · cases hj
    refine ⟨hc, fun P => ?_⟩
    have hl2 : ((((cs.toList.drop p.s).take x.cs.length).drop o).take n).length = n := by
      simp only [List.length_take, List.length_drop, hlen]; omega
    have := run_loadCells_list (P := P) w2 ⟨p.r, p.s + o, none⟩ _ (fun j v hj => by rw [addr_add]; exact hc j v hj)
    rw [hl2] at this
    exact this
theorem HR.one (hr : HR D top m h w) {b o : Nat} {v : Value} (hD : D b) (e : h.loadL b o 1 = some [v]) :
    ∃ p v', m b = some p ∧ SR m v v' ∧ ∀ w2, Below w.heap.size w w2 → w2.cell? ⟨p.r, p.s + o, none⟩ = some v' := by
  obtain ⟨p, l', h1, h2, h3, _, h4⟩ := hr.load hD e
  cases h2 with
  | cons h2 h5 =>
    cases h5
    exact ⟨p, _, h1, h2, fun w2 hb => by have := (h4 w2 hb).1 0 _ rfl; rwa [Nat.add_zero] at this⟩
theorem storeL_some {b o : Nat} {vs : List Value} (e : h.storeL b o vs = some h') : ∃ x, h.t.get b = some x ∧ o + vs.length ≤ x.cs.length ∧ T.put (some { x with cs := setL x.cs o vs }) h.t b h'.t ∧ h'.n = h.n ∧ h'.rd = h.rd ||| 2 ^ b ∧ h'.wr = h.wr ||| 2 ^ b := by
  unfold CH.storeL at e
  split at e
  · rename_i x hx
    split at e
    · rename_i hb
      split at e
      · rename_i t ht
        obtain rfl := Option.some.inj e
        exact ⟨x, hx, ble_t hb, T.set_put _ _ _ _ _ ht, rfl, rfl, rfl⟩
      · cases e
    · cases e
  · cases e
theorem put_get {α : Type} {x : Option α} {t t' : T α} {k : Nat} (h : T.put x t k t') : t'.get k = x := by rw [h k, if_pos rfl]
theorem put_ne {α : Type} {x : Option α} {t t' : T α} {k j : Nat} (h : T.put x t k t') (hj : j ≠ k) : t'.get j = t.get j := by rw [h j, if_neg hj]
/-- Cells that are written. -/
theorem storeL_can {b o : Nat} {vs : List Value} (e : h.storeL b o vs = some h') : Can h h' := by
  obtain ⟨x, hx, _, hp, hn, hrd, hwr⟩ := storeL_some e
  refine ⟨by omega, fun c hc => by rw [hrd]; exact on_or.2 (.inl hc), fun c hc => by rw [hwr]; exact on_or.2 (.inl hc), fun c hc => ?_, fun c hc => ?_, fun c y _ hy => ?_⟩
  · rw [hwr] at hc
    exact put_ne hp fun k => hc (on_or.2 (.inr (on_pow_iff.2 k)))
  · rw [hwr] at hc
    rcases on_or.1 hc with hc | hc
    · exact .inl hc
    · have := on_pow_iff.1 hc
      subst this
      exact .inr (.inr ⟨by rw [hrd]; exact on_or.2 (.inr (on_pow _)), x, hx⟩)
  · by_cases hb : c = b
    · subst hb; exact ⟨x, hx⟩
    · rw [put_ne hp hb] at hy; exact ⟨y, hy⟩
theorem HR.store (hr : HR D top m h w) {b o : Nat} {vs vs' : List Value} (hD : D b) (e : h.storeL b o vs = some h') (hv : F2 (SR m) vs vs') :
    ∃ p, m b = some p ∧ ∃ w', (storeCells ⟨p.r, p.s + o, none⟩ vs').run P w = .ok () w' ∧ Post D top m h w m h' w' := by
  obtain ⟨x, hx, hle, hp, hn, hrd, hwr⟩ := storeL_some e
  obtain ⟨p, cs, h1, h2, h3, h4, h5, h6⟩ := hr.blk b x hD hx
  have hlen : cs.toList.length = p.R := by rw [Array.length_toList, h3]
  have hvl := hv.len
  refine ⟨p, h1, _, run_storeCells_at P p.r (p.s + o) x.ty vs' 0 cs w h2 (by rw [h3, Nat.add_zero, ← hvl]; omega) hv.oneCell, ⟨Map.le.refl m, ?_, ?_, by rw [setRow_size]; exact Nat.le_refl _, ?_, fun _ _ h => .inl h⟩⟩
  · have hnl : (cs.toList.take (p.s + o) ++ vs' ++ cs.toList.drop (p.s + o + vs'.length)) = setL cs.toList (p.s + o) vs' := by
      rw [setL_eq _ _ _ (by rw [hlen, ← hvl]; omega)]
    refine ⟨fun b p e => by rw [hn]; exact hr.fresh b p e, fun b p e => by rw [setRow_size]; exact hr.lt b p e, fun b2 x2 d2 e2 => ?_, fun b1 b2 x1 x2 p1 p2 d1 d2 e1 e2 => ?_, fun c h1 h2 => hr.new c (by omega) h2, fun c hc => by
      have hcb : c ≠ b := fun k => by rw [k, hn] at hc; rw [hr.tight b hc] at hx; cases hx
      rw [put_ne hp hcb]; exact hr.tight c (by omega)⟩
    · by_cases hb : b2 = b
      · subst hb
        rw [put_get hp] at e2
        obtain rfl := Option.some.inj e2
        refine ⟨p, _, h1, setRow_heap w p.r cs _ x.ty _ h2, ?_, h4, by rw [setL_len]; exact h5, ?_⟩
        · simp only [Nat.add_zero, hnl, List.size_toArray, setL_len]; exact hlen
        · simp only [Nat.add_zero, hnl]
          rw [setL_len]
          have := h6.setL hv o hle
          have e3 : setL ((cs.toList.drop p.s).take x.cs.length) o vs' = (((setL cs.toList (p.s + o) vs').drop p.s).take x.cs.length) := by
            rw [setL_eq _ _ _ (by simp only [List.length_take, List.length_drop, hlen]; omega), setL_eq _ _ _ (by rw [hlen, ← hvl]; omega)]
            apply List.ext_getElem?
            intro i
            simp only [List.getElem?_append, List.getElem?_take, List.getElem?_drop, List.length_append, List.length_take, List.length_drop, hlen]
            have z1 : min (min x.cs.length (p.R - p.s)) o = o := by omega
            have z1' : min o (min x.cs.length (p.R - p.s)) = o := by omega
            have z2 : min (p.s + o) p.R = p.s + o := by omega
            simp only [z1, z1', z2]
            by_cases c1 : i < o
            · repeat (first | rw [if_pos (by omega)] | rw [if_neg (by omega)])
            · by_cases c2 : i < o + vs'.length
              · repeat (first | rw [if_pos (by omega)] | rw [if_neg (by omega)])
                congr 1; omega
              · by_cases c3 : i < x.cs.length
                · repeat (first | rw [if_pos (by omega)] | rw [if_neg (by omega)])
                  congr 1; omega
                · repeat (first | rw [if_pos (by omega)] | rw [if_neg (by omega)])
          rw [← e3]
          exact this
      · rw [put_ne hp hb] at e2
        obtain ⟨p2, cs2, g1, g2, g3, g4, g5, g6⟩ := hr.blk b2 x2 d2 e2
        have hne : p2.r ≠ p.r := fun hh => hb (hr.inj b2 b x2 x p2 p d2 hD e2 hx g1 h1 hh)
        exact ⟨p2, cs2, g1, (setRow_other w p.r p2.r _ hne).trans g2, g3, g4, g5, g6⟩
    · have f : ∀ c y, h'.t.get c = some y → ∃ y', h.t.get c = some y' := by
        intro c y hc
        by_cases hb : c = b
        · subst hb; exact ⟨_, hx⟩
        · rw [put_ne hp hb] at hc; exact ⟨_, hc⟩
      obtain ⟨y1, k1⟩ := f _ _ e1
      obtain ⟨y2, k2⟩ := f _ _ e2
      exact hr.inj b1 b2 y1 y2 p1 p2 d1 d2 k1 k2
  · intro W hf
    exact ⟨below_setRow hf.bel (hf.new b p h1) _, hf.new⟩
  · intro r _ hb
    exact setRow_other w p.r r _ fun hh => hb b p (by rw [hwr]; exact on_or.2 (.inr (on_pow b))) h1 hh.symm
def Map.more (m : Map) (n : Nat) (p : Loc) : Map := fun b => if b = n then some p else m b
theorem Map.le_more (hr : HR D top m h w) (ht : h.n < top) (p : Loc) : Map.le m (m.more h.n p) := by
  intro b q e
  unfold Map.more
  rw [if_neg (by have := hr.fresh b q e; omega)]
  exact e
theorem Map.more_new (m : Map) (n : Nat) (p : Loc) : m.more n p n = some p := by unfold Map.more; rw [if_pos rfl]
theorem new_some {cs : List Value} {ty sz : Nat} (e : h.new cs ty sz = some h') : T.put (some ⟨cs, ty, sz⟩) h.t h.n h'.t ∧ h'.n = h.n + 1 ∧ h'.rd = h.rd ∧ h'.wr = h.wr ||| 2 ^ h.n := by
  unfold CH.new at e
  split at e
  · rename_i t ht
    obtain rfl := Option.some.inj e
    exact ⟨T.set_put _ _ _ _ _ ht, rfl, rfl, rfl⟩
  · cases e
theorem new_can {cs : List Value} {ty sz : Nat} (e : h.new cs ty sz = some h') : Can h h' := by
  obtain ⟨hp, hn, hrd, hwr⟩ := new_some e
  refine ⟨by omega, fun c hc => by rw [hrd]; exact hc, fun c hc => by rw [hwr]; exact on_or.2 (.inl hc), fun c hc => ?_, fun c hc => ?_, fun c y h1 hy => ?_⟩
  · rw [hwr] at hc
    exact put_ne hp fun k => hc (on_or.2 (.inr (on_pow_iff.2 k)))
  · rw [hwr] at hc
    rcases on_or.1 hc with hc | hc
    · exact .inl hc
    · have := on_pow_iff.1 hc
      exact .inr (.inl (by omega))
  · rw [put_ne hp (by omega)] at hy; exact ⟨y, hy⟩
/-- A new block; behind its known cells there may be more. -/
theorem HR.make (hr : HR D top m h w) {cs cs' : List Value} {ty sz : Nat} (ht : h.n < top) (e : h.new cs ty sz = some h') (hv : F2 (SR m) cs cs') (more : List Value) :
    Post D top m h w (m.more h.n ⟨w.heap.size, 0, (cs' ++ more).length, sz⟩) h' (w.alloc (.cells ⟨cs' ++ more⟩ ty)) := by
  obtain ⟨hp, hn, hrd, hwr⟩ := new_some e
  have hle := Map.le_more hr ht ⟨w.heap.size, 0, (cs' ++ more).length, sz⟩
  generalize hq : (⟨w.heap.size, 0, (cs' ++ more).length, sz⟩ : Loc) = q at *
  have hnew := Map.more_new m h.n q
  have hold : ∀ b p, b ≠ h.n → m.more h.n q b = some p → m b = some p := fun b p hb e => by unfold Map.more at e; rwa [if_neg hb] at e
  have hbel : Below w.heap.size w (w.alloc (.cells ⟨cs' ++ more⟩ ty)) := Below.alloc (Below.refl _ _) (Nat.le_refl _) _
  refine ⟨hle, ⟨fun b p e => ?_, fun b p e => ?_, fun b x d e => ?_, fun b1 b2 x1 x2 p1 p2 d1 d2 e1 e2 g1 g2 hh => ?_, fun c h1 h2 => hr.new c (by omega) h2, fun c hc => by rw [put_ne hp (by omega)]; exact hr.tight c (by omega)⟩, fun W hf => ⟨hf.bel.alloc hf.bel.size _, fun b p e => ?_⟩, hbel.size, fun r hr _ => hbel.block r hr, fun b p e => ?_⟩
  · by_cases hb : b = h.n
    · subst hb; omega
    · have := hr.fresh b p (hold b p hb e); omega
  · rw [World.size_alloc]
    by_cases hb : b = h.n
    · subst hb; rw [hnew] at e; obtain rfl := Option.some.inj e; subst hq; show w.heap.size < _; omega
    · have := hr.lt b p (hold b p hb e); omega
  · by_cases hb : b = h.n
    · subst hb
      rw [put_get hp] at e
      obtain rfl := Option.some.inj e
      subst hq
      refine ⟨_, _, hnew, heap_alloc_new w _, rfl, rfl, ?_, ?_⟩
      · show 0 + cs.length ≤ (cs' ++ more).length
        rw [List.length_append, ← hv.len]; omega
      · show F2 _ cs (((cs' ++ more).drop 0).take cs.length)
        rw [List.drop_zero, hv.len, List.take_left]
        exact hv.imp fun _ _ h => h.mono hle
    · rw [put_ne hp hb] at e
      obtain ⟨p2, cs2, f1, f2, f3, f4, f5, f6⟩ := hr.blk b x d e
      exact ⟨p2, cs2, hle _ _ f1, (hbel.block _ (hr.lt b p2 f1)).trans f2, f3, f4, f5, f6.imp fun _ _ h => h.mono hle⟩
  · by_cases hb1 : b1 = h.n
    · subst hb1
      by_cases hb2 : b2 = h.n
      · exact hb2.symm
      · rw [hnew] at g1; obtain rfl := Option.some.inj g1
        have := hr.lt b2 p2 (hold b2 p2 hb2 g2)
        subst hq; have e3 : w.heap.size = p2.r := hh; omega
    · by_cases hb2 : b2 = h.n
      · subst hb2
        rw [hnew] at g2; obtain rfl := Option.some.inj g2
        have := hr.lt b1 p1 (hold b1 p1 hb1 g1)
        subst hq; have e3 : p1.r = w.heap.size := hh; omega
      · rw [put_ne hp hb1] at e1
        rw [put_ne hp hb2] at e2
        exact hr.inj b1 b2 x1 x2 p1 p2 d1 d2 e1 e2 (hold _ _ hb1 g1) (hold _ _ hb2 g2) hh
  · by_cases hb' : b = h.n
    · subst hb'; rw [hnew] at e; obtain rfl := Option.some.inj e; subst hq; exact hf.bel.size
    · exact hf.new b p (hold b p hb' e)
  · by_cases hb' : b = h.n
    · subst hb'; rw [hnew] at e; obtain rfl := Option.some.inj e; subst hq
      exact .inr ⟨Nat.le_refl _, by omega, .inl (Nat.le_refl _)⟩
    · exact .inl (hold b p hb' e)
theorem drop_some {b : Nat} (e : h.drop b = some h') : T.put none h.t b h'.t ∧ h'.n = h.n ∧ h'.rd = h.rd ||| 2 ^ b ∧ h'.wr = h.wr ||| 2 ^ b := by
  unfold CH.drop at e
  split at e
  · rename_i t ht
    obtain rfl := Option.some.inj e
    exact ⟨T.set_put _ _ _ _ _ ht, rfl, rfl, rfl⟩
  · cases e
theorem drop_get {b : Nat} (e : h.drop b = some h') : ∀ c y, h'.t.get c = some y → c ≠ b ∧ h.t.get c = some y := by
  obtain ⟨hp, hn, hrd, hwr⟩ := drop_some e
  intro c y hc
  by_cases hb : c = b
  · subst hb; rw [put_get hp] at hc; cases hc
  · rw [put_ne hp hb] at hc; exact ⟨hb, hc⟩
theorem drop_can {b : Nat} {x : Blk} (hx : h.t.get b = some x) (e : h.drop b = some h') : Can h h' := by
  obtain ⟨hp, hn, hrd, hwr⟩ := drop_some e
  refine ⟨by omega, fun c hc => by rw [hrd]; exact on_or.2 (.inl hc), fun c hc => by rw [hwr]; exact on_or.2 (.inl hc), fun c hc => ?_, fun c hc => ?_, fun c y _ hy => ⟨y, (drop_get e c y hy).2⟩⟩
  · rw [hwr] at hc
    exact put_ne hp fun k => hc (on_or.2 (.inr (on_pow_iff.2 k)))
  · rw [hwr] at hc
    rcases on_or.1 hc with hc | hc
    · exact .inl hc
    · have := on_pow_iff.1 hc
      subst this
      exact .inr (.inr ⟨by rw [hrd]; exact on_or.2 (.inr (on_pow _)), x, hx⟩)
theorem HR.drop (hr : HR D top m h w) {b : Nat} (e : h.drop b = some h') : HR D top m h' w := by
  obtain ⟨hp, hn, hrd, hwr⟩ := drop_some e
  have f := fun c y hc => (drop_get e c y hc).2
  exact ⟨fun b p e => by rw [hn]; exact hr.fresh b p e, hr.lt, fun b x d e => hr.blk b x d (f b x e), fun b1 b2 x1 x2 p1 p2 d1 d2 e1 e2 => hr.inj b1 b2 x1 x2 p1 p2 d1 d2 (f _ _ e1) (f _ _ e2), fun c h1 h2 => hr.new c (by omega) h2, fun c hc => by
    cases hy : h'.t.get c with
    | none => rfl
    | some y => have := f c y hy; rw [hr.tight c (by omega)] at this; cases this⟩
end
end Go.Proofs.YtjhemobplcelbaaGreatDoor.V
