/- The machine for closed calls: append. No condition. -/
import Derived.Test.YtjhemobplcelbaaGreatDoorEvI
namespace Go.Proofs.YtjhemobplcelbaaGreatDoor.V
open Go.RowKit
set_option linter.unusedVariables false
set_option linter.unusedSimpArgs false
theorem loadCells_zero (P : Program) (a : Addr) (w : World) : (loadCells a 0).run P w = .ok #[] w := rfl
section
variable {P : Program} {D : Nat → Prop} {top : Nat} {m : Map} {h h' : CH} {w : World} {ρ ρ' : Operand → Value}
theorem src_ok (hr : HR D top m h w) {size n k : Nat} {x x' : Value} {l : List Value} (hX : Sub (maskV x) D) (hx : TR m x x') (hk : lenV x = some k) (hn : n ≤ k) (e : srcCells h size n x = some l) :
    ∃ l', F2 (SR m) l l' ∧ (∀ w2, Below w.heap.size w w2 → (Builtin.firstCells size n x').run P w2 = .ok ⟨l'⟩ w2) ∧ ∀ w2, (Builtin.lenOf x').run P w2 = .ok k w2 := by
  unfold srcCells at e
  split at e
  · obtain rfl := Option.some.inj e
    have := hx.afEq rfl
    subst this
    obtain rfl := Option.some.inj hk
    exact ⟨[], .nil, fun w2 _ => rfl, fun w2 => rfl⟩
  · rename_i b o n0 c
    obtain rfl := Option.some.inj hk
    rcases TR.sl hx with ⟨p, c', hp, hc, hR, rfl⟩ | ⟨h0, hc0, p, o', c', hp, hR, rfl⟩
    · obtain ⟨q, l', hq, hl', hlen, _, hw⟩ := hr.load (hX b (on_pow b)) e
      obtain rfl := Option.some.inj (hp.symm.trans hq)
      exact ⟨l', hl', fun w2 hb => (hw w2 hb).2 P, fun w2 => rfl⟩
    · subst h0
      obtain rfl : n = 0 := by omega
      obtain ⟨y, hy, _, rfl⟩ := loadL_some e
      refine ⟨[], by rw [Nat.zero_mul]; exact .nil, fun w2 _ => ?_, fun w2 => rfl⟩
      show (loadCells ⟨p.r, o', none⟩ (0 * size)).run P w2 = _
      rw [Nat.zero_mul]; rfl
  · rename_i l0
    obtain rfl := Option.some.inj e
    have := TR.str hx
    subst this
    obtain rfl := Option.some.inj hk
    refine ⟨_, (F2.same m _ ?_), fun w2 _ => ?_, fun w2 => rfl⟩
    · rw [List.all_eq_true]
      intro v hv
      obtain ⟨b, _, rfl⟩ := List.mem_map.1 hv
      rfl
    · show (Pure.pure (((⟨⟨l0⟩⟩ : ByteArray).extract 0 n).data.map fun b => Value.int .u8 b.toNat) : Sem (Array Value)).run P w2 = _
      rw [str_extract]
      rw [Sem.run_pure]
      congr 1
      apply Array.ext'
      simp
  · cases e
def noInt (P : Program) (t : TypeId) : Prop := (∃ e, P.underlying t = some (.slice e)) ∨ P.underlying t = some .string
theorem append_room {st xt ty e n c k size : Nat} {base : Option Addr} {x' : Value} {new' : List Value} (hu : P.underlying st = some (.slice e)) (hx : noInt P xt) (hsz : szOf P e = some size) (hlen : (Builtin.lenOf x').run P w = .ok k w) (hsrc : (Builtin.firstCells size k x').run P w = .ok ⟨new'⟩ w) (hroom : n + k ≤ c) :
    (Builtin.append_ #[st, xt] ty #[.slice base n c, x']).run P w = (match base with | some a => (storeCells (a.add (n * size)) new').run P w | none => .ok () w).andThen fun _ w => .ok (.slice base (n + k) c) w := by
  rcases hx with ⟨e', hx⟩ | hx <;> cases base <;> simp [Builtin.append_, run_underlying hu, run_underlying hx, szOf_run hsz, hlen, hroom, hsrc]
theorem grow_le (n c : Nat) (hc : c ≤ 100000) : Builtin.growBy n 4 c ≤ 300000 := by
  unfold Builtin.growBy
  split
  · omega
  unfold Builtin.growBy
  split
  · omega
  unfold Builtin.growBy
  split
  · omega
  unfold Builtin.growBy
  split
  · omega
  unfold Builtin.growBy
  omega
theorem next_le (n c : Nat) (hn : n ≤ 100000) (hc : c ≤ 100000) : Builtin.nextslicecap n c ≤ 300000 := by
  unfold Builtin.nextslicecap
  split
  · omega
  split
  · omega
  exact grow_le n c hc
def World.dr (w : World) : World := { w with drawn := w.drawn + 1 }
theorem below_dr (w : World) : Below w.heap.size w (World.dr w) := ⟨rfl, rfl, rfl, Nat.le_refl _, fun _ _ => rfl⟩
theorem append_grow {st xt ty e n c k size : Nat} {z : Value} {bytes : Nat} {base : Option Addr} {x' : Value} {old' new' : List Value} (hu : P.underlying st = some (.slice e)) (hx : noInt P xt) (hsz : szOf P e = some size) (hz : zeroOf P e = some z) (hby : (P.info? e).map (·.bytes) = some bytes) (hb1 : 1 ≤ bytes) (hb : bytes ≤ 10000) (hn : n + k ≤ 100000)
    (hlen : (Builtin.lenOf x').run P w = .ok k w) (hsrc : (Builtin.firstCells size k x').run P (World.dr w) = .ok ⟨new'⟩ (World.dr w)) (hold : (Builtin.firstCells size n (.slice base n c)).run P (World.dr w) = .ok ⟨old'⟩ (World.dr w)) (hroom : c < n + k) :
    ∃ cap, n + k ≤ cap ∧ cap ≤ 9223372036854775807 ∧ (Builtin.append_ #[st, xt] ty #[.slice base n c, x']).run P w = .ok (.slice (some ⟨w.heap.size, 0, none⟩) (n + k) cap) ((World.dr w).alloc (.cells ⟨(old' ++ new') ++ repL z.cells.toList (cap - (n + k))⟩ e)) := by
  have hq : (Question.appendCap (n + k) c e).forced = false := rfl
  refine ⟨(Question.appendCap (n + k) c e).cut (w.tape w.drawn (Question.appendCap (n + k) c e)), Nat.le_add_right _ _, grownCap_le_maxLen w (n + k) c e (by unfold maxLen; omega), ?_⟩
  generalize hcap : (Question.appendCap (n + k) c e).cut (w.tape w.drawn (Question.appendCap (n + k) c e)) = cap
  obtain ⟨i, hi, rfl⟩ : ∃ i, P.info? e = some i ∧ i.bytes = bytes := by
    cases hi : P.info? e with
    | none => rw [hi] at hby; cases hby
    | some i => rw [hi] at hby; exact ⟨i, rfl, Option.some.inj hby⟩
  have hti : ∀ w, (typeInfo e).run P w = .ok i w := fun w => by simp [typeInfo, hi]
  have c0 : ¬ (n + k ≤ c) := by omega
  have c1 : ¬ (((n + k : Nat) : Int) > IntKind.i64.max ∧ (False ∨ i.bytes = 0)) := by
    have : IntKind.i64.max = 9223372036854775807 := by decide
    omega
  have c2 : ¬ (Builtin.nextslicecap (n + k) c * i.bytes > 2 ^ 48) := by
    have := Nat.mul_le_mul (next_le (n + k) c hn (by omega)) hb
    omega
  have hch : (choose (.appendCap (n + k) c e)).run P w = .ok cap (World.dr w) := by
    show (if (Question.appendCap (n + k) c e).forced then (Sem.pure 0 : Sem Nat).run P w else (Sem.pure ((Question.appendCap (n + k) c e).cut (w.tape w.drawn (Question.appendCap (n + k) c e))) : Sem Nat).run P { w with drawn := w.drawn + 1 }) = _
    rw [hq, hcap]; rfl
  have hask : ∀ w2, (askRoom (cap * i.bytes)).run P w2 = .ok () w2 := by
    intro w2
    unfold askRoom
    split <;> rfl
  have hrep : Builtin.zeroCells z.cells (cap - (n + k)) = ⟨repL z.cells.toList (cap - (n + k))⟩ := by
    apply Array.ext'
    exact rep_eq z.cells _
  have hz' := fun w2 => zeroOf_run hz w2
  have hfin : ((⟨old'⟩ ++ ⟨new'⟩ ++ ⟨repL z.cells.toList (cap - (n + k))⟩ : Array Value)) = ⟨(old' ++ new') ++ repL z.cells.toList (cap - (n + k))⟩ := by
    apply Array.ext'
    simp
  rcases hx with ⟨e', hx⟩ | hx <;>
    (unfold Builtin.append_
     simp only [List.getElem?_toArray, List.getElem?_cons_zero, List.getElem?_cons_succ, Sem.run_bind, run_underlying hu, run_underlying hx, szOf_run hsz, Result.andThen_ok, Sem.run_pure, hlen, Bool.false_eq_true, if_false, if_neg c0, hti, if_neg c1, if_neg c2, hch, hask, hold, hsrc, Bool.not_false, if_true, hz', hrep, hfin, newRow_run]
     first | done | rfl | (simp; done))
theorem drop_take_mid {A : Type} (cs new : List A) (q a : Nat) (ha : q + a + new.length ≤ cs.length) : (((cs.take (q + a) ++ new ++ cs.drop (q + a + new.length)).drop q).take (a + new.length)) = (cs.drop q).take a ++ new := by
  apply List.ext_getElem?
  intro i
  simp only [List.getElem?_append, List.getElem?_take, List.getElem?_drop, List.length_append, List.length_take, List.length_drop]
  have z1 : min (q + a) cs.length = q + a := by omega
  have z2 : min a (cs.length - q) = a := by omega
  simp only [z1, z2]
  by_cases c1 : i < a
  · repeat (first | rw [if_pos (by omega)] | rw [if_neg (by omega)])
  · by_cases c2 : i < a + new.length
    · repeat (first | rw [if_pos (by omega)] | rw [if_neg (by omega)])
      congr 1; omega
    · repeat (first | rw [if_pos (by omega)] | rw [if_neg (by omega)])
      rw [List.getElem?_eq_none (by omega)]
/-- A block that is given up; the new one lies where it lay, with more in it. -/
theorem HR.regrow (hr : HR D top m h w) (ht : h.n < top) {b : Nat} {x : Blk} {p : Loc} {cs : Array Value} {old old' new new' : List Value} {q e : Nat} {h1 : CH} (hD : D b) (hx : h.t.get b = some x) (hp : m b = some p) (hc : w.heap[p.r]? = some (.cells cs x.ty (0, 0))) (hcs : cs.size = p.R)
    (hd : h.drop b = some h1) (hn : h1.new (old ++ new) e p.sz = some h') (he : x.ty = e) (ho : F2 (SR m) old old') (hnew : F2 (SR m) new new') (hq : (cs.toList.drop q).take old'.length = old') (hR : q + old'.length + new'.length ≤ p.R) :
    Post D top m h w (m.more h.n ⟨p.r, q, p.R, p.sz⟩) h' (w.setRow p.r (cs.toList.take (q + old'.length) ++ new' ++ cs.toList.drop (q + old'.length + new'.length)).toArray) := by
  obtain ⟨d1, d2, d3, d4⟩ := drop_some hd
  obtain ⟨n1, n2, n3, n4⟩ := new_some hn
  subst he
  rw [d2] at n1 n2
  have hlen : cs.toList.length = p.R := by rw [Array.length_toList, hcs]
  have hbn := hr.fresh b p hp
  have hle := Map.le_more hr ht ⟨p.r, q, p.R, p.sz⟩
  have hnw := Map.more_new m h.n ⟨p.r, q, p.R, p.sz⟩
  have hold : ∀ c p2, c ≠ h.n → m.more h.n ⟨p.r, q, p.R, p.sz⟩ c = some p2 → m c = some p2 := fun c p2 hc e => by unfold Map.more at e; rwa [if_neg hc] at e
  have hget : ∀ c y, c ≠ h.n → h'.t.get c = some y → c ≠ b ∧ h.t.get c = some y := by
    intro c y hc hy
    rw [put_ne n1 hc] at hy
    by_cases hb : c = b
    · subst hb; rw [put_get d1] at hy; cases hy
    · rw [put_ne d1 hb] at hy; exact ⟨hb, hy⟩
  have hwb : On h'.wr b := by rw [n4, d4]; exact on_or.2 (.inl (on_or.2 (.inr (on_pow b))))
  refine ⟨hle, ⟨fun c p2 e => ?_, fun c p2 e => ?_, fun c y dc hy => ?_, fun c1 c2 y1 y2 p1 p2 dc1 dc2 e1 e2 g1 g2 hh => ?_, fun c h1 h2 => hr.new c (by omega) h2, fun c hc => by
    cases hy : h'.t.get c with
    | none => rfl
    | some y => have := (hget c y (by omega) hy).2; rw [hr.tight c (by omega)] at this; cases this⟩, fun W hf => ⟨below_setRow hf.bel (hf.new b p hp) _, fun c p2 e => ?_⟩, by rw [setRow_size]; exact Nat.le_refl _, fun r _ hb => setRow_other w p.r r _ fun hh => hb b p hwb hp hh.symm, fun c p2 e => ?_⟩
  · by_cases hc : c = h.n
    · subst hc; omega
    · have := hr.fresh c p2 (hold c p2 hc e); omega
  · rw [setRow_size]
    by_cases hc : c = h.n
    · subst hc; rw [hnw] at e; obtain rfl := Option.some.inj e; exact hr.lt b p hp
    · exact hr.lt c p2 (hold c p2 hc e)
  · by_cases hc2 : c = h.n
    · subst hc2
      rw [put_get n1] at hy
      obtain rfl := Option.some.inj hy
      refine ⟨_, _, hnw, setRow_heap w p.r cs _ x.ty _ hc, ?_, rfl, ?_, ?_⟩
      · simp only [List.size_toArray, List.length_append, List.length_take, List.length_drop, hlen]; omega
      · show q + (old ++ new).length ≤ p.R
        rw [List.length_append, ho.len, hnew.len]; omega
      · show F2 _ (old ++ new) (((cs.toList.take (q + old'.length) ++ new' ++ cs.toList.drop (q + old'.length + new'.length)).drop q).take (old ++ new).length)
        rw [List.length_append, ho.len, hnew.len, drop_take_mid _ _ _ _ (by omega), hq]
        exact (ho.append hnew).imp fun _ _ h => h.mono hle
    · obtain ⟨hb, hy⟩ := hget c y hc2 hy
      obtain ⟨p2, cs2, f1, f2, f3, f4, f5, f6⟩ := hr.blk c y dc hy
      have hne : p2.r ≠ p.r := fun hh => hb (hr.inj c b y x p2 p dc hD hy hx f1 hp hh)
      exact ⟨p2, cs2, hle _ _ f1, (setRow_other w p.r p2.r _ hne).trans f2, f3, f4, f5, f6.imp fun _ _ h => h.mono hle⟩
  · by_cases hb1 : c1 = h.n
    · subst hb1
      by_cases hb2 : c2 = h.n
      · exact hb2.symm
      · obtain ⟨hb, hy⟩ := hget c2 y2 hb2 e2
        rw [hnw] at g1; obtain rfl := Option.some.inj g1
        exact absurd (hr.inj c2 b y2 x p2 p dc2 hD hy hx (hold _ _ hb2 g2) hp hh.symm) hb
    · by_cases hb2 : c2 = h.n
      · subst hb2
        obtain ⟨hb, hy⟩ := hget c1 y1 hb1 e1
        rw [hnw] at g2; obtain rfl := Option.some.inj g2
        exact absurd (hr.inj c1 b y1 x p1 p dc1 hD hy hx (hold _ _ hb1 g1) hp hh) hb
      · exact hr.inj c1 c2 y1 y2 p1 p2 dc1 dc2 (hget c1 y1 hb1 e1).2 (hget c2 y2 hb2 e2).2 (hold _ _ hb1 g1) (hold _ _ hb2 g2) hh
  · by_cases hc2 : c = h.n
    · subst hc2; rw [hnw] at e; obtain rfl := Option.some.inj e; exact hf.new b p hp
    · exact hf.new c p2 (hold c p2 hc2 e)
  · by_cases hc2 : c = h.n
    · subst hc2; rw [hnw] at e; obtain rfl := Option.some.inj e
      exact .inr ⟨Nat.le_refl _, by omega, .inr ⟨b, p, hwb, hp, rfl⟩⟩
    · exact .inl (hold c p2 hc2 e)
end
end Go.Proofs.YtjhemobplcelbaaGreatDoor.V
