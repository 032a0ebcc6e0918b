/- mail: what the rounds of donatuslaw28.MailAll keep: two boxes, and the statement's own two lists. -/
import Derived.Test.YtceedejjcillkaaMailJ
import Derived.Test.YtceedejjcillkaaWQPut
import Derived.Test.YtceedejjcillkaaWShare
namespace Go.Proofs.Ytceedejjcillkaa.M
open Go.Conc Go.RowKit Go.Proofs.YtceedejjcillkaaW.PrintWords Go.Proofs.YtceedejjcillkaaW.PrintLast Go.Proofs.YtceedejjcillkaaW.PrintMore
set_option linter.unusedVariables false
set_option linter.unusedSimpArgs false

/-- An operation of the statement. -/
structure S30 where
  f0 : Int
  f1 : Int
  f2 : Int
def z30 : S30 := ⟨0, 0, 0⟩
def k30 : Kd S30 := Kd.iso (Kd.pair (Kd.int .i64) (Kd.pair (Kd.int .i64) (Kd.int .i64))) (fun x : S30 => (x.f0, x.f1, x.f2))
theorem k30_open {w : World} {x : S30} {cs : List Value} (h : k30.K w x cs) : cs = [.int .i64 x.f0, .int .i64 x.f1, .int .i64 x.f2] := by
  obtain ⟨_, _, rfl, rfl, _, _, rfl, rfl, rfl⟩ := h
  rfl
theorem at_T30 {w : World} {A : Option Addr} {n : Nat} {xs : List S30} (h : Kd.C k30 w A n xs) (i : Nat) (h1 : i < n) : ∃ ad o, A = some ad ∧ w.cell? (ad.add (i * 3)) = some (.int .i64 (S30.f0 o)) ∧ w.cell? ⟨(ad.add (i * 3)).block, (ad.add (i * 3)).off + 1, none⟩ = some (.int .i64 o.f1) ∧ w.cell? ⟨(ad.add (i * 3)).block, (ad.add (i * 3)).off + 2, none⟩ = some (.int .i64 o.f2) := by
  obtain ⟨ad, c, e, _, hK, hc0⟩ := Kd.C_get h z30 (i : Int) (by omega) (by omega)
  rw [Int.toNat_natCast] at hK hc0
  have hc : ∀ j u, c[j]? = some u → w.cell? (ad.add (i * 3 + j)) = some u := hc0
  obtain rfl := k30_open hK
  exact ⟨ad, _, e, hc 0 _ rfl, by rw [← add_field _ _ 1 (by omega)]; exact hc 1 _ rfl, by rw [← add_field _ _ 2 (by omega)]; exact hc 2 _ rfl⟩

theorem Box.step {b c cap : Nat} {l : List Value} {w w' : World} (h : Box b c cap l w) (hb : w'.heap[b]? = w.heap[b]?) (hc : w'.heap[c]? = w.heap[c]?) : Box b c cap l w' := by
  obtain ⟨hp, s, r, h2⟩ := h
  refine ⟨?_, s, r, by rw [hc]; exact h2⟩
  unfold World.cell? at hp ⊢
  rw [show (⟨b, 0, none⟩ : Addr).block = b from rfl] at hp ⊢
  rw [hb]
  exact hp
theorem Box.lt {b c cap : Nat} {l : List Value} {w : World} (h : Box b c cap l w) : b < w.heap.size ∧ c < w.heap.size := by
  obtain ⟨hp, s, r, h2⟩ := h
  refine ⟨World.block_lt_of_cell? w _ hp, ?_⟩
  rcases Nat.lt_or_ge c w.heap.size with h' | h'
  · exact h'
  · rw [Array.getElem?_eq_none h'] at h2; cases h2
/-- The first cell's block is a box. -/
theorem Box.cells {b c cap : Nat} {l : List Value} {w : World} (h : Box b c cap l w) {cs : Array Value} {t : TypeId} {f : Nat × Nat} (hb : w.heap[b]? = some (.cells cs t f)) : cs[0]? = some (.chan (some c)) := by
  obtain ⟨hp, _⟩ := h
  unfold World.cell? at hp
  rw [show (⟨b, 0, none⟩ : Addr).block = b from rfl, hb] at hp
  exact hp
def own (v : Value) (k : Nat) : Prop := some k = v.ownBlock
abbrev QI := Kd.Q (Kd.int .i64) 3
/-- At a round's head and within it. p, q: what lies in the boxes; l, m: what the statement's own lists v, u read as. -/
structure St (w0 : World) (B bb rm L a ca na b cb nb : Nat) (p q : List Int) (v u : Value) (l m : List Int) (w : World) : Prop where
  two : Two w0 a ca na b cb nb (is p) (is q) w
  hb : w.heap[bb]? = some (.cells #[.pointer (some ⟨a, 0, none⟩), .pointer (some ⟨b, 0, none⟩)] 24 (0, 0))
  hr : w.heap[rm]? = some (.cells #[.int .i64 (na : Int), .int .i64 (nb : Int)] 3 (0, 0))
  hl : w.heap[L]? = some (.cells #[v, u] 28 (0, 0))
  qv : QI w B (own v) v l
  qu : QI w B (own u) u m
  ne : ∀ k, v.ownBlock = some k → u.ownBlock ≠ some k
  lt : a < B ∧ ca < B ∧ b < B ∧ cb < B ∧ bb < B ∧ rm < B ∧ L < B ∧ w0.heap.size ≤ L ∧ w0.heap.size ≤ B ∧ B ≤ w.heap.size
section
variable {w0 : World} {B bb rm L a ca na b cb nb : Nat} {p q : List Int} {v u : Value} {l m : List Int} {w w' : World}
theorem two_set0 {w : World} {b : Nat} {v u x : Value} {t : TypeId} (h : w.heap[b]? = some (.cells #[v, u] t (0, 0))) : (w.setCell ⟨b, 0, none⟩ x).heap[b]? = some (.cells #[x, u] t (0, 0)) := by
  have hlt := lt_of_block h
  have h' : w.heap[b] = .cells #[v, u] t (0, 0) := by simpa [Array.getElem?_eq_getElem hlt] using h
  show (w.heap.modify b _)[b]? = _
  rw [Array.getElem?_eq_getElem (by simpa using hlt), Array.getElem_modify_self, h']
  rfl
theorem two_set1 {w : World} {b : Nat} {v u x : Value} {t : TypeId} (h : w.heap[b]? = some (.cells #[v, u] t (0, 0))) : (w.setCell ⟨b, 1, none⟩ x).heap[b]? = some (.cells #[v, x] t (0, 0)) := by
  have hlt := lt_of_block h
  have h' : w.heap[b] = .cells #[v, u] t (0, 0) := by simpa [Array.getElem?_eq_getElem hlt] using h
  show (w.heap.modify b _)[b]? = _
  rw [Array.getElem?_eq_getElem (by simpa using hlt), Array.getElem_modify_self, h']
  rfl
theorem St.keep (h : St w0 B bb rm L a ca na b cb nb p q v u l m w) (hb : Below w.heap.size w w') : St w0 B bb rm L a ca na b cb nb p q v u l m w' := by
  have hA := h.two.a.lt
  have hB := h.two.b.lt
  have hs : ∀ k, k < w.heap.size → w'.heap[k]? = w.heap[k]? := fun k hk => hb.block k hk
  obtain ⟨z1, z2, z3, z4, z5, z6, z7, z8, z9, z10⟩ := h.lt
  have hz := hb.size
  exact ⟨⟨h.two.a.step (hs _ hA.1) (hs _ hA.2), h.two.b.step (hs _ hB.1) (hs _ hB.2), h.two.ne, h.two.below.trans (hb.mono (by omega)), h.two.la, h.two.lb⟩,
    by rw [hs _ (by omega)]; exact h.hb, by rw [hs _ (by omega)]; exact h.hr, by rw [hs _ (by omega)]; exact h.hl, Kd.Q_below h.qv hb, Kd.Q_below h.qu hb, h.ne, z1, z2, z3, z4, z5, z6, z7, z8, z9, by omega⟩
theorem qown {w : World} {B : Nat} {v : Value} {l : List Int} (h : QI w B (own v) v l) (k : Nat) (hk : own v k) : B ≤ k ∧ k < w.heap.size := by
  obtain ⟨_, h2, h3, _⟩ := (Kd.Q_bound h).1 k hk.symm
  exact ⟨h2, h3⟩
/-- Blocks from B on, other than v's and u's, or the array's first cell alone, or a channel alone: what is left. -/
theorem St.move (h : St w0 B bb rm L a ca na b cb nb p q v u l m w) (hs : ∀ k, k < w.heap.size → k ≠ ca → k ≠ cb → w'.heap[k]? = w.heap[k]?) {p' q' : List Int} (h2 : Two w0 a ca na b cb nb (is p') (is q') w') (hz : w.heap.size ≤ w'.heap.size) : St w0 B bb rm L a ca na b cb nb p' q' v u l m w' := by
  obtain ⟨z1, z2, z3, z4, z5, z6, z7, z8, z9, z10⟩ := h.lt
  have hca : ∀ k cs t f, w.heap[k]? = some (.cells cs t f) → k ≠ ca ∧ k ≠ cb := by
    intro k cs t f hk
    obtain ⟨_, _, _, h3⟩ := h.two.a
    obtain ⟨_, _, _, h4⟩ := h.two.b
    constructor
    · rintro rfl; rw [h3] at hk; cases hk
    · rintro rfl; rw [h4] at hk; cases hk
  have hq : ∀ {x : Value} {y : List Int}, QI w B (own x) x y → QI w' B (own x) x y := fun {x y} hx =>
    Kd.Q_step hx (fun k hk hlt => hs k hlt (by have := (qown hx k hk).1; omega) (by have := (qown hx k hk).1; omega))
  exact ⟨h2, by rw [hs _ (by omega) (hca _ _ _ _ h.hb).1 (hca _ _ _ _ h.hb).2]; exact h.hb, by rw [hs _ (by omega) (hca _ _ _ _ h.hr).1 (hca _ _ _ _ h.hr).2]; exact h.hr,
    by rw [hs _ (by omega) (hca _ _ _ _ h.hl).1 (hca _ _ _ _ h.hl).2]; exact h.hl, hq h.qv, hq h.qu, h.ne, z1, z2, z3, z4, z5, z6, z7, z8, z9, by omega⟩
theorem St.onA (h : St w0 B bb rm L a ca na b cb nb p q v u l m w) {p' : List Int} (hb : Box a ca na (is p') w') (ho : Only ca w w') : St w0 B bb rm L a ca na b cb nb p' q v u l m w' :=
  h.move (fun k _ h1 _ => ho.1 k h1) (h.two.onA hb ho) (by rw [ho.2.1]; exact Nat.le_refl _)
theorem St.onB (h : St w0 B bb rm L a ca na b cb nb p q v u l m w) {q' : List Int} (hb : Box b cb nb (is q') w') (ho : Only cb w w') : St w0 B bb rm L a ca na b cb nb p q' v u l m w' :=
  h.move (fun k _ _ h1 => ho.1 k h1) (h.two.onB hb ho) (by rw [ho.2.1]; exact Nat.le_refl _)
theorem below_set {w0 w : World} {B : Nat} (h : Below B w0 w) {p : Addr} (hp : B ≤ p.block) (x : Value) : Below B w0 (w.setCell p x) := h.setCell hp x
/-- The list v has turned into v1 by an append (or by being cut), and is stored back. -/
theorem St.setV (h : St w0 B bb rm L a ca na b cb nb p q v u l m w) {w1 : World} {v1 : Value} {l1 : List Int} (hq : QI w1 B (own v1) v1 l1) (hg : w.grownBy w1 v.ownBlock) (hat : v1.ownBlock = v.ownBlock ∨ ∃ b, v1.ownBlock = some b ∧ w.heap.size ≤ b)
    (hb1 : Below w0.heap.size w0 w1) : St w0 B bb rm L a ca na b cb nb p q v1 u l1 m (w1.setCell ⟨L, 0, none⟩ v1) := by
  obtain ⟨z1, z2, z3, z4, z5, z6, z7, z8, z9, z10⟩ := h.lt
  have hA := h.two.a.lt
  have hB := h.two.b.lt
  have hs1 : ∀ k, k < w.heap.size → ¬ own v k → w1.heap[k]? = w.heap[k]? := fun k hk ho => hg.block k hk ho
  have hvB : ∀ k, k < B → ¬ own v k := fun k hk ho => by have := (qown h.qv k ho).1; omega
  have hL : ∀ k, k ≠ L → (w1.setCell ⟨L, 0, none⟩ v1).heap[k]? = w1.heap[k]? := fun k hk => Below.heap_setCell w1 ⟨L, 0, none⟩ v1 k hk
  have hll : w1.heap[L]? = some (.cells #[v, u] 28 (0, 0)) := by rw [hs1 L (by omega) (hvB L z7)]; exact h.hl
  have hdiff : ∀ k cs t, w.heap[k]? = some (.cells cs t (0, 0)) → t ≠ 28 → k ≠ L := by
    rintro k cs t hk ht rfl
    rw [h.hl] at hk
    injection hk with hk
    injection hk with _ hk
    exact ht hk.symm
  have hbox : ∀ {x c n : Nat} {y : List Value}, Box x c n y w → x ≠ L ∧ c ≠ L := by
    intro x c n y hx
    constructor
    · rintro rfl
      have := hx.cells h.hl
      have hv := Kd.Q_slice h.qv
      obtain ⟨A, cc, rfl, _⟩ := hv
      simp at this
    · rintro rfl
      obtain ⟨_, _, _, h3⟩ := hx
      rw [h.hl] at h3
      cases h3
  have step : ∀ k, k < B → k ≠ L → (w1.setCell ⟨L, 0, none⟩ v1).heap[k]? = w.heap[k]? := fun k hk hn => by rw [hL k hn, hs1 k (by omega) (hvB k hk)]
  have q1 : QI (w1.setCell ⟨L, 0, none⟩ v1) B (own v1) v1 l1 := Kd.Q_far hq (fun k hk => by have := (qown hq k hk).1; show k ≠ L; omega) _
  have q2 : QI (w1.setCell ⟨L, 0, none⟩ v1) B (own u) u m := by
    have : QI w1 B (own u) u m := Kd.Q_step h.qu (fun k hk hlt => hs1 k hlt (fun ho => h.ne k ho.symm hk.symm))
    exact Kd.Q_far this (fun k hk => by have := (qown this k hk).1; show k ≠ L; omega) _
  have hz : (w1.setCell ⟨L, 0, none⟩ v1).heap.size = w1.heap.size := World.size_setCell ..
  have hz1 : w.heap.size ≤ w1.heap.size := hg.size
  refine ⟨⟨h.two.a.step (step _ z1 (hbox h.two.a).1) (step _ z2 (hbox h.two.a).2), h.two.b.step (step _ z3 (hbox h.two.b).1) (step _ z4 (hbox h.two.b).2), h.two.ne, hb1.setCell z8 _, h.two.la, h.two.lb⟩,
    by rw [step _ z5 (hdiff _ _ _ h.hb (by decide))]; exact h.hb, by rw [step _ z6 (hdiff _ _ _ h.hr (by decide))]; exact h.hr, ?_, q1, q2, ?_, z1, z2, z3, z4, z5, z6, z7, z8, z9, by rw [hz]; omega⟩
  · exact two_set0 hll
  · intro k hk hku
    rcases hat with hat | ⟨b', hb', hle⟩
    · rw [hat] at hk
      exact h.ne k hk hku
    · rw [hb'] at hk
      injection hk with hk
      have := (qown h.qu k hku.symm).2
      omega
theorem St.setU (h : St w0 B bb rm L a ca na b cb nb p q v u l m w) {w1 : World} {v1 : Value} {l1 : List Int} (hq : QI w1 B (own v1) v1 l1) (hg : w.grownBy w1 u.ownBlock) (hat : v1.ownBlock = u.ownBlock ∨ ∃ b, v1.ownBlock = some b ∧ w.heap.size ≤ b)
    (hb1 : Below w0.heap.size w0 w1) : St w0 B bb rm L a ca na b cb nb p q v v1 l l1 (w1.setCell ⟨L, 1, none⟩ v1) := by
  obtain ⟨z1, z2, z3, z4, z5, z6, z7, z8, z9, z10⟩ := h.lt
  have hA := h.two.a.lt
  have hB := h.two.b.lt
  have hs1 : ∀ k, k < w.heap.size → ¬ own u k → w1.heap[k]? = w.heap[k]? := fun k hk ho => hg.block k hk ho
  have hvB : ∀ k, k < B → ¬ own u k := fun k hk ho => by have := (qown h.qu k ho).1; omega
  have hL : ∀ k, k ≠ L → (w1.setCell ⟨L, 1, none⟩ v1).heap[k]? = w1.heap[k]? := fun k hk => Below.heap_setCell w1 ⟨L, 1, none⟩ v1 k hk
  have hll : w1.heap[L]? = some (.cells #[v, u] 28 (0, 0)) := by rw [hs1 L (by omega) (hvB L z7)]; exact h.hl
  have hdiff : ∀ k cs t, w.heap[k]? = some (.cells cs t (0, 0)) → t ≠ 28 → k ≠ L := by
    rintro k cs t hk ht rfl
    rw [h.hl] at hk
    injection hk with hk
    injection hk with _ hk
    exact ht hk.symm
  have hbox : ∀ {x c n : Nat} {y : List Value}, Box x c n y w → x ≠ L ∧ c ≠ L := by
    intro x c n y hx
    constructor
    · rintro rfl
      have := hx.cells h.hl
      have hv := Kd.Q_slice h.qv
      obtain ⟨A, cc, rfl, _⟩ := hv
      simp at this
    · rintro rfl
      obtain ⟨_, _, _, h3⟩ := hx
      rw [h.hl] at h3
      cases h3
  have step : ∀ k, k < B → k ≠ L → (w1.setCell ⟨L, 1, none⟩ v1).heap[k]? = w.heap[k]? := fun k hk hn => by rw [hL k hn, hs1 k (by omega) (hvB k hk)]
  have q1 : QI (w1.setCell ⟨L, 1, none⟩ v1) B (own v1) v1 l1 := Kd.Q_far hq (fun k hk => by have := (qown hq k hk).1; show k ≠ L; omega) _
  have q2 : QI (w1.setCell ⟨L, 1, none⟩ v1) B (own v) v l := by
    have : QI w1 B (own v) v l := Kd.Q_step h.qv (fun k hk hlt => hs1 k hlt (fun ho => h.ne k hk.symm ho.symm))
    exact Kd.Q_far this (fun k hk => by have := (qown this k hk).1; show k ≠ L; omega) _
  have hz : (w1.setCell ⟨L, 1, none⟩ v1).heap.size = w1.heap.size := World.size_setCell ..
  have hz1 : w.heap.size ≤ w1.heap.size := hg.size
  refine ⟨⟨h.two.a.step (step _ z1 (hbox h.two.a).1) (step _ z2 (hbox h.two.a).2), h.two.b.step (step _ z3 (hbox h.two.b).1) (step _ z4 (hbox h.two.b).2), h.two.ne, hb1.setCell z8 _, h.two.la, h.two.lb⟩,
    by rw [step _ z5 (hdiff _ _ _ h.hb (by decide))]; exact h.hb, by rw [step _ z6 (hdiff _ _ _ h.hr (by decide))]; exact h.hr, ?_, q2, q1, ?_, z1, z2, z3, z4, z5, z6, z7, z8, z9, by rw [hz]; omega⟩
  · exact two_set1 hll
  · intro k hk hku
    rcases hat with hat | ⟨b', hb', hle⟩
    · rw [hat] at hku
      exact h.ne k hk hku
    · rw [hb'] at hku
      injection hku with hku
      have := (qown h.qv k hk.symm).2
      omega
theorem St.c (h : St w0 B bb rm L a ca na b cb nb p q v u l m w) : w.cell? ⟨bb, 0, none⟩ = some (.pointer (some ⟨a, 0, none⟩)) ∧ w.cell? ⟨bb, 1, none⟩ = some (.pointer (some ⟨b, 0, none⟩)) ∧ w.cell? ⟨rm, 0, none⟩ = some (.int .i64 (na : Int)) ∧ w.cell? ⟨rm, 1, none⟩ = some (.int .i64 (nb : Int)) ∧
    w.cell? ⟨L, 0, none⟩ = some v ∧ w.cell? ⟨L, 1, none⟩ = some u ∧ w.frozen? ⟨L, 0, none⟩ = false ∧ w.frozen? ⟨L, 1, none⟩ = false := by
  refine ⟨?_, ?_, ?_, ?_, ?_, ?_, ?_, ?_⟩
  · simp [World.cell?, h.hb]
  · simp [World.cell?, h.hb]
  · simp [World.cell?, h.hr]
  · simp [World.cell?, h.hr]
  · simp [World.cell?, h.hl]
  · simp [World.cell?, h.hl]
  · simp [World.frozen?, h.hl]
  · simp [World.frozen?, h.hl]
theorem St.putA (h : St w0 B bb rm L a ca na b cb nb p q v u l m w) (x : Int) (hl : p.length < na) :
    Calls Try.prog 9 #[.pointer (some ⟨a, 0, none⟩), .int .i64 x] w fun e w' => e = .returned (.bool true) ∧ St w0 B bb rm L a ca na b cb nb (p ++ [x]) q v u l m w' ∧ (∀ k, w'.cell? k = w.cell? k) ∧ w'.heap.size = w.heap.size :=
  (put_box a ca na (is p) x w h.two.a).mono fun _ _ ⟨he, hb, ho⟩ => ⟨by rw [he, is_len, decide_eq_true hl], h.onA (by rw [is_len, if_pos hl, is_push] at hb; exact hb) ho, ho.2.2.1, ho.2.1⟩
theorem St.putB (h : St w0 B bb rm L a ca na b cb nb p q v u l m w) (x : Int) (hl : q.length < nb) :
    Calls Try.prog 9 #[.pointer (some ⟨b, 0, none⟩), .int .i64 x] w fun e w' => e = .returned (.bool true) ∧ St w0 B bb rm L a ca na b cb nb p (q ++ [x]) v u l m w' ∧ (∀ k, w'.cell? k = w.cell? k) ∧ w'.heap.size = w.heap.size :=
  (put_box b cb nb (is q) x w h.two.b).mono fun _ _ ⟨he, hb, ho⟩ => ⟨by rw [he, is_len, decide_eq_true hl], h.onB (by rw [is_len, if_pos hl, is_push] at hb; exact hb) ho, ho.2.2.1, ho.2.1⟩
theorem St.fullA (h : St w0 B bb rm L a ca na b cb nb p q v u l m w) (x : Int) (hl : ¬ p.length < na) :
    Calls Try.prog 9 #[.pointer (some ⟨a, 0, none⟩), .int .i64 x] w fun e w' => e = .returned (.bool false) ∧ St w0 B bb rm L a ca na b cb nb p q v u l m w' ∧ (∀ k, w'.cell? k = w.cell? k) ∧ w'.heap.size = w.heap.size :=
  (put_box a ca na (is p) x w h.two.a).mono fun _ _ ⟨he, hb, ho⟩ => ⟨by rw [he, is_len, decide_eq_false hl], h.onA (by rw [is_len, if_neg hl] at hb; exact hb) ho, ho.2.2.1, ho.2.1⟩
theorem St.fullB (h : St w0 B bb rm L a ca na b cb nb p q v u l m w) (x : Int) (hl : ¬ q.length < nb) :
    Calls Try.prog 9 #[.pointer (some ⟨b, 0, none⟩), .int .i64 x] w fun e w' => e = .returned (.bool false) ∧ St w0 B bb rm L a ca na b cb nb p q v u l m w' ∧ (∀ k, w'.cell? k = w.cell? k) ∧ w'.heap.size = w.heap.size :=
  (put_box b cb nb (is q) x w h.two.b).mono fun _ _ ⟨he, hb, ho⟩ => ⟨by rw [he, is_len, decide_eq_false hl], h.onB (by rw [is_len, if_neg hl] at hb; exact hb) ho, ho.2.2.1, ho.2.1⟩
theorem St.takeA {x : Int} (h : St w0 B bb rm L a ca na b cb nb (x :: p) q v u l m w) :
    Calls Try.prog 10 #[.pointer (some ⟨a, 0, none⟩)] w fun e w' => e = .returned (.tuple #[.int .i64 x, .bool true]) ∧ St w0 B bb rm L a ca na b cb nb p q v u l m w' ∧ (∀ k, w'.cell? k = w.cell? k) ∧ w'.heap.size = w.heap.size :=
  (take_box a ca na x (is p) w h.two.a).mono fun _ _ ⟨he, hb, ho⟩ => ⟨he, h.onA hb ho, ho.2.2.1, ho.2.1⟩
theorem St.takeB {x : Int} (h : St w0 B bb rm L a ca na b cb nb p (x :: q) v u l m w) :
    Calls Try.prog 10 #[.pointer (some ⟨b, 0, none⟩)] w fun e w' => e = .returned (.tuple #[.int .i64 x, .bool true]) ∧ St w0 B bb rm L a ca na b cb nb p q v u l m w' ∧ (∀ k, w'.cell? k = w.cell? k) ∧ w'.heap.size = w.heap.size :=
  (take_box b cb nb x (is q) w h.two.b).mono fun _ _ ⟨he, hb, ho⟩ => ⟨he, h.onB hb ho, ho.2.2.1, ho.2.1⟩
theorem St.noneA (h : St w0 B bb rm L a ca na b cb nb [] q v u l m w) :
    Calls Try.prog 10 #[.pointer (some ⟨a, 0, none⟩)] w fun e w' => e = .returned (.tuple #[.int .i64 0, .bool false]) ∧ w' = w :=
  take_none_box a ca na w h.two.a
theorem St.noneB (h : St w0 B bb rm L a ca na b cb nb p [] v u l m w) :
    Calls Try.prog 10 #[.pointer (some ⟨b, 0, none⟩)] w fun e w' => e = .returned (.tuple #[.int .i64 0, .bool false]) ∧ w' = w :=
  take_none_box b cb nb w h.two.b
theorem St.lenA (h : St w0 B bb rm L a ca na b cb nb p q v u l m w) :
    Calls Try.prog 12 #[.pointer (some ⟨a, 0, none⟩)] w fun e w' => e = .returned (.int .i64 (p.length : Int)) ∧ w' = w :=
  (len_box a ca na (is p) w h.two.a).mono fun _ _ ⟨he, hw⟩ => ⟨by rw [he, is_len], hw⟩
theorem St.lenB (h : St w0 B bb rm L a ca na b cb nb p q v u l m w) :
    Calls Try.prog 12 #[.pointer (some ⟨b, 0, none⟩)] w fun e w' => e = .returned (.int .i64 (q.length : Int)) ∧ w' = w :=
  (len_box b cb nb (is q) w h.two.b).mono fun _ _ ⟨he, hw⟩ => ⟨by rw [he, is_len], hw⟩
/-- First of the two boxes, in either order. -/
theorem St.first1 {x : Int} (h : St w0 B bb rm L a ca na b cb nb (x :: p) q v u l m w) (ad : Addr) (kk : Nat) (hs : ad.spot = none) (h0 : w.cell? ad = some (.pointer (some ⟨a, 0, none⟩))) (h1 : w.cell? (ad.add 1) = some (.pointer (some ⟨b, 0, none⟩))) :
    Calls Try.prog 11 #[.slice (some ad) 2 kk] w fun e w' => e = .returned (.tuple #[.int .i64 x, .int .i64 0, .bool true]) ∧ St w0 B bb rm L a ca na b cb nb p q v u l m w' ∧ (∀ k, w'.cell? k = w.cell? k) ∧ w'.heap.size = w.heap.size := by
  refine (first_calls ad kk [⟨a, ca, na, x :: p⟩, ⟨b, cb, nb, q⟩] w (by simp) hs ?_ ?_).mono ?_
  · intro i hi
    rcases (show i = 0 ∨ i = 1 by simp at hi; omega) with rfl | rfl
    · exact h0
    · exact h1
  · intro i hi
    rcases (show i = 0 ∨ i = 1 by simp at hi; omega) with rfl | rfl
    · exact h.two.a
    · exact h.two.b
  · rintro e w' (⟨i, hi, y, r, hz, h2, rfl, hb, ho⟩ | ⟨h2, _⟩)
    · rcases (show i = 0 ∨ i = 1 by simp at hi; omega) with rfl | rfl
      · injection h2 with h3 h4
        subst h3; subst h4
        exact ⟨rfl, h.onA hb ho, ho.2.2.1, ho.2.1⟩
      · have := hz 0 (by simp) (by omega)
        cases this
    · have := h2 0 (by simp)
      cases this
theorem St.first2 {x : Int} (h : St w0 B bb rm L a ca na b cb nb [] (x :: q) v u l m w) (ad : Addr) (kk : Nat) (hs : ad.spot = none) (h0 : w.cell? ad = some (.pointer (some ⟨a, 0, none⟩))) (h1 : w.cell? (ad.add 1) = some (.pointer (some ⟨b, 0, none⟩))) :
    Calls Try.prog 11 #[.slice (some ad) 2 kk] w fun e w' => e = .returned (.tuple #[.int .i64 x, .int .i64 1, .bool true]) ∧ St w0 B bb rm L a ca na b cb nb [] q v u l m w' ∧ (∀ k, w'.cell? k = w.cell? k) ∧ w'.heap.size = w.heap.size := by
  refine (first_calls ad kk [⟨a, ca, na, []⟩, ⟨b, cb, nb, x :: q⟩] w (by simp) hs ?_ ?_).mono ?_
  · intro i hi
    rcases (show i = 0 ∨ i = 1 by simp at hi; omega) with rfl | rfl
    · exact h0
    · exact h1
  · intro i hi
    rcases (show i = 0 ∨ i = 1 by simp at hi; omega) with rfl | rfl
    · exact h.two.a
    · exact h.two.b
  · rintro e w' (⟨i, hi, y, r, hz, h2, rfl, hb, ho⟩ | ⟨h2, _⟩)
    · rcases (show i = 0 ∨ i = 1 by simp at hi; omega) with rfl | rfl
      · cases h2
      · injection h2 with h3 h4
        subst h3; subst h4
        exact ⟨rfl, h.onB hb ho, ho.2.2.1, ho.2.1⟩
    · have := h2 1 (by simp)
      cases this
theorem St.first0 (h : St w0 B bb rm L a ca na b cb nb [] [] v u l m w) (ad : Addr) (kk : Nat) (hs : ad.spot = none) (x y cx cy nx ny : Nat) (hx : Box x cx nx [] w) (hy : Box y cy ny [] w) (h0 : w.cell? ad = some (.pointer (some ⟨x, 0, none⟩))) (h1 : w.cell? (ad.add 1) = some (.pointer (some ⟨y, 0, none⟩))) :
    Calls Try.prog 11 #[.slice (some ad) 2 kk] w fun e w' => e = .returned (.tuple #[.int .i64 0, .int .i64 (-1), .bool false]) ∧ w' = w := by
  refine (first_calls ad kk [⟨x, cx, nx, []⟩, ⟨y, cy, ny, []⟩] w (by simp) hs ?_ ?_).mono ?_
  · intro i hi
    rcases (show i = 0 ∨ i = 1 by simp at hi; omega) with rfl | rfl
    · exact h0
    · exact h1
  · intro i hi
    rcases (show i = 0 ∨ i = 1 by simp at hi; omega) with rfl | rfl
    · exact hx
    · exact hy
  · rintro e w' (⟨i, hi, y, r, hz, h2, rfl, hb, ho⟩ | ⟨h2, he, hw⟩)
    · rcases (show i = 0 ∨ i = 1 by simp at hi; omega) with rfl | rfl <;> cases h2
    · exact ⟨he, hw⟩
/-- The same with the second box first. -/
theorem St.first1' {x : Int} (h : St w0 B bb rm L a ca na b cb nb p (x :: q) v u l m w) (ad : Addr) (kk : Nat) (hs : ad.spot = none) (h0 : w.cell? ad = some (.pointer (some ⟨b, 0, none⟩))) (h1 : w.cell? (ad.add 1) = some (.pointer (some ⟨a, 0, none⟩))) :
    Calls Try.prog 11 #[.slice (some ad) 2 kk] w fun e w' => e = .returned (.tuple #[.int .i64 x, .int .i64 0, .bool true]) ∧ St w0 B bb rm L a ca na b cb nb p q v u l m w' ∧ (∀ k, w'.cell? k = w.cell? k) ∧ w'.heap.size = w.heap.size := by
  refine (first_calls ad kk [⟨b, cb, nb, x :: q⟩, ⟨a, ca, na, p⟩] w (by simp) hs ?_ ?_).mono ?_
  · intro i hi
    rcases (show i = 0 ∨ i = 1 by simp at hi; omega) with rfl | rfl
    · exact h0
    · exact h1
  · intro i hi
    rcases (show i = 0 ∨ i = 1 by simp at hi; omega) with rfl | rfl
    · exact h.two.b
    · exact h.two.a
  · rintro e w' (⟨i, hi, y, r, hz, h2, rfl, hb, ho⟩ | ⟨h2, _⟩)
    · rcases (show i = 0 ∨ i = 1 by simp at hi; omega) with rfl | rfl
      · injection h2 with h3 h4
        subst h3; subst h4
        exact ⟨rfl, h.onB hb ho, ho.2.2.1, ho.2.1⟩
      · have := hz 0 (by simp) (by omega)
        cases this
    · have := h2 0 (by simp)
      cases this
theorem St.first2' {x : Int} (h : St w0 B bb rm L a ca na b cb nb (x :: p) [] v u l m w) (ad : Addr) (kk : Nat) (hs : ad.spot = none) (h0 : w.cell? ad = some (.pointer (some ⟨b, 0, none⟩))) (h1 : w.cell? (ad.add 1) = some (.pointer (some ⟨a, 0, none⟩))) :
    Calls Try.prog 11 #[.slice (some ad) 2 kk] w fun e w' => e = .returned (.tuple #[.int .i64 x, .int .i64 1, .bool true]) ∧ St w0 B bb rm L a ca na b cb nb p [] v u l m w' ∧ (∀ k, w'.cell? k = w.cell? k) ∧ w'.heap.size = w.heap.size := by
  refine (first_calls ad kk [⟨b, cb, nb, []⟩, ⟨a, ca, na, x :: p⟩] w (by simp) hs ?_ ?_).mono ?_
  · intro i hi
    rcases (show i = 0 ∨ i = 1 by simp at hi; omega) with rfl | rfl
    · exact h0
    · exact h1
  · intro i hi
    rcases (show i = 0 ∨ i = 1 by simp at hi; omega) with rfl | rfl
    · exact h.two.b
    · exact h.two.a
  · rintro e w' (⟨i, hi, y, r, hz, h2, rfl, hb, ho⟩ | ⟨h2, _⟩)
    · rcases (show i = 0 ∨ i = 1 by simp at hi; omega) with rfl | rfl
      · cases h2
      · injection h2 with h3 h4
        subst h3; subst h4
        exact ⟨rfl, h.onA hb ho, ho.2.2.1, ho.2.1⟩
    · have := h2 1 (by simp)
      cases this
end
end Go.Proofs.Ytceedejjcillkaa.M
