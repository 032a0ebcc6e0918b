/- wof: rows out of their heap cells; Sums of donatuslaw5, walked; Of's answer is one. -/
import Derived.Test.YtjhemobplcelbaaGreatDoorNofI
namespace Go.Proofs.YtjhemobplcelbaaGreatDoor.O
open Go.RowKit Go.Proofs.YtjhemobplcelbaaGreatDoorW.PrintWords Go.Proofs.YtjhemobplcelbaaGreatDoorW.PrintLast Go.Proofs.YtjhemobplcelbaaGreatDoorW.PrintMore
open Go.Proofs.YtjhemobplcelbaaGreatDoor.U (SR kSR)
set_option linter.unusedVariables false
set_option linter.unusedSimpArgs false
theorem heap_cell {w : World} {g : Nat} {arr : Array Value} {t : TypeId} (h : w.heap[g]? = some (.cells arr t (0, 0))) (k : Nat) {u : Value} (hu : arr[k]? = some u) : w.cell? (Addr.add ⟨g, 0, none⟩ k) = some u := by
  rw [add_at, Nat.zero_add]
  simp only [World.cell?, h]
  exact hu
/-- A row of texts out of its cells. -/
theorem C_str {w : World} {g : Nat} (xs : List ByteArray) (hl : xs.length ≤ 1000) (h : w.heap[g]? = some (.cells (xs.map Value.string).toArray 9 (0, 0))) : Kd.C Kd.string w (some ⟨g, 0, none⟩) xs.length xs := by
  refine ⟨rfl, by omega, fun _ => ⟨_, rfl, fun j p hj => ⟨[.string p], rfl, rfl, fun i u hi => ?_⟩⟩⟩
  cases i with
  | zero =>
    simp only [List.getElem?_cons_zero, Option.some.injEq] at hi
    subst hi
    rw [show j * Kd.string.sz + 0 = j by simp [show Kd.string.sz = 1 from rfl]]
    exact heap_cell h j (by simp [hj])
  | succ i => simp at hi
/-- A row of tokens out of its cells. -/
theorem C_tok {w : World} {g : Nat} (xs : List STk) (hl : xs.length ≤ 1000) (h : w.heap[g]? = some (.cells (xs.flatMap fun x => [Value.string x.f0, .int .i64 x.f1, .int .i64 x.f2]).toArray 71 (0, 0))) : Kd.C kTk w (some ⟨g, 0, none⟩) xs.length xs := by
  have key : ∀ (l : List STk) (j : Nat) (p : STk), l[j]? = some p → ∀ i, i < 3 → (l.flatMap fun x => [Value.string x.f0, .int .i64 x.f1, .int .i64 x.f2])[j * 3 + i]? = [Value.string p.f0, .int .i64 p.f1, .int .i64 p.f2][i]? := by
    intro l
    induction l with
    | nil => intro j p h; simp at h
    | cons x l ih =>
      intro j p hj i hi
      cases j with
      | zero =>
        simp only [List.getElem?_cons_zero, Option.some.injEq] at hj
        subst hj
        rw [List.flatMap_cons, List.getElem?_append_left (by simpa using hi)]
        simp
      | succ j =>
        rw [List.flatMap_cons, List.getElem?_append_right (by simp; omega)]
        have := ih j p (by simpa using hj) i hi
        rw [show (j + 1) * 3 + i - [Value.string x.f0, .int .i64 x.f1, .int .i64 x.f2].length = j * 3 + i by simp; omega]
        exact this
  refine ⟨rfl, by omega, fun _ => ⟨_, rfl, fun j p hj => ⟨_, rfl, kTk_mk w p, fun i u hi => ?_⟩⟩⟩
  have h3 : i < 3 := (List.getElem?_eq_some_iff.1 hi).1
  exact heap_cell h _ (by rw [show j * kTk.sz + i = j * 3 + i from rfl, List.getElem?_toArray, key xs j p hj i h3]; exact hi)
/-- A row of three rules out of its cells. -/
theorem C_rule3 {w : World} {g : Nat} (x y z : SRu) {A1 A2 A3 : Option Addr} {c1 c2 c3 : Nat} (h : w.heap[g]? = some (.cells #[.string x.f0, .slice A1 x.f1.length c1, .string x.f2, .string y.f0, .slice A2 y.f1.length c2, .string y.f2, .string z.f0, .slice A3 z.f1.length c3, .string z.f2] 73 (0, 0)))
    (l1 : x.f1.length ≤ c1) (l2 : y.f1.length ≤ c2) (l3 : z.f1.length ≤ c3) (h1 : Kd.C Kd.string w A1 x.f1.length x.f1) (h2 : Kd.C Kd.string w A2 y.f1.length y.f1) (h3 : Kd.C Kd.string w A3 z.f1.length z.f1) : Kd.C kRu w (some ⟨g, 0, none⟩) 3 [x, y, z] := by
  refine ⟨rfl, by decide, fun _ => ⟨_, rfl, fun j p hj => ?_⟩⟩
  match j, hj with
  | 0, hj =>
    cases hj
    refine ⟨_, rfl, kRu_mk w x l1 h1, fun i u hi => ?_⟩
    have h4 : i < 3 := (List.getElem?_eq_some_iff.1 hi).1
    refine heap_cell h _ ?_
    rw [show 0 * kRu.sz + i = i by simp]
    match i, hi with
    | 0, hi => exact hi
    | 1, hi => exact hi
    | 2, hi => exact hi
    | i + 3, hi => omega
  | 1, hj =>
    cases hj
    refine ⟨_, rfl, kRu_mk w y l2 h2, fun i u hi => ?_⟩
    have h4 : i < 3 := (List.getElem?_eq_some_iff.1 hi).1
    refine heap_cell h _ ?_
    rw [show 1 * kRu.sz + i = 3 + i by simp [show kRu.sz = 3 from rfl]]
    match i, hi with
    | 0, hi => exact hi
    | 1, hi => exact hi
    | 2, hi => exact hi
    | i + 3, hi => omega
  | 2, hj =>
    cases hj
    refine ⟨_, rfl, kRu_mk w z l3 h3, fun i u hi => ?_⟩
    have h4 : i < 3 := (List.getElem?_eq_some_iff.1 hi).1
    refine heap_cell h _ ?_
    rw [show 2 * kRu.sz + i = 6 + i by simp [show kRu.sz = 3 from rfl]]
    match i, hi with
    | 0, hi => exact hi
    | 1, hi => exact hi
    | 2, hi => exact hi
    | i + 3, hi => omega
  | j + 3, hj => cases hj
def sN : ByteArray := ⟨#[78]⟩
def sP : ByteArray := ⟨#[80]⟩
def sM : ByteArray := ⟨#[77]⟩
def sE : ByteArray := ⟨#[101]⟩
def sumTs : List STk := [⟨sN, 0, 0⟩, ⟨sP, 1, 1⟩, ⟨sM, 2, 1⟩]
/-- The sums, as they lie in memory. -/
structure Sm (w : World) (a b c d e : Nat) (rc : Array Value) : Prop where
  ha : w.heap[a]? = some (.cells #[.string sN, .int .i64 0, .int .i64 0, .string sP, .int .i64 1, .int .i64 1, .string sM, .int .i64 2, .int .i64 1] 71 (0, 0))
  hb : w.heap[b]? = some (.cells #[.string sE, .string sP, .string sE] 9 (0, 0))
  hc : w.heap[c]? = some (.cells #[.string sE, .string sM, .string sE] 9 (0, 0))
  hd : w.heap[d]? = some (.cells #[.string sN] 9 (0, 0))
  he : w.heap[e]? = some (.cells rc 73 (0, 0))
def rc0 (b c d : Nat) : Array Value := #[.string sE, .slice (some ⟨b, 0, none⟩) 3 3, .string ⟨#[]⟩, .string sE, .slice (some ⟨c, 0, none⟩) 3 3, .string ⟨#[]⟩, .string sE, .slice (some ⟨d, 0, none⟩) 1 1, .string ⟨#[]⟩]
theorem Sm.move {w w' : World} {a b c d e : Nat} {rc : Array Value} (h : Sm w a b c d e rc) (hk : ∀ k, k = a ∨ k = b ∨ k = c ∨ k = d ∨ k = e → w'.heap[k]? = w.heap[k]?) : Sm w' a b c d e rc := ⟨(hk a (by simp)).trans h.ha, (hk b (by simp)).trans h.hb, (hk c (by simp)).trans h.hc, (hk d (by simp)).trans h.hd, (hk e (by simp)).trans h.he⟩
theorem six_heap (w : World) (o0 o1 o2 o3 o4 o5 : Obj) : ((((((w.alloc o0).alloc o1).alloc o2).alloc o3).alloc o4).alloc o5).heap.size = w.heap.size + 6 ∧ ((((((w.alloc o0).alloc o1).alloc o2).alloc o3).alloc o4).alloc o5).heap[w.heap.size]? = some o0 ∧ ((((((w.alloc o0).alloc o1).alloc o2).alloc o3).alloc o4).alloc o5).heap[w.heap.size + 1]? = some o1 ∧ ((((((w.alloc o0).alloc o1).alloc o2).alloc o3).alloc o4).alloc o5).heap[w.heap.size + 1 + 1]? = some o2 ∧ ((((((w.alloc o0).alloc o1).alloc o2).alloc o3).alloc o4).alloc o5).heap[w.heap.size + 1 + 1 + 1]? = some o3 ∧ ((((((w.alloc o0).alloc o1).alloc o2).alloc o3).alloc o4).alloc o5).heap[w.heap.size + 1 + 1 + 1 + 1]? = some o4 ∧ ((((((w.alloc o0).alloc o1).alloc o2).alloc o3).alloc o4).alloc o5).heap[w.heap.size + 1 + 1 + 1 + 1 + 1]? = some o5 ∧ Below w.heap.size w ((((((w.alloc o0).alloc o1).alloc o2).alloc o3).alloc o4).alloc o5) := by
  refine ⟨?_, ?_, ?_, ?_, ?_, ?_, ?_, below_alloc (below_alloc (below_alloc (below_alloc (below_alloc (below_alloc (Below.refl _ _) _) _) _) _) _) _⟩
  · simp only [World.size_alloc]
  all_goals
    simp only [World.alloc, Array.getElem?_push, Array.size_push]
    repeat (first | exact if_pos trivial | rw [if_pos rfl] | rw [if_neg (by omega)])
theorem six_lt {n m : Nat} (h : m = n + 6) : n + 1 < m ∧ n + 1 + 1 < m ∧ n + 1 + 1 + 1 < m ∧ n + 1 + 1 + 1 + 1 < m ∧ n + 1 + 1 + 1 + 1 + 1 < m ∧ n + 1 ≠ n + 1 + 1 + 1 + 1 + 1 ∧ n + 1 + 1 ≠ n + 1 + 1 + 1 + 1 + 1 ∧ n + 1 + 1 + 1 ≠ n + 1 + 1 + 1 + 1 + 1 ∧ n + 1 + 1 + 1 + 1 ≠ n + 1 + 1 + 1 + 1 + 1 ∧ n ≤ n + 1 + 1 + 1 + 1 + 1 := by omega
set_option maxRecDepth 100000 in
set_option maxHeartbeats 4000000 in
theorem sums_calls (w : World) : Calls Tryz.prog 32 #[] w fun e w' => ∃ a b c d f : Nat, e = .returned (.agg #[.slice (some ⟨a, 0, none⟩) 3 3, .string ⟨#[]⟩, .int .i64 0, .slice (some ⟨f, 0, none⟩) 3 3]) ∧ Sm w' a b c d f (rc0 b c d) ∧ (a < w'.heap.size ∧ b < w'.heap.size ∧ c < w'.heap.size ∧ d < w'.heap.size ∧ f < w'.heap.size ∧ a ≠ f ∧ b ≠ f ∧ c ≠ f ∧ d ≠ f ∧ w.heap.size ≤ f) ∧ Below w.heap.size w w' := by
  go_enter Tryz.func32, Tryz.ntmps32
  go_wp2_with fail
  obtain ⟨hs, h0, h1, h2, h3, h4, h5, hb⟩ := six_heap w (.cells #[.slice (some ⟨w.heap.size + 1, 0, none⟩) 3 3, .string ⟨#[]⟩, .int .i64 0, .slice (some ⟨w.heap.size + 1 + 1 + 1 + 1 + 1, 0, none⟩) 3 3] 25) (.cells #[.string sN, .int .i64 0, .int .i64 0, .string sP, .int .i64 1, .int .i64 1, .string sM, .int .i64 2, .int .i64 1] 71) (.cells #[.string sE, .string sP, .string sE] 9) (.cells #[.string sE, .string sM, .string sE] 9) (.cells #[.string sN] 9) (.cells (rc0 (w.heap.size + 1 + 1) (w.heap.size + 1 + 1 + 1) (w.heap.size + 1 + 1 + 1 + 1)) 73)
  refine bodyPost_ret (results_cell_row rfl _ _ w.heap.size 25 #[.slice (some ⟨w.heap.size + 1, 0, none⟩) 3 3, .string ⟨#[]⟩, .int .i64 0, .slice (some ⟨w.heap.size + 1 + 1 + 1 + 1 + 1, 0, none⟩) 3 3] (0, 0) _ rfl h0 Tryz.underlying25 rfl (by kernel_rfl)) rfl ?_
  exact ⟨w.heap.size + 1, w.heap.size + 1 + 1, w.heap.size + 1 + 1 + 1, w.heap.size + 1 + 1 + 1 + 1, w.heap.size + 1 + 1 + 1 + 1 + 1, rfl, ⟨h1, h2, h3, h4, h5⟩, six_lt hs, hb⟩
/-- The answer of Of is one. -/
theorem ofIs_one {ts : List STk} {st : ByteArray} {ex : Int} {rs : List SRu} {a b : Int} (h : OfIs ts st ex rs a) (h' : OfIs ts st ex rs b) : a = b := by
  unfold OfIs at h h'
  rcases h with ⟨h1, h⟩ | ⟨h1, h2, h⟩ | ⟨h1, h2, h3, h⟩ | ⟨h1, h2, h3, h4, h⟩ | ⟨h1, h2, h3, h4, h⟩ <;> rcases h' with ⟨g1, g⟩ | ⟨g1, g2, g⟩ | ⟨g1, g2, g3, g⟩ | ⟨g1, g2, g3, g4, g⟩ | ⟨g1, g2, g3, g4, g⟩ <;> first | omega | exact absurd (h1.symm.trans g1) (by decide) | exact absurd (h2.symm.trans g2) (by decide) | exact absurd h3 g3 | exact absurd g3 h3 | exact absurd h4 g4 | exact absurd g4 h4
end Go.Proofs.YtjhemobplcelbaaGreatDoor.O
