/- What a law's arguments read as, kind by kind: whole numbers, truth values, texts, slices and structs of them, however deep. No condition of its own. -/
import Derived.Test.YtjhemobplcelbaaGreatDoorKit
import Derived.Deep.Slices
import Derived.ChangeSame
import Derived.SizedLaws
import Derived.ChangeSlices
namespace Go.Proofs.YtjhemobplcelbaaGreatDoorW.Open
open Go.RowKit Go.Proofs.YtjhemobplcelbaaGreatDoorW.PrintWords Go.ChangeShapes Go.WideShapes Go.Deep

def Light (l : List Nat) : Prop := ∀ n ∈ l, n ≤ reachBytes
/-- Whatever reads as data of type t is of kind d, and fit. -/
structure Reads {α : Type} (P : Program) (t : TypeId) (d : Kd α) (ok : α → Prop) : Prop where
  sz : P.cellsOf t = d.sz
  get : ∀ {H : Type} {enc : TypeId × Value → H} {w : World} {base : Nat} {spare : Nat → Bool} {held : Bool} {fuel : Nat} {cs : List Value} {x : DataW H × List MemPlace},
    DataW.trod enc P w base spare held fuel t cs = some x → Light (x.1.weights P t) → ∃ a, d.K w a cs ∧ ok a
theorem Reads.int {P : Program} {t : TypeId} {k : IntKind} (hu : P.underlying t = some (.int k)) (hs : P.cellsOf t = 1) : Reads P t (Kd.int k) (fun a => (Lit.int k a).wf = true) :=
  ⟨hs, fun h _ => by
    obtain ⟨n, rfl, rfl, hw⟩ := DataW.trod_int hu h
    exact ⟨n, rfl, hw⟩⟩
theorem Reads.bool {P : Program} {t : TypeId} (hu : P.underlying t = some .bool) (hs : P.cellsOf t = 1) : Reads P t Kd.bool (fun _ => True) :=
  ⟨hs, fun h _ => by
    obtain ⟨b, rfl, rfl⟩ := DataW.trod_bool hu h
    exact ⟨b, rfl, trivial⟩⟩
theorem Reads.string {P : Program} {t : TypeId} (hu : P.underlying t = some .string) (hs : P.cellsOf t = 1) : Reads P t Kd.string (fun a => a.size ≤ 140737488351232) :=
  ⟨hs, fun h hl => by
    obtain ⟨s, rfl, rfl, _⟩ := DataW.trod_string hu h
    refine ⟨s, rfl, ?_⟩
    have := hl s.data.toList.length (by simp [DataW.weights])
    rw [Array.length_toList] at this
    exact this⟩
theorem weightsAll_get {H : Type} {P : Program} {e : TypeId} : ∀ {ds : List (DataW H)} {j : Nat} {d : DataW H}, ds[j]? = some d → ∀ n ∈ d.weights P e, n ∈ DataW.weightsAll P e ds := by
  intro ds
  induction ds with
  | nil => intro j d h; simp at h
  | cons x r ih =>
    intro j d h n hn
    simp only [DataW.weightsAll]
    cases j with
    | zero =>
      obtain rfl : x = d := by simpa using h
      exact List.mem_append_left _ hn
    | succ j => exact List.mem_append_right _ (ih (by simpa using h) n hn)
theorem choose_list {α : Type} {n : Nat} {R : Nat → α → Prop} : (∀ i, i < n → ∃ a, R i a) → ∃ l : List α, l.length = n ∧ ∀ i a, l[i]? = some a → R i a := by
  induction n with
  | zero => intro _; exact ⟨[], rfl, fun i a h => by simp at h⟩
  | succ n ih =>
    intro h
    obtain ⟨l, hl, hr⟩ := ih (fun i hi => h i (by omega))
    obtain ⟨a, ha⟩ := h n (by omega)
    refine ⟨l ++ [a], by simp [hl], fun i b hb => ?_⟩
    rcases Nat.lt_or_ge i l.length with hi | hi
    · rw [List.getElem?_append_left hi] at hb
      exact hr i b hb
    · have : i = l.length := by
        have := (List.getElem?_eq_some_iff.1 hb).1
        rw [List.length_append, List.length_singleton] at this
        omega
      subst this
      have : a = b := by simpa using hb
      subst this
      rw [hl]
      exact ha
theorem Reads.slice {α : Type} {P : Program} {t e : TypeId} {d : Kd α} {ok : α → Prop} {B : Nat} (hu : P.underlying t = some (.slice e)) (hs : P.cellsOf t = 1) (hB : P.bytesOf e = B) (h : Reads P e d ok) :
    Reads P t (Kd.slice e d) (fun xs => xs.length ≤ maxLen ∧ xs.length * B ≤ 140737488351232 ∧ ∀ x ∈ xs, ok x) :=
  ⟨hs, fun {H enc w base spare held fuel cs x} ht hl => by
    rcases open_slice hu ht with ⟨rfl, rfl⟩ | ⟨a, len, cap, m, n, D, Pl, rfl, hb, hlc, hm, hmm, rfl, hi⟩
    · exact ⟨[], ⟨none, 0, rfl, Nat.le_refl _, Kd.C_nil _ _⟩, Nat.zero_le _, by simp, fun x hx => by cases hx⟩
    · have hlm : len ≤ m := by rw [hmm]; split <;> omega
      have hw : ∀ i, i < len → Light ((D i).weights P e) := fun i hlt z hz => by
        refine hl z ?_
        simp only [DataW.weights, hu]
        refine List.mem_cons_of_mem _ (List.mem_append_left _ (weightsAll_get (j := i) (d := D i) ?_ z hz))
        rw [List.getElem?_map, List.getElem?_range hlt]
        rfl
      have hel : ∀ i, i < len → ∃ x, ok x ∧ ∃ c, c.length = d.sz ∧ d.K w x c ∧ ∀ j u, c[j]? = some u → w.cell? (a.add (i * d.sz + j)) = some u := fun i hlt => by
        obtain ⟨cs', hc, htr⟩ := hi i (by omega)
        obtain ⟨y, hk, hok⟩ := h.get htr (hw i hlt)
        refine ⟨y, hok, cs', d.K_len hk, hk, fun j u hu2 => ?_⟩
        obtain ⟨_, hcl, hat⟩ := World.cells?_some hc
        have hj : j < P.cellsOf e := by
          have := (List.getElem?_eq_some_iff.1 hu2).1
          rw [d.K_len hk, ← h.sz] at this
          exact this
        have := hat j hj
        rw [Go.Deep.add_add, h.sz] at this
        rw [this]
        exact hu2
      obtain ⟨xs, hxl, hx⟩ := choose_list hel
      refine ⟨xs, ⟨some a, cap, by rw [hxl], by omega, ⟨rfl, ?_, fun _ => ⟨a, rfl, fun j p hj => ?_⟩⟩⟩, by omega, ?_, fun x hmem => ?_⟩
      · have : maxLen ≤ 9223372036854775807 := by decide
        omega
      · obtain ⟨_, c, h1, h2, h3⟩ := hx j p hj
        exact ⟨c, h1, h2, h3⟩
      · have := hl (((List.range len).map D).length * P.bytesOf e + ((List.range (m - len)).map fun j => D (len + j)).length * P.bytesOf e) (by
          simp only [DataW.weights, hu]
          rw [← Nat.add_mul]
          exact List.mem_cons_self)
        rw [List.length_map, List.length_range, hB] at this
        have hr : reachBytes = 140737488351232 := by decide
        rw [hxl]
        omega
      · obtain ⟨i, hi2, rfl⟩ := List.getElem_of_mem hmem
        exact (hx i _ (List.getElem?_eq_getElem hi2)).1⟩
/-- Some fields behind one another, from the cell off on. -/
def ReadsF {α : Type} (P : Program) (fs : List Field) (off : Nat) (d : Kd α) (ok : α → Prop) : Prop :=
  ∀ {H : Type} {enc : TypeId × Value → H} {w : World} {base : Nat} {spare : Nat → Bool} {held : Bool} {n : Nat} {cs : List Value} {xs : List (DataW H × List MemPlace)},
    (∀ (i : Nat) (f : Field), fs[i]? = some f → DataW.trod enc P w base spare held n f.type ((cs.drop f.offset).take (P.cellsOf f.type)) = xs[i]?) → xs.length = fs.length →
    Light (DataW.weightsEach P (fs.map (·.type)) (xs.map (·.1))) → cs.length = off + d.sz → ∃ a, d.K w a (cs.drop off) ∧ ok a
theorem ReadsF.one {α : Type} {P : Program} {f : Field} {off : Nat} {d : Kd α} {ok : α → Prop} (ho : f.offset = off) (h : Reads P f.type d ok) : ReadsF P [f] off d ok := by
  intro H enc w base spare held n cs xs hf hl hw hc
  match xs, hl with
  | [x], _ =>
    have h0 := hf 0 f rfl
    rw [ho, List.take_of_length_le (by rw [List.length_drop, h.sz]; omega)] at h0
    refine h.get (x := x) h0 (fun z hz => hw z ?_)
    simp only [List.map_cons, List.map_nil, DataW.weightsEach]
    exact List.mem_append_left _ hz
theorem ReadsF.cons {α β : Type} {P : Program} {f : Field} {fs : List Field} {off : Nat} {a : Kd α} {b : Kd β} {oka : α → Prop} {okb : β → Prop} (ho : f.offset = off) (h : Reads P f.type a oka) (k : ReadsF P fs (off + a.sz) b okb) :
    ReadsF P (f :: fs) off (Kd.pair a b) (fun x => oka x.1 ∧ okb x.2) := by
  intro H enc w base spare held n cs xs hf hl hw hc
  match xs, hl with
  | x :: xs, hl =>
    have h0 := hf 0 f rfl
    rw [ho] at h0
    simp only [List.map_cons, DataW.weightsEach] at hw
    have hsz : (Kd.pair a b).sz = a.sz + b.sz := rfl
    rw [hsz] at hc
    obtain ⟨p, hp, hpo⟩ := h.get (x := x) h0 (fun z hz => hw z (List.mem_append_left _ hz))
    obtain ⟨q, hq, hqo⟩ := k (fun i g hg => hf (i + 1) g hg) (by simpa using hl) (fun z hz => hw z (List.mem_append_right _ hz)) (by omega)
    refine ⟨(p, q), ⟨_, _, ?_, hp, hq⟩, hpo, hqo⟩
    rw [h.sz, ← List.drop_drop, List.take_append_drop]
theorem Reads.struct {α : Type} {P : Program} {t : TypeId} {fs : Array Field} {d : Kd α} {ok : α → Prop} (hu : P.underlying t = some (.struct fs)) (hs : P.cellsOf t = d.sz) (h : ReadsF P fs.toList 0 d ok) : Reads P t d ok :=
  ⟨hs, fun ht hl => by
    obtain ⟨xs, n, _, rfl, hcl, hxl, hf⟩ := DataW.trod_struct hu ht
    simp only [DataW.weights, hu] at hl
    have := h (fun i f hi => hf i f (by simpa using hi)) (by simpa using hxl) hl (by rw [hcl, hs]; omega)
    simpa using this⟩
theorem Reads.iso {α β : Type} {P : Program} {t : TypeId} {d : Kd α} {ok : α → Prop} {f : β → α} (g : α → β) (hg : ∀ a, f (g a) = a) (h : Reads P t d ok) : Reads P t (Kd.iso d f) (fun b => ok (f b)) :=
  ⟨h.sz, fun ht hl => by
    obtain ⟨a, hk, hok⟩ := h.get ht hl
    refine ⟨g a, ?_, ?_⟩
    · show d.K _ (f (g a)) _
      rw [hg]
      exact hk
    · show ok (f (g a))
      rw [hg]
      exact hok⟩
theorem Reads.imp {α : Type} {P : Program} {t : TypeId} {d : Kd α} {ok ok' : α → Prop} (h : Reads P t d ok) (hi : ∀ a, ok a → ok' a) : Reads P t d ok' :=
  ⟨h.sz, fun ht hl => (h.get ht hl).imp fun a k => ⟨k.1, hi a k.2⟩⟩
/-- Of a law's j-th argument. -/
theorem Reads.arg {α : Type} {P : Program} {t : TypeId} {d : Kd α} {ok : α → Prop} (h : Reads P t d ok) {H : Type} {enc : TypeId × Value → H} {w : World} {base : Nat} {spare : Nat → Bool} {held : Bool} {v : Value} {x : DataW H} {p : List MemPlace} {ts : List TypeId} {ds : List (DataW H)} {j : Nat}
    (hsz : (DataW.weightsEach P ts ds).all (· ≤ reachBytes) = true) (ht : ts[j]? = some t) (hd : ds[j]? = some x) (hr : DataW.Trod enc P w base spare held t v x p) : ∃ a, d.K w a v.cells.toList ∧ ok a := by
  obtain ⟨fuel, hf⟩ := hr
  refine h.get hf (fun n hn => ?_)
  have := List.all_eq_true.1 hsz n (DataW.weights_mem_each ht hd n hn)
  exact of_decide_eq_true this
end Go.Proofs.YtjhemobplcelbaaGreatDoorW.Open
