/- mail: a box as one thing: Put, Take, Len by what lies in it. -/
import Derived.Test.YtceedejjcillkaaMailB
import Derived.Conc.Token
namespace Go.Proofs.Ytceedejjcillkaa.M
open Go.Conc Go.RowKit
set_option linter.unusedVariables false
set_option linter.unusedSimpArgs false

/-- The box at b, whose channel is c, has room for cap and holds l. -/
def Box (b c cap : Nat) (l : List Value) (w : World) : Prop := w.cell? ⟨b, 0, none⟩ = some (.chan (some c)) ∧ ∃ s r, w.heap[c]? = some (.chan cap ⟨l⟩ false s r false)
/-- Only the channel c turned. -/
def Only (c : Nat) (w w' : World) : Prop := (∀ k, k ≠ c → w'.heap[k]? = w.heap[k]?) ∧ w'.heap.size = w.heap.size ∧ (∀ a, w'.cell? a = w.cell? a) ∧ ∀ B a, B ≤ c → Below B a w → Below B a w'
theorem Only.refl (c : Nat) (w : World) : Only c w w := ⟨fun _ _ => rfl, rfl, fun _ => rfl, fun _ _ _ h => h⟩
theorem only_set {w : World} {c : Nat} {cap0 s0 r0 : Nat} {buf0 : Array Value} {cl0 tm0 : Bool} (ho : w.heap[c]? = some (.chan cap0 buf0 cl0 s0 r0 tm0)) (cap s r : Nat) (buf : Array Value) : Only c w (w.setChan c cap buf false s r false) := by
  have hn : ∀ k, k ≠ c → (w.setChan c cap buf false s r false).heap[k]? = w.heap[k]? := fun k hk => heap_setChan_ne w cap buf false s r false (fun h => hk h.symm)
  refine ⟨hn, size_setChan .., fun a => ?_, fun B a hB h => below_setChan h hB ..⟩
  by_cases h : a.block = c
  · have h1 : c < w.heap.size := by
      rcases Nat.lt_or_ge c w.heap.size with h' | h'
      · exact h'
      · rw [Array.getElem?_eq_none h'] at ho; cases ho
    unfold World.cell?
    rw [h, ho, heap_setChan w c cap buf false s r false h1]
  · unfold World.cell?
    rw [hn _ h]

theorem put_box (b c cap : Nat) (l : List Value) (x : Int) (w : World) (h : Box b c cap l w) :
    Calls Try.prog 9 #[.pointer (some ⟨b, 0, none⟩), .int .i64 x] w fun e w' => e = .returned (.bool (decide (l.length < cap))) ∧ Box b c cap (if l.length < cap then l ++ [.int .i64 x] else l) w' ∧ Only c w w' := by
  obtain ⟨hp, s, r, hc⟩ := h
  by_cases hl : l.length < cap
  · refine (put_room b c x cap s r ⟨l⟩ w hp hc hl).mono ?_
    rintro e w' ⟨rfl, rfl⟩
    have ho := only_set hc cap (s + 1) r (Array.push ⟨l⟩ (.int .i64 x))
    rw [decide_eq_true hl, if_pos hl]
    have hlt : c < w.heap.size := by
      rcases Nat.lt_or_ge c w.heap.size with h' | h'
      · exact h'
      · rw [Array.getElem?_eq_none h'] at hc; cases hc
    exact ⟨rfl, ⟨by rw [ho.2.2.1]; exact hp, s + 1, r, by rw [heap_setChan w c cap _ false (s + 1) r false hlt]; simp⟩, ho⟩
  · refine (put_full b c x cap s r ⟨l⟩ w hp hc (by show cap ≤ l.length; omega)).mono ?_
    rintro e w' ⟨rfl, rfl⟩
    rw [decide_eq_false hl, if_neg hl]
    exact ⟨rfl, ⟨hp, s, r, hc⟩, Only.refl c _⟩
theorem len_box (b c cap : Nat) (l : List Value) (w : World) (h : Box b c cap l w) :
    Calls Try.prog 12 #[.pointer (some ⟨b, 0, none⟩)] w fun e w' => e = .returned (.int .i64 (l.length : Int)) ∧ w' = w := by
  obtain ⟨hp, s, r, hc⟩ := h
  exact len_calls b c cap s r ⟨l⟩ w hp hc
theorem take_none_box (b c cap : Nat) (w : World) (h : Box b c cap [] w) :
    Calls Try.prog 10 #[.pointer (some ⟨b, 0, none⟩)] w fun e w' => e = .returned (.tuple #[.int .i64 0, .bool false]) ∧ w' = w := by
  obtain ⟨hp, s, r, hc⟩ := h
  exact take_none b c cap s r w hp hc
theorem take_box (b c cap : Nat) (x : Int) (l : List Value) (w : World) (h : Box b c cap (.int .i64 x :: l) w) :
    Calls Try.prog 10 #[.pointer (some ⟨b, 0, none⟩)] w fun e w' => e = .returned (.tuple #[.int .i64 x, .bool true]) ∧ Box b c cap l w' ∧ Only c w w' := by
  obtain ⟨hp, s, r, hc⟩ := h
  refine (take_some b c x cap s r l w hp hc).mono ?_
  rintro e w' ⟨rfl, rfl⟩
  have ho := only_set hc cap s (r + 1) ⟨l⟩
  have hlt : c < w.heap.size := by
    rcases Nat.lt_or_ge c w.heap.size with h' | h'
    · exact h'
    · rw [Array.getElem?_eq_none h'] at hc; cases hc
  exact ⟨rfl, ⟨by rw [ho.2.2.1]; exact hp, s, r + 1, heap_setChan w c cap _ false s (r + 1) false hlt⟩, ho⟩

theorem put_boxS (b c cap : Nat) (l : List Value) (x : ByteArray) (w : World) (h : Box b c cap l w) :
    Calls Try.prog 14 #[.pointer (some ⟨b, 0, none⟩), .string x] w fun e w' => e = .returned (.bool (decide (l.length < cap))) ∧ Box b c cap (if l.length < cap then l ++ [.string x] else l) w' ∧ Only c w w' := by
  obtain ⟨hp, s, r, hc⟩ := h
  by_cases hl : l.length < cap
  · refine (put_roomS b c x cap s r ⟨l⟩ w hp hc hl).mono ?_
    rintro e w' ⟨rfl, rfl⟩
    have ho := only_set hc cap (s + 1) r (Array.push ⟨l⟩ (.string x))
    rw [decide_eq_true hl, if_pos hl]
    have hlt : c < w.heap.size := by
      rcases Nat.lt_or_ge c w.heap.size with h' | h'
      · exact h'
      · rw [Array.getElem?_eq_none h'] at hc; cases hc
    exact ⟨rfl, ⟨by rw [ho.2.2.1]; exact hp, s + 1, r, by rw [heap_setChan w c cap _ false (s + 1) r false hlt]; simp⟩, ho⟩
  · refine (put_fullS b c x cap s r ⟨l⟩ w hp hc (by show cap ≤ l.length; omega)).mono ?_
    rintro e w' ⟨rfl, rfl⟩
    rw [decide_eq_false hl, if_neg hl]
    exact ⟨rfl, ⟨hp, s, r, hc⟩, Only.refl c _⟩
theorem len_boxS (b c cap : Nat) (l : List Value) (w : World) (h : Box b c cap l w) :
    Calls Try.prog 16 #[.pointer (some ⟨b, 0, none⟩)] w fun e w' => e = .returned (.int .i64 (l.length : Int)) ∧ w' = w := by
  obtain ⟨hp, s, r, hc⟩ := h
  exact len_callsS b c cap s r ⟨l⟩ w hp hc
theorem take_none_boxS (b c cap : Nat) (w : World) (h : Box b c cap [] w) :
    Calls Try.prog 18 #[.pointer (some ⟨b, 0, none⟩)] w fun e w' => e = .returned (.tuple #[.string ⟨#[]⟩, .bool false]) ∧ w' = w := by
  obtain ⟨hp, s, r, hc⟩ := h
  exact take_noneS b c cap s r w hp hc
theorem take_boxS (b c cap : Nat) (x : ByteArray) (l : List Value) (w : World) (h : Box b c cap (.string x :: l) w) :
    Calls Try.prog 18 #[.pointer (some ⟨b, 0, none⟩)] w fun e w' => e = .returned (.tuple #[.string x, .bool true]) ∧ Box b c cap l w' ∧ Only c w w' := by
  obtain ⟨hp, s, r, hc⟩ := h
  refine (take_someS b c x cap s r l w hp hc).mono ?_
  rintro e w' ⟨rfl, rfl⟩
  have ho := only_set hc cap s (r + 1) ⟨l⟩
  have hlt : c < w.heap.size := by
    rcases Nat.lt_or_ge c w.heap.size with h' | h'
    · exact h'
    · rw [Array.getElem?_eq_none h'] at hc; cases hc
  exact ⟨rfl, ⟨by rw [ho.2.2.1]; exact hp, s, r + 1, heap_setChan w c cap _ false s (r + 1) false hlt⟩, ho⟩
end Go.Proofs.Ytceedejjcillkaa.M
