/- of: what Of answers of a small grammar, as its callers want it. -/
import Derived.Test.YtjhemobplcelbaaGreatDoorOfG
import Derived.Test.YtjhemobplcelbaaGreatDoorOfQ
namespace Go.Proofs.YtjhemobplcelbaaGreatDoor.O
open Go.RowKit Go.Proofs.YtjhemobplcelbaaGreatDoorW.PrintWords Go.Proofs.YtjhemobplcelbaaGreatDoorW.PrintLast Go.Proofs.YtjhemobplcelbaaGreatDoorW.PrintMore
open Go.Proofs.YtjhemobplcelbaaGreatDoor.U (SR kSR kSR_mkM okRule FixP passY passR y0 r0)
set_option linter.unusedVariables false
set_option linter.unusedSimpArgs false
/-- A Spec that means something: its parts and how they read. -/
structure Good (w : World) (t n st : Nat) (A4 : Option Addr) (c4 : Nat) (names : List ByteArray) (A5 : Option Addr) (c5 : Nat) (lv : List Int) (A6 : Option Addr) (c6 : Nat) (sa : List Int) (A7 : Option Addr) (c7 : Nat) (rs : List SR) : Prop where
  nm : Kd.C Kd.string w A4 names.length names
  nmc : names.length ≤ c4
  nml : names.length = t + 1 + n
  lvr : Kd.C (Kd.int .i64) w A5 lv.length lv
  lvc : lv.length ≤ c5
  sar : Kd.C (Kd.int .i64) w A6 sa.length sa
  asc : sa.length ≤ c6
  ru : Kd.C kSR w A7 rs.length rs
  ruc : rs.length ≤ c7
  rul : 1 ≤ rs.length ∧ rs.length ≤ 31
  ok : ∀ r ∈ rs.tail, okRule (t + 1 + n) r
  head : rs.head? = some ⟨-1, [(st : Int)], 0, 0⟩
  t12 : t ≤ 12
  n10 : 1 ≤ n ∧ n ≤ 10
  str : t + 1 ≤ st ∧ st < t + 1 + n
  r6 : ∀ r ∈ rs, r.f1.length ≤ 6
  nms : ∀ s ∈ names, s.size ≤ 15
  use : ∃ ry rr, FixP (passY rs.tail) (y0 t n) ry ∧ FixP (passR rs.tail) (r0 t n st) rr ∧ ∀ i, t + 1 ≤ i → i ≤ t + n → ry.getD i false = true ∧ rr.getD i false = true
theorem Good.below {w w' : World} {t n st : Nat} {A4 : Option Addr} {c4 : Nat} {names : List ByteArray} {A5 : Option Addr} {c5 : Nat} {lv : List Int} {A6 : Option Addr} {c6 : Nat} {sa : List Int} {A7 : Option Addr} {c7 : Nat} {rs : List SR} (h : Good w t n st A4 c4 names A5 c5 lv A6 c6 sa A7 c7 rs) (hb : Below w.heap.size w w') : Good w' t n st A4 c4 names A5 c5 lv A6 c6 sa A7 c7 rs :=
  { h with nm := Kd.C_below h.nm hb, lvr := Kd.C_below h.lvr hb, sar := Kd.C_below h.sar hb, ru := Kd.C_below h.ru hb }
theorem Good.all {w : World} {t n st : Nat} {A4 : Option Addr} {c4 : Nat} {names : List ByteArray} {A5 : Option Addr} {c5 : Nat} {lv : List Int} {A6 : Option Addr} {c6 : Nat} {sa : List Int} {A7 : Option Addr} {c7 : Nat} {rs : List SR} (h : Good w t n st A4 c4 names A5 c5 lv A6 c6 sa A7 c7 rs) : ∀ r ∈ rs, ∀ x ∈ r.f1, 0 ≤ x ∧ x < ((t + 1 + n : Nat) : Int) := by
  intro r hr x hx
  cases rs with
  | nil => cases hr
  | cons a rs =>
    have h1 := h.head
    simp only [List.head?_cons, Option.some.injEq] at h1
    subst h1
    rcases List.mem_cons.1 hr with rfl | hr
    · rw [List.mem_singleton.1 hx]; have := h.str; omega
    · exact (h.ok r hr).2 x hx
theorem names_small {ts : List STk} {rs : List SRu} (hnm : ∀ t ∈ ts, t.f0.size ≤ 15) (hrn : ∀ r ∈ rs, r.f0.size ≤ 15) : ∀ s ∈ namesF ts rs, s.size ≤ 15 := by
  intro s hs
  unfold namesF at hs
  rcases List.mem_append.1 hs with h | h
  · rcases List.mem_append.1 h with h | h
    · obtain ⟨t, ht, rfl⟩ := List.mem_map.1 h
      exact hnm t ht
    · rw [List.mem_singleton.1 h]
      exact Nat.zero_le _
  · obtain ⟨r, hr, rfl⟩ := lefts_mem.1 h
    exact hrn r hr
def GoodPost (w : World) (e : Ending) (w' : World) : Prop := ∃ (t n st : Nat) (ex err : Int) (A4 : Option Addr) (c4 : Nat) (names : List ByteArray) (A5 : Option Addr) (c5 : Nat) (lv : List Int) (A6 : Option Addr) (c6 : Nat) (sa : List Int) (A7 : Option Addr) (c7 : Nat) (rs : List SR),
  e = .returned (.tuple #[.agg #[.int .i64 (t : Int), .int .i64 (n : Int), .int .i64 (st : Int), .int .i64 ex, .slice A4 names.length c4, .slice A5 lv.length c5, .slice A6 sa.length c6, .slice A7 rs.length c7], .int .i64 err]) ∧ (err = 0 → Good w' t n st A4 c4 names A5 c5 lv A6 c6 sa A7 c7 rs) ∧ Below w.heap.size w w'
theorem good_calls (w : World) (A : Option Addr) (c : Nat) (ts : List STk) (st : ByteArray) (ex : Int) (A2 : Option Addr) (c2 : Nat) (rs : List SRu) (hts : Kd.C kTk w A ts.length ts) (hct : ts.length ≤ c) (hrs : Kd.C kRu w A2 rs.length rs) (hc2 : rs.length ≤ c2)
    (hl1 : ts.length ≤ 42) (hl2 : rs.length ≤ 105) (hst : st.size ≤ 15) (hnm : ∀ t ∈ ts, t.f0.size ≤ 15) (hrn : ∀ r ∈ rs, r.f0.size ≤ 15 ∧ r.f2.size ≤ 15 ∧ r.f1.length ≤ 22 ∧ ∀ s ∈ r.f1, s.size ≤ 15) :
    Calls Tryz.prog 14 #[.agg #[.slice A ts.length c, .string st, .int .i64 ex, .slice A2 rs.length c2]] w (GoodPost w) := by
  refine (of_calls w A c ts st ex A2 c2 rs hts hct hrs hc2 (by omega) (by omega) (by omega) (fun t ht => by have := hnm t ht; omega) (fun r hr => ⟨by have := (hrn r hr).1; omega, by have := (hrn r hr).2.1; omega, by have := (hrn r hr).2.2.1; omega, fun s hs => by have := (hrn r hr).2.2.2 s hs; omega⟩)).mono ?_
  rintro e w' ⟨v, err, rfl, hO, h1, h2, hb⟩
  by_cases he : err = 0
  · subst he
    obtain ⟨A4, A5, A6, A7, c4, c5, c6, c7, rfl, g1, g2, g3, g4, g5, g6, g7, g8⟩ := h2 rfl
    rcases hO with h | h | h | h | h
    · exact absurd h.2 (by decide)
    · exact absurd h.2.2 (by decide)
    · exact absurd h.2.2.2 (by decide)
    · exact absurd h.2.2.2.2 (by decide)
    · obtain ⟨k1, k2, k3, k4, _⟩ := h
      have hl := long_no k2
      have hs := start_ok k3
      obtain ⟨q, hq⟩ : ∃ q : Nat, startF ts st rs = (q : Int) := ⟨(startF ts st rs).toNat, by omega⟩
      obtain ⟨ry, rr, f1, f2, f3⟩ := k4
      refine ⟨ts.length, (leftsF rs).length, q, ex, 0, A4, c4, namesF ts rs, A5, c5, ts.map STk.f1, A6, c6, ts.map STk.f2, A7, c7, rulesF ts st rs, by rw [hq, List.length_map, List.length_map], fun _ => ?_, hb⟩
      refine ⟨g1, g2, names_len _ _, by rw [List.length_map]; exact g3, by rw [List.length_map]; exact g4, by rw [List.length_map]; exact g5, by rw [List.length_map]; exact g6, g7, g8, ⟨by simp [rulesF], by simp [rulesF]; omega⟩, rules_ok k3, by rw [← hq]; rfl, hl.2.1, ⟨lefts_pos k3.2.1, hl.2.2.2⟩, by omega, ?_, names_small hnm (fun r hr => (hrn r hr).1), ry, rr, f1, by rw [hq] at f2; exact f2, f3⟩
      intro r hr
      simp only [rulesF, List.mem_cons, List.mem_map] at hr
      rcases hr with rfl | ⟨x, hx, rfl⟩
      · simp
      · simp only [ruleF, List.length_map]; exact hl.1 x hx
  · rw [h1 he]
    exact ⟨0, 0, 0, 0, err, none, 0, [], none, 0, [], none, 0, [], none, 0, [], rfl, fun h => absurd h he, hb⟩
end Go.Proofs.YtjhemobplcelbaaGreatDoor.O
