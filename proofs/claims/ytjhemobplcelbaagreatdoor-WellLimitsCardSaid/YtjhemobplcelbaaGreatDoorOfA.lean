/- of: a grammar's rows in memory; place, token, lefts of donatusref4. -/
import Derived.Test.YtjhemobplcelbaaGreatDoorWellA
import Derived.Test.YtjhemobplcelbaaGreatDoorKit
import Derived.Lib.IndexBytes
namespace Go.Proofs.YtjhemobplcelbaaGreatDoor.O
open Go.RowKit Go.Proofs.YtjhemobplcelbaaGreatDoorW.PrintWords Go.Proofs.YtjhemobplcelbaaGreatDoorW.PrintLast Go.Proofs.YtjhemobplcelbaaGreatDoorW.PrintMore
set_option linter.unusedVariables false
set_option linter.unusedSimpArgs false
/-! #### a grammar's rules -/
structure SRu where
  f0 : ByteArray
  f1 : (List ByteArray)
  f2 : ByteArray
def zRu : SRu := ⟨(⟨#[]⟩ : ByteArray), ([] : List ByteArray), (⟨#[]⟩ : ByteArray)⟩
def kRu : Kd SRu := Kd.iso (Kd.pair Kd.string (Kd.pair (Kd.slice 9 Kd.string) Kd.string)) (fun x : SRu => (x.f0, x.f1, x.f2))
theorem kRu_open {w : World} {x : SRu} {cs : List Value} (h : kRu.K w x cs) : ∃ A1 c1, cs = [.string x.f0, .slice A1 x.f1.length c1, .string x.f2] ∧ x.f1.length ≤ c1 ∧ Kd.string.C w A1 x.f1.length x.f1 := by
  obtain ⟨_, _, rfl, rfl, ⟨_, _, rfl, ⟨A1, c1, rfl, l1, g1⟩, rfl⟩⟩ := h
  exact ⟨A1, c1, rfl, l1, g1⟩
theorem kRu_openM {w : World} {base : Nat} {ok : Nat → Prop} {x : SRu} {cs : List Value} (h : kRu.M w base ok x cs) : ∃ v1, cs = [.string x.f0, v1, .string x.f2] ∧ Kd.string.R 9 w base ok v1 x.f1 := by
  obtain ⟨_, _, rfl, rfl, ⟨_, _, rfl, ⟨v1, rfl, g1⟩, rfl⟩⟩ := h
  exact ⟨v1, rfl, g1⟩
theorem kRu_mk (w : World) (x : SRu) {A1 : Option Addr} {c1 : Nat} (l1 : x.f1.length ≤ c1) (g1 : Kd.string.C w A1 x.f1.length x.f1) : kRu.K w x [.string x.f0, .slice A1 x.f1.length c1, .string x.f2] := ⟨[.string x.f0], [.slice A1 x.f1.length c1, .string x.f2], rfl, rfl, ⟨[.slice A1 x.f1.length c1], [.string x.f2], rfl, ⟨A1, c1, rfl, l1, g1⟩, rfl⟩⟩
theorem kRu_mkM (w : World) (base : Nat) (ok : Nat → Prop) (x : SRu) {v1 : Value} (g1 : Kd.string.R 9 w base ok v1 x.f1) : kRu.M w base ok x [.string x.f0, v1, .string x.f2] := ⟨[.string x.f0], [v1, .string x.f2], rfl, rfl, ⟨[v1], [.string x.f2], rfl, ⟨v1, rfl, g1⟩, rfl⟩⟩
def rdRu (xs : List SRu) (i : Int) : SRu := xs.getD i.toNat zRu
theorem atRu {w : World} {A : Option Addr} {n : Nat} {xs : List SRu} (h : Kd.C kRu w A n xs) (i : Int) (h0 : 0 ≤ i) (h1 : i < n) : ∃ ad A1 c1, A = some ad ∧ w.cell? (ad.add (i.toNat * 3)) = some (.string (rdRu xs i).f0) ∧ w.cell? ⟨(ad.add (i.toNat * 3)).block, (ad.add (i.toNat * 3)).off + 1, none⟩ = some (.slice A1 (rdRu xs i).f1.length c1) ∧ w.cell? ⟨(ad.add (i.toNat * 3)).block, (ad.add (i.toNat * 3)).off + 2, none⟩ = some (.string (rdRu xs i).f2) ∧ (rdRu xs i).f1.length ≤ c1 ∧ Kd.string.C w A1 (rdRu xs i).f1.length (rdRu xs i).f1 := by
  obtain ⟨ad, c, e, _, hK, hc0⟩ := Kd.C_get h zRu i h0 h1
  have hc : ∀ j u, c[j]? = some u → w.cell? (ad.add (i.toNat * 3 + j)) = some u := hc0
  obtain ⟨A1, c1, rfl, l1, g1⟩ := kRu_open hK
  exact ⟨ad, A1, c1, e, hc 0 _ rfl, by rw [← add_field _ _ 1 (by omega)]; exact hc 1 _ rfl, by rw [← add_field _ _ 2 (by omega)]; exact hc 2 _ rfl, l1, g1⟩

/-! #### a grammar's tokens -/
structure STk where
  f0 : ByteArray
  f1 : Int
  f2 : Int
def zTk : STk := ⟨(⟨#[]⟩ : ByteArray), (0 : Int), (0 : Int)⟩
def kTk : Kd STk := Kd.iso (Kd.pair Kd.string (Kd.pair (Kd.int .i64) (Kd.int .i64))) (fun x : STk => (x.f0, x.f1, x.f2))
theorem kTk_open {w : World} {x : STk} {cs : List Value} (h : kTk.K w x cs) : cs = [.string x.f0, .int .i64 x.f1, .int .i64 x.f2] := by
  obtain ⟨_, _, rfl, rfl, ⟨_, _, rfl, rfl, rfl⟩⟩ := h
  exact rfl
theorem kTk_openM {w : World} {base : Nat} {ok : Nat → Prop} {x : STk} {cs : List Value} (h : kTk.M w base ok x cs) : cs = [.string x.f0, .int .i64 x.f1, .int .i64 x.f2] := by
  obtain ⟨_, _, rfl, rfl, ⟨_, _, rfl, rfl, rfl⟩⟩ := h
  exact rfl
theorem kTk_mk (w : World) (x : STk)  : kTk.K w x [.string x.f0, .int .i64 x.f1, .int .i64 x.f2] := ⟨[.string x.f0], [.int .i64 x.f1, .int .i64 x.f2], rfl, rfl, ⟨[.int .i64 x.f1], [.int .i64 x.f2], rfl, rfl, rfl⟩⟩
theorem kTk_mkM (w : World) (base : Nat) (ok : Nat → Prop) (x : STk)  : kTk.M w base ok x [.string x.f0, .int .i64 x.f1, .int .i64 x.f2] := ⟨[.string x.f0], [.int .i64 x.f1, .int .i64 x.f2], rfl, rfl, ⟨[.int .i64 x.f1], [.int .i64 x.f2], rfl, rfl, rfl⟩⟩
def rdTk (xs : List STk) (i : Int) : STk := xs.getD i.toNat zTk
theorem atTk {w : World} {A : Option Addr} {n : Nat} {xs : List STk} (h : Kd.C kTk w A n xs) (i : Int) (h0 : 0 ≤ i) (h1 : i < n) : ∃ ad , A = some ad ∧ w.cell? (ad.add (i.toNat * 3)) = some (.string (rdTk xs i).f0) ∧ w.cell? ⟨(ad.add (i.toNat * 3)).block, (ad.add (i.toNat * 3)).off + 1, none⟩ = some (.int .i64 (rdTk xs i).f1) ∧ w.cell? ⟨(ad.add (i.toNat * 3)).block, (ad.add (i.toNat * 3)).off + 2, none⟩ = some (.int .i64 (rdTk xs i).f2) := by
  obtain ⟨ad, c, e, _, hK, hc0⟩ := Kd.C_get h zTk i h0 h1
  have hc : ∀ j u, c[j]? = some u → w.cell? (ad.add (i.toNat * 3 + j)) = some u := hc0
  obtain rfl := kTk_open hK
  exact ⟨ad, e, hc 0 _ rfl, by rw [← add_field _ _ 1 (by omega)]; exact hc 1 _ rfl, by rw [← add_field _ _ 2 (by omega)]; exact hc 2 _ rfl⟩

def rd_L5 (xs : List (List Int)) (i : Int) : (List Int) := xs.getD i.toNat ([] : List Int)
theorem at_L5 {w : World} {A : Option Addr} {n : Nat} {xs : List (List Int)} (h : Kd.C (Kd.slice 3 (Kd.int .i64)) w A n xs) (i : Int) (h0 : 0 ≤ i) (h1 : i < n) : ∃ ad A0 c0, A = some ad ∧ w.cell? (ad.add i.toNat) = some (.slice A0 (rd_L5 xs i).length c0) ∧ (rd_L5 xs i).length ≤ c0 ∧ (Kd.int .i64).C w A0 (rd_L5 xs i).length (rd_L5 xs i) := by
  obtain ⟨ad, c, e, _, hK, hc0⟩ := Kd.C_get h ([] : List Int) i h0 h1
  have hc : ∀ j u, c[j]? = some u → w.cell? (ad.add (i.toNat * 1 + j)) = some u := hc0
  obtain ⟨A0, c0, rfl, l0, g0⟩ := hK
  exact ⟨ad, A0, c0, e, by have hq := hc 0 _ rfl; rwa [Nat.mul_one, Nat.add_zero] at hq, l0, g0⟩

theorem str_at {w : World} {A : Option Addr} {n : Nat} {xs : List ByteArray} (h : Kd.C Kd.string w A n xs) (i : Nat) (hi : i < xs.length) : ∃ ad, A = some ad ∧ w.cell? (ad.add i) = some (.string xs[i]) := by
  obtain ⟨ad, e, hc⟩ := h.2.2 (by have := h.1; omega)
  obtain ⟨c, hs, hr, hcell⟩ := hc i _ (List.getElem?_eq_getElem hi)
  obtain rfl : c = [.string xs[i]] := hr
  have := hcell 0 _ rfl
  simp only [Nat.add_zero] at this
  rw [show Kd.string.sz = 1 from rfl, Nat.mul_one] at this
  exact ⟨ad, e, this⟩
/-- Where a text stands first in a list, counted from i; -1. -/
def plc (s : ByteArray) : List ByteArray → Nat → Int
  | [], _ => -1
  | x :: xs, i => if x = s then (i : Int) else plc s xs (i + 1)
theorem plc_at (s : ByteArray) (xs : List ByteArray) (i : Nat) (h : i < xs.length) : plc s (xs.drop i) i = if xs[i] = s then (i : Int) else plc s (xs.drop (i + 1)) (i + 1) := by
  rw [List.drop_eq_getElem_cons h]
  rfl
theorem toList_eq {a b : ByteArray} : a.toList = b.toList ↔ a = b := by
  rw [Lib.toList_data, Lib.toList_data]
  constructor
  · intro h
    cases a
    cases b
    congr
    exact Array.toList_inj.1 h
  · rintro rfl
    rfl
def PlRel (w : World) (s : ByteArray) (xs : List ByteArray) (kq : Nat) (v : Value) (w' : World) : Prop := ∃ i : Nat, i + kq = xs.length ∧ v = .int .i64 (i : Int) ∧ w' = w ∧ plc s xs 0 = plc s (xs.drop i) i
set_option maxHeartbeats 4000000 in
theorem place_calls (w : World) (A : Option Addr) (c : Nat) (xs : List ByteArray) (s : ByteArray) (hxs : Kd.C Kd.string w A xs.length xs) (hc : xs.length ≤ c) :
    Calls Tryz.prog 45 #[.slice A xs.length c, .string s] w fun e w' => e = .returned (.int .i64 (plc s xs 0)) ∧ w' = w := by
  have HX := Aside0.mk hxs
  clear hxs
  go_enter Tryz.func45, Tryz.ntmps45
  go_wp2_with fail
  go_loopg [5] xs.length (fun kq v5 w' => PlRel w s xs kq v5 w')
  case atStart => exact ⟨0, by omega, rfl, rfl, rfl⟩
  case round =>
    obtain ⟨i, hi, rfl, rfl, hs⟩ := hrel
    have HI := Aside0.mk hi
    have HS := Aside0.mk hs
    clear hi hs
    by_cases hil : i < xs.length
    · have t1 : decide ((i : Int) < (xs.length : Int)) = true := by simp; omega
      have hin : (i : Int) < (xs.length : Int) := by omega
      have hql : xs.length ≤ 9223372036854775807 := HX.out.2.1
      obtain ⟨ad, rfl, hcl⟩ := str_at HX.out i hil
      have HP := Aside0.mk (plc_at s xs i hil)
      generalize xs[i] = x at *
      by_cases he : x = s
      · subst he
        rw [if_pos rfl] at HP
        go_wp2_with fail
        go_ret
        exact ⟨by rw [HS.out, HP.out]; rfl, rfl⟩
      · have hne : ¬ x.toList = s.toList := fun h => he (toList_eq.1 h)
        have hbe : (x.toList == s.toList) = false := by simpa using hne
        rw [if_neg he] at HP
        go_wp2_with fail
        go_roundg (gk - 1)
        case measure => have := HI.out; omega
        case rel => exact ⟨i + 1, by have := HI.out; omega, by go_num, rfl, by rw [HS.out, HP.out]⟩
    · have t1 : decide ((i : Int) < (xs.length : Int)) = false := by simp; omega
      go_wp2_with fail
      go_ret
      refine ⟨?_, rfl⟩
      rw [HS.out, List.drop_of_length_le (by omega)]
      rfl
/-- A grammar's box. -/
structure GBox (W : World) (X : Nat) (a b c d : Value) : Prop where
  heap : W.heap[X]? = some (.cells #[a, b, c, d] 25 (0, 0))
section
variable {W W' : World} {X B : Nat} {a b c d : Value}
theorem GBox.lt (h : GBox W X a b c d) : X < W.heap.size := (Array.getElem?_eq_some_iff.1 h.heap).1
theorem GBox.c0 (h : GBox W X a b c d) : W.cell? ⟨X, 0, none⟩ = some a := by simp [World.cell?, h.heap]
theorem GBox.c1 (h : GBox W X a b c d) : W.cell? ⟨X, 1, none⟩ = some b := by simp [World.cell?, h.heap]
theorem GBox.c2 (h : GBox W X a b c d) : W.cell? ⟨X, 2, none⟩ = some c := by simp [World.cell?, h.heap]
theorem GBox.c3 (h : GBox W X a b c d) : W.cell? ⟨X, 3, none⟩ = some d := by simp [World.cell?, h.heap]
theorem GBox.move (h : GBox W X a b c d) (hb : Below B W W') (hX : X < B) : GBox W' X a b c d := ⟨(hb.block X hX).trans h.heap⟩
theorem GBox.new (w : World) : GBox (w.alloc (.cells #[a, b, c, d] 25)) w.heap.size a b c d := ⟨heap_alloc_new w _⟩
end
theorem tok_at {w : World} {A : Option Addr} {n : Nat} {xs : List STk} (h : Kd.C kTk w A n xs) (i : Nat) (hi : i < xs.length) : ∃ ad, A = some ad ∧ w.cell? (ad.add (i * 3)) = some (.string xs[i].f0) ∧ w.cell? ⟨(ad.add (i * 3)).block, (ad.add (i * 3)).off + 1, none⟩ = some (.int .i64 xs[i].f1) ∧ w.cell? ⟨(ad.add (i * 3)).block, (ad.add (i * 3)).off + 2, none⟩ = some (.int .i64 xs[i].f2) := by
  obtain ⟨ad, c, e, _, hK, hc0⟩ := Kd.C_get h zTk (i : Int) (by omega) (by have := h.1; omega)
  have hc : ∀ j u, c[j]? = some u → w.cell? (ad.add (i * 3 + j)) = some u := hc0
  rw [show xs.getD ((i : Int)).toNat zTk = xs[i] by simp [List.getD, hi]] at hK
  obtain rfl := kTk_open hK
  exact ⟨ad, e, hc 0 _ rfl, by rw [← add_field _ _ 1 (by omega)]; exact hc 1 _ rfl, by rw [← add_field _ _ 2 (by omega)]; exact hc 2 _ rfl⟩
theorem ru_at {w : World} {A : Option Addr} {n : Nat} {xs : List SRu} (h : Kd.C kRu w A n xs) (i : Nat) (hi : i < xs.length) : ∃ ad A1 c1, A = some ad ∧ w.cell? (ad.add (i * 3)) = some (.string xs[i].f0) ∧ w.cell? ⟨(ad.add (i * 3)).block, (ad.add (i * 3)).off + 1, none⟩ = some (.slice A1 xs[i].f1.length c1) ∧ w.cell? ⟨(ad.add (i * 3)).block, (ad.add (i * 3)).off + 2, none⟩ = some (.string xs[i].f2) ∧ xs[i].f1.length ≤ c1 ∧ Kd.string.C w A1 xs[i].f1.length xs[i].f1 := by
  obtain ⟨ad, c, e, _, hK, hc0⟩ := Kd.C_get h zRu (i : Int) (by omega) (by have := h.1; omega)
  have hc : ∀ j u, c[j]? = some u → w.cell? (ad.add (i * 3 + j)) = some u := hc0
  rw [show xs.getD ((i : Int)).toNat zRu = xs[i] by simp [List.getD, hi]] at hK
  obtain ⟨A1, c1, rfl, l1, g1⟩ := kRu_open hK
  exact ⟨ad, A1, c1, e, hc 0 _ rfl, by rw [← add_field _ _ 1 (by omega)]; exact hc 1 _ rfl, by rw [← add_field _ _ 2 (by omega)]; exact hc 2 _ rfl, l1, g1⟩
def TkRel (W1 : World) (s : ByteArray) (xs : List STk) (kq : Nat) (v : Value) (w' : World) : Prop := ∃ i : Nat, i + kq = xs.length ∧ v = .int .i64 (i : Int) ∧ w' = W1 ∧ plc s (xs.map STk.f0) 0 = plc s ((xs.map STk.f0).drop i) i
set_option maxHeartbeats 4000000 in
theorem token_calls (w : World) (A : Option Addr) (c : Nat) (xs : List STk) (st : ByteArray) (ex : Int) (A2 : Option Addr) (n2 c2 : Nat) (s : ByteArray) (hxs : Kd.C kTk w A xs.length xs) (hc : xs.length ≤ c) :
    Calls Tryz.prog 69 #[.agg #[.slice A xs.length c, .string st, .int .i64 ex, .slice A2 n2 c2], .string s] w fun e w' => e = .returned (.int .i64 (plc s (xs.map STk.f0) 0)) ∧ Below w.heap.size w w' := by
  have hb := below_alloc (Below.refl w.heap.size w) (.cells #[.slice A xs.length c, .string st, .int .i64 ex, .slice A2 n2 c2] 25)
  have hx : GBox (w.alloc (.cells #[.slice A xs.length c, .string st, .int .i64 ex, .slice A2 n2 c2] 25)) w.heap.size _ _ _ _ := GBox.new w
  have HX := Aside0.mk (And.intro (Kd.C_below hxs hb) hb)
  clear hxs
  go_enter Tryz.func69, Tryz.ntmps69
  go_upto_region 1 with fail
  generalize w.alloc (.cells #[.slice A xs.length c, .string st, .int .i64 ex, .slice A2 n2 c2] 25) = W1 at *
  generalize w.heap.size = X at hx ⊢
  have HB := Aside0.mk hx
  have x0 := hx.c0
  clear hx hb
  go_wp2_with fail
  go_loopg [5] xs.length (fun kq v5 w' => TkRel W1 s xs kq v5 w')
  case atStart => exact ⟨0, by omega, rfl, rfl, rfl⟩
  case round =>
    obtain ⟨i, hi, rfl, rfl, hs⟩ := hrel
    have HI := Aside0.mk hi
    have HS := Aside0.mk hs
    clear hi hs
    by_cases hil : i < xs.length
    · have t1 : decide ((i : Int) < (xs.length : Int)) = true := by simp; omega
      have hin : (i : Int) < (xs.length : Int) := by omega
      have hql : xs.length ≤ 9223372036854775807 := HX.out.1.2.1
      obtain ⟨ad, rfl, hcl, _, _⟩ := tok_at HX.out.1 i hil
      have HP := Aside0.mk (plc_at s (xs.map STk.f0) i (by simpa using hil))
      simp only [List.getElem_map] at HP
      generalize xs[i].f0 = x at *
      by_cases he : x = s
      · have hbe : (x.toList == s.toList) = true := by rw [he]; simp
        rw [if_pos he] at HP
        go_wp2_with fail
        go_ret
        exact ⟨by rw [HS.out, HP.out]; rfl, HX.out.2⟩
      · have hne : ¬ x.toList = s.toList := fun h => he (toList_eq.1 h)
        have hbe : (x.toList == s.toList) = false := by simpa using hne
        rw [if_neg he] at HP
        go_wp2_with fail
        go_roundg (gk - 1)
        case measure => have := HI.out; omega
        case rel => exact ⟨i + 1, by have := HI.out; omega, by go_num, rfl, by rw [HS.out, HP.out]⟩
    · have t1 : decide ((i : Int) < (xs.length : Int)) = false := by simp; omega
      go_wp2_with fail
      go_ret
      refine ⟨?_, HX.out.2⟩
      rw [HS.out, List.drop_of_length_le (by simp; omega)]
      rfl
end Go.Proofs.YtjhemobplcelbaaGreatDoor.O
