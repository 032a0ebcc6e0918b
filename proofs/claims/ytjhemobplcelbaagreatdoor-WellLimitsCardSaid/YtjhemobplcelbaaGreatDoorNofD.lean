/- wof: well.number. -/
import Derived.Test.YtjhemobplcelbaaGreatDoorNofC
import Derived.Test.YtjhemobplcelbaaGreatDoorKit6
namespace Go.Proofs.YtjhemobplcelbaaGreatDoor.O
open Go.RowKit Go.Proofs.YtjhemobplcelbaaGreatDoorW.PrintWords Go.Proofs.YtjhemobplcelbaaGreatDoorW.PrintLast Go.Proofs.YtjhemobplcelbaaGreatDoorW.PrintMore
set_option linter.unusedVariables false
set_option linter.unusedSimpArgs false
theorem str_cut (W : World) (ad : Addr) (n c i : Nat) (hi : i < c) (hn : i ≤ n) (hc : n ≤ c) :
    (Instr.slice 28 (.slice (some ad) n c) (some (.int .i64 (i : Int))) none none).run Tryz.prog W = .ok (.slice (some (ad.add i)) (n - i) (c - i)) W := by
  obtain ⟨i0, hi0, _, hsz, _⟩ := info_parts infoS
  have hc2 := cut_from (P := Tryz.prog) 28 9 .i64 Tryz.underlying28 hi0 1 hsz (some ad) n c (i : Int) (by omega) (by omega)
  rw [Int.toNat_natCast, if_neg (by omega)] at hc2
  have e := hc2 W
  rw [show Option.map (fun x : Addr => x.add (i * 1)) (some ad) = some (ad.add i) from (by simp)] at e
  exact e
theorem str_drop {w : World} {ad : Addr} {xs : List ByteArray} {c : Nat} (h : Kd.C Kd.string w (some ad) xs.length xs) (m : Nat) (hm : m < xs.length) (hc : xs.length ≤ c) : Kd.C Kd.string w (some (ad.add m)) (xs.length - m) (xs.drop m) := by
  have e := Kd.C_drop (m := m) h (by omega) hc
  rw [if_neg (by omega), List.length_drop] at e
  simpa [show Kd.string.sz = 1 from rfl] using e
/-- The number of a name. -/
def numF (t : Nat) (names : List ByteArray) (s : ByteArray) : Int := if 0 ≤ plc s (names.take t) 0 then plc s (names.take t) 0 else (t : Int) + 1 + plc s (names.drop (t + 1)) 0
set_option maxHeartbeats 4000000 in
theorem number_calls (w : World) (t : Nat) (n st ex : Int) (A4 : Option Addr) (c4 : Nat) (names : List ByteArray) (v5 v6 v7 : Value) (s : ByteArray) (hnm : Kd.C Kd.string w A4 names.length names) (hc4 : names.length ≤ c4) (ht : t + 1 < names.length) (hN : names.length ≤ 1000000) :
    Calls Tryz.prog 65 #[.agg #[.int .i64 (t : Int), .int .i64 n, .int .i64 st, .int .i64 ex, .slice A4 names.length c4, v5, v6, v7], .string s] w fun e w' => e = .returned (.int .i64 (numF t names s)) ∧ Below w.heap.size w w' := by
  obtain ⟨ad, hA, _⟩ := str_at hnm 0 (by omega)
  subst hA
  have hb := below_alloc (Below.refl w.heap.size w) (.cells #[.int .i64 (t : Int), .int .i64 n, .int .i64 st, .int .i64 ex, .slice (some ad) names.length c4, v5, v6, v7] 32)
  have hx := Bx.new w #[.int .i64 (t : Int), .int .i64 n, .int .i64 st, .int .i64 ex, .slice (some ad) names.length c4, v5, v6, v7] 32
  have HX := Aside0.mk hx
  have HB := Aside0.mk hb
  have HN := Aside0.mk (Kd.C_below hnm hb)
  have HT := Aside0.mk ht
  have HF : Aside0 (numF t names s = if 0 ≤ plc s (names.take t) 0 then plc s (names.take t) 0 else (t : Int) + 1 + plc s (names.drop (t + 1)) 0) := ⟨rfl⟩
  generalize numF t names s = nf at *
  clear hb hx hnm
  go_enter Tryz.func65, Tryz.ntmps65
  go_upto_region 1 with fail
  obtain ⟨X, hXe⟩ : ∃ X, X = w.heap.size := ⟨_, rfl⟩
  have hx := HX.out
  rw [← hXe] at hx
  rw [← hXe]
  clear hXe HX
  generalize w.alloc (.cells #[.int .i64 (t : Int), .int .i64 n, .int .i64 st, .int .i64 ex, .slice (some ad) names.length c4, v5, v6, v7] 32) = W1 at *
  have x0 := hx.c 0 rfl
  have x4 := hx.c 4 rfl
  clear hx
  have C1 := index_calls W1 (some ad) c4 (names.take t) s (Kd.C_take HN.out (by omega)) (by rw [List.length_take]; omega)
  rw [List.length_take, Nat.min_eq_left (by omega)] at C1
  have C1' := Aside0.mk C1
  clear C1
  have htc : (t : Int) ≤ (c4 : Int) := by omega
  have htl : (t : Int) ≤ (names.length : Int) := by omega
  obtain ⟨q, hq⟩ : ∃ q, q = plc s (names.take t) 0 := ⟨_, rfl⟩
  rw [← hq] at C1' HF
  clear hq
  go_upto_region 2 with (first
    | (go_at_call 88; (with_reducible refine Calls.mono C1'.out ?_); rintro e w2 ⟨rfl, rfl⟩))
  by_cases h0 : 0 ≤ q
  · have t1 : decide (q ≥ 0) = true := decide_eq_true h0
    have HF1 : Aside0 (nf = q) := ⟨by rw [HF.out, if_pos h0]⟩
    clear h0 HF
    go_wp2_with fail
    go_ret
    exact ⟨by rw [HF1.out]; rfl, HB.out⟩
  · have t1 : decide (q ≥ 0) = false := decide_eq_false h0
    obtain ⟨u, hu⟩ : ∃ u, u = t + 1 := ⟨_, rfl⟩
    obtain ⟨p, hp⟩ : ∃ p, p = plc s (names.drop (t + 1)) 0 := ⟨_, rfl⟩
    have hp1 : -1 ≤ p ∧ p ≤ 1000000 := by
      have h1 := plc_ge s (names.drop (t + 1)) 0
      have h2 := plc_lt s (names.drop (t + 1)) 0
      rw [List.length_drop] at h2
      rw [hp]
      omega
    have HF1 : Aside0 (nf = (u : Int) + p) := ⟨by rw [HF.out, if_neg h0, hu, hp]; push_cast; rfl⟩
    have hw1 : IntKind.i64.wrap ((t : Int) + 1) = (u : Int) := by rw [IntKind.wrap_i64]; omega
    have hw2 : IntKind.i64.wrap ((u : Int) + p) = (u : Int) + p := by rw [IntKind.wrap_i64]; omega
    have hsl := fun W => str_cut W ad names.length c4 u (by omega) (by omega) hc4
    have C2 : ∀ k, Aside0 (Calls Tryz.prog 88 #[.slice (some (ad.add u)) (names.length - u) (c4 - u), .string s] (w2.drewN k) fun e w' => e = .returned (.int .i64 p) ∧ w' = w2.drewN k) := fun k => ⟨by
      have h := index_calls (w2.drewN k) (some (ad.add u)) (c4 - u) (names.drop u) s (by rw [List.length_drop]; exact Kd.C_below (str_drop HN.out u (by omega) hc4) (M.drawn_below ⟨k, rfl⟩)) (by rw [List.length_drop]; omega)
      rw [List.length_drop] at h
      rw [hp, ← hu]
      exact h⟩
    clear h0 HF hu hp
    go_upto_region 4 with fail
    go_quiet ((go_at_call 88; exact Calls.quiet_of_same (C2 _).out))
    have HQ := Aside0.mk (HB.out.trans ((M.drawn_below (⟨nq, rfl⟩ : Drawn0 w2 (w2.drewN nq))).mono HB.out.size))
    go_wp2_with fail
    go_ret
    exact ⟨by rw [HF1.out]; rfl, HQ.out⟩
end Go.Proofs.YtjhemobplcelbaaGreatDoor.O
