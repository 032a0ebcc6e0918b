/- The law donatuslaw2.CrcThree answers true: of three texts of one length the sum of their exclusive or is the exclusive or of their sums. No condition. -/
import Derived.Test.YtkooodnkgipaeaaCrcx5
import Derived.Test.YtkooodnkgipaeaaCrcLink
namespace Go.Proofs.Ytkooodnkgipaeaa.Pure
open Go.RowKit Go.Proofs.Ytkooodnkgipaeaa.Crc Go.Proofs.YtkooodnkgipaeaaW.PrintWords Go.Proofs.YtkooodnkgipaeaaW.PrintLast Go.Proofs.YtkooodnkgipaeaaW.PrintMore
open CrcMath

def x3 (a b c : List Int) (i : Nat) : Int := xor3 (a.getD i 0) (b.getD i 0) (c.getD i 0)
def mix (a b c : List Int) (n i : Nat) : List Int := (List.range n).map fun j => if j < i then x3 a b c j else 0
theorem mix_len (a b c : List Int) (n i : Nat) : (mix a b c n i).length = n := by simp [mix]
theorem mix_zero (a b c : List Int) (n : Nat) : List.replicate n 0 = mix a b c n 0 := by
  apply List.ext_getElem
  · simp [mix]
  · intro i h1 h2
    simp [mix]
theorem mix_set (a b c : List Int) (n i : Nat) : (mix a b c n i).set i (x3 a b c i) = mix a b c n (i + 1) := by
  apply List.ext_getElem
  · simp [mix]
  · intro j h1 h2
    rw [List.getElem_set]
    simp only [mix, List.getElem_map, List.getElem_range]
    by_cases h : i = j
    · subst h
      simp
    · by_cases h3 : j < i
      · rw [if_neg h, if_pos h3, if_pos (by omega)]
      · rw [if_neg h, if_neg h3, if_neg (by omega)]
theorem mix_get (a b c : List Int) (n i : Nat) (h : i < n) : (mix a b c n n).getD i 0 = x3 a b c i := by
  rw [List.getD_eq_getElem?_getD, List.getElem?_eq_getElem (by rw [mix_len]; exact h)]
  simp [mix, h]
theorem getD_byte {l : List Int} (hb : Bytes l) (i : Nat) : 0 ≤ l.getD i 0 ∧ l.getD i 0 < 256 := by
  rw [List.getD_eq_getElem?_getD]
  rcases Nat.lt_or_ge i l.length with h | h
  · rw [List.getElem?_eq_getElem h]
    exact hb _ (List.getElem_mem h)
  · rw [List.getElem?_eq_none h]
    decide
theorem x3_lt {a b c : List Int} (ha : Bytes a) (hb : Bytes b) (hc : Bytes c) (i : Nat) : 0 ≤ x3 a b c i ∧ x3 a b c i < 256 := by
  have h1 := getD_byte ha i
  have h2 := getD_byte hb i
  have h3 := getD_byte hc i
  unfold x3 xor3
  have k1 : (a.getD i 0).toNat < 2 ^ 8 := by omega
  have k2 : (b.getD i 0).toNat < 2 ^ 8 := by omega
  have k3 : (c.getD i 0).toNat < 2 ^ 8 := by omega
  have := Nat.xor_lt_two_pow (Nat.xor_lt_two_pow k1 k2) k3
  omega
theorem mix_bytes {a b c : List Int} (ha : Bytes a) (hb : Bytes b) (hc : Bytes c) (n i : Nat) : Bytes (mix a b c n i) := by
  intro x hx
  obtain ⟨j, _, rfl⟩ := List.mem_map.1 hx
  split
  · exact x3_lt ha hb hc j
  · decide
theorem bits_x3 {a b c : List Int} (ha : Bytes a) (hb : Bytes b) (hc : Bytes c) (i : Nat) : Go.bits .xor .u8 (Go.bits .xor .u8 (rd a (i : Int)) (rd b (i : Int))) (rd c (i : Int)) = x3 a b c i := by
  have h1 := getD_byte ha i
  have h2 := getD_byte hb i
  have h3 := getD_byte hc i
  simp only [rd, Int.toNat_natCast]
  unfold x3 xor3
  have k := Nat.xor_lt_two_pow (n := 8) (x := (a.getD i 0).toNat) (y := (b.getD i 0).toNat) (by omega) (by omega)
  rw [u8_xor _ _ h1.1 h1.2 h2.1 h2.2, u8_xor _ _ (by omega) (by omega) h3.1 h3.2, Int.toNat_natCast]
theorem take_bytes {l : List Int} (h : Bytes l) (n : Nat) : Bytes (l.take n) := fun x hx => h x (List.mem_of_mem_take hx)
theorem take_getD (l : List Int) {i n : Nat} (h : i < n) : (l.take n).getD i 0 = l.getD i 0 := by
  simp [List.getD_eq_getElem?_getD, h]
theorem three_sums (n : Nat) (a b c : List Int) (h1 : n ≤ a.length) (h2 : n ≤ b.length) (h3 : n ≤ c.length) :
    sum (mix a b c n n) = sum (a.take n) ^^^ sum (b.take n) ^^^ sum (c.take n) := by
  unfold sum
  have := run_three (a.take n) (b.take n) (c.take n) (mix a b c n n) ones ones ones (by simp; omega) (by simp; omega) (by simp [mix_len]; omega) (fun i hi => by
    have hi' : i < n := by simp at hi; omega
    rw [mix_get _ _ _ _ _ hi', take_getD _ hi', take_getD _ hi', take_getD _ hi']
    rfl)
  have e : ones ^^^ ones ^^^ ones = ones := by decide
  rw [e] at this
  rw [this]
  have := swap3 ones ones ones (run ones (a.take n)) (run ones (b.take n)) (run ones (c.take n))
  rw [e] at this
  exact this
theorem loop (a b c : List Int) (ha : Bytes a) (hb : Bytes b) (hc : Bytes c) (n : Nat) (h1 : n ≤ a.length) (h2 : n ≤ b.length) (h3 : n ≤ c.length) (hn : n ≤ 100)
    (d : Nat) : ∀ i, i + d = n → Ev (fun k => donatuslaw2_CrcThree.l0 k a b c (n : Int) (mix a b c n i) (i : Int)) true := by
  induction d with
  | zero =>
    intro i hi
    obtain rfl : i = n := hi
    have hla : (a.take i).length ≤ 9223372036854775806 := by simp; omega
    have hlb : (b.take i).length ≤ 9223372036854775806 := by simp; omega
    have hlc : (c.take i).length ≤ 9223372036854775806 := by simp; omega
    have hlm : (mix a b c i i).length ≤ 9223372036854775806 := by rw [mix_len]; omega
    refine Ev.step (fun k => by rw [donatuslaw2_CrcThree.l0]) (ev_neg (by omega) ?_)
    rw [Int.toNat_natCast]
    refine Ev.bind (sum_ev _ (mix_bytes ha hb hc _ _) hlm) (ev_pos (by omega) (ev_pos (by omega) ?_))
    refine Ev.bind (sum_ev _ (take_bytes ha _) hla) (ev_pos (by omega) ?_)
    refine Ev.bind (sum_ev _ (take_bytes hb _) hlb) (ev_pos (by omega) ?_)
    refine Ev.bind (sum_ev _ (take_bytes hc _) hlc) (ev_now ?_)
    have s1 := sum_lt (take_bytes ha i)
    have s2 := sum_lt (take_bytes hb i)
    have s3 := sum_lt (take_bytes hc i)
    rw [u32_xor_nat _ _ s1 s2, u32_xor_nat _ _ (xor_lt s1 s2) s3, three_sums i a b c h1 h2 h3]
    exact beq_iff_eq.2 rfl
  | succ d ih =>
    intro i hi
    have hm : (i : Int) < ((mix a b c n i).length : Int) := by rw [mix_len]; omega
    refine Ev.step (fun k => by rw [donatuslaw2_CrcThree.l0]) (ev_pos (by omega) (ev_pos (by omega) (ev_pos (by omega) (ev_pos (by omega) (ev_pos (by omega) (ev_pos hm ?_))))))
    rw [bits_x3 ha hb hc, Int.toNat_natCast, mix_set, show wrap64 ((i : Int) + 1) = ((i + 1 : Nat) : Int) from by unfold wrap64; omega]
    exact ih (i + 1) (by omega)
theorem CrcThree : donatuslaw2_CrcThree.Pure := by
  intro a b c _ _ ha _ _ hb _ _ hc
  have ha := bytes_of ha
  have hb := bytes_of hb
  have hc := bytes_of hc
  obtain ⟨n, hn, h1, h2, h3, h4⟩ : ∃ n : Nat, mn (mn (a.length : Int) 100) (mn (b.length : Int) (c.length : Int)) = n ∧ n ≤ a.length ∧ n ≤ b.length ∧ n ≤ c.length ∧ n ≤ 100 := by
    refine ⟨min (min a.length 100) (min b.length c.length), ?_, ?_⟩
    · unfold mn
      (repeat' split) <;> omega
    · omega
  have : Ev (fun k => donatuslaw2_CrcThree.f k a b c) true := by
    unfold donatuslaw2_CrcThree.f
    rw [hn, Int.toNat_natCast]
    refine Ev.bind (g := fun _ => donatuslaw2_begun.f) (Ev.now true) (ev_pos rfl (ev_pos (by omega) (ev_pos (by omega) ?_)))
    rw [mix_zero a b c]
    exact loop a b c ha hb hc n h1 h2 h3 h4 n 0 (by omega)
  exact this.rounds

end Go.Proofs.Ytkooodnkgipaeaa.Pure
