/- The law donatuslaw2.CrcAll answers true: any bytes have their sum, in one or in two. No condition. -/
import Derived.Test.YtkooodnkgipaeaaCrcx2
import Derived.Test.YtkooodnkgipaeaaCrcLink
namespace Go.Proofs.Ytkooodnkgipaeaa.Pure
open Go.RowKit Go.Proofs.Ytkooodnkgipaeaa.Crc Go.Proofs.YtkooodnkgipaeaaW.PrintWords Go.Proofs.YtkooodnkgipaeaaW.PrintLast Go.Proofs.YtkooodnkgipaeaaW.PrintMore
open CrcMath

theorem short (l : List Int) (n : Nat) : donatuslaw1_Short.f l (n : Int) = some (l.take n) := by
  unfold donatuslaw1_Short.f
  by_cases h : (l.length : Int) > n
  · rw [if_pos h, if_pos (by omega), if_pos (by omega), Int.toNat_natCast]
  · rw [if_neg h, List.take_of_length_le (by omega)]
theorem take_bytes' {l : List Int} (h : Bytes l) (n : Nat) : Bytes (l.take n) := fun x hx => h x (List.mem_of_mem_take hx)
theorem ref_inner (l : List Int) (j : Int) (r : Int) (d : Nat) : ∀ (x i : Nat), x < 4294967296 → i + d = 8 → Ev (fun k => donatusref1_Sum.l0 k l ((stn d x : Nat) : Int) (wrap64 (j + 1))) r → Ev (fun k => donatusref1_Sum.l1 k l (x : Int) j (i : Int)) r := by
  induction d with
  | zero =>
    intro x i hx hi h
    refine Ev.step (fun k => by rw [donatusref1_Sum.l1]) (ev_neg (by omega) ?_)
    exact h
  | succ d ih =>
    intro x i hx hi h
    refine Ev.step (fun k => by rw [donatusref1_Sum.l1]) (ev_pos (by omega) ?_)
    have hw : wrap64 ((i : Int) + 1) = ((i + 1 : Nat) : Int) := by unfold wrap64; omega
    have h2 : (x : Int) / 2 = ((x / 2 : Nat) : Int) := by omega
    have hm : Int.tmod (x : Int) 2 = ((x % 2 : Nat) : Int) := by
      rw [Int.tmod_eq_emod_of_nonneg (by omega)]
      omega
    have hn := ih (st x) (i + 1) (st_lt hx) (by omega) h
    rw [hw, hm, h2]
    rcases Nat.mod_two_eq_zero_or_one x with e | e
    · refine ev_neg (by omega) ?_
      have : st x = x / 2 := by unfold st; rw [if_neg (by omega)]
      rw [this] at hn
      exact hn
    · refine ev_pos (by omega) ?_
      have : st x = x / 2 ^^^ 3988292384 := by unfold st; rw [if_pos e]; rfl
      rw [this] at hn
      rw [show Go.bits .xor .u32 ((x / 2 : Nat) : Int) 3988292384 = ((x / 2 ^^^ 3988292384 : Nat) : Int) from Go.u32_xor_nat (x / 2) 3988292384 (by omega) (by decide)]
      exact hn
theorem ref_outer (l : List Int) (hb : Bytes l) (hl : l.length ≤ 9223372036854775806) (d : Nat) : ∀ (x j : Nat), x < 4294967296 → j + d = l.length →
    Ev (fun k => donatusref1_Sum.l0 k l (x : Int) (j : Int)) (((ones ^^^ run x (l.drop j) : Nat)) : Int) := by
  induction d with
  | zero =>
    intro x j hx hj
    have he : ones ^^^ run x (l.drop j) = ones ^^^ x := by rw [List.drop_eq_nil_of_le (by omega)]; rfl
    rw [he]
    refine Ev.step (fun k => by rw [donatusref1_Sum.l0]) (ev_neg (by omega) (ev_now (xor_ones x hx)))
  | succ d ih =>
    intro x j hx hj
    have hlt : j < l.length := by omega
    have hby := rd_byte hb j hlt
    refine Ev.step (fun k => by rw [donatusref1_Sum.l0]) (ev_pos (by omega) (ev_pos (by omega) ?_))
    obtain ⟨c, hc⟩ := Int.eq_ofNat_of_zero_le hby.1
    have hx2 : Go.bits .xor .u32 (x : Int) (rd l (j : Int) % 4294967296) = ((x ^^^ c : Nat) : Int) := by
      rw [show rd l (j : Int) % 4294967296 = (c : Int) from by omega]
      exact Go.u32_xor_nat x c hx (by omega)
    rw [hx2]
    have hn := ih (stn 8 (x ^^^ c)) (j + 1) (stn_lt 8 (xor_lt hx (by omega))) (by omega)
    have hr : run x (l.drop j) = run (stn 8 (x ^^^ c)) (l.drop (j + 1)) := by
      rw [drop_at l j hlt, hc]
      rfl
    rw [hr]
    have hw : wrap64 ((j : Int) + 1) = ((j + 1 : Nat) : Int) := by unfold wrap64; omega
    rw [← hw] at hn
    have hz : x ^^^ c < 4294967296 := xor_lt hx (by omega)
    clear hr hc hx2 hby hx ih
    generalize x ^^^ c = z at *
    generalize ((ones ^^^ run (stn 8 z) (List.drop (j + 1) l) : Nat) : Int) = q at *
    exact ref_inner l (j : Int) q 8 z 0 hz rfl hn
theorem ref_sum (l : List Int) (hb : Bytes l) (hl : l.length ≤ 9223372036854775806) : Ev (fun k => donatusref1_Sum.f k l) (sum l : Int) := ref_outer l hb hl l.length ones 0 (by decide) (by omega)
theorem CrcAll : donatuslaw2_CrcAll.Pure := by
  intro a b _ _ ha _ _ hb
  have ha := take_bytes' (bytes_of ha) 300
  have hb := take_bytes' (bytes_of hb) 300
  have la : (a.take 300).length ≤ 300 := by simp; omega
  have lb : (b.take 300).length ≤ 300 := by simp; omega
  have e1 : donatuslaw1_Short.f a 300 = some (a.take 300) := short a 300
  have e2 : donatuslaw1_Short.f b 300 = some (b.take 300) := short b 300
  have hab : Bytes (a.take 300 ++ b.take 300) := fun x hx => (List.mem_append.1 hx).elim (ha x) (hb x)
  have lab : (a.take 300 ++ b.take 300).length ≤ 9223372036854775806 := by rw [List.length_append]; omega
  have : Ev (fun k => donatuslaw2_CrcAll.f k a b) true := by
    unfold donatuslaw2_CrcAll.f
    rw [e1, e2]
    generalize a.take 300 = a at *
    generalize b.take 300 = b at *
    refine Ev.bind (g := fun _ => donatuslaw2_begun.f) (Ev.now true) (ev_pos rfl ?_)
    refine Ev.bind (Ev.now a) (Ev.bind (Ev.now b) (ev_pos (by simp; omega) (Ev.bind (Ev.now a) (ev_pos (by omega) (Ev.bind (Ev.now (a ++ b)) ?_)))))
    refine Ev.bind (sum_ev _ hab lab) (Ev.bind (ref_sum _ hab lab) (ev_pos rfl ?_))
    refine Ev.bind (sum_ev _ ha (by omega)) (Ev.bind (more_sum a b ha hb (by omega)) (Ev.bind (sum_ev _ hab lab) (ev_now (beq_iff_eq.2 rfl))))
  exact this.rounds

end Go.Proofs.Ytkooodnkgipaeaa.Pure
