/- What crc.More and crc.Sum answer of any bytes, in plain arithmetic (CrcMath). The bytes are below 256, the begun sum below 2^32. -/
import Derived.Test.YtkooodnkgipaeaaCrcx1
import Derived.Test.YtkooodnkgipaeaaCrcMath
import Derived.Laws.BitsAllLaws
namespace Go.Proofs.Ytkooodnkgipaeaa.Crc
open Go.RowKit Go.Proofs.YtkooodnkgipaeaaW.PrintWords Go.Proofs.YtkooodnkgipaeaaW.PrintLast Go.Proofs.YtkooodnkgipaeaaW.PrintMore
open CrcMath

theorem ev_pos {α : Type} {c : Prop} [Decidable c] {g f : Nat → Option α} {r : α} (h : c) (k : Ev g r) : Ev (fun n => if c then g n else f n) r := Ev.congr (fun _ => if_pos h) k
theorem ev_neg {α : Type} {c : Prop} [Decidable c] {g f : Nat → Option α} {r : α} (h : ¬ c) (k : Ev f r) : Ev (fun n => if c then g n else f n) r := Ev.congr (fun _ => if_neg h) k
theorem ev_now {α : Type} {a r : α} (h : a = r) : Ev (fun _ => some a) r := h ▸ Ev.now _
theorem drop_at (l : List Int) (j : Nat) (h : j < l.length) : l.drop j = rd l (j : Int) :: l.drop (j + 1) := by
  rw [List.drop_eq_getElem_cons h]
  unfold rd
  rw [Int.toNat_natCast, List.getD_eq_getElem?_getD, List.getElem?_eq_getElem h]
  rfl
theorem rd_byte {l : List Int} (hb : Bytes l) (j : Nat) (h : j < l.length) : 0 ≤ rd l (j : Int) ∧ rd l (j : Int) < 256 := by
  refine hb _ ?_
  unfold rd
  rw [Int.toNat_natCast, List.getD_eq_getElem?_getD, List.getElem?_eq_getElem h]
  exact List.getElem_mem h
theorem st_bits {x : Nat} (hx : x < 4294967296) : Go.bits .xor .u32 ((x : Int) / 2) (Go.bits .and .u32 3988292384 ((-(Go.bits .and .u32 (x : Int) 1)) % 4294967296)) = ((st x : Nat) : Int) := by
  have h1 : Go.bits .and .u32 (x : Int) 1 = ((x % 2 : Nat) : Int) := by
    have := u32_and_nat x 1 hx (by decide)
    rw [Nat.and_one_is_mod] at this
    exact this
  rw [h1]
  have h2 : (x : Int) / 2 = ((x / 2 : Nat) : Int) := by omega
  rw [h2]
  unfold st
  rcases Nat.mod_two_eq_zero_or_one x with h | h
  · rw [h, if_neg (by omega)]
    have := u32_xor_nat (x / 2) 0 (by omega) (by decide)
    rw [Nat.xor_zero] at this
    exact this
  · rw [h, if_pos rfl]
    exact u32_xor_nat (x / 2) 3988292384 (by omega) (by decide)
theorem xor_ones (x : Nat) (hx : x < 4294967296) : Go.bits .xor .u32 4294967295 (x : Int) = ((ones ^^^ x : Nat) : Int) := u32_xor_nat 4294967295 x (by decide) hx
theorem inner (l : List Int) (n j : Int) (r : Int) (d : Nat) : ∀ (x i : Nat), x < 4294967296 → i + d = 8 → Ev (fun k => crc_More.l0 k ((stn d x : Nat) : Int) l n (wrap64 (j + 1))) r → Ev (fun k => crc_More.l1 k (x : Int) l n j (i : Int)) r := by
  induction d with
  | zero =>
    intro x i hx hi h
    refine Ev.step (fun k => by rw [crc_More.l1]) (ev_neg (by omega) ?_)
    exact h
  | succ d ih =>
    intro x i hx hi h
    refine Ev.step (fun k => by rw [crc_More.l1]) (ev_pos (by omega) ?_)
    rw [st_bits hx, show wrap64 ((i : Int) + 1) = ((i + 1 : Nat) : Int) from by unfold wrap64; omega]
    exact ih (st x) (i + 1) (st_lt hx) (by omega) h
theorem outer (l : List Int) (hb : Bytes l) (hl : l.length ≤ 9223372036854775806) (d : Nat) : ∀ (x j : Nat), x < 4294967296 → j + d = l.length →
    Ev (fun k => crc_More.l0 k (x : Int) l (l.length : Int) (j : Int)) (((ones ^^^ run x (l.drop j) : Nat)) : Int) := by
  induction d with
  | zero =>
    intro x j hx hj
    have he : ones ^^^ run x (l.drop j) = ones ^^^ x := by rw [List.drop_eq_nil_of_le (by omega)]; rfl
    rw [he]
    refine Ev.step (fun k => by rw [crc_More.l0]) (ev_neg (by omega) (ev_now (xor_ones x hx)))
  | succ d ih =>
    intro x j hx hj
    have hlt : j < l.length := by omega
    have hby := rd_byte hb j hlt
    refine Ev.step (fun k => by rw [crc_More.l0]) (ev_pos (by omega) (ev_pos (by omega) (ev_pos (by omega) ?_)))
    obtain ⟨c, hc⟩ := Int.eq_ofNat_of_zero_le hby.1
    have hx2 : Go.bits .xor .u32 (x : Int) (rd l (j : Int) % 4294967296) = ((x ^^^ c : Nat) : Int) := by
      rw [show rd l (j : Int) % 4294967296 = (c : Int) from by omega]
      exact u32_xor_nat x c hx (by omega)
    rw [hx2]
    have hn := ih (stn 8 (x ^^^ c)) (j + 1) (stn_lt 8 (xor_lt hx (by omega))) (by omega)
    have hr : run x (l.drop j) = run (stn 8 (x ^^^ c)) (l.drop (j + 1)) := by
      rw [drop_at l j hlt, hc]
      rfl
    rw [hr]
    have hw : wrap64 ((j : Int) + 1) = ((j + 1 : Nat) : Int) := by unfold wrap64; omega
    rw [← hw] at hn
    have hz : x ^^^ c < 4294967296 := xor_lt hx (by omega)
    clear hr hc hx2 hby hx ih
    generalize x ^^^ c = z at *
    generalize ((ones ^^^ run (stn 8 z) (List.drop (j + 1) l) : Nat) : Int) = q at *
    exact inner l (l.length : Int) (j : Int) q 8 z 0 hz rfl hn
theorem more_ev (s : Nat) (hs : s < 4294967296) (l : List Int) (hb : Bytes l) (hl : l.length ≤ 9223372036854775806) : Ev (fun k => crc_More.f k (s : Int) l) (((ones ^^^ run (ones ^^^ s) l : Nat)) : Int) := by
  have := outer l hb hl l.length (ones ^^^ s) 0 (xor_lt (by decide) hs) (by omega)
  refine Ev.congr (fun k => ?_) this
  unfold crc_More.f
  rw [show Go.bits .xor .u32 4294967295 (s : Int) = ((ones ^^^ s : Nat) : Int) from xor_ones s hs]
  rfl
/-- The sum of bytes. -/
def sum (l : List Int) : Nat := ones ^^^ run ones l
theorem sum_ev (l : List Int) (hb : Bytes l) (hl : l.length ≤ 9223372036854775806) : Ev (fun k => crc_Sum.f k l) (sum l : Int) := by
  have := more_ev 0 (by decide) l hb hl
  rw [Nat.xor_zero] at this
  exact Ev.bind this (Ev.now _)
theorem ones_lt : ones < 4294967296 := by decide
theorem ones_ones (x : Nat) : ones ^^^ (ones ^^^ x) = x := xor_self_cancel _ _
theorem sum_lt {l : List Int} (hb : Bytes l) : sum l < 4294967296 := xor_lt (by decide) (run_lt l (by decide) hb)
theorem more_sum (a b : List Int) (ha : Bytes a) (hb : Bytes b) (hl : b.length ≤ 9223372036854775806) : Ev (fun k => crc_More.f k (sum a : Int) b) (sum (a ++ b) : Int) := by
  have := more_ev (sum a) (sum_lt ha) b hb hl
  rw [show ones ^^^ sum a = run ones a from ones_ones _, ← run_append] at this
  exact this
theorem bytes_of {l : List Int} (h : ∀ x ∈ l, (Lit.int .u8 x).wf = true) : Bytes l := by
  intro x hx
  have := Bool.and_eq_true_iff.1 (h x hx)
  have h1 : IntKind.u8.min ≤ x := of_decide_eq_true this.1
  have h2 : x ≤ IntKind.u8.max := of_decide_eq_true this.2
  rw [show IntKind.u8.min = 0 from rfl] at h1
  rw [show IntKind.u8.max = 255 from rfl] at h2
  omega
end Go.Proofs.Ytkooodnkgipaeaa.Crc
