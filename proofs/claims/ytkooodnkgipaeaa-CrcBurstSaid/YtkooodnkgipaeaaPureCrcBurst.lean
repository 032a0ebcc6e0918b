/- The law donatuslaw2.CrcBurst answers true: up to four bytes behind one another that were changed change the sum. No condition. -/
import Derived.Test.YtkooodnkgipaeaaCrcx3
import Derived.Test.YtkooodnkgipaeaaCrcLink
namespace Go.Proofs.Ytkooodnkgipaeaa.Pure
open Go.RowKit Go.Proofs.Ytkooodnkgipaeaa.Crc Go.Proofs.YtkooodnkgipaeaaW.PrintWords Go.Proofs.YtkooodnkgipaeaaW.PrintLast Go.Proofs.YtkooodnkgipaeaaW.PrintMore
open CrcMath

theorem shortB (l : List Int) (n : Nat) : donatuslaw1_Short.f l (n : Int) = some (l.take n) := by
  unfold donatuslaw1_Short.f
  by_cases h : (l.length : Int) > n
  · rw [if_pos h, if_pos (by omega), if_pos (by omega), Int.toNat_natCast]
  · rw [if_neg h, List.take_of_length_le (by omega)]
theorem take_bytes3 {l : List Int} (h : Bytes l) (n : Nat) : Bytes (l.take n) := fun x hx => h x (List.mem_of_mem_take hx)
def any0 (x : List Int) (i : Nat) : Bool := (x.take i).any (fun c => c != 0)
theorem any_step (x : List Int) (i : Nat) (h : i < x.length) : any0 x (i + 1) = (any0 x i || (rd x (i : Int) != 0)) := by
  unfold any0
  rw [List.take_succ_eq_append_getElem h, List.any_append]
  simp [rd, List.getD_eq_getElem?_getD, h]
theorem any_all (x : List Int) (i : Nat) (h : x.length ≤ i) : any0 x i = x.any (fun c => c != 0) := by
  unfold any0
  rw [List.take_of_length_le h]
/-- The bytes b with the first i of x laid over from at_ on. -/
def mixed (b x : List Int) : Nat → Nat → List Int
  | _, 0 => b
  | at_, i + 1 => (mixed b x at_ i).set (at_ + i) (((b.getD (at_ + i) 0).toNat ^^^ (x.getD i 0).toNat : Nat) : Int)
theorem mixed_len (b x : List Int) (at_ i : Nat) : (mixed b x at_ i).length = b.length := by
  induction i with
  | zero => rfl
  | succ i ih => simp only [mixed, List.length_set, ih]
theorem mixed_later (b x : List Int) (at_ i j : Nat) (h : at_ + i ≤ j) : (mixed b x at_ i).getD j 0 = b.getD j 0 := by
  induction i with
  | zero => rfl
  | succ i ih =>
    simp only [mixed]
    rw [List.getD_eq_getElem?_getD, List.getElem?_set_ne (by omega), ← List.getD_eq_getElem?_getD, ih (by omega)]
theorem getD_b {l : List Int} (hb : Bytes l) (i : Nat) : 0 ≤ l.getD i 0 ∧ l.getD i 0 < 256 := by
  rw [List.getD_eq_getElem?_getD]
  rcases Nat.lt_or_ge i l.length with h | h
  · rw [List.getElem?_eq_getElem h]
    exact hb _ (List.getElem_mem h)
  · rw [List.getElem?_eq_none h]
    decide
theorem xb {b x : List Int} (hb : Bytes b) (hx : Bytes x) (p i : Nat) : (b.getD p 0).toNat ^^^ (x.getD i 0).toNat < 256 := by
  have h1 := getD_b hb p
  have h2 := getD_b hx i
  exact Nat.xor_lt_two_pow (n := 8) (by omega) (by omega)
/-- The bytes b in three parts: ahead, the burst, behind. -/
def lay (b x : List Int) (at_ i : Nat) : List Int := (List.range i).map fun j => (((b.getD (at_ + j) 0).toNat ^^^ (x.getD j 0).toNat : Nat) : Int)
theorem lay_succ (b x : List Int) (at_ i : Nat) : lay b x at_ (i + 1) = lay b x at_ i ++ [(((b.getD (at_ + i) 0).toNat ^^^ (x.getD i 0).toNat : Nat) : Int)] := by
  simp [lay, List.range_succ]
theorem lay_len (b x : List Int) (at_ i : Nat) : (lay b x at_ i).length = i := by simp [lay]
theorem mixed_parts (b x : List Int) (at_ i : Nat) (h : at_ + i ≤ b.length) : mixed b x at_ i = b.take at_ ++ lay b x at_ i ++ b.drop (at_ + i) := by
  induction i with
  | zero => simp [mixed, lay]
  | succ i ih =>
    simp only [mixed]
    rw [ih (by omega), lay_succ]
    have hl : (b.take at_ ++ lay b x at_ i).length = at_ + i := by rw [List.length_append, lay_len, List.length_take]; omega
    rw [List.set_append_right _ _ (by omega), hl, Nat.sub_self]
    have hd : b.drop (at_ + i) = b.getD (at_ + i) 0 :: b.drop (at_ + i + 1) := by
      rw [List.drop_eq_getElem_cons (by omega), List.getD_eq_getElem?_getD, List.getElem?_eq_getElem (by omega)]
      rfl
    rw [hd, List.set_cons_zero, ← Nat.add_assoc]
    simp
theorem mid_parts (b : List Int) (at_ i : Nat) : b = b.take at_ ++ (b.drop at_).take i ++ b.drop (at_ + i) := by
  rw [List.append_assoc, ← List.drop_drop, List.take_append_drop, List.take_append_drop]
theorem lay_bytes {b x : List Int} (hb : Bytes b) (hx : Bytes x) (at_ i : Nat) : Bytes (lay b x at_ i) := by
  intro c hc
  obtain ⟨j, _, rfl⟩ := List.mem_map.1 hc
  have := xb hb hx (at_ + j) j
  omega
theorem mixed_bytes {b x : List Int} (hb : Bytes b) (hx : Bytes x) (at_ i : Nat) (h : at_ + i ≤ b.length) : Bytes (mixed b x at_ i) := by
  rw [mixed_parts b x at_ i h]
  intro c hc
  rcases List.mem_append.1 hc with hc | hc
  · rcases List.mem_append.1 hc with hc | hc
    · exact hb c (List.mem_of_mem_take hc)
    · exact lay_bytes hb hx at_ i c hc
  · exact hb c (List.mem_of_mem_drop hc)
theorem differ {b x : List Int} (hb : Bytes b) (hx : Bytes x) (at_ : Nat) (h4 : x.length ≤ 4) (h : at_ + x.length ≤ b.length) (hs : x.any (fun c => c != 0) = true) :
    sum b ≠ sum (mixed b x at_ x.length) := by
  intro he
  have he := xor_left_inj he
  rw [mixed_parts b x at_ _ h] at he
  have e0 : run ones b = run (run (run ones (b.take at_)) ((b.drop at_).take x.length)) (b.drop (at_ + x.length)) := by
    rw [← run_append, ← run_append, ← List.append_assoc, ← mid_parts]
  rw [e0, run_append, run_append] at he
  have p : Bytes (b.take at_) := fun c hc => hb c (List.mem_of_mem_take hc)
  have q : Bytes ((b.drop at_).take x.length) := fun c hc => hb c (List.mem_of_mem_drop (List.mem_of_mem_take hc))
  have s : Bytes (b.drop (at_ + x.length)) := fun c hc => hb c (List.mem_of_mem_drop hc)
  have hy := lay_bytes hb hx at_ x.length
  have r := run_lt (b.take at_) ones_lt p
  have hm := run_inj _ (run_lt _ r q) (run_lt _ r hy) s he
  have hlen : ((b.drop at_).take x.length).length = (lay b x at_ x.length).length := by rw [lay_len, List.length_take, List.length_drop]; omega
  have := run_burst hlen (by rw [hlen, lay_len]; exact h4) q hy r hm
  obtain ⟨c, hc, hne⟩ := List.any_eq_true.1 hs
  obtain ⟨j, hj, rfl⟩ := List.getElem_of_mem hc
  have h1 : ((b.drop at_).take x.length).getD j 0 = (lay b x at_ x.length).getD j 0 := by rw [this]
  have e1 : ((b.drop at_).take x.length).getD j 0 = b.getD (at_ + j) 0 := by
    simp [List.getD_eq_getElem?_getD, hj, List.getElem?_drop]
  have e2 : (lay b x at_ x.length).getD j 0 = (((b.getD (at_ + j) 0).toNat ^^^ (x.getD j 0).toNat : Nat) : Int) := by
    rw [List.getD_eq_getElem?_getD, List.getElem?_eq_getElem (by rw [lay_len]; exact hj)]
    simp [lay]
  rw [e1, e2] at h1
  have h2 := getD_b hb (at_ + j)
  have h3 := getD_b hx j
  have h4 : (b.getD (at_ + j) 0).toNat ^^^ 0 = (b.getD (at_ + j) 0).toNat ^^^ (x.getD j 0).toNat := by rw [Nat.xor_zero]; omega
  have h5 := xor_left_inj h4
  have h6 : x.getD j 0 = x[j] := by rw [List.getD_eq_getElem?_getD, List.getElem?_eq_getElem hj]; rfl
  rw [h6] at h5 h3
  have : x[j] = 0 := by omega
  rw [this] at hne
  exact absurd hne (by decide)
theorem loop1 (b x : List Int) (hb : Bytes b) (hx : Bytes x) (hl : b.length ≤ 200) (hx4 : x.length ≤ 4) (at_ : Nat) (h : at_ + x.length ≤ b.length) (hs : x.any (fun c => c != 0) = true) (d : Nat) :
    ∀ i, i + d = x.length → Ev (fun k => donatuslaw2_CrcBurst.l1 k b (at_ : Int) x (mixed b x at_ i) (i : Int)) true := by
  induction d with
  | zero =>
    intro i hi
    obtain rfl : i = x.length := hi
    refine Ev.step (fun k => by rw [donatuslaw2_CrcBurst.l1]) (ev_neg (by omega) ?_)
    refine Ev.bind (sum_ev b hb (by omega)) (Ev.bind (sum_ev _ (mixed_bytes hb hx at_ _ h) (by rw [mixed_len]; omega)) (ev_now ?_))
    have := differ hb hx at_ hx4 h hs
    exact bne_iff_ne.2 (fun e => this (by omega))
  | succ d ih =>
    intro i hi
    have hw : wrap64 ((at_ : Int) + (i : Int)) = ((at_ + i : Nat) : Int) := by unfold wrap64; omega
    have hw2 : wrap64 ((i : Int) + 1) = ((i + 1 : Nat) : Int) := by unfold wrap64; omega
    have hlen := mixed_len b x at_ i
    have hset : (mixed b x at_ i).set ((at_ + i : Nat) : Int).toNat (Go.bits .xor .u8 (rd (mixed b x at_ i) ((at_ + i : Nat) : Int)) (rd x (i : Int))) = mixed b x at_ (i + 1) := by
      simp only [rd, Int.toNat_natCast]
      rw [mixed_later b x at_ i (at_ + i) (Nat.le_refl _)]
      have h1 := getD_b hb (at_ + i)
      have h2 := getD_b hx i
      rw [u8_xor _ _ h1.1 h1.2 h2.1 h2.2]
      rfl
    refine Ev.step (fun k => by rw [donatuslaw2_CrcBurst.l1]) (ev_pos (by omega) ?_)
    rw [hw, hset, hw2]
    exact ev_pos (by omega) (ev_pos (by omega) (ev_pos (by omega) (ih (i + 1) (by omega))))
theorem join1 (b x : List Int) (hb : Bytes b) (hx : Bytes x) (hl : b.length ≤ 200) (hx4 : x.length ≤ 4) (a : Int) (f : Bool) (h : f = false → 0 ≤ a ∧ a + x.length ≤ b.length ∧ x.any (fun c => c != 0) = true) :
    Ev (fun k => donatuslaw2_CrcBurst.j1 k b a x f) true := by
  refine Ev.step (fun k => by rw [donatuslaw2_CrcBurst.j1]) ?_
  cases f with
  | true => exact ev_pos rfl (Ev.now _)
  | false =>
    obtain ⟨h1, h2, h3⟩ := h rfl
    obtain ⟨at_, rfl⟩ := Int.eq_ofNat_of_zero_le h1
    exact ev_neg (by decide) (ev_pos (by simp; omega) (loop1 b x hb hx hl hx4 at_ (by omega) h3 x.length 0 (by omega)))
theorem loop0 (b x : List Int) (hb : Bytes b) (hx : Bytes x) (hl : b.length ≤ 200) (hx4 : x.length ≤ 4) (a : Int) (d : Nat) : ∀ i, i + d = x.length → Ev (fun k => donatuslaw2_CrcBurst.l0 k b a x (any0 x i) (i : Int)) true := by
  induction d with
  | zero =>
    intro i hi
    refine Ev.step (fun k => by rw [donatuslaw2_CrcBurst.l0]) (ev_neg (by omega) ?_)
    have hw : wrap64 ((b.length : Int) - (x.length : Int)) = (b.length : Int) - (x.length : Int) := by unfold wrap64; omega
    rw [hw]
    by_cases h1 : a < 0
    · exact ev_pos h1 (join1 b x hb hx hl hx4 a true (fun h => by cases h))
    · refine ev_neg h1 ?_
      by_cases h2 : a > (b.length : Int) - (x.length : Int)
      · exact ev_pos h2 (join1 b x hb hx hl hx4 a true (fun h => by cases h))
      · refine ev_neg h2 (join1 b x hb hx hl hx4 a _ (fun h => ⟨by omega, by omega, ?_⟩))
        rw [← any_all x i (by omega)]
        simpa using h
  | succ d ih =>
    intro i hi
    have hw2 : wrap64 ((i : Int) + 1) = ((i + 1 : Nat) : Int) := by unfold wrap64; omega
    have hn := ih (i + 1) (by omega)
    rw [any_step x i (by omega)] at hn
    refine Ev.step (fun k => by rw [donatuslaw2_CrcBurst.l0]) (ev_pos (by omega) ?_)
    rw [hw2]
    cases e : any0 x i with
    | true =>
      rw [e] at hn
      exact ev_pos rfl hn
    | false =>
      rw [e] at hn
      exact ev_neg (by decide) (ev_pos (by omega) hn)
theorem CrcBurst : donatuslaw2_CrcBurst.Pure := by
  intro b a x _ _ hb _ _ _ hx
  have hb := take_bytes3 (bytes_of hb) 200
  have hx := take_bytes3 (bytes_of hx) 4
  have e1 : donatuslaw1_Short.f b 200 = some (b.take 200) := shortB b 200
  have e2 : donatuslaw1_Short.f x 4 = some (x.take 4) := shortB x 4
  have : Ev (fun k => donatuslaw2_CrcBurst.f k b a x) true := by
    unfold donatuslaw2_CrcBurst.f
    rw [e1, e2]
    refine Ev.bind (g := fun _ => donatuslaw2_begun.f) (Ev.now true) (ev_pos rfl ?_)
    exact Ev.bind (Ev.now (b.take 200)) (Ev.bind (Ev.now (x.take 4)) (loop0 _ _ hb hx (by simp; omega) (by simp; omega) a (x.take 4).length 0 (by omega)))
  exact this.rounds

end Go.Proofs.Ytkooodnkgipaeaa.Pure
