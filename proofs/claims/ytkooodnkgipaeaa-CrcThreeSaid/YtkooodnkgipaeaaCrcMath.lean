/- The sum of layer 2 as plain arithmetic of natural numbers: a step is linear and loses nothing; sums of pieces, of three texts, of a burst. No program in sight. -/
namespace Go.Proofs.Ytkooodnkgipaeaa.CrcMath

def poly : Nat := 3988292384
def ones : Nat := 4294967295
def st (x : Nat) : Nat := if x % 2 = 1 then (x / 2) ^^^ poly else x / 2
def stn : Nat → Nat → Nat
  | 0, x => x
  | n + 1, x => stn n (st x)
def run (x : Nat) : List Int → Nat
  | [] => x
  | c :: l => run (stn 8 (x ^^^ c.toNat)) l
def Bytes (l : List Int) : Prop := ∀ x ∈ l, 0 ≤ x ∧ x < 256

theorem xor_self_cancel (a b : Nat) : a ^^^ (a ^^^ b) = b := by rw [← Nat.xor_assoc, Nat.xor_self, Nat.zero_xor]
theorem xor_zero_eq {a b : Nat} (h : a ^^^ b = 0) : a = b := by
  have := xor_self_cancel a b
  rw [h, Nat.xor_zero] at this
  exact this
theorem xor_left_inj {a b c : Nat} (h : a ^^^ b = a ^^^ c) : b = c := by
  have := xor_self_cancel a b
  rw [h, xor_self_cancel] at this
  exact this.symm
theorem xor_right_inj {a b c : Nat} (h : b ^^^ a = c ^^^ a) : b = c := by
  rw [Nat.xor_comm b, Nat.xor_comm c] at h
  exact xor_left_inj h

theorem mod2 (a b : Nat) : (a ^^^ b) % 2 = (a + b) % 2 := by
  have := Nat.testBit_xor a b 0
  simp only [Nat.testBit_zero] at this
  rcases Nat.mod_two_eq_zero_or_one a with h1 | h1 <;> rcases Nat.mod_two_eq_zero_or_one b with h2 | h2 <;>
    rcases Nat.mod_two_eq_zero_or_one (a ^^^ b) with h3 | h3 <;> simp [h1, h2, h3] at this <;> omega
theorem div2 (a b : Nat) : (a ^^^ b) / 2 = (a / 2) ^^^ (b / 2) := by
  apply Nat.eq_of_testBit_eq
  intro i
  rw [Nat.testBit_xor]
  simp only [← Nat.testBit_add_one, Nat.testBit_xor]
theorem st_xor (a b : Nat) : st (a ^^^ b) = st a ^^^ st b := by
  unfold st
  rw [mod2, div2]
  rcases Nat.mod_two_eq_zero_or_one a with h1 | h1 <;> rcases Nat.mod_two_eq_zero_or_one b with h2 | h2
  · rw [if_neg (by omega), if_neg (by omega), if_neg (by omega)]
  · rw [if_pos (by omega), if_neg (by omega), if_pos (by omega), Nat.xor_assoc]
  · rw [if_pos (by omega), if_pos (by omega), if_neg (by omega), Nat.xor_assoc, Nat.xor_assoc, Nat.xor_comm poly]
  · rw [if_neg (by omega), if_pos (by omega), if_pos (by omega), Nat.xor_assoc, ← Nat.xor_assoc poly, Nat.xor_comm poly (b / 2), Nat.xor_assoc (b / 2), Nat.xor_self, Nat.xor_zero]
theorem stn_xor (n : Nat) : ∀ a b, stn n (a ^^^ b) = stn n a ^^^ stn n b := by
  induction n with
  | zero => intro a b; rfl
  | succ n ih => intro a b; show stn n (st (a ^^^ b)) = _; rw [st_xor, ih]; rfl
theorem st_lt {x : Nat} (h : x < 4294967296) : st x < 4294967296 := by
  unfold st
  split
  · exact Nat.xor_lt_two_pow (n := 32) (by omega) (by decide)
  · omega
theorem stn_lt (n : Nat) : ∀ {x : Nat}, x < 4294967296 → stn n x < 4294967296 := by
  induction n with
  | zero => intro x h; exact h
  | succ n ih => intro x h; exact ih (st_lt h)
theorem st_zero {d : Nat} (hd : d < 4294967296) (h : st d = 0) : d = 0 := by
  unfold st at h
  split at h
  · have := xor_zero_eq h
    unfold poly at this
    omega
  · omega
theorem stn_zero (n : Nat) : ∀ {d : Nat}, d < 4294967296 → stn n d = 0 → d = 0 := by
  induction n with
  | zero => intro d _ h; exact h
  | succ n ih => intro d hd h; exact st_zero hd (ih (st_lt hd) h)
theorem xor_lt {a b : Nat} (ha : a < 4294967296) (hb : b < 4294967296) : a ^^^ b < 4294967296 := Nat.xor_lt_two_pow (n := 32) ha hb
theorem stn_inj (n : Nat) {a b : Nat} (ha : a < 4294967296) (hb : b < 4294967296) (h : stn n a = stn n b) : a = b := by
  have h2 : stn n (a ^^^ b) = 0 := by rw [stn_xor, h, Nat.xor_self]
  exact xor_zero_eq (stn_zero n (xor_lt ha hb) h2)
theorem run_lt : ∀ (l : List Int) {x : Nat}, x < 4294967296 → Bytes l → run x l < 4294967296 := by
  intro l
  induction l with
  | nil => intro x h _; exact h
  | cons c l ih =>
    intro x h hb
    have hc := hb c (by simp)
    exact ih (stn_lt 8 (xor_lt h (by omega))) (fun y hy => hb y (by simp [hy]))
theorem run_append (l m : List Int) : ∀ x, run x (l ++ m) = run (run x l) m := by
  induction l with
  | nil => intro x; rfl
  | cons c l ih => intro x; exact ih _
/-- Of texts behind one beginning. -/
theorem run_inj : ∀ (l : List Int) {x y : Nat}, x < 4294967296 → y < 4294967296 → Bytes l → run x l = run y l → x = y := by
  intro l
  induction l with
  | nil => intro x y _ _ _ h; exact h
  | cons c l ih =>
    intro x y hx hy hb h
    have hc := hb c (by simp)
    have := ih (stn_lt 8 (xor_lt hx (by omega))) (stn_lt 8 (xor_lt hy (by omega))) (fun y hy => hb y (by simp [hy])) h
    exact xor_right_inj (stn_inj 8 (xor_lt hx (by omega)) (xor_lt hy (by omega)) this)

/-! Three texts. -/
theorem toNat_xor {a b : Nat} : ((a ^^^ b : Nat) : Int).toNat = a ^^^ b := Int.toNat_natCast _
def xor3 (a b c : Int) : Int := ((a.toNat ^^^ b.toNat ^^^ c.toNat : Nat) : Int)
theorem swap3 (x y z a b c : Nat) : (x ^^^ y ^^^ z) ^^^ (a ^^^ b ^^^ c) = (x ^^^ a) ^^^ (y ^^^ b) ^^^ (z ^^^ c) := by
  apply Nat.eq_of_testBit_eq
  intro i
  simp only [Nat.testBit_xor]
  cases x.testBit i <;> cases y.testBit i <;> cases z.testBit i <;> cases a.testBit i <;> cases b.testBit i <;> cases c.testBit i <;> rfl
theorem run_three : ∀ (a b c d : List Int) (x y z : Nat), b.length = a.length → c.length = a.length → d.length = a.length →
    (∀ i, i < a.length → d.getD i 0 = xor3 (a.getD i 0) (b.getD i 0) (c.getD i 0)) → run (x ^^^ y ^^^ z) d = run x a ^^^ run y b ^^^ run z c := by
  intro a
  induction a with
  | nil =>
    intro b c d x y z hb hc hd _
    rw [List.length_eq_zero_iff.1 hb, List.length_eq_zero_iff.1 hc, List.length_eq_zero_iff.1 hd]
    rfl
  | cons a l ih =>
    intro b c d x y z hb hc hd h
    match b, c, d, hb, hc, hd, h with
    | b :: m, c :: n, d :: o, hb, hc, hd, h =>
      have h0 := h 0 (by simp)
      simp only [List.getD_cons_zero] at h0
      subst h0
      show run (stn 8 ((x ^^^ y ^^^ z) ^^^ (xor3 a b c).toNat)) o = _
      unfold xor3
      rw [Int.toNat_natCast, swap3, stn_xor, stn_xor]
      refine ih m n o _ _ _ (by simpa using hb) (by simpa using hc) (by simpa using hd) (fun i hi => ?_)
      have := h (i + 1) (by simpa using hi)
      simpa only [List.getD_cons_succ] using this

/-! A burst: up to four bytes as one number. -/
def num : List Int → Nat
  | [] => 0
  | c :: l => c.toNat + 256 * num l
theorem num_lt : ∀ (l : List Int), Bytes l → num l < 256 ^ l.length := by
  intro l
  induction l with
  | nil => intro _; decide
  | cons c l ih =>
    intro hb
    have hc := hb c (by simp)
    have := ih (fun y hy => hb y (by simp [hy]))
    simp only [num, List.length_cons, Nat.pow_succ]
    omega
theorem num_inj : ∀ (l m : List Int), l.length = m.length → Bytes l → Bytes m → num l = num m → l = m := by
  intro l
  induction l with
  | nil => intro m h _ _ _; exact (List.length_eq_zero_iff.1 h.symm).symm
  | cons c l ih =>
    intro m h hl hm hn
    match m, h, hm, hn with
    | d :: m, h, hm, hn =>
      have hc := hl c (by simp)
      have hd := hm d (by simp)
      simp only [num] at hn
      have h1 : c = d := by omega
      have h2 : num l = num m := by omega
      rw [h1, ih m (by simpa using h) (fun y hy => hl y (by simp [hy])) (fun y hy => hm y (by simp [hy])) h2]
theorem stn_shift (n : Nat) : ∀ y, stn n (2 ^ n * y) = y := by
  induction n with
  | zero => intro y; simp [stn]
  | succ n ih =>
    intro y
    show stn n (st (2 ^ (n + 1) * y)) = y
    have h : 2 ^ (n + 1) * y = 2 * (2 ^ n * y) := by rw [Nat.pow_succ, Nat.mul_comm (2 ^ n) 2, Nat.mul_assoc]
    have : st (2 ^ (n + 1) * y) = 2 ^ n * y := by
      rw [h]
      unfold st
      rw [if_neg (by omega)]
      omega
    rw [this, ih]
theorem add_xor (c y : Nat) (hc : c < 256) : c + 256 * y = c ^^^ (2 ^ 8 * y) := by
  have h : 2 ^ 8 * y + c = 2 ^ 8 * y ||| c := by rw [Nat.two_pow_add_eq_or_of_lt hc]
  rw [Nat.add_comm, show 256 * y = 2 ^ 8 * y from rfl, h, Nat.xor_comm]
  apply Nat.eq_of_testBit_eq
  intro i
  rw [Nat.testBit_or, Nat.testBit_xor, Nat.testBit_two_pow_mul]
  by_cases hi : 8 ≤ i
  · have : c.testBit i = false := Nat.testBit_lt_two_pow (Nat.lt_of_lt_of_le hc (Nat.pow_le_pow_right (by decide) hi : 2 ^ 8 ≤ 2 ^ i))
    rw [this]
    simp
  · simp [hi]
theorem stn_add (a b : Nat) : ∀ x, stn (a + b) x = stn b (stn a x) := by
  induction a with
  | zero => intro x; simp [stn]
  | succ a ih => intro x; rw [Nat.succ_add]; exact ih _
theorem run_num : ∀ (l : List Int) (x : Nat), Bytes l → run x l = stn (8 * l.length) (x ^^^ num l) := by
  intro l
  induction l with
  | nil =>
    intro x _
    show x = x ^^^ 0
    rw [Nat.xor_zero]
  | cons c l ih =>
    intro x hb
    have hc := hb c (by simp)
    have e1 : run x (c :: l) = stn (8 * l.length) (stn 8 (x ^^^ c.toNat) ^^^ num l) := ih _ (fun y hy => hb y (by simp [hy]))
    have e2 : num (c :: l) = c.toNat ^^^ (2 ^ 8 * num l) := add_xor _ _ (by omega)
    have e3 : 8 * (c :: l).length = 8 + 8 * l.length := by simp only [List.length_cons]; omega
    have e4 : stn 8 (x ^^^ (c.toNat ^^^ (2 ^ 8 * num l))) = stn 8 (x ^^^ c.toNat) ^^^ num l := by
      have := stn_xor 8 (x ^^^ c.toNat) (2 ^ 8 * num l)
      rw [stn_shift, Nat.xor_assoc] at this
      exact this
    rw [e1, e2, e3, stn_add 8 (8 * l.length), e4]
theorem pow4 {n : Nat} (h : n ≤ 4) : 256 ^ n ≤ 4294967296 := by
  have : n = 0 ∨ n = 1 ∨ n = 2 ∨ n = 3 ∨ n = 4 := by omega
  rcases this with rfl | rfl | rfl | rfl | rfl <;> decide
theorem run_burst {l m : List Int} (h : l.length = m.length) (h4 : l.length ≤ 4) (hl : Bytes l) (hm : Bytes m) {x : Nat} (hx : x < 4294967296) (he : run x l = run x m) : l = m := by
  have k1 : num l < 4294967296 := Nat.lt_of_lt_of_le (num_lt l hl) (pow4 h4)
  have k2 : num m < 4294967296 := Nat.lt_of_lt_of_le (num_lt m hm) (pow4 (h ▸ h4))
  have he2 : stn (8 * l.length) (x ^^^ num l) = stn (8 * l.length) (x ^^^ num m) := by
    rw [← run_num l x hl, he, run_num m x hm, h]
  exact num_inj l m h hl hm (xor_left_inj (stn_inj (8 * l.length) (xor_lt hx k1) (xor_lt hx k2) he2))
end Go.Proofs.Ytkooodnkgipaeaa.CrcMath
