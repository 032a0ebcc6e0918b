/- oset: the order of texts; the methods of a set of texts. -/
import Derived.Test.YtldgofblflmcbaaSetD
namespace Go.Proofs.Ytldgofblflmcbaa.S
open Go.RowKit Go.Proofs.YtldgofblflmcbaaW.PrintWords Go.Proofs.YtldgofblflmcbaaW.PrintLast Go.Proofs.YtldgofblflmcbaaW.PrintMore
set_option linter.unusedVariables false
set_option linter.unusedSimpArgs false
theorem bl_trans : ∀ {a b c : List UInt8}, Op.bytesLess a b = true → Op.bytesLess b c = true → Op.bytesLess a c = true
  | _, _, [], _, h => by simp [Op.bytesLess] at h
  | _, [], _ :: _, h, _ => by simp [Op.bytesLess] at h
  | [], _ :: _, _ :: _, _, _ => rfl
  | x :: a, y :: b, z :: c, h1, h2 => by
    simp only [Op.bytesLess, Bool.or_eq_true, decide_eq_true_eq, Bool.and_eq_true, beq_iff_eq] at *
    rcases h1 with h1 | ⟨rfl, h1⟩
    · rcases h2 with h2 | ⟨rfl, h2⟩
      · exact .inl (UInt8.lt_trans h1 h2)
      · exact .inl h1
    · rcases h2 with h2 | ⟨rfl, h2⟩
      · exact .inl h2
      · exact .inr ⟨rfl, bl_trans h1 h2⟩
theorem bl_asymm : ∀ {a b : List UInt8}, Op.bytesLess a b = true → Op.bytesLess b a = false
  | _, [], h => by simp [Op.bytesLess] at h
  | [], _ :: _, _ => rfl
  | x :: a, y :: b, h => by
    simp only [Op.bytesLess, Bool.or_eq_true, decide_eq_true_eq, Bool.and_eq_true, beq_iff_eq, Bool.or_eq_false_iff, decide_eq_false_iff_not, Bool.and_eq_false_iff] at *
    rcases h with h | ⟨rfl, h⟩
    · exact ⟨UInt8.lt_asymm h, .inl (by simpa using (UInt8.ne_of_lt h).symm)⟩
    · exact ⟨UInt8.lt_irrefl _, .inr (bl_asymm h)⟩
theorem bl_total : ∀ {a b : List UInt8}, Op.bytesLess a b = false → ¬ a = b → Op.bytesLess b a = true
  | [], [], _, h => absurd rfl h
  | _ :: _, [], _, _ => rfl
  | [], _ :: _, h, _ => by simp [Op.bytesLess] at h
  | x :: a, y :: b, h, hn => by
    simp only [Op.bytesLess, Bool.or_eq_true, decide_eq_true_eq, Bool.and_eq_true, beq_iff_eq, Bool.or_eq_false_iff, decide_eq_false_iff_not, Bool.and_eq_false_iff] at *
    by_cases e : x = y
    · subst e
      refine .inr ⟨rfl, bl_total (h.2.resolve_left (by simp)) (fun e => hn (by rw [e]))⟩
    · have := h.1
      refine .inl ?_
      rw [UInt8.lt_iff_toNat_lt] at this ⊢
      have hne : x.toNat ≠ y.toNat := fun e2 => e (UInt8.toNat_inj.1 e2)
      omega
def cS (a b : ByteArray) : Int := if Op.bytesLess a.toList b.toList = true then -1 else if (a.toList == b.toList) = true then 0 else 1
theorem cmpS : Cmp cS := by
  refine ⟨?_, ?_, ?_⟩
  · intro a b d h1 h2
    unfold cS at *
    have e1 : Op.bytesLess a.toList b.toList = true := by
      by_cases h : Op.bytesLess a.toList b.toList = true
      · exact h
      · rw [if_neg h] at h1; split at h1 <;> omega
    have e2 : Op.bytesLess b.toList d.toList = true := by
      by_cases h : Op.bytesLess b.toList d.toList = true
      · exact h
      · rw [if_neg h] at h2; split at h2 <;> omega
    rw [if_pos (bl_trans e1 e2)]
    omega
  · intro a b h1
    unfold cS at *
    by_cases h : Op.bytesLess a.toList b.toList = true
    · rw [if_pos h] at h1; omega
    · rw [if_neg h] at h1
      by_cases h2 : (a.toList == b.toList) = true
      · rw [if_pos h2] at h1; omega
      · rw [if_pos (bl_total (by simpa using h) (by simpa using h2))]; omega
  · intro a b h1
    unfold cS at *
    by_cases h : Op.bytesLess a.toList b.toList = true
    · rw [if_neg (by rw [bl_asymm h]; decide), if_neg ?_]
      · omega
      · intro e
        have e' : b.toList = a.toList := by simpa using e
        have := bl_asymm h
        rw [e'] at this h
        rw [h] at this
        cases this
    · rw [if_neg h] at h1; split at h1 <;> omega
theorem cmpS_calls (a b : ByteArray) (w : World) : Calls Try.prog 28 #[.string a, .string b] w fun e w' => e = .returned (.int .i64 (cS a b)) ∧ w' = w := by
  unfold cS
  obtain ⟨p, hp⟩ : ∃ p, Op.bytesLess a.toList b.toList = p := ⟨_, rfl⟩
  obtain ⟨q, hq⟩ : ∃ q, (a.toList == b.toList) = q := ⟨_, rfl⟩
  rw [hp, hq]
  cases p <;> cases q
  all_goals
    go_enter Try.func28, Try.ntmps28
    go_wp2
    go_ret
    exact ⟨rfl, rfl⟩
theorem at_str {w : World} {A : Option Addr} {n : Nat} {xs : List ByteArray} (h : Kd.C Kd.string w A n xs) (i : Nat) (hi : i < xs.length) (hn : n = xs.length) : ∃ ad, A = some ad ∧ w.cell? (ad.add i) = some (.string xs[i]) := by
  obtain ⟨ad, cs, e, _, hK, hc⟩ := Kd.C_get h ⟨#[]⟩ (i : Int) (by omega) (by omega)
  obtain rfl : cs = [.string (xs.getD (i : Int).toNat ⟨#[]⟩)] := hK
  have := hc 0 _ rfl
  simp only [Kd.string, Kd.scalar, Int.toNat_natCast, Nat.mul_one, Nat.add_zero] at this
  rw [List.getD_eq_getElem?_getD, List.getElem?_eq_getElem hi] at this
  exact ⟨ad, e, this⟩
namespace SS
/-- The order. -/
abbrev Fn : Value := .func (.func 28) #[] #[]
/-- Such a set. -/
abbrev St (w : World) (g : Nat) (F : Nat → Prop) (xs : List ByteArray) : Prop := SF Kd.string 9 69 (.func (.func 28) #[] #[]) w g F xs
abbrev Aft (w : World) (g : Nat) (F : Nat → Prop) (xs : List ByteArray) (r : Value) (en : Ending) (w' : World) : Prop := After Kd.string 9 69 (.func (.func 28) #[] #[]) w g F xs r en w'

set_option maxHeartbeats 1000000 in
theorem search_calls (x : ByteArray) (l : List ByteArray) (hf : Fits cS x l) (A : Option Addr) (cp : Nat) (w : World) (hl : l.length ≤ 1000000) (hr : Kd.C Kd.string w A l.length l) (hcp : l.length ≤ cp) :
    Calls Try.prog 52 #[.slice A l.length cp, .string x, .func (.func 28) #[] #[]] w fun e w' => e = .returned (.tuple #[.int .i64 (lo cS x l : Int), .bool (hit cS x l)]) ∧ w' = w := by
  have HR := Aside0.mk hr
  clear hr
  go_enter Try.func52, Try.ntmps52
  go_wp2_with fail
  go_loopg [9, 10] l.length (fun kq v9 v10 w' => SrchRel cS x l w kq v9 v10 w')
  case atStart => exact ⟨0, l.length, by omega, rfl, rfl, Srch.start cS x l, rfl⟩
  case round =>
    obtain ⟨i, j, hk, rfl, rfl, hs, rfl⟩ := hrel
    have HK := Aside0.mk hk
    have HS := Aside0.mk hs
    have h1 := hs.le
    have h2 := hs.top
    clear hk hs
    by_cases hij : i < j
    · have t1 : decide ((i : Int) < (j : Int)) = true := by simp; omega
      obtain ⟨h, hh, hh1, hh2⟩ : ∃ h : Nat, ((i : Int) + (j : Int)) / 2 = (h : Int) ∧ i ≤ h ∧ h < j := ⟨(i + j) / 2, by omega, by omega, by omega⟩
      obtain ⟨ad, e1, hx⟩ := at_str HR.out h (by omega) rfl
      subst e1
      have HX := Aside0.mk hx
      by_cases hy : cS l[h] x < 0
      · have t2 : decide (cS l[h] x < 0) = true := decide_eq_true hy
        have H2 := Aside0.mk (HS.out.up hf hh2 (by omega) hy)
        clear hy
        go_wp2_with (go_at_call 28; (with_reducible refine (cmpS_calls _ _ _).mono ?_); rintro e w' ⟨rfl, rfl⟩)
        go_roundg (gk - 1)
        case measure => have := HK.out; omega
        case rel => exact ⟨h + 1, j, by have := HK.out; omega, by go_num, rfl, H2.out, rfl⟩
      · have t2 : decide (cS l[h] x < 0) = false := decide_eq_false hy
        have H2 := Aside0.mk (HS.out.down hf hh1 hh2 (by omega) hy)
        clear hy
        go_wp2_with (go_at_call 28; (with_reducible refine (cmpS_calls _ _ _).mono ?_); rintro e w' ⟨rfl, rfl⟩)
        go_roundg (gk - 1)
        case measure => have := HK.out; omega
        case rel => exact ⟨i, h, by have := HK.out; omega, rfl, by go_num, H2.out, rfl⟩
    · obtain rfl : i = j := by omega
      have HL := Aside0.mk HS.out.done
      have t1 : decide ((i : Int) < (i : Int)) = false := by simp
      by_cases hil : i < l.length
      · have t2 : decide ((i : Int) < (l.length : Int)) = true := by simp; omega
        obtain ⟨ad, e1, hx⟩ := at_str HR.out i (by omega) rfl
        subst e1
        go_wp2_with (go_at_call 28; (with_reducible refine (cmpS_calls _ _ _).mono ?_); rintro e w' ⟨rfl, rfl⟩)
        go_ret2
        refine ⟨?_, rfl⟩
        have hh : hit cS x l = (cS l[i] x == 0) := by unfold hit; rw [HL.out, List.getElem?_eq_getElem hil]
        rw [HL.out, hh]
        rfl
      · have t2 : decide ((i : Int) < (l.length : Int)) = false := by simp; omega
        go_wp2_with (go_at_call 28; (with_reducible refine (cmpS_calls _ _ _).mono ?_); rintro e w' ⟨rfl, rfl⟩)
        go_ret2
        refine ⟨?_, rfl⟩
        have hh : hit cS x l = false := by unfold hit; rw [HL.out, List.getElem?_eq_none (by omega)]
        rw [HL.out, hh]
        rfl

theorem new_calls (w : World) : Calls Try.prog 27 #[.func (.func 28) #[] #[]] w fun e w' => ∃ g F, e = .returned (.pointer (some ⟨g, 0, none⟩)) ∧ St w' g F [] ∧ Below w.heap.size w w' ∧ ∀ k, F k → w.heap.size ≤ k := by
  have hnf : ∀ w, Sem.run Try.prog (binOp BinOp.eql 53 (.func (.func 28) #[] #[]) .nilFunc) w = .ok (.bool false) w := fun _ => by kernel_rfl
  go_enter Try.func27, Try.ntmps27
  go_wp2_with fail
  go_ret
  refine ⟨w.heap.size, fun k => k = w.heap.size, rfl, ⟨⟨.slice none 0 0, heap_alloc_new w _, Row.nil _ _ _ _, fun k hk => by simp [own, Value.ownBlock] at hk⟩, rfl, fun k hk => by rw [World.size_alloc]; omega⟩, (Below.refl _ _).alloc (Nat.le_refl _) _, fun k hk => by omega⟩
theorem off_calls (g : Nat) (v : Value) (w : World) (h0 : w.cell? ⟨g, 0, none⟩ = some (.func (.func 28) #[] #[])) : Calls Try.prog 43 #[.pointer (some ⟨g, 0, none⟩)] w fun e w' => e = .returned (.bool false) ∧ w' = w := by
  have hnf : ∀ w, Sem.run Try.prog (binOp BinOp.eql 53 (.func (.func 28) #[] #[]) .nilFunc) w = .ok (.bool false) w := fun _ => by kernel_rfl
  go_enter Try.func43, Try.ntmps43
  go_wp2_with fail
  go_ret
  exact ⟨rfl, rfl⟩

set_option maxHeartbeats 1000000 in
theorem find_calls {w : World} {g : Nat} {F : Nat → Prop} {xs : List ByteArray} (h : St w g F xs) (hu : Up cS xs) (hn : xs.length ≤ 1000000) (x : ByteArray) :
    Calls Try.prog 42 #[.pointer (some ⟨g, 0, none⟩), .string x] w fun e w' => e = .returned (.tuple #[.int .i64 (lo cS x xs : Int), .bool (hit cS x xs)]) ∧ Drawn0 w w' := by
  obtain ⟨v, hc, hr, hF, c0, c1, fz⟩ := h.cells
  obtain ⟨A, cp, rfl, hcp, hrd⟩ := hr.reads
  have HS := fun n => Aside0.mk (search_calls x xs (hu.fits cmpS x) A cp (w.drewN n) hn (Kd.C_below hrd (pw_below_drewN (Below.refl _ _) n)) hcp)
  have HO := Aside0.mk (off_calls g (.slice none 0 0) w c0)
  clear h hu hc hr hF hrd fz
  go_enter Try.func42, Try.ntmps42
  go_wp2_with (go_at_call 43; (with_reducible refine HO.out.mono ?_); rintro e w' ⟨rfl, rfl⟩)
  go_quiet ((go_at_call 52; exact Calls.quiet_of_same (HS _).out))
  go_wp2_with fail
  go_ret2
  exact ⟨rfl, ⟨_, rfl⟩⟩

theorem Drawn0.sf {w w' : World} {g : Nat} {F : Nat → Prop} {xs : List ByteArray} (h : St w g F xs) (hd : Drawn0 w w') : St w' g F xs := by
  obtain ⟨n, rfl⟩ := hd
  exact h.drewN n
theorem drawn_same {w w' : World} (S : Nat → Prop) (hd : Drawn0 w w') : Same S w w' := by
  obtain ⟨n, rfl⟩ := hd
  exact Same.of_below (pw_below_drewN (Below.refl _ _) n)
set_option maxHeartbeats 1000000 in
theorem add_calls {w : World} {g : Nat} {F : Nat → Prop} {xs : List ByteArray} (h : St w g F xs) (hu : Up cS xs) (hn : xs.length ≤ 1000000) (x : ByteArray) :
    Calls Try.prog 29 #[.pointer (some ⟨g, 0, none⟩), .string x] w (Aft w g F (S.add cS x xs) (.bool (!hit cS x xs))) := by
  obtain ⟨b, hb⟩ : ∃ b, hit cS x xs = b := ⟨_, rfl⟩
  have HF := Aside0.mk (find_calls h hu hn x)
  have hll := lo_le cS x xs
  cases b with
  | true =>
    rw [hb] at HF
    have e : S.add cS x xs = xs := by unfold S.add; rw [if_pos hb]
    rw [e, hb]
    clear e hb
    go_enter Try.func29, Try.ntmps29
    go_wp2_with (go_at_call 42; (with_reducible refine HF.out.mono ?_); rintro e w1 ⟨rfl, hd⟩; have HD := Aside0.mk hd; clear hd)
    go_ret
    exact ⟨rfl, F, Drawn0.sf h HD.out, drawn_same _ HD.out, fun k hk => .inl hk⟩
  | false =>
    rw [hb] at HF
    have e : S.add cS x xs = xs.take (lo cS x xs) ++ [x] ++ xs.drop (lo cS x xs) := by unfold S.add; rw [if_neg (by rw [hb]; decide)]
    obtain ⟨i, hi⟩ : ∃ i, i = lo cS x xs := ⟨_, rfl⟩
    rw [← hi] at HF hll
    obtain ⟨ys, hys⟩ : ∃ ys, ys = xs.take i ++ [x] ++ xs.drop i := ⟨_, rfl⟩
    rw [e, hb, ← hi, ← hys]
    have HI : Aside0 (∀ (W : World) (v : Value), Row Kd.string 9 W 0 v xs → Calls Try.prog 44 #[v, .int .i64 (i : Int), .slice (some ⟨W.heap.size, 0, none⟩) 1 1] (W.alloc (.cells #[.string x] 9)) (RowPost Kd.string 9 W 0 v ys)) :=
      ⟨fun W v hr => by rw [hys]; exact insert_str W 0 v xs x i hll hr (Nat.zero_le _) hn⟩
    clear e hb hi hys
    have HH := Aside0.mk h
    clear h hu
    go_enter Try.func29, Try.ntmps29
    go_wp2_with fail
    go_at_call 42
    refine HF.out.mono ?_
    rintro e w1 ⟨rfl, hd⟩
    have h1 := Drawn0.sf HH.out hd
    have HS1 := Aside0.mk (drawn_same F hd)
    have H1 := Aside0.mk h1
    obtain ⟨v, hc, hr, hF, c0, c1, fz⟩ := h1.cells
    obtain ⟨A, cp, rfl, hcp, hrd⟩ := hr.reads
    have HC := Aside0.mk hc
    have HR := Aside0.mk hr
    have HFF := Aside0.mk hF
    clear hc hr hF hrd HF HH h1 hd
    go_wp2_with (go_at_call 43; (with_reducible refine (off_calls g (.slice none 0 0) _ c0).mono ?_); rintro e w2 ⟨rfl, hw⟩; obtain rfl := hw.symm)
    go_at_call 44
    refine (HI.out w1 _ HR.out).mono ?_
    rintro e w3 ⟨v1, rfl, hr1, hg1, hat1⟩
    obtain ⟨F', hs1, hs2, hs3⟩ := H1.out.store (by decide) HC.out HR.out HFF.out hr1 hg1 hat1
    obtain ⟨A1, cp1, rfl, hcp1, _⟩ := hr1.reads
    have hgl := H1.out.lt g H1.out.at_
    have hgo : some g ≠ (Value.slice A xs.length cp).ownBlock := fun e2 => by
      obtain ⟨cs, hcs⟩ := HR.out.typed g e2
      rw [HC.out] at hcs
      injection hcs with hcs
      injection hcs with _ hcs
      exact absurd hcs (by decide)
    have fz3 : w3.frozen? ⟨g, 1, none⟩ = false := (World.frozen?_of_block (a := ⟨g, 1, none⟩) (hg1.block g hgl hgo)).trans fz
    have c13 : w3.cell? ⟨g, 1, none⟩ = some (.slice A xs.length cp) := (World.cell?_of_block (a := ⟨g, 1, none⟩) (hg1.block g hgl hgo)).trans c1
    have HS2 := Aside0.mk hs1
    have HS3 := Aside0.mk hs2
    have HS4 := Aside0.mk hs3
    clear hs1 hs2 hs3 hr1 hg1 hat1 hgo c0 c1 fz hgl
    go_wp2_with fail
    go_ret
    exact ⟨rfl, F', HS2.out, HS1.out.trans HS3.out (fun k hk => .inl hk), fun k hk => (HS4.out k hk).imp id (fun h => Nat.le_trans HS1.out.size h)⟩

set_option maxHeartbeats 1000000 in
theorem has_calls {w : World} {g : Nat} {F : Nat → Prop} {xs : List ByteArray} (h : St w g F xs) (hu : Up cS xs) (hn : xs.length ≤ 1000000) (x : ByteArray) :
    Calls Try.prog 31 #[.pointer (some ⟨g, 0, none⟩), .string x] w fun e w' => e = .returned (.bool (hit cS x xs)) ∧ Drawn0 w w' := by
  have HF := Aside0.mk (find_calls h hu hn x)
  clear h hu
  go_enter Try.func31, Try.ntmps31
  go_wp2_with (go_at_call 42; (with_reducible refine HF.out.mono ?_); rintro e w1 ⟨rfl, hd⟩; have HD := Aside0.mk hd; clear hd)
  go_ret
  exact ⟨rfl, HD.out⟩

theorem len_calls {w : World} {g : Nat} {F : Nat → Prop} {xs : List ByteArray} (h : St w g F xs) :
    Calls Try.prog 32 #[.pointer (some ⟨g, 0, none⟩)] w fun e w' => e = .returned (.int .i64 (xs.length : Int)) ∧ w' = w := by
  obtain ⟨v, hc, hr, hF, c0, c1, fz⟩ := h.cells
  obtain ⟨A, cp, rfl, hcp, hrd⟩ := hr.reads
  clear h hc hr hF hrd fz
  go_enter Try.func32, Try.ntmps32
  go_wp2_with fail
  go_ret
  exact ⟨rfl, rfl⟩

set_option maxHeartbeats 1000000 in
theorem list_calls {w : World} {g : Nat} {F : Nat → Prop} {xs : List ByteArray} (h : St w g F xs) (hn : xs.length ≤ 1000000) :
    Calls Try.prog 30 #[.pointer (some ⟨g, 0, none⟩)] w fun e w' => ∃ v : Value, e = .returned v ∧ Row Kd.string 9 w' w.heap.size v xs ∧ Below w.heap.size w w' := by
  obtain ⟨v, hc, hr, hF, c0, c1, fz⟩ := h.cells
  obtain ⟨A, cp, rfl, hcp, hrd⟩ := hr.reads
  have HC := Aside0.mk (clone_str xs A cp w hn hrd hcp)
  clear h hc hr hF hrd fz
  go_enter Try.func30, Try.ntmps30
  go_wp2_with (go_at_call 45; (with_reducible refine HC.out.mono ?_); rintro e w1 ⟨v1, rfl, hr, hb⟩; have HR := Aside0.mk hr; have HB := Aside0.mk hb; clear hr hb)
  go_ret
  exact ⟨_, rfl, HR.out, HB.out⟩

end SS
end Go.Proofs.Ytldgofblflmcbaa.S
