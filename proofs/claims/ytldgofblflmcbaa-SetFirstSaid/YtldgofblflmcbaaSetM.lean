/- oset: donatuslaw3.SetTexts answers true. -/
import Derived.Test.YtldgofblflmcbaaSetL
import Derived.Test.YtldgofblflmcbaaSetG
namespace Go.Proofs.Ytldgofblflmcbaa.S
open Go.RowKit Go.Proofs.YtldgofblflmcbaaW.PrintWords Go.Proofs.YtldgofblflmcbaaW.PrintLast Go.Proofs.YtldgofblflmcbaaW.PrintMore
set_option linter.unusedVariables false
set_option linter.unusedSimpArgs false
section
variable {α : Type} {c : α → α → Int}
theorem add_mem {x y : α} {l : List α} (h : y ∈ l) : y ∈ add c x l := by
  unfold add
  split
  · exact h
  · rw [← List.take_append_drop (lo c x l) l] at h
    rcases List.mem_append.1 h with h | h
    · simp [h]
    · simp [h]
def Found (c : α → α → Int) (x : α) (l : List α) : Prop := ∃ y ∈ l, ∀ a, c a y = c a x
theorem Found.add {x : α} {l : List α} (h : Found c x l) (z : α) : Found c x (S.add c z l) := by
  obtain ⟨y, hy, he⟩ := h
  exact ⟨y, add_mem hy, he⟩
theorem found_add (he : ∀ {y x : α}, c y x = 0 → ∀ a, c a y = c a x) (x : α) (l : List α) : Found c x (S.add c x l) := by
  by_cases hh : hit c x l = true
  · have hlt := hit_lt hh
    have hy := hh
    unfold hit at hy
    rw [List.getElem?_eq_getElem hlt] at hy
    exact ⟨l[lo c x l], add_mem (List.getElem_mem hlt), he (by simpa using hy)⟩
  · refine ⟨x, ?_, fun _ => rfl⟩
    unfold S.add
    rw [if_neg hh]
    simp
theorem Found.hit (h0 : ∀ y : α, c y y = 0) {x : α} {l : List α} (hu : Up c l) (h : Found c x l) : hit c x l = true := by
  obtain ⟨y, hy, he⟩ := h
  obtain ⟨k, hk, rfl⟩ := List.getElem_of_mem hy
  have e : lo c x l = k := by
    refine lo_of (by omega) (fun j hj hjk => ?_) (fun _ => ?_)
    · rw [← he]
      exact List.pairwise_iff_getElem.1 hu j k hj hk hjk
    · rw [← he, h0]
      omega
  unfold S.hit
  rw [e, List.getElem?_eq_getElem hk]
  simp only
  rw [← he, h0]
  rfl
/-- Some put in, one behind the other. -/
def addsG (c : α → α → Int) (xs ys : List α) : List α := ys.foldl (fun l y => S.add c y l) xs
theorem addsG_snoc (xs ys : List α) (y : α) : addsG c xs (ys ++ [y]) = S.add c y (addsG c xs ys) := by
  unfold addsG
  rw [List.foldl_append]
  rfl
theorem addsG_up (hc : Cmp c) {xs : List α} (h : Up c xs) (ys : List α) : Up c (addsG c xs ys) := by
  induction ys generalizing xs with
  | nil => exact h
  | cons y ys ih => exact ih (h.add hc y)
theorem addsG_len (xs ys : List α) : (addsG c xs ys).length ≤ xs.length + ys.length := by
  induction ys generalizing xs with
  | nil => exact Nat.le_refl _
  | cons y ys ih =>
    have h1 := ih (xs := S.add c y xs)
    have h2 := add_len c y xs
    have e : addsG c xs (y :: ys) = addsG c (S.add c y xs) ys := rfl
    rw [e, List.length_cons]
    split at h2 <;> omega
theorem addsG_keep {xs : List α} {x : α} (h : Found c x xs) (ys : List α) : Found c x (addsG c xs ys) := by
  induction ys generalizing xs with
  | nil => exact h
  | cons y ys ih => exact ih (h.add y)
theorem addsG_found (he : ∀ {y x : α}, c y x = 0 → ∀ a, c a y = c a x) {xs ys : List α} {x : α} (h : x ∈ ys) : Found c x (addsG c xs ys) := by
  induction ys generalizing xs with
  | nil => cases h
  | cons y ys ih =>
    rcases List.mem_cons.1 h with rfl | h
    · exact addsG_keep (found_add he x xs) ys
    · exact ih h
end
theorem cS_zero {y x : ByteArray} (h : cS y x = 0) : ∀ a, cS a y = cS a x := by
  unfold cS at h
  by_cases h1 : Op.bytesLess y.toList x.toList = true
  · rw [if_pos h1] at h; cases h
  · rw [if_neg h1] at h
    by_cases h2 : (y.toList == x.toList) = true
    · intro a
      have e : y.toList = x.toList := by simpa using h2
      unfold cS
      rw [e]
    · rw [if_neg h2] at h; cases h
theorem bl_irrefl (l : List UInt8) : Op.bytesLess l l = false := by
  cases h : Op.bytesLess l l with
  | false => rfl
  | true => exact h.symm.trans (bl_asymm h)
theorem cS_self (y : ByteArray) : cS y y = 0 := by
  unfold cS
  rw [bl_irrefl]
  simp
theorem cS_less {a b : ByteArray} (h : cS a b < 0) : Op.bytesLess a.toList b.toList = true := by
  unfold cS at h
  by_cases h1 : Op.bytesLess a.toList b.toList = true
  · exact h1
  · rw [if_neg h1] at h; split at h <;> omega
def T1 (w : World) (g : Nat) (l : List ByteArray) (n : Nat) (kq : Nat) (v5 : Value) (w' : World) : Prop :=
  ∃ i : Nat, i + kq = n ∧ v5 = .int .i64 (i : Int) ∧ ∃ F, SS.St w' g F (addsG cS [] (l.take i)) ∧ (∀ k, F k → w.heap.size ≤ k) ∧ Below w.heap.size w w'
def T2 (w : World) (n : Nat) (kq : Nat) (v7 : Value) (w' : World) : Prop :=
  ∃ i : Nat, i + kq = n ∧ v7 = .int .i64 ((i : Int) + 1) ∧ Below w.heap.size w w'
def T3 (w : World) (n : Nat) (kq : Nat) (v8 : Value) (w' : World) : Prop :=
  ∃ i : Nat, i + kq = n ∧ v8 = .int .i64 (i : Int) ∧ Below w.heap.size w w'
set_option maxHeartbeats 8000000 in
set_option maxRecDepth 100000 in
theorem Texts_calls (w : World) (A0 : Option Addr) (c0 : Nat) (l : List ByteArray) (hr0 : Kd.C Kd.string w A0 l.length l) (le0 : l.length ≤ c0) {P : ByteArray → Prop} (ok0 : l.length ≤ maxLen ∧ l.length * 16 ≤ 140737488351232 ∧ ∀ x ∈ l, P x) :
    Calls Try.prog 5 #[.slice A0 l.length c0] w fun e w' => e = .returned (.bool true) ∧ Below w.heap.size w w' := by
  have hll : l.length ≤ 17592186044416 := by have := ok0.2.1; omega
  clear ok0
  have HR0 := Aside0.mk hr0
  clear hr0
  go_enter Try.func5, Try.ntmps5
  go_wp2_with fail
  go_at_call 8
  refine (begun_calls _).mono ?_
  rintro e w1 ⟨rfl, hb⟩
  have HB := Aside0.mk hb
  clear hb
  go_wp2_with fail
  go_at_call 27
  refine (SS.new_calls _).mono ?_
  rintro e w2 ⟨g, F, rfl, hs, hb, hf⟩
  have HS := Aside0.mk hs
  have HF := Aside0.mk (show ∀ k, F k → w.heap.size ≤ k from fun k hk => Nat.le_trans HB.out.size (hf k hk))
  have HB2 := Aside0.mk (HB.out.trans (hb.mono HB.out.size))
  clear hs hb hf HB
  go_wp2_with fail
  go_loopg [5] (min l.length 40) (fun kq v5 w' => T1 w g l (min l.length 40) kq v5 w')
  case atStart => exact ⟨0, by omega, rfl, F, HS.out, HF.out, HB2.out⟩
  case round =>
    obtain ⟨i, hi, rfl, F', hs, hf, hb⟩ := hrel
    clear HS HF HB2
    have HI := Aside0.mk hi
    have HS := Aside0.mk hs
    have HF := Aside0.mk hf
    have HB := Aside0.mk hb
    clear hi hs hf hb
    have hal := addsG_len (c := cS) [] (l.take i)
    have htl : (l.take i).length ≤ i := by rw [List.length_take]; omega
    simp only [List.length_nil, Nat.zero_add] at hal
    by_cases hlt : i < l.length ∧ i < 40
    · obtain ⟨hlt1, hlt2⟩ := hlt
      have t1 : decide ((i : Int) < (l.length : Int)) = true := by simp; omega
      have t2 : decide ((i : Int) < 40) = true := by simp; omega
      have hi0 : (0 : Int) ≤ (i : Int) := by omega
      obtain ⟨ad, e1, hx⟩ := at_str (Kd.C_below HR0.out HB.out) i hlt1 rfl
      subst e1
      have HA := Aside0.mk (SS.add_calls HS.out (addsG_up cmpS List.Pairwise.nil _) (by omega) l[i])
      have hsn : addsG cS [] (l.take (i + 1)) = S.add cS l[i] (addsG cS [] (l.take i)) := by
        rw [List.take_succ_eq_append_getElem hlt1, addsG_snoc]
      have HSN := Aside0.mk hsn
      clear hsn hal htl
      go_wp2_with (go_at_call 29; (with_reducible refine HA.out.mono ?_); rintro e w3 ⟨rfl, F2, hs2, hm2, hf2⟩; have HS2 := Aside0.mk hs2; have HM2 := Aside0.mk hm2; have HF2 := Aside0.mk hf2; clear hs2 hm2 hf2)
      go_roundg (gk - 1)
      case measure => have := HI.out; omega
      case rel =>
        have hsz := HB.out.size
        refine ⟨i + 1, by have := HI.out; omega, by go_num, F2, by rw [HSN.out]; exact HS2.out, fun k hk => ?_, HB.out.trans (HM2.out.below hsz HF.out)⟩
        rcases HF2.out k hk with hk | hk
        · exact HF.out k hk
        · omega
    · have hi2 : i = min l.length 40 := by have := HI.out; omega
      obtain ⟨xs, hxs⟩ : ∃ xs, xs = addsG cS [] (l.take i) := ⟨_, rfl⟩
      have hup : Up cS xs := by rw [hxs]; exact addsG_up cmpS List.Pairwise.nil _
      have hxl : xs.length ≤ 40 := by rw [hxs]; omega
      have hfd : ∀ k (hk : k < l.length), k < i → hit cS l[k] xs = true := fun k hk hki => by
        refine Found.hit cS_self hup ?_
        rw [hxs]
        refine addsG_found cS_zero ?_
        rw [List.mem_take_iff_getElem]
        exact ⟨k, by omega, rfl⟩
      rw [← hxs] at HS
      have HUP := Aside0.mk hup
      have HFD := Aside0.mk hfd
      have HI2 := Aside0.mk hi2
      clear hup hfd hxs hal htl HI
      have hnt : (i < l.length → ¬ i < 40) := fun h1 h2 => hlt ⟨h1, h2⟩
      clear hlt
      have HL := Aside0.mk (SS.list_calls HS.out (by omega))
      by_cases hil : i < l.length
      all_goals
        first
          | have t1 : decide ((i : Int) < (l.length : Int)) = true := by simp; omega
          | have t1 : decide ((i : Int) < (l.length : Int)) = false := by simp; omega
        try have t2 : decide ((i : Int) < 40) = false := by have := hnt hil; simp; omega
        clear hnt hi2
        go_wp2_with fail
        go_at_call 30
        refine HL.out.mono ?_
        rintro e w4 ⟨v, rfl, hr, hb⟩
        obtain ⟨A, cp, rfl, hcp, hrd⟩ := hr.reads
        have HM := Aside0.mk hrd
        have HS4 := Aside0.mk (HS.out.below hb)
        have HB4 := Aside0.mk (HB.out.trans (hb.mono HB.out.size))
        clear hr hrd hb HL HS HB
        go_wp2_with fail
        go_loopg [7] xs.length (fun kq v7 w' => T2 w4 xs.length kq v7 w')
        case atStart => exact ⟨0, by omega, rfl, Below.refl _ _⟩
        case round =>
          obtain ⟨j, hj, rfl, hb⟩ := hrel
          have HJ := Aside0.mk hj
          have HB5 := Aside0.mk hb
          clear hj hb
          by_cases hjl : j + 1 < xs.length
          · have t3 : decide ((j : Int) + 1 < (xs.length : Int)) = true := by simp; omega
            have hj0 : (0 : Int) ≤ (j : Int) := by omega
            have hj1 : (j : Int) < (xs.length : Int) := by omega
            have hj2 : (0 : Int) ≤ (j : Int) + 1 := by omega
            have hj3 : (j : Int) + 1 < (xs.length : Int) := by omega
            have hj4 : ((j : Int) + 1).toNat = j + 1 := by omega
            obtain ⟨ad, e1, hx⟩ := at_str (Kd.C_below HM.out HB5.out) j (by omega) rfl
            obtain ⟨ad2, e2, hy⟩ := at_str (Kd.C_below HM.out HB5.out) (j + 1) hjl rfl
            subst e1
            obtain rfl : ad = ad2 := by injection e2
            clear e2
            have hy2 := hy
            rw [show ad.add (j + 1) = ⟨ad.block, ad.off + (j + 1), none⟩ from (by unfold Addr.add; rw [if_neg (by omega)])] at hy2
            have hls : Op.bytesLess xs[j].toList xs[j + 1].toList = true := cS_less (List.pairwise_iff_getElem.1 HUP.out j (j + 1) (by omega) hjl (by omega))
            have hw : IntKind.i64.wrap (j : Int) = (j : Int) := by rw [IntKind.wrap_i64]; omega
            have hw0 : (j : Int) + 1 - 1 = (j : Int) := by omega
            generalize xs[j] = a1 at *
            generalize xs[j + 1] = a2 at *
            go_wp2_with fail
            go_quiet (fail)
            go_wp2_with fail
            go_roundg (gk - 1)
            case measure => have := HJ.out; omega
            case rel => exact ⟨j + 1, by have := HJ.out; omega, by go_num, pw_below_drewN HB5.out _⟩
          · have t3 : decide ((j : Int) + 1 < (xs.length : Int)) = false := by simp; omega
            have HS6 := Aside0.mk (HS4.out.below HB5.out)
            have HB6 := Aside0.mk (HB4.out.trans (HB5.out.mono HB4.out.size))
            clear HJ HS4 HB4 HM HB5 hjl
            obtain ⟨w5, hw5⟩ : ∃ w5, w5 = wr := ⟨_, rfl⟩
            rw [← hw5] at HS6 HB6 ⊢
            clear hw5
            go_wp2_with fail
            go_loopg [8] i (fun kq v8 w' => T3 w5 i kq v8 w')
            case atStart => exact ⟨0, by omega, rfl, Below.refl _ _⟩
            case round =>
              obtain ⟨k, hk, rfl, hb⟩ := hrel
              have HK := Aside0.mk hk
              have HB7 := Aside0.mk hb
              have HI3 := HI2.out
              clear hk hb
              by_cases hki : k < i
              · have t4 : decide ((k : Int) < (l.length : Int)) = true := by simp; omega
                have t5 : decide ((k : Int) < 40) = true := by simp; omega
                have hk0 : (0 : Int) ≤ (k : Int) := by omega
                have hkl : k < l.length := by omega
                clear HI3
                obtain ⟨ad, e1, hx⟩ := at_str (Kd.C_below HR0.out (HB6.out.trans (HB7.out.mono HB6.out.size))) k hkl rfl
                subst e1
                have HA := Aside0.mk (SS.has_calls (HS6.out.below HB7.out) HUP.out (by omega) l[k])
                have hh := HFD.out k hkl hki
                rw [hh] at HA
                clear hh
                go_wp2_with (go_at_call 31; (with_reducible refine HA.out.mono ?_); rintro e w6 ⟨rfl, hd⟩; have HD := Aside0.mk (drawn_below hd); clear hd)
                go_roundg (gk - 1)
                case measure => have := HK.out; omega
                case rel => exact ⟨k + 1, by have := HK.out; omega, by go_num, HB7.out.trans (HD.out.mono HB7.out.size)⟩
              · obtain rfl : k = i := by have := HK.out; omega
                clear HK hki
                have HLN := Aside0.mk (SS.len_calls (HS6.out.below HB7.out))
                have hout := HB6.out.trans (HB7.out.mono HB6.out.size)
                have HO := Aside0.mk hout
                clear hout
                by_cases hkl : k < l.length
                all_goals
                  first
                    | have t4 : decide ((k : Int) < (l.length : Int)) = true := by simp; omega
                    | have t4 : decide ((k : Int) < (l.length : Int)) = false := by simp; omega
                  try have t5 : decide ((k : Int) < 40) = false := by simp; omega
                  clear HI3
                  go_wp2_with (go_at_call 32; (with_reducible refine HLN.out.mono ?_); rintro e w6 ⟨rfl, hw⟩; obtain rfl := hw.symm)
                  go_ret
                  exact ⟨by simp, HO.out⟩
end Go.Proofs.Ytldgofblflmcbaa.S
