/- oset: donatuslaw3.SetFirst answers true. -/
import Derived.Test.YtldgofblflmcbaaSetM
import Derived.Test.YtldgofblflmcbaaSetH
namespace Go.Proofs.Ytldgofblflmcbaa.S
open Go.RowKit Go.Proofs.YtldgofblflmcbaaW.PrintWords Go.Proofs.YtldgofblflmcbaaW.PrintLast Go.Proofs.YtldgofblflmcbaaW.PrintMore
set_option linter.unusedVariables false
set_option linter.unusedSimpArgs false

theorem cP_zero {y x : P44} (h : cP y x = 0) : ∀ a, cP a y = cP a x := by
  intro a
  have h1 : (cI y.key x.key == 0) = (y.key == x.key) := cI_eq _ _
  have e : y.key = x.key := by
    have : (cI y.key x.key == 0) = true := by simpa [cP] using h
    rw [this] at h1
    simpa using h1.symm
  unfold cP
  rw [e]
theorem cP_self (y : P44) : cP y y = 0 := by
  have h1 : (cI y.key y.key == 0) = (y.key == y.key) := cI_eq _ _
  simpa [cP] using h1
/-- The numbers put in so far, each with its place. -/
def prs (ks : List Int) : List P44 := (List.range ks.length).map fun i => ⟨ks.getD i 0, (i : Int)⟩
theorem prs_snoc (ks : List Int) (k : Int) : prs (ks ++ [k]) = prs ks ++ [⟨k, (ks.length : Int)⟩] := by
  unfold prs
  rw [List.length_append, List.length_singleton, List.range_succ, List.map_append]
  congr 1
  · refine List.map_congr_left fun i hi => ?_
    have : i < ks.length := List.mem_range.1 hi
    rw [List.getD_eq_getElem?_getD, List.getD_eq_getElem?_getD, List.getElem?_append_left this]
  · simp [List.getD_eq_getElem?_getD]
/-- Each member is the first of its key. -/
def Firsts (ks : List Int) (xs : List P44) : Prop := ∀ p ∈ xs, ∃ j : Nat, ∃ h : j < ks.length, p = ⟨ks[j], (j : Int)⟩ ∧ ∀ i (hi : i < ks.length), i < j → ks[i] ≠ ks[j]
/-- Every key has a member. -/
def Alls (ks : List Int) (xs : List P44) : Prop := ∀ k ∈ ks, ∃ p ∈ xs, p.key = k
theorem hitP {ks : List Int} {xs : List P44} (hu : Up cP xs) (hf : Firsts ks xs) (ha : Alls ks xs) (k s : Int) : hit cP ⟨k, s⟩ xs = ks.contains k := by
  rw [Bool.eq_iff_iff, List.contains_iff_mem]
  constructor
  · intro hh
    have hlt := hit_lt hh
    unfold hit at hh
    rw [List.getElem?_eq_getElem hlt] at hh
    obtain ⟨j, hj, hp, _⟩ := hf _ (List.getElem_mem hlt)
    rw [hp] at hh
    have h1 : (cI ks[j] k == 0) = (ks[j] == k) := cI_eq _ _
    have : (cI ks[j] k == 0) = true := hh
    rw [this] at h1
    have e : ks[j] = k := by simpa using h1.symm
    rw [← e]
    exact List.getElem_mem hj
  · intro hm
    obtain ⟨p, hp, hk⟩ := ha k hm
    refine Found.hit cP_self hu ⟨p, hp, fun a => ?_⟩
    unfold cP
    rw [hk]
theorem firsts_add {ks : List Int} {xs : List P44} (hu : Up cP xs) (hf : Firsts ks xs) (ha : Alls ks xs) (k : Int) : Firsts (ks ++ [k]) (S.add cP ⟨k, (ks.length : Int)⟩ xs) ∧ Alls (ks ++ [k]) (S.add cP ⟨k, (ks.length : Int)⟩ xs) := by
  have hh := hitP hu hf ha k (ks.length : Int)
  have hf2 : Firsts (ks ++ [k]) xs := fun p hp => by
    obtain ⟨j, hj, he, hn⟩ := hf p hp
    refine ⟨j, by rw [List.length_append]; omega, by rw [List.getElem_append_left hj]; exact he, fun i hi hij => ?_⟩
    rw [List.getElem_append_left (by omega), List.getElem_append_left hj]
    exact hn i (by omega) hij
  have hm : ∀ p ∈ S.add cP ⟨k, (ks.length : Int)⟩ xs, p ∈ xs ∨ (ks.contains k = false ∧ p = ⟨k, (ks.length : Int)⟩) := fun p hp => by
    unfold S.add at hp
    split at hp
    · exact .inl hp
    · rename_i hn
      rw [hh] at hn
      rcases List.mem_append.1 hp with hp | hp
      · rcases List.mem_append.1 hp with hp | hp
        · exact .inl (List.mem_of_mem_take hp)
        · exact .inr ⟨by simpa using hn, by simpa using hp⟩
      · exact .inl (List.mem_of_mem_drop hp)
  refine ⟨fun p hp => ?_, fun q hq => ?_⟩
  · rcases hm p hp with hp | ⟨hn, rfl⟩
    · exact hf2 p hp
    · refine ⟨ks.length, by simp, by simp, fun i hi hij => ?_⟩
      rw [List.getElem_append_left hij]
      intro e
      have h1 : (ks ++ [k])[ks.length]'(by simp) = k := by simp
      rw [h1] at e
      have : ks.contains k = true := by
        rw [List.contains_iff_mem, ← e]
        exact List.getElem_mem hij
      rw [hn] at this
      cases this
  · by_cases hc : ks.contains k = true
    · have hq2 : q ∈ ks := by
        rcases List.mem_append.1 hq with h | h
        · exact h
        · obtain rfl : q = k := by simpa using h
          exact List.contains_iff_mem.1 hc
      obtain ⟨p, hp, he⟩ := ha q hq2
      exact ⟨p, add_mem hp, he⟩
    · rcases List.mem_append.1 hq with h | h
      · obtain ⟨p, hp, he⟩ := ha q h
        exact ⟨p, add_mem hp, he⟩
      · obtain rfl : q = k := by simpa using h
        refine ⟨⟨q, (ks.length : Int)⟩, ?_, rfl⟩
        unfold S.add
        rw [if_neg (by rw [hh]; exact hc)]
        simp
/-- 'k % 9' without a sign. -/
def m9 (x : Int) : Int := (wrap64 (x.tmod 9 + 9)).tmod 9
def F1 (w : World) (g : Nat) (n : Nat) (l0 : List Int) (kq : Nat) (v5 v6 : Value) (w' : World) : Prop :=
  ∃ i : Nat, i + kq = n ∧ v6 = .int .i64 (i : Int) ∧ ∃ F xs, PP.St w' g F xs ∧ (∀ k, F k → w.heap.size ≤ k) ∧ Below w.heap.size w w' ∧ Row (Kd.int .i64) 3 w' w.heap.size v5 ((l0.take i).map m9) ∧ (∀ k, F k → ¬ own v5 k) ∧ Up cP xs ∧ xs.length ≤ i ∧ Firsts ((l0.take i).map m9) xs ∧ Alls ((l0.take i).map m9) xs
set_option maxHeartbeats 8000000 in
set_option maxRecDepth 100000 in
theorem First_calls (w : World) (A0 : Option Addr) (c0 : Nat) (l : List Int) (hr0 : Kd.C (Kd.int .i64) w A0 l.length l) (le0 : l.length ≤ c0) (ok0 : l.length ≤ maxLen ∧ l.length * 8 ≤ 140737488351232 ∧ ∀ x ∈ l, (Lit.int .i64 x).wf = true) :
    Calls Try.prog 4 #[.slice A0 l.length c0] w fun e w' => e = .returned (.bool true) ∧ Below w.heap.size w w' := by
  have hll : l.length ≤ 17592186044416 := by have := ok0.2.1; omega
  have HR0 := Aside0.mk hr0
  have HOK := Aside0.mk ok0.2.2
  clear hr0 ok0
  go_enter Try.func4, Try.ntmps4
  go_wp2_with fail
  go_at_call 8
  refine (begun_calls _).mono ?_
  rintro e w1 ⟨rfl, hb⟩
  have HB := Aside0.mk hb
  clear hb
  go_wp2_with fail
  go_at_call 23
  refine (PP.new_calls _).mono ?_
  rintro e w2 ⟨g, F, rfl, hs, hb, hf⟩
  have HS := Aside0.mk hs
  have HF := Aside0.mk (show ∀ k, F k → w.heap.size ≤ k from fun k hk => Nat.le_trans HB.out.size (hf k hk))
  have HB2 := Aside0.mk (HB.out.trans (hb.mono HB.out.size))
  clear hs hb hf HB
  go_wp2_with fail
  go_loopg [5, 6] (min l.length 40) (fun kq v5 v6 w' => F1 w g (min l.length 40) l kq v5 v6 w')
  case atStart => exact ⟨0, by omega, rfl, F, [], HS.out, HF.out, HB2.out, Row.nil _ _ _ _, fun k hk ho => by simp [own, Value.ownBlock] at ho, List.Pairwise.nil, by simp, (fun p hp => by cases hp), (fun k hk => by cases hk)⟩
  case round =>
    obtain ⟨i, hi, rfl, F', xs, hs, hf, hb, hr, hd, hu, hxl, hfs, has⟩ := hrel
    clear HS HF HB2
    obtain ⟨ks, hks⟩ : ∃ ks, ks = (l.take i).map m9 := ⟨_, rfl⟩
    rw [← hks] at hr hfs has
    have HKS := Aside0.mk hks
    have hksl : ks.length ≤ i := by rw [hks, List.length_map, List.length_take]; omega
    clear hks
    have HI := Aside0.mk hi
    have HS := Aside0.mk hs
    have HF := Aside0.mk hf
    have HB := Aside0.mk hb
    have HD := Aside0.mk hd
    have HU := Aside0.mk hu
    have HFS := Aside0.mk hfs
    have HAS := Aside0.mk has
    have HR := Aside0.mk hr
    obtain ⟨A5, c5, rfl, hc5, hrd⟩ := hr.reads
    clear hi hs hf hb hd hu hfs has hr hrd
    by_cases hlt : i < l.length ∧ i < 40
    · obtain ⟨hlt1, hlt2⟩ := hlt
      have t1 : decide ((i : Int) < (l.length : Int)) = true := by simp; omega
      have t2 : decide ((i : Int) < 40) = true := by simp; omega
      have hi0 : (0 : Int) ≤ (i : Int) := by omega
      obtain ⟨ad, e1, hx⟩ := at_int (Kd.C_below HR0.out HB.out) i hlt1 rfl
      subst e1
      have hkl : ks.length = i := by rw [HKS.out, List.length_map, List.length_take]; omega
      have hks2 : (l.take (i + 1)).map m9 = ks ++ [m9 l[i]] := by rw [List.take_succ_eq_append_getElem hlt1, List.map_append, ← HKS.out]; rfl
      obtain ⟨k, hk⟩ : ∃ k, (wrap64 (l[i].tmod 9 + 9)).tmod 9 = k := ⟨_, rfl⟩
      have hmk : m9 l[i] = k := hk
      rw [hmk] at hks2
      have HKS2 := Aside0.mk hks2
      have hadd := PP.add_calls HS.out HU.out (by omega) ⟨k, (i : Int)⟩
      have hfa := firsts_add HU.out HFS.out HAS.out k
      have hhit := hitP HU.out HFS.out HAS.out k (i : Int)
      have hup2 := HU.out.add cmpP ⟨k, (i : Int)⟩
      have hln := add_len cP ⟨k, (i : Int)⟩ xs
      rw [hkl] at hfa
      rw [hhit] at hadd
      obtain ⟨ys, hys⟩ : ∃ ys, ys = S.add cP ⟨k, (i : Int)⟩ xs := ⟨_, rfl⟩
      rw [← hys] at hadd hfa hup2 hln
      obtain ⟨b, hbq⟩ : ∃ b, ks.contains k = b := ⟨_, rfl⟩
      rw [hbq] at hadd
      have hyl : ys.length ≤ i + 1 := by split at hln <;> omega
      have HA := Aside0.mk hadd
      have HFA := Aside0.mk hfa
      have HUP2 := Aside0.mk hup2
      have HBQ := Aside0.mk hbq
      have HKL := Aside0.mk hkl
      clear hkl hks2 hmk hadd hfa hhit hup2 hln hys hbq
      go_wp2_with fail
      clear hk
      go_at_call 25
      refine HA.out.mono ?_
      rintro e w3 ⟨rfl, F2, hs2, hm2, hf2⟩
      have hsz := HB.out.size
      have hr3 := HR.out.step (w' := w3) (fun q hq hlt2 => hm2.block q hlt2 (fun hq2 => HD.out q hq2 hq))
      have hd3 : ∀ q, F2 q → ¬ own (.slice A5 ks.length c5) q := fun q hq ho => by
        rcases hf2 q hq with h | h
        · exact HD.out q h ho
        · have := (HR.out.lt q ho).2
          omega
      have hf3 : ∀ q, F2 q → w.heap.size ≤ q := fun q hq => by
        rcases hf2 q hq with h | h
        · exact HF.out q h
        · omega
      have hb3 := HB.out.trans (hm2.below hsz HF.out)
      obtain ⟨_, _, e5, _, hrd3⟩ := hr3.reads
      injection e5 with e6 e7 e8
      subst e6; subst e8
      have HC := Aside0.mk (has_calls ks k (by omega) A5 c5 w3 hrd3 hc5)
      have HS3 := Aside0.mk hs2
      have HR3 := Aside0.mk hr3
      have HD3 := Aside0.mk hd3
      have HF3 := Aside0.mk hf3
      have HB3 := Aside0.mk hb3
      clear hs2 hm2 hf2 hr3 hd3 hf3 hb3 hrd3 e7 HS HR HD HF HB HA
      rw [HBQ.out] at HC
      cases b
      all_goals
        go_wp2_with (first
          | (go_at_call 21; (with_reducible refine HC.out.mono ?_); rintro e w4 ⟨rfl, hd⟩; have HDB := Aside0.mk (drawn_below hd); clear hd)
          | (at_builtin; refine Kd.R_append (Kd.int .i64) (w0 := w) w.heap.size rfl (.tmp 41) (.tmp 43) 27 3 (.int .i64 0) 8 rfl Try.underlying27 info_int rfl (by decide) (by omega) (.slice A5 ks.length c5) ks k _ (fun q => own (.slice A5 ks.length c5) q ∨ w4.heap.size ≤ q) (fun _ => False) rfl rfl (show Kd.M (Kd.int .i64) _ _ _ k [.int .i64 k] from rfl) (fun _ h => h.elim) (fun q hq => .inr hq) (Kd.R_mono (HR3.out.below HDB.out) (fun q hq => .inl hq)) (HB3.out.trans (HDB.out.mono HB3.out.size)) (Nat.le_trans HB3.out.size HDB.out.size) (by omega) ?_; intro v5 w5 ho5 hb5 hg5 hn5; have HO5 := Aside0.mk ho5; have HB5 := Aside0.mk hb5; have HG5 := Aside0.mk hg5; have HN5 := Aside0.mk hn5; clear ho5 hb5 hg5 hn5))
      all_goals
        go_roundg (gk - 1)
        case measure => have := HI.out; omega
        case rel =>
          refine ⟨i + 1, by have := HI.out; omega, by go_num, F2, ys, (HS3.out.below HDB.out).step (fun q hq hlt => HG5.out.block q hlt (fun e => HD3.out q hq e)) HG5.out.size, HF3.out, HB5.out, by rw [HKS2.out]; exact Row.of_R flat_int HO5.out, fun q hq ho => ?_, HUP2.out, hyl, by rw [HKS2.out]; exact HFA.out.1, by rw [HKS2.out]; exact HFA.out.2⟩
          have h8 := HS3.out.lt q hq
          have h9 := HDB.out.size
          rcases HN5.out with h | ⟨b2, h, hle⟩
          · exact HD3.out q hq (by unfold own at ho ⊢; rw [← h]; exact ho)
          · unfold own at ho
            rw [h] at ho
            injection ho with ho
            omega
    · have hnt : (i < l.length → ¬ i < 40) := fun h1 h2 => hlt ⟨h1, h2⟩
      clear hlt
      have hi40 : i ≤ 40 := by have := HI.out; omega
      have HL := Aside0.mk (PP.list_calls HS.out (by omega))
      by_cases hil : i < l.length
      all_goals
        first
          | have t1 : decide ((i : Int) < (l.length : Int)) = true := by simp; omega
          | have t1 : decide ((i : Int) < (l.length : Int)) = false := by simp; omega
        try have t2 : decide ((i : Int) < 40) = false := by have := hnt hil; simp; omega
        clear hnt
        go_wp2_with fail
        go_at_call 26
        refine HL.out.mono ?_
        rintro e w4 ⟨v, rfl, hr, hb⟩
        obtain ⟨A, cp, rfl, hcp, hrd⟩ := hr.reads
        have HM := Aside0.mk hrd
        have HR4 := Aside0.mk (HR.out.below hb)
        have HB4 := Aside0.mk (HB.out.trans (hb.mono HB.out.size))
        clear hr hrd hb HL HS HB HR HD HF HU
        obtain ⟨_, _, e5, _, hrd4⟩ := HR4.out.reads
        injection e5 with e6 e7 e8
        subst e6; subst e8
        have HK4 := Aside0.mk hrd4
        clear hrd4 e7
        go_wp2_with fail
        go_loopg [9] xs.length (fun kq v9 w' => T3 w4 xs.length kq v9 w')
        case atStart => exact ⟨0, by omega, rfl, Below.refl _ _⟩
        case round =>
          obtain ⟨a, ha, rfl, hb⟩ := hrel
          obtain ⟨gko, rfl⟩ : ∃ n : Nat, n = gk := ⟨_, rfl⟩
          obtain ⟨wo, rfl⟩ : ∃ wo : World, wo = wr := ⟨_, rfl⟩
          have HA2 := Aside0.mk ha
          have HB5 := Aside0.mk hb
          clear ha hb
          by_cases hal : a < xs.length
          · have t3 : decide ((a : Int) < (xs.length : Int)) = true := by simp; omega
            obtain ⟨j0, hj0, hp, hfst⟩ := HFS.out xs[a] (List.getElem_mem hal)
            obtain ⟨ad2, e2, y0, y1⟩ := at_pair (Kd.C_below HM.out HB5.out) a hal rfl
            subst e2
            rw [hp] at y0 y1
            dsimp only at y0 y1
            have Y0 := Aside0.mk y0
            have Y1 := Aside0.mk y1
            have HFST := Aside0.mk hfst
            clear y0 y1 hfst hp
            have ha0 : (0 : Int) ≤ (a : Int) := by omega
            have ha1 : (a : Int) < (xs.length : Int) := by omega
            go_wp2_with fail
            go_loopg [10] j0 (fun kq v10 w' => T3 wo j0 kq v10 w')
            case atStart => exact ⟨0, by omega, rfl, Below.refl _ _⟩
            case round =>
              obtain ⟨j, hj, rfl, hb⟩ := hrel
              have HJ := Aside0.mk hj
              have HB6 := Aside0.mk hb
              clear hj hb
              by_cases hjl : j ≤ j0
              · have t4 : decide ((j : Int) < (ks.length : Int)) = true := by simp; omega
                have hji : (0 : Int) ≤ (j : Int) := by omega
                have hji1 : (j : Int) < (ks.length : Int) := by omega
                obtain ⟨ad3, e3, z0⟩ := at_int (Kd.C_below HK4.out (HB5.out.trans (HB6.out.mono HB5.out.size))) j (by omega) rfl
                subst e3
                have y0 : wr.cell? (ad2.add (a * 2)) = some (.int .i64 ks[j0]) := (HB6.out.cell (World.block_lt_of_cell? _ _ Y0.out)).trans Y0.out
                have y1 : wr.cell? ⟨(ad2.add (a * 2)).block, (ad2.add (a * 2)).off + 1, none⟩ = some (.int .i64 (j0 : Int)) := (HB6.out.cell (World.block_lt_of_cell? _ _ Y1.out)).trans Y1.out
                by_cases hje : j = j0
                · subst hje
                  have t5 : (ks[j] == ks[j]) = true := beq_self_eq_true _
                  go_wp2_with fail
                  go_quiet (fail)
                  go_wp2_with fail
                  go_roundg (gko - 1)
                  case measure => have := HA2.out; omega
                  case rel => exact ⟨a + 1, by have := HA2.out; omega, by go_num, pw_below_drewN (HB5.out.trans (HB6.out.mono HB5.out.size)) _⟩
                · have t5 : (ks[j] == ks[j0]) = false := beq_eq_false_iff_ne.mpr (HFST.out j (by omega) (by omega))
                  go_wp2_with fail
                  go_quiet (fail)
                  go_wp2_with fail
                  go_roundg (gk - 1)
                  case measure => have := HJ.out; omega
                  case rel => exact ⟨j + 1, by have := HJ.out; omega, by go_num, pw_below_drewN HB6.out _⟩
              · have := HJ.out
                omega
          · have t3 : decide ((a : Int) < (xs.length : Int)) = false := by simp; omega
            go_wp2_with fail
            go_ret
            exact ⟨rfl, HB4.out.trans (HB5.out.mono HB4.out.size)⟩
end Go.Proofs.Ytldgofblflmcbaa.S
