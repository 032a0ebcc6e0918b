/- may: gram: gram.tokens (turned by mkmay.py out of wip/gram). -/
import Derived.Test.YtjhemobplcelbaaGreatDoorMayF
namespace Go.Proofs.YtjhemobplcelbaaGreatDoor.M
open Go.RowKit Go.Proofs.YtjhemobplcelbaaGreatDoorW.PrintWords Go.Proofs.YtjhemobplcelbaaGreatDoorW.PrintLast Go.Proofs.YtjhemobplcelbaaGreatDoorW.PrintMore
open Go.Proofs.YtjhemobplcelbaaGreatDoor.O (STk SRu kTk kRu zTk zRu kTk_open kRu_open kTk_openM kTk_mkM kTk_mk kRu_mk)
attribute [local go_sem] max2_int max_two
set_option linter.unusedVariables false
set_option linter.unusedSimpArgs false
def newB (l : List STk) (i : Nat) (t : STk) : Bool := tokB t && !(l.take i).any (likeB t)
def newsB (l : List STk) : Bool := (List.range l.length).all fun i => match l[i]? with | some t => newB l i t | none => true
def levelsB (l : List STk) : Bool := (List.range (mostB l).toNat).all fun k => !(keepB ((k : Int) + 1) l).isEmpty
def tokensB (l : List STk) : Bool := newsB l && levelsB l && decide (l.length ≤ 40)
theorem newsB_iff {l : List STk} : newsB l = true ↔ ∀ i (h : i < l.length), newB l i l[i] = true := by
  unfold newsB
  rw [List.all_eq_true]
  constructor
  · intro h i hi
    have := h i (List.mem_range.2 hi)
    rw [List.getElem?_eq_getElem hi] at this
    exact this
  · intro h i hi
    have hi := List.mem_range.1 hi
    rw [List.getElem?_eq_getElem hi]
    exact h i hi
theorem tokB_le {t : STk} (h : tokB t = true) : 0 ≤ t.f1 ∧ t.f1 ≤ 8 := by
  unfold tokB at h
  rw [Bool.and_eq_true] at h
  obtain ⟨_, h⟩ := h
  split at h
  · omega
  · simp only [Bool.and_eq_true, decide_eq_true_eq] at h
    omega
def GRel (l : List STk) (w : World) (X : Nat) (a b c d : Value) (kq : Nat) (v3 v10 : Value) (w' : World) : Prop :=
  ∃ i : Nat, i + kq = l.length ∧ v10 = .int .i64 (i : Int) ∧ v3 = .int .i64 (mostB (l.take i)) ∧ Below w.heap.size w w' ∧ Box4 w' X a b c d ∧ ∀ j (h : j < i) (h2 : j < l.length), newB l j l[j] = true
set_option maxHeartbeats 8000000 in
set_option maxRecDepth 100000 in
theorem tokens_calls (w : World) (A : Option Addr) (c : Nat) (l : List STk) (st : ByteArray) (ex : Int) (A2 : Option Addr) (n2 c2 : Nat) (hr : Kd.C kTk w A l.length l) (hcl : l.length ≤ c) (hl : l.length ≤ 100000) :
    Calls Tryz.prog 80 #[.agg #[.slice A l.length c, .string st, .int .i64 ex, .slice A2 n2 c2]] w fun e w' => e = .returned (.bool (tokensB l)) ∧ Below w.heap.size w w' := by
  have HX := Aside0.mk (Box4.new w (.slice A l.length c) (.string st) (.int .i64 ex) (.slice A2 n2 c2) 25)
  have HB := Aside0.mk (below_alloc (Below.refl w.heap.size w) (.cells #[.slice A l.length c, .string st, .int .i64 ex, .slice A2 n2 c2] 25))
  have HR := Aside0.mk hr
  clear hr
  obtain ⟨X, hX⟩ : ∃ X, X = w.heap.size := ⟨_, rfl⟩
  rw [← hX] at HX
  have HXE := Aside0.mk hX
  go_enter Tryz.func80, Tryz.ntmps80
  have x0 := HX.out.c0
  rw [hX] at x0
  clear hX
  go_wp2_with fail
  clear x0
  rw [← HXE.out]
  go_loopg [3, 10] l.length (fun kq v3 v10 w' => GRel l w X (.slice A l.length c) (.string st) (.int .i64 ex) (.slice A2 n2 c2) kq v3 v10 w')
  case atStart => exact ⟨0, by omega, rfl, rfl, HB.out, HX.out, fun j h => absurd h (Nat.not_lt_zero j)⟩
  case round =>
    obtain ⟨i, hi, rfl, rfl, hb, hx, hn⟩ := hrel
    have HI := Aside0.mk hi
    have HB1 := Aside0.mk hb
    have HX1 := Aside0.mk hx
    have HN := Aside0.mk hn
    clear hi hb hx hn HB HX
    by_cases hil : i < l.length
    · have t1 : decide ((i : Int) < (l.length : Int)) = true := by simp; omega
      obtain ⟨ad, e1, x0, x1, x2⟩ := at_tok (Kd.C_below HR.out HB1.out) i hil rfl
      subst e1
      have HV := Aside0.mk (TBox.new wr l[i])
      have HBV := Aside0.mk (below_alloc (Below.refl wr.heap.size wr) (.cells #[.string l[i].f0, .int .i64 l[i].f1, .int .i64 l[i].f2] 71))
      have HNB := Aside0.mk (show newB l i l[i] = (tokB l[i] && !(l.take i).any (likeB l[i])) from rfl)
      obtain ⟨b1, hb1⟩ : ∃ b, tokB l[i] = b := ⟨_, rfl⟩
      obtain ⟨b2, hb2⟩ : ∃ b, (l.take i).any (likeB l[i]) = b := ⟨_, rfl⟩
      have ht := token_calls l[i]
      rw [hb1] at ht
      have HT := Aside0.mk ht
      have HE1 := Aside0.mk hb1
      have HE2 := Aside0.mk hb2
      clear ht hb1 hb2
      go_wp2_with fail
      go_at_call 97
      refine (HT.out _).mono ?_
      rintro e w2 ⟨rfl, hd⟩
      have HV2 := Aside0.mk (HV.out.move hd)
      have hbb := HBV.out.trans (hd.mono HBV.out.size)
      have HX2 := Aside0.mk (HX1.out.move hbb HX1.out.lt)
      have HB2 := Aside0.mk (HB1.out.trans (hbb.mono HB1.out.size))
      clear hd hbb HV HBV HX1 HB1 x0 x1 x2
      cases b1 with
      | false =>
        have HF : Aside0 (tokensB l = false) := ⟨by
          unfold tokensB
          rw [show newsB l = false from by
            rw [← Bool.not_eq_true, newsB_iff]
            intro h
            have := h i hil
            rw [HNB.out, HE1.out] at this
            cases this]
          rfl⟩
        go_wp2_with fail
        go_ret
        exact ⟨by rw [HF.out]; rfl, HB2.out⟩
      | true =>
        have y0 := HX2.out.c0
        have hcc := contains_like w2 (some ad) c (l.take i) wr.heap.size l[i] (Kd.C_take (Kd.C_below HR.out HB2.out) (by omega)) (by rw [List.length_take]; omega) HV2.out
        rw [List.length_take, Nat.min_eq_left (by omega), HE2.out] at hcc
        have HCC := Aside0.mk hcc
        clear hcc
        go_wp2_with fail
        go_at_call 98
        refine HCC.out.mono ?_
        rintro e w3 ⟨rfl, hd⟩
        have HV3 := Aside0.mk (HV2.out.move hd)
        have HX3 := Aside0.mk (HX2.out.move hd HX2.out.lt)
        have HB3 := Aside0.mk (HB2.out.trans (hd.mono HB2.out.size))
        clear hd HV2 HX2 HB2 y0 HCC HT
        cases b2 with
        | true =>
          have HF : Aside0 (tokensB l = false) := ⟨by
            unfold tokensB
            rw [show newsB l = false from by
              rw [← Bool.not_eq_true, newsB_iff]
              intro h
              have := h i hil
              rw [HNB.out, HE1.out, HE2.out] at this
              cases this]
            rfl⟩
          go_wp2_with fail
          go_ret
          exact ⟨by rw [HF.out]; rfl, HB3.out⟩
        | false =>
          have v1 := HV3.out.c1
          have HMS := Aside0.mk (mostB_snoc hil)
          go_wp2_with fail
          all_goals
            (go_roundg (gk - 1)
             case measure => have := HI.out; omega
             case rel =>
               refine ⟨i + 1, by have := HI.out; omega, by go_num, ?_, HB3.out, HX3.out, fun j h h2 => ?_⟩
               · rw [HMS.out]; congr 1; omega
               · by_cases hj : j < i
                 · exact HN.out j hj h2
                 · obtain rfl : j = i := by omega
                   rw [HNB.out, HE1.out, HE2.out]; rfl)
    · have hi2 : i = l.length := by have := HI.out; omega
      subst hi2
      have t1 : decide ((l.length : Int) < (l.length : Int)) = false := by simp
      have hnews : newsB l = true := newsB_iff.2 fun j hj => HN.out j hj hj
      have hle8 : ∀ t ∈ l, t.f1 ≤ 8 := by
        intro t ht
        obtain ⟨j, hj, rfl⟩ := List.getElem_of_mem ht
        have := HN.out j hj hj
        unfold newB at this
        rw [Bool.and_eq_true] at this
        exact (tokB_le this.1).2
      have hmb := mostB_le l hle8
      have HNW := Aside0.mk hnews
      obtain ⟨m, hm⟩ : ∃ m : Nat, mostB l = (m : Int) := ⟨(mostB l).toNat, by omega⟩
      rw [List.take_length, hm]
      have hm8 : m ≤ 8 := by omega
      have HM := Aside0.mk hm
      clear hnews hle8 hmb hm HN
      go_wp2_with fail
      go_loopg [6] m (fun kq v6 w' => ∃ j : Nat, j + kq = m ∧ v6 = .int .i64 ((j : Int) + 1) ∧ Below w.heap.size w w' ∧ Box4 w' X (.slice A l.length c) (.string st) (.int .i64 ex) (.slice A2 n2 c2) ∧ ∀ k : Nat, k < j → (keepB ((k : Int) + 1) l).isEmpty = false)
      case atStart => exact ⟨0, by omega, rfl, HB1.out, HX1.out, fun k h => absurd h (Nat.not_lt_zero k)⟩
      case round =>
        obtain ⟨j, hj, rfl, hb, hx, hn⟩ := hrel
        have HJ := Aside0.mk hj
        have HB2 := Aside0.mk hb
        have HX2 := Aside0.mk hx
        have HN := Aside0.mk hn
        have x0 := hx.c0
        have x1 := hx.c1
        have x2 := hx.c2
        have x3 := hx.c3
        clear hj hb hx hn HB1 HX1
        by_cases hjm : j < m
        · have t2 : decide ((j : Int) + 1 ≤ (m : Int)) = true := by simp; omega
          go_wp2_with fail
          go_at_call 100
          refine (level_calls _ A c l st ex ((j : Int) + 1) A2 n2 c2 (Kd.C_below HR.out HB2.out) hcl hl).mono ?_
          rintro e w3 ⟨A3, c3, rfl, hc3, hC3, hd⟩
          have HX3 := Aside0.mk (HX2.out.move hd HX2.out.lt)
          have HB3 := Aside0.mk (HB2.out.trans (hd.mono HB2.out.size))
          clear hd HX2 HB2 x0 x1 x2 x3 hC3 hc3
          obtain ⟨kl, hkl⟩ : ∃ kl, keepB ((j : Int) + 1) l = kl := ⟨_, rfl⟩
          rw [hkl]
          have HKL := Aside0.mk hkl
          clear hkl
          cases kl with
          | nil =>
            have HF : Aside0 (tokensB l = false) := ⟨by
              unfold tokensB
              rw [show levelsB l = false from by
                unfold levelsB
                rw [← Bool.not_eq_true, List.all_eq_true]
                intro h
                have := h j (List.mem_range.2 (by rw [HM.out]; omega))
                rw [HKL.out] at this
                cases this]
              simp⟩
            go_wp2_with fail
            go_ret
            exact ⟨by rw [HF.out]; rfl, HB3.out⟩
          | cons u r =>
            have t3 : (((u :: r).length : Int) == 0) = false := by simp; omega
            go_wp2_with fail
            go_roundg (gk - 1)
            case measure => have := HJ.out; omega
            case rel =>
              refine ⟨j + 1, by have := HJ.out; omega, by go_num, HB3.out, HX3.out, fun k h => ?_⟩
              by_cases hk : k < j
              · exact HN.out k hk
              · obtain rfl : k = j := by omega
                rw [HKL.out]; rfl
        · have hjm2 : j = m := by have := HJ.out; omega
          subst hjm2
          have t2 : decide ((j : Int) + 1 ≤ (j : Int)) = false := by simp; omega
          have HL : Aside0 (tokensB l = decide (l.length ≤ 40)) := ⟨by
            unfold tokensB
            rw [HNW.out, show levelsB l = true from by
              unfold levelsB
              rw [List.all_eq_true]
              intro k hk
              have hk := List.mem_range.1 hk
              rw [HM.out, Int.toNat_natCast] at hk
              rw [HN.out k hk]; rfl]
            rfl⟩
          go_wp2_with fail
          go_ret
          exact ⟨by rw [HL.out]; simp; omega, HB2.out⟩
end Go.Proofs.YtjhemobplcelbaaGreatDoor.M
