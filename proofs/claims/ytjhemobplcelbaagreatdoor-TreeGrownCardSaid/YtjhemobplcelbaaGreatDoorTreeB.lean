/- tree: how great a tree is. -/
import Derived.Test.YtjhemobplcelbaaGreatDoorTreeA
namespace Go.Proofs.YtjhemobplcelbaaGreatDoor.T
open Go.RowKit Go.Proofs.YtjhemobplcelbaaGreatDoorW.PrintWords Go.Proofs.YtjhemobplcelbaaGreatDoorW.PrintLast Go.Proofs.YtjhemobplcelbaaGreatDoorW.PrintMore
set_option linter.unusedVariables false
set_option linter.unusedSimpArgs false
/-- What size answers of one tree. -/
def SizeC (B : World) (r k : Int) (kids : F) : Prop := ∀ (X : Nat), IsF B [X] (.cons r k kids .nil) → ∀ (w : World) (N D deep n d : Nat), Below B.heap.size B w → Cell1 w N 3 (.int .i64 (n : Int)) → Cell1 w D 3 (.int .i64 (d : Int)) → N ≠ D → B.heap.size ≤ N → B.heap.size ≤ D → n ≤ 10000 → d ≤ 5000 → deep ≤ 5001 →
  Calls Tryz.prog 51 #[.pointer (some ⟨X, 0, none⟩), .int .i64 (deep : Int), .pointer (some ⟨N, 0, none⟩), .pointer (some ⟨D, 0, none⟩)] w fun e w' => e = .returned (.bool (F.size (.cons r k kids .nil) deep n d).1) ∧ Cell1 w' N 3 (.int .i64 ((F.size (.cons r k kids .nil) deep n d).2.1 : Int)) ∧ Cell1 w' D 3 (.int .i64 ((F.size (.cons r k kids .nil) deep n d).2.2 : Int)) ∧ Below B.heap.size B w'
def SRel (B : World) (N D deep : Nat) (kids : F) (len n0 d0 : Nat) (kq : Nat) (v : Value) (w' : World) : Prop := ∃ i n d : Nat, i + kq = len ∧ v = .int .i64 (i : Int) ∧ Below B.heap.size B w' ∧ Cell1 w' N 3 (.int .i64 (n : Int)) ∧ Cell1 w' D 3 (.int .i64 (d : Int)) ∧ n ≤ 10000 ∧ d ≤ 5000 ∧ kids.size deep n0 d0 = (kids.drop i).size deep n d
theorem size_one (r k : Int) (ks rest : F) (deep n d : Nat) : (F.cons r k ks rest).size deep n d = if ((F.cons r k ks .nil).size deep n d).1 = true then rest.size deep ((F.cons r k ks .nil).size deep n d).2.1 ((F.cons r k ks .nil).size deep n d).2.2 else (F.cons r k ks .nil).size deep n d := by
  simp only [F.size]
  by_cases hb : 10000 < n + 1 ∨ 5000 < deep
  · simp [hb]
  · rw [if_neg hb]
    by_cases hk : (ks.size (deep + 1) (n + 1) (max d deep)).1 = true
    · simp [hk, hb]
    · simp [hk, hb]
set_option maxRecDepth 100000 in
set_option maxHeartbeats 4000000 in
theorem size_node (B : World) (r k : Int) (kids : F) (ih : AllF (SizeC B) kids) : SizeC B r k kids := by
  intro X hX w N D deep n d hb hN hD hne h1 h2 h3 h4 h5
  obtain ⟨⟨A, c, qs, hx, hq, hqc, hk⟩, _⟩ := hX
  have HIH := Aside0.mk ih
  have HK := Aside0.mk hk
  have HQ := Aside0.mk (And.intro hq hqc)
  have HNX := Aside0.mk (Node3.mk (W := B) hx)
  have HX := Aside0.mk (HNX.out.move hb HNX.out.lt)
  obtain ⟨m, hm⟩ : ∃ m, m = n + 1 := ⟨_, rfl⟩
  obtain ⟨dp, hdp⟩ : ∃ dp, dp = deep + 1 := ⟨_, rfl⟩
  have hN1 := hN.set (.int .i64 (m : Int))
  have hD1 := hD.far (fun e => hne e.symm) 0 (.int .i64 (m : Int))
  have hb1 : Below B.heap.size B (w.setCell ⟨N, 0, none⟩ (.int .i64 (m : Int))) := hb.setCell (p := ⟨N, 0, none⟩) h1 _
  have hw1 : IntKind.i64.wrap ((n : Int) + 1) = (m : Int) := by rw [IntKind.wrap_i64]; omega
  have hw2 : IntKind.i64.wrap ((deep : Int) + 1) = (dp : Int) := by rw [IntKind.wrap_i64]; omega
  have y0 := hN.c
  have y1 := hN.fz 0
  have HB := Aside0.mk (And.intro hN1 (And.intro hD1 hb1))
  have HNE := Aside0.mk (And.intro hne (And.intro h1 h2))
  have HLE := Aside0.mk (And.intro h3 (And.intro h4 h5))
  have HM := Aside0.mk (And.intro hm hdp)
  clear hm hdp ih hk hq hqc hx hN hD hb hN1 hD1 hb1 hne h1 h2 h3 h4 h5
  go_enter Tryz.func51, Tryz.ntmps51
  go_upto_region 2 with fail
  generalize hW : w.setCell ⟨N, 0, none⟩ (.int .i64 (m : Int)) = W at *
  have HX1 := Aside0.mk (HNX.out.move HB.out.2.2 HNX.out.lt)
  clear hW y0 y1 hw1 HX
  have y0 := HB.out.1.c
  have y1 := HB.out.2.1.c
  have y2 := HB.out.2.1.fz 0
  have x2 := HX1.out.c2
  by_cases hlim : 10000 < n + 1 ∨ 5000 < deep
  · have HR : Aside0 ((F.cons r k kids .nil).size deep n d = (false, n + 1, d)) := ⟨by simp only [F.size]; rw [if_pos hlim]⟩
    by_cases h1 : 10000 < n + 1
    · have t1 : decide ((m : Int) > 10000) = true := by (have := HM.out; simp; omega)
      clear hlim
      go_wp2_with fail
      go_ret
      rw [HR.out]
      exact ⟨rfl, by rw [HM.out.1] at HB; exact HB.out⟩
    · have t1 : decide ((m : Int) > 10000) = false := by (have := HM.out; simp; omega)
      have t2 : decide ((deep : Int) > 5000) = true := by (have := HM.out; simp; omega)
      clear hlim
      go_wp2_with fail
      go_ret
      rw [HR.out]
      exact ⟨rfl, by rw [HM.out.1] at HB; exact HB.out⟩
  · have t1 : decide ((m : Int) > 10000) = false := by (have := HM.out; simp; omega)
    have t2 : decide ((deep : Int) > 5000) = false := by (have := HM.out; simp; omega)
    have HL := Aside0.mk (And.intro (show n + 1 ≤ 10000 by omega) (show deep ≤ 5000 by omega))
    clear hlim
    go_upto_region 5 with fail
    obtain ⟨q, hq⟩ : ∃ q, q = max d deep := ⟨_, rfl⟩
    have hmx : (if d < deep then (deep : Int) else (d : Int)) = (q : Int) := by subst hq; split <;> omega
    rw [hmx]
    have hq5 : q ≤ 5000 := by have := HL.out; have := HLE.out; omega
    have hm10 : m ≤ 10000 := by have := HL.out; have := HM.out; omega
    have hsz : (F.cons r k kids .nil).size deep n d = if (kids.size dp m q).1 = true then (true, (kids.size dp m q).2.1, (kids.size dp m q).2.2) else kids.size dp m q := by
      have e1 := HM.out
      have e2 := HL.out
      simp only [F.size]
      rw [if_neg (by omega), ← e1.1, ← e1.2, ← hq]
    have HSZ := Aside0.mk hsz
    have HQ5 := Aside0.mk (And.intro hq5 hm10)
    have hN2 := HB.out.1.far HNE.out.1 0 (.int .i64 (q : Int))
    have hD2 := HB.out.2.1.set (.int .i64 (q : Int))
    have hb2 := HB.out.2.2.setCell (p := ⟨D, 0, none⟩) HNE.out.2.2 (.int .i64 (q : Int))
    generalize hV : W.setCell ⟨D, 0, none⟩ (.int .i64 (q : Int)) = V at *
    have HB2 := Aside0.mk (And.intro hN2 (And.intro hD2 hb2))
    have HX2 := Aside0.mk (HNX.out.move hb2 HNX.out.lt)
    have z2 := HX2.out.c2
    clear hN2 hD2 hb2 hV y0 y1 y2 x2 t1 t2 HB HX1 HX2 hsz hq5 hm10 hmx hq
    go_wp2_with fail
    go_loopg [40] qs.length (fun kq v40 w' => SRel B N D dp kids qs.length m q kq v40 w')
    case atStart => exact ⟨0, m, q, by omega, rfl, HB2.out.2.2, HB2.out.1, HB2.out.2.1, HQ5.out.2, HQ5.out.1, rfl⟩
    case round =>
      obtain ⟨i, n', d', hi, rfl, hb, hN, hD, hn, hd, hs⟩ := hrel
      have HI := Aside0.mk hi
      have HR := Aside0.mk (And.intro hb (And.intro hN (And.intro hD (And.intro hn (And.intro hd hs)))))
      clear hi hb hN hD hn hd hs z2
      by_cases hil : i < qs.length
      · have t1 : decide ((i : Int) < (qs.length : Int)) = true := by simp; omega
        obtain ⟨r', k', ks, e1, e2⟩ := HK.out.at_ kids qs i hil
        obtain ⟨ad, rfl, hc⟩ := row_at HQ.out.1 i hil
        have hc2 := pw_cell_below HR.out.1 hc
        have C := Aside0.mk (HIH.out.at_ kids i e1 qs[i] e2 wr N D dp n' d' HR.out.1 HR.out.2.1 HR.out.2.2.1 HNE.out.1 HNE.out.2.1 HNE.out.2.2 HR.out.2.2.2.1 HR.out.2.2.2.2.1 (by have := HM.out; have := HL.out; omega))
        have HE := Aside0.mk (And.intro e1 e2)
        have he := size_one r' k' ks (kids.drop (i + 1)) dp n' d'
        rw [← e1] at he
        have HSO := Aside0.mk he
        have hbd := Aside0.mk (size_n_le (.cons r' k' ks .nil) dp n' d' HR.out.2.2.2.1 HR.out.2.2.2.2.1)
        clear e1 e2 hc he
        unfold pv at hc2
        have hql : qs.length ≤ 9223372036854775807 := HQ.out.1.2.1
        go_wp2_with fail
        go_at_call 51
        refine C.out.mono ?_
        rintro e w3 ⟨rfl, hN3, hD3, hb3⟩
        generalize (F.cons r' k' ks .nil).size dp n' d' = S at *
        obtain ⟨sb, sn, sd⟩ := S
        cases sb with
        | true =>
          have HR3 := Aside0.mk (And.intro hN3 (And.intro hD3 hb3))
          clear hN3 hD3 hb3
          go_wp2_with fail
          go_roundg (gk - 1)
          case measure => have := HI.out; omega
          case rel => exact ⟨i + 1, sn, sd, by have := HI.out; omega, by go_num, HR3.out.2.2, HR3.out.1, HR3.out.2.1, hbd.out.2.2.2 (by trivial), hbd.out.2.2.1, by rw [HR.out.2.2.2.2.2, HSO.out]; rfl⟩
        | false =>
          have HR3 := Aside0.mk (And.intro hN3 (And.intro hD3 hb3))
          clear hN3 hD3 hb3
          have HF : Aside0 (kids.size dp m q = (false, sn, sd)) := ⟨by rw [HR.out.2.2.2.2.2, HSO.out]; rfl⟩
          go_wp2_with fail
          go_ret
          rw [HSZ.out, HF.out]
          exact ⟨rfl, HR3.out⟩
      · have t1 : decide ((i : Int) < (qs.length : Int)) = false := by simp; omega
        have HE : Aside0 (kids.size dp m q = (true, n', d')) := ⟨by
          have h1 := HK.out.len kids qs
          have h2 := HI.out
          rw [HR.out.2.2.2.2.2, show i = qs.length by omega, h1]
          rfl⟩
        go_wp2_with fail
        go_ret
        rw [HSZ.out, HE.out]
        exact ⟨rfl, HR.out.2.1, HR.out.2.2.1, HR.out.1⟩
theorem size_calls (B : World) (f : F) : AllF (SizeC B) f := AllF.of (size_node B) f
end Go.Proofs.YtjhemobplcelbaaGreatDoor.T
