/- tree: the reference's deep, Size, Yield, of trees that are not too great. -/
import Derived.Test.YtjhemobplcelbaaGreatDoorTreeD
namespace Go.Proofs.YtjhemobplcelbaaGreatDoor.T
open Go.RowKit Go.Proofs.YtjhemobplcelbaaGreatDoorW.PrintWords Go.Proofs.YtjhemobplcelbaaGreatDoorW.PrintLast Go.Proofs.YtjhemobplcelbaaGreatDoorW.PrintMore
set_option linter.unusedVariables false
set_option linter.unusedSimpArgs false
/-- What deep answers of one tree. -/
def DeepC (B : World) (r k : Int) (kids : F) : Prop := ∀ (X : Nat), IsF B [X] (.cons r k kids .nil) → ∀ (w : World) (N level n : Nat), Below B.heap.size B w → Cell1 w N 3 (.int .i64 (n : Int)) → B.heap.size ≤ N → n + (F.cons r k kids .nil).nodes ≤ 10000 → level + (F.cons r k kids .nil).height ≤ 5001 →
  Calls Tryz.prog 50 #[.pointer (some ⟨X, 0, none⟩), .int .i64 (level : Int), .pointer (some ⟨N, 0, none⟩)] w fun e w' => e = .returned (.int .i64 ((F.cons r k kids .nil).height : Int)) ∧ Cell1 w' N 3 (.int .i64 ((n + (F.cons r k kids .nil).nodes : Nat) : Int)) ∧ Below B.heap.size B w'
def DpRel (B : World) (N : Nat) (kids : F) (len n1 : Nat) (kq : Nat) (v7 v : Value) (w' : World) : Prop := ∃ i n d : Nat, i + kq = len ∧ v = .int .i64 (i : Int) ∧ v7 = .int .i64 (d : Int) ∧ Below B.heap.size B w' ∧ Cell1 w' N 3 (.int .i64 (n : Int)) ∧ n + (kids.drop i).nodes = n1 + kids.nodes ∧ max d (1 + (kids.drop i).height) = 1 + kids.height ∧ 1 ≤ d
theorem height_drop : ∀ (f : F) (i : Nat), (f.drop i).height ≤ f.height := by
  intro f
  induction f with
  | nil => intro i; cases i <;> simp [F.drop, F.height]
  | cons r k kids rest ih1 ih2 =>
    intro i
    cases i with
    | zero => exact Nat.le_refl _
    | succ i => have := ih2 i; simp only [F.drop, F.height]; omega
theorem one_height (r k : Int) (kids : F) : (F.cons r k kids .nil).height = kids.height + 1 := by simp only [F.height]; omega
theorem one_nodes (r k : Int) (kids : F) : (F.cons r k kids .nil).nodes = kids.nodes + 1 := by simp only [F.nodes]; omega
set_option maxRecDepth 100000 in
set_option maxHeartbeats 4000000 in
theorem deep_node (B : World) (r k : Int) (kids : F) (ih : AllF (DeepC B) kids) : DeepC B r k kids := by
  intro X hX w N level n hb hN hBN h1 h2
  rw [one_nodes, one_height] at *
  obtain ⟨⟨A, c, qs, hx, hq, hqc, hk⟩, _⟩ := hX
  have HIH := Aside0.mk ih
  have HK := Aside0.mk hk
  have HQ := Aside0.mk (And.intro hq hqc)
  have HNX := Aside0.mk (Node3.mk (W := B) hx)
  obtain ⟨m, hm⟩ : ∃ m, m = n + 1 := ⟨_, rfl⟩
  obtain ⟨lp, hlp⟩ : ∃ lp, lp = level + 1 := ⟨_, rfl⟩
  have hN1 := hN.set (.int .i64 (m : Int))
  have hb1 : Below B.heap.size B (w.setCell ⟨N, 0, none⟩ (.int .i64 (m : Int))) := hb.setCell (p := ⟨N, 0, none⟩) hBN _
  have hw1 : IntKind.i64.wrap ((n : Int) + 1) = (m : Int) := by rw [IntKind.wrap_i64]; omega
  have hw2 : IntKind.i64.wrap ((level : Int) + 1) = (lp : Int) := by rw [IntKind.wrap_i64]; omega
  have y0 := hN.c
  have y1 := hN.fz 0
  have HB := Aside0.mk (And.intro hN1 hb1)
  have HL := Aside0.mk (And.intro hBN (And.intro h1 h2))
  have HM := Aside0.mk (And.intro hm hlp)
  have t1 : decide ((level : Int) > 5000) = false := by simp; omega
  have t2 : decide ((m : Int) > 10000) = false := by simp; omega
  clear hm hlp ih hk hq hqc hx hN hb hN1 hb1 hBN h1 h2
  go_enter Tryz.func50, Tryz.ntmps50
  go_upto_region 2 with fail
  generalize hW : w.setCell ⟨N, 0, none⟩ (.int .i64 (m : Int)) = W at *
  have HX1 := Aside0.mk (HNX.out.move HB.out.2 HNX.out.lt)
  clear hW y0 y1 hw1
  have y0 := HB.out.1.c
  have x2 := HX1.out.c2
  go_wp2_with fail
  go_loopg [7, 8] qs.length (fun kq v7 v8 w' => DpRel B N kids qs.length m kq v7 v8 w')
  case atStart => exact ⟨0, m, 1, by omega, rfl, rfl, HB.out.2, HB.out.1, rfl, by simp only [F.drop]; omega, by omega⟩
  case round =>
    obtain ⟨i, n', d, hi, rfl, rfl, hb, hN, hn, hd⟩ := hrel
    have HI := Aside0.mk hi
    have HR := Aside0.mk (And.intro hb (And.intro hN (And.intro hn hd)))
    have HXr := Aside0.mk (HNX.out.move hb HNX.out.lt)
    clear hi hb hN hn hd x2 y0 t1 t2
    have x2 := HXr.out.c2
    by_cases hil : i < qs.length
    · have t1 : decide ((i : Int) < (qs.length : Int)) = true := by simp; omega
      obtain ⟨r', k', ks, e1, e2⟩ := HK.out.at_ kids qs i hil
      obtain ⟨ad, rfl, hc⟩ := row_at HQ.out.1 i hil
      have hc2 := pw_cell_below HR.out.1 hc
      have hnd := nodes_drop kids i
      have hht := height_drop kids i
      have hn1 : (F.cons r' k' ks .nil).nodes + (kids.drop (i + 1)).nodes = (kids.drop i).nodes := by rw [e1]; simp only [F.nodes]; omega
      have hh1 : max (F.cons r' k' ks .nil).height (kids.drop (i + 1)).height = (kids.drop i).height := by rw [e1]; simp only [F.height]; omega
      have C := Aside0.mk (HIH.out.at_ kids i e1 qs[i] e2 wr N lp n' HR.out.1 HR.out.2.1 HL.out.1 (by have := HL.out; have := HM.out; have := HR.out.2.2.1; omega) (by have := HL.out; have := HM.out; omega))
      obtain ⟨nn, hnn⟩ : ∃ x, x = (F.cons r' k' ks .nil).nodes := ⟨_, rfl⟩
      obtain ⟨hh, hhh⟩ : ∃ x, x = (F.cons r' k' ks .nil).height := ⟨_, rfl⟩
      have hh0 : 1 ≤ hh := by rw [hhh, one_height]; omega
      rw [← hnn, ← hhh] at C
      rw [← hnn] at hn1
      rw [← hhh] at hh1
      have HE := Aside0.mk (And.intro hn1 (And.intro hh1 (And.intro hnd hht)))
      have hh5 : hh ≤ 5000 := by have := HL.out; omega
      obtain ⟨h2, hh2⟩ : ∃ x, x = hh + 1 := ⟨_, rfl⟩
      have hw3 : IntKind.i64.wrap ((hh : Int) + 1) = (h2 : Int) := by rw [IntKind.wrap_i64]; omega
      have t2 : ((hh : Int) == 0) = false := by simp; omega
      have HH2 := Aside0.mk hh2
      clear e1 e2 hc hnn hhh hn1 hh1 hnd hht hh2
      unfold pv at hc2
      have hql : qs.length ≤ 9223372036854775807 := HQ.out.1.2.1
      by_cases hmx : d < h2
      · have t3 : decide ((d : Int) < (h2 : Int)) = true := by simp; omega
        have HMX := Aside0.mk hmx
        go_wp2_with (first
          | (go_at_call 50; refine C.out.mono ?_; rintro e w3 ⟨rfl, hN3, hb3⟩; have H3 := Aside0.mk (And.intro hN3 hb3); clear hN3 hb3))
        go_roundg (gk - 1)
        case measure => have := HI.out; omega
        case rel => exact ⟨i + 1, n' + nn, h2, by have := HI.out; omega, by go_num, rfl, H3.out.2, H3.out.1, by have := HE.out; have := HR.out; omega, by have := HE.out; have := HR.out.2.2.2; have := HMX.out; have := HH2.out; omega, by have := HR.out.2.2.2; have := HH2.out; omega⟩
      · have t3 : decide ((d : Int) < (h2 : Int)) = false := by simp; omega
        have HMX := Aside0.mk hmx
        go_wp2_with (first
          | (go_at_call 50; refine C.out.mono ?_; rintro e w3 ⟨rfl, hN3, hb3⟩; have H3 := Aside0.mk (And.intro hN3 hb3); clear hN3 hb3))
        go_roundg (gk - 1)
        case measure => have := HI.out; omega
        case rel => exact ⟨i + 1, n' + nn, d, by have := HI.out; omega, by go_num, rfl, H3.out.2, H3.out.1, by have := HE.out; have := HR.out; omega, by have := HE.out; have := HR.out.2.2.2; have := HMX.out; have := HH2.out; omega, by have := HR.out.2.2.2; have := HH2.out; omega⟩
    · have t1 : decide ((i : Int) < (qs.length : Int)) = false := by simp; omega
      have HE : Aside0 (n' = m + kids.nodes ∧ d = 1 + kids.height) := ⟨by
        have h1 := HK.out.len kids qs
        have h2 := HI.out
        have h3 := HR.out.2.2
        rw [show i = qs.length by omega, h1] at h3
        simp only [F.nodes, F.height] at h3
        omega⟩
      go_wp2_with fail
      go_ret
      refine ⟨?_, ?_, HR.out.1⟩
      · rw [HE.out.2, Nat.add_comm]; rfl
      · have h := HR.out.2.1
        rw [HE.out.1, HM.out.1] at h
        rw [show n + (kids.nodes + 1) = n + 1 + kids.nodes by omega]
        exact h
theorem deep_calls (B : World) (f : F) : AllF (DeepC B) f := AllF.of (deep_node B) f
set_option maxHeartbeats 4000000 in
theorem ref_Size (w : World) (X : Nat) (r k : Int) (kids : F) (h : IsF w [X] (.cons r k kids .nil)) (hn : (F.cons r k kids .nil).nodes ≤ 9000) (hh : (F.cons r k kids .nil).height ≤ 4000) :
    Calls Tryz.prog 17 #[.pointer (some ⟨X, 0, none⟩)] w fun e w' => e = .returned (.tuple #[.int .i64 ((F.cons r k kids .nil).nodes : Int), .int .i64 ((F.cons r k kids .nil).height : Int)]) ∧ Below w.heap.size w w' := by
  have hbA := below_alloc (Below.refl w.heap.size w) (.cells #[.int .i64 0] 3)
  have C := Aside0.mk ((deep_calls w (.cons r k kids .nil)).1 X h (w.alloc (.cells #[.int .i64 0] 3)) w.heap.size 1 0 hbA (Cell1.new w _ _) (Nat.le_refl _) (by omega) (by omega))
  have hh0 : 1 ≤ (F.cons r k kids .nil).height := by rw [one_height]; omega
  generalize (F.cons r k kids .nil).nodes = nn at *
  generalize (F.cons r k kids .nil).height = hh' at *
  have t1 : ((hh' : Int) == 0) = false := by simp; omega
  have t2 : decide (((0 + nn : Nat) : Int) > 10000) = false := by simp; omega
  clear h hbA
  go_enter Tryz.func17, Tryz.ntmps17
  go_wp2_with (first
    | (go_at_call 50; refine C.out.mono ?_; rintro e w3 ⟨rfl, hN3, hb3⟩; rw [Nat.zero_add] at hN3 t2; have H3 := Aside0.mk (And.intro hN3 hb3); have y0 := hN3.c; clear hN3 hb3))
  go_ret2
  exact ⟨rfl, H3.out.2⟩
end Go.Proofs.YtjhemobplcelbaaGreatDoor.T
