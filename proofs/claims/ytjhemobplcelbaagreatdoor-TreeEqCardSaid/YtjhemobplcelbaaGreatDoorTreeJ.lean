/- tree: find of donatuslaw13; a tree of which one node is another one. -/
import Derived.Test.YtjhemobplcelbaaGreatDoorTreeI
namespace Go.Proofs.YtjhemobplcelbaaGreatDoor.T
open Go.RowKit Go.Proofs.YtjhemobplcelbaaGreatDoorW.PrintWords Go.Proofs.YtjhemobplcelbaaGreatDoorW.PrintLast Go.Proofs.YtjhemobplcelbaaGreatDoorW.PrintMore
set_option linter.unusedVariables false
set_option linter.unusedSimpArgs false
/-- This place is one of the trees' nodes. -/
def InF (w : World) : F → List Nat → Nat → Prop
  | .nil, _, _ => False
  | .cons r k kids rest, ps, Z => ∃ (X : Nat) (ps' : List Nat), ps = X :: ps' ∧ (Z = X ∨ (∃ (A : Option Addr) (c : Nat) (qs : List Nat), w.heap[X]? = some (.cells #[.int .i64 r, .int .i64 k, .slice A qs.length c] 61 (0, 0)) ∧ Kd.C kP w A qs.length qs ∧ InF w kids qs Z) ∨ InF w rest ps' Z)
theorem InF.at_ {w : World} : ∀ (f : F) (ps : List Nat), IsF w ps f → ∀ (i : Nat) (hi : i < ps.length) {r k : Int} {ks rest : F} {Z : Nat}, f.drop i = .cons r k ks rest → InF w (.cons r k ks .nil) [ps[i]] Z → InF w f ps Z := by
  intro f
  induction f with
  | nil => intro ps h i hi r k ks rest Z e; cases i <;> cases e
  | cons r0 k0 kids0 rest0 ih1 ih2 =>
    intro ps h i hi r k ks rest Z e hz
    cases ps with
    | nil => exact h.elim
    | cons X ps =>
      cases i with
      | zero =>
        cases e
        obtain ⟨X', ps', e, hz⟩ := hz
        cases e
        refine ⟨X, ps, rfl, ?_⟩
        rcases hz with hz | hz | hz
        · exact .inl hz
        · exact .inr (.inl hz)
        · exact hz.elim
      | succ i => exact ⟨X, ps, rfl, .inr (.inr (ih2 ps h.2 i (by simpa using hi) e hz))⟩
theorem hole {w : World} : ∀ (f : F) (S : Nat → Prop) (ps : List Nat) (Z : Nat), OwnF w f S ps → InF w f ps Z → ∃ (r k : Int) (kids : F) (SZ : Nat → Prop), (∀ b, SZ b → S b) ∧ OwnN w SZ Z r k kids ∧ kids.nodes ≤ f.nodes ∧
    ∀ (w' : World) (r' k' : Int) (kids' : F), (∀ b, S b → ¬ SZ b → w'.heap[b]? = w.heap[b]?) → IsF w' [Z] (.cons r' k' kids' .nil) → ∃ f', IsF w' ps f' ∧ (f' = f → r' = r ∧ k' = k ∧ kids' = kids) := by
  intro f
  induction f with
  | nil => intro S ps Z _ h; exact h.elim
  | cons r k kids rest ih1 ih2 =>
    rintro S ps Z ⟨X, ps', rfl, S1, S2, h1, h2, h3, h4, h5⟩ ⟨X', ps'', e, hz⟩
    cases e
    rcases hz with rfl | ⟨A, c, qs, g1, g2, g3⟩ | hz
    · refine ⟨r, k, kids, S1, h1, h4, by simp only [F.nodes]; omega, fun w' r' k' kids' hm hf => ?_⟩
      exact ⟨.cons r' k' kids' rest, ⟨hf.1, (h5.move _ _ _ (fun b hb => hm b (h2 b hb) (fun hb1 => h3 b hb1 hb))).isF⟩, fun e => by cases e; exact ⟨rfl, rfl, rfl⟩⟩
    · obtain ⟨hX, A', c', qs', S3, k1, k2, k3, k4⟩ := h4
      rw [g1] at k1
      simp only [Option.some.injEq, Obj.cells.injEq, Array.mk.injEq, List.cons.injEq, Value.int.injEq, Value.slice.injEq, and_true, true_and] at k1
      obtain ⟨e3, e4, e5⟩ := k1
      subst e3
      subst e5
      obtain ⟨_, _, k2c⟩ := Kd.R_reads' k2
      rw [← e4] at k2c
      obtain rfl := C_inj g2 k2c
      obtain ⟨r1, k1, kids1, SZ, m1, m2, m0, m3⟩ := ih1 S3 qs Z k4 g3
      refine ⟨r1, k1, kids1, SZ, fun b hb => h1 b (k3 b (m1 b hb)).1, m2, by simp only [F.nodes]; omega, fun w' r' k' kids' hm hf => ?_⟩
      obtain ⟨f', p1, p2⟩ := m3 w' r' k' kids' (fun b hb hn => hm b (h1 b (k3 b hb).1) hn) hf
      have far : ∀ b, S1 b → ¬ S3 b → w'.heap[b]? = w.heap[b]? := fun b hb hn => hm b (h1 b hb) (fun hz => hn (m1 b hz))
      have row := Kd.R_move (Kd.R_mono (ok' := fun b => S1 b ∧ ¬ S3 b) (Kd.R_tight rfl k2) (fun b hb => ⟨(k2.1 b hb.symm).1, fun h3 => (k3 b h3).2.2 hb⟩)) (fun b hb => far b hb.1 hb.2)
      obtain ⟨_, q1, q2⟩ := Kd.R_reads' row
      refine ⟨.cons r k f' rest, ⟨⟨A, c, qs, (far X hX (fun h3 => (k3 X h3).2.1 rfl)).trans g1, q2, q1, p1⟩, (h5.move _ _ _ (fun b hb => hm b (h2 b hb) (fun hz => h3 b (k3 b (m1 b hz)).1 hb))).isF⟩, fun e => by cases e; exact p2 rfl⟩
    · obtain ⟨r1, k1, kids1, SZ, m1, m2, m0, m3⟩ := ih2 S2 ps' Z h5 hz
      refine ⟨r1, k1, kids1, SZ, fun b hb => h2 b (m1 b hb), m2, by simp only [F.nodes]; omega, fun w' r' k' kids' hm hf => ?_⟩
      obtain ⟨f', p1, p2⟩ := m3 w' r' k' kids' (fun b hb hn => hm b (h2 b hb) hn) hf
      have h4' : OwnN w S1 X r k kids := h4
      have := (h4'.move (fun b hb => hm b (h1 b hb) (fun hz => h3 b hb (m1 b hz)))).isF
      exact ⟨.cons r k kids f', ⟨this.1, p1⟩, fun e => by cases e; exact p2 rfl⟩
/-- What find answers of one tree. -/
def FindC (B : World) (r k : Int) (kids : F) : Prop := ∀ (X : Nat), IsF B [X] (.cons r k kids .nil) → ∀ (w : World) (N n : Nat), Below B.heap.size B w → Cell1 w N 3 (.int .i64 (n : Int)) → B.heap.size ≤ N → n ≤ 1000 →
  Calls Tryz.prog 33 #[.pointer (some ⟨X, 0, none⟩), .pointer (some ⟨N, 0, none⟩)] w fun e w' => Below B.heap.size B w' ∧ ((n < 1 + kids.nodes ∧ ∃ Z, e = .returned (.pointer (some ⟨Z, 0, none⟩)) ∧ InF B (.cons r k kids .nil) [X] Z) ∨ (1 + kids.nodes ≤ n ∧ e = .returned (.pointer none) ∧ Cell1 w' N 3 (.int .i64 ((n - 1 - kids.nodes : Nat) : Int))))
def GRel (B : World) (N : Nat) (kids : F) (len n : Nat) (kq : Nat) (v : Value) (w' : World) : Prop := ∃ (i n' : Nat), i + kq = len ∧ v = .int .i64 (i : Int) ∧ Below B.heap.size B w' ∧ Cell1 w' N 3 (.int .i64 (n' : Int)) ∧ n' + kids.nodes = n + (kids.drop i).nodes
theorem nodes_one (r k : Int) (ks rest : F) : (F.cons r k ks rest).nodes = 1 + ks.nodes + rest.nodes := rfl
set_option maxRecDepth 100000 in
set_option maxHeartbeats 4000000 in
theorem find_node (B : World) (r k : Int) (kids : F) (ih : AllF (FindC B) kids) : FindC B r k kids := by
  intro X hX w N n hb hN hBN hn
  have HXX := Aside0.mk hX
  obtain ⟨⟨A, c, qs, hx, hq, hqc, hk⟩, _⟩ := hX
  have HIH := Aside0.mk ih
  have HK := Aside0.mk hk
  have HQ := Aside0.mk (And.intro hq hqc)
  have HNX := Aside0.mk (Node3.mk (W := B) hx)
  have HB := Aside0.mk (And.intro hb (And.intro hBN hn))
  have y0 := hN.c
  have y1 := hN.fz 0
  have HN := Aside0.mk hN
  clear ih hk hq hqc hx hb hN hBN
  cases n with
  | zero =>
    go_enter Tryz.func33, Tryz.ntmps33
    go_wp2_with fail
    go_ret
    exact ⟨HB.out.1, .inl ⟨by omega, X, rfl, X, [], rfl, .inl rfl⟩⟩
  | succ n =>
    have t0 : (((n + 1 : Nat) : Int) == 0) = false := by simp; omega
    have t1 : decide (((n + 1 : Nat) : Int) = 0) = false := by simp; omega
    have hw : IntKind.i64.wrap (((n + 1 : Nat) : Int) - 1) = (n : Int) := by rw [IntKind.wrap_i64]; omega
    have hN2 := HN.out.set (.int .i64 (n : Int))
    have hb2 := HB.out.1.setCell (p := ⟨N, 0, none⟩) HB.out.2.1 (.int .i64 (n : Int))
    obtain ⟨m, hm⟩ : ∃ m, m = n + 1 := ⟨_, rfl⟩
    rw [← hm] at t0 t1 hw y0
    rw [← hm]
    have HM := Aside0.mk hm
    clear hm
    go_enter Tryz.func33, Tryz.ntmps33
    go_upto_region 4 with fail
    generalize w.setCell ⟨N, 0, none⟩ (.int .i64 (n : Int)) = W at *
    have HW := Aside0.mk (And.intro hN2 hb2)
    clear hN2 hb2 y0 y1 t0 t1 hw
    go_wp2_with fail
    go_loopg [5] qs.length (fun kq v5 w' => GRel B N kids qs.length n kq v5 w')
    case atStart => exact ⟨0, n, by omega, rfl, HW.out.2, HW.out.1, by simp [F.drop]⟩
    case round =>
      obtain ⟨i, n', hi, rfl, hb, hN, hs⟩ := hrel
      have HI := Aside0.mk hi
      have HR := Aside0.mk (And.intro hb (And.intro hN hs))
      have z2 := (HNX.out.move hb HNX.out.lt).c2
      clear hi hb hN hs
      by_cases hil : i < qs.length
      · have t1 : decide ((i : Int) < (qs.length : Int)) = true := by simp; omega
        obtain ⟨r', k', ks, e1, e2⟩ := HK.out.at_ kids qs i hil
        obtain ⟨ad, rfl, hc⟩ := row_at HQ.out.1 i hil
        have hc2 := pw_cell_below HR.out.1 hc
        have hnn : n' ≤ 1000 := by have h1 := HR.out.2.2; have h2 := nodes_drop kids i; have h3 := HB.out.2.2; omega
        have C := Aside0.mk (HIH.out.at_ kids i e1 qs[i] e2 wr N n' HR.out.1 HR.out.2.1 HB.out.2.1 hnn)
        have HE := Aside0.mk (And.intro e1 e2)
        have hql : qs.length ≤ 9223372036854775807 := HQ.out.1.2.1
        clear e1 e2 hc hnn
        unfold pv at hc2
        go_wp2_with fail
        go_at_call 33
        refine C.out.mono ?_
        rintro e w3 ⟨hb3, hz⟩
        have HB3 := Aside0.mk hb3
        clear hb3 C
        rcases hz with ⟨_, Z, rfl, hz⟩ | ⟨hge, rfl, hN3⟩
        · have HZ := Aside0.mk hz
          clear hz
          go_wp2_with fail
          go_ret
          refine ⟨HB3.out, .inl ⟨?_, Z, rfl, X, [], rfl, .inr (.inl ⟨_, c, qs, HNX.out.heap, HQ.out.1, InF.at_ kids qs HK.out i hil HE.out.1 HZ.out⟩)⟩⟩
          have h1 := HR.out.2.2
          have h2 := congrArg F.nodes HE.out.1
          rw [nodes_one] at h2
          rename_i hlt
          have h3 := HM.out
          omega
        · have H3 := Aside0.mk (And.intro hN3 hge)
          clear hN3 hge
          go_wp2_with fail
          go_roundg (gk - 1)
          case measure => have := HI.out; omega
          case rel =>
            refine ⟨i + 1, _, by have := HI.out; omega, by go_num, HB3.out, H3.out.1, ?_⟩
            have h1 := HR.out.2.2
            have h2 := congrArg F.nodes HE.out.1
            have h3 := H3.out.2
            rw [nodes_one] at h2
            omega
      · have t1 : decide ((i : Int) < (qs.length : Int)) = false := by simp; omega
        have HE : Aside0 (n' + kids.nodes = n) := ⟨by
          have h1 := HK.out.len kids qs
          have h2 := HI.out
          have h3 := HR.out.2.2
          rw [show i = qs.length by omega, h1] at h3
          simpa [F.nodes] using h3⟩
        go_wp2_with fail
        go_ret
        refine ⟨HR.out.1, .inr ⟨by have := HE.out; have := HM.out; omega, rfl, ?_⟩⟩
        rw [show m - 1 - kids.nodes = n' by have := HE.out; have := HM.out; omega]
        exact HR.out.2.1
theorem find_calls (B : World) (f : F) : AllF (FindC B) f := AllF.of (find_node B) f
end Go.Proofs.YtjhemobplcelbaaGreatDoor.T
