/- tree: Node, Leaf with what their trees own; remade. -/
import Derived.Test.YtjhemobplcelbaaGreatDoorTreeI
import Derived.Test.YtjhemobplcelbaaGreatDoorTreeS2
namespace Go.Proofs.YtjhemobplcelbaaGreatDoor.T
open Go.RowKit Go.Proofs.YtjhemobplcelbaaGreatDoorW.PrintWords Go.Proofs.YtjhemobplcelbaaGreatDoorW.PrintLast Go.Proofs.YtjhemobplcelbaaGreatDoorW.PrintMore
set_option linter.unusedVariables false
set_option linter.unusedSimpArgs false
theorem node_own (w : World) (rule : Int) (A : Option Addr) (c : Nat) (ps : List Nat) (f : F) (S : Nat → Prop) (hl : ps.length ≤ 1000000) (hr : Kd.C kP w A ps.length ps) (hc : ps.length ≤ c) (hf : OwnF w f S ps) (hS : ∀ b, S b → b < w.heap.size) :
    Calls Tryz.prog 31 #[.int .i64 rule, .slice A ps.length c] w fun e w' => ∃ Z, e = .returned (.pointer (some ⟨Z, 0, none⟩)) ∧ OwnN w' (fun b => S b ∨ (w.heap.size ≤ b ∧ b < w'.heap.size)) Z rule 0 f ∧ Below w.heap.size w w' := by
  have C := Aside0.mk (clone_calls ps A c w hl hr hc)
  have H := Aside0.mk (And.intro hf hS)
  clear hf hr hS
  go_enter Tryz.func31, Tryz.ntmps31
  go_wp2_with fail
  go_at_call 57
  refine C.out.mono ?_
  rintro e w2 ⟨v, rfl, ho, hb⟩
  obtain ⟨A', c', rfl⟩ := Kd.R_slice ho
  have HO := Aside0.mk (And.intro (Kd.R_bound ho) hb)
  clear ho hb C
  go_wp2_with fail
  go_ret
  have hb2 := below_alloc (Below.refl w2.heap.size w2) (.cells #[.int .i64 rule, .int .i64 0, .slice A' ps.length c'] 61)
  have hz : (w2.alloc (.cells #[.int .i64 rule, .int .i64 0, .slice A' ps.length c'] 61)).heap.size = w2.heap.size + 1 := World.size_alloc ..
  have hs := HO.out.2.size
  refine ⟨w2.heap.size, rfl, ⟨.inr ⟨hs, by omega⟩, A', c', ps, S, heap_alloc_new w2 _, Kd.R_mono (Kd.R_lower (Kd.R_below HO.out.1 hb2) (Nat.zero_le _)) (fun b hb => ⟨.inr ⟨hb.2.1, by have := hb.2.2; omega⟩, by have := hb.2.2; omega⟩), fun b hb => ⟨.inl hb, by have := H.out.2 b hb; omega, fun he => by have := HO.out.1.1 b he.symm; have := H.out.2 b hb; omega⟩, H.out.1.move _ _ _ (fun b hb => ?_)⟩, below_alloc HO.out.2 _⟩
  have h1 := H.out.2 b hb
  exact (hb2.block b (by omega)).trans (HO.out.2.block b h1)
theorem len_nodes2 : ∀ f : F, f.len ≤ f.nodes := by
  intro f
  induction f with
  | nil => exact Nat.le_refl _
  | cons r k kids rest _ ih => simp only [F.len, F.nodes]; omega
/-- What remade answers of a tree that fits. -/
def RemC (B : World) (t : Nat) (rs : List U.SR) (r k : Int) (kids : F) : Prop := chkT t rs r k kids = true → (F.cons r k kids .nil).nodes ≤ 1000 → ∀ (X : Nat), IsF B [X] (.cons r k kids .nil) → ∀ (w : World), Below B.heap.size B w →
  Calls Tryz.prog 29 #[.pointer (some ⟨X, 0, none⟩)] w fun e w' => ∃ Y, e = .returned (.pointer (some ⟨Y, 0, none⟩)) ∧ OwnN w' (fun b => w.heap.size ≤ b ∧ b < w'.heap.size) Y r k kids ∧ Below w.heap.size w w'
def RmRel (w : World) (kids : F) (len : Nat) (kq : Nat) (v3 v4 : Value) (w' : World) : Prop := ∃ (i : Nat) (js : List Nat) (A : Option Addr) (c : Nat) (done : F), i + kq = len ∧ v4 = .int .i64 (i : Int) ∧ v3 = .slice A js.length c ∧ js.length = i ∧ Kd.R kP 37 w' w.heap.size (fun _ => True) (.slice A js.length c) js ∧
  OwnF w' done (fun b => w.heap.size ≤ b ∧ b < w'.heap.size ∧ some b ≠ (Value.slice A js.length c).ownBlock) js ∧ Below w.heap.size w w' ∧ kids = done.app (kids.drop i)
theorem chk_leaf0 {t : Nat} {rs : List U.SR} {k : Int} {kids : F} (h : chkT t rs (-1) k kids = true) : kids = .nil := by
  unfold chkT at h
  rw [if_pos rfl] at h
  have := of_decide_eq_true h
  cases kids with
  | nil => rfl
  | cons _ _ _ _ => have h2 := this.2.2; simp only [F.len] at h2; omega
theorem chk_tok {t : Nat} {rs : List U.SR} {r k : Int} {kids : F} (h : chkT t rs r k kids = true) (hr : r ≠ -1) : k = 0 := by
  unfold chkT at h
  rw [if_neg hr] at h
  split at h
  · cases h
  · omega
set_option maxRecDepth 100000 in
set_option maxHeartbeats 8000000 in
theorem remade_node (B : World) (t : Nat) (rs : List U.SR) (r k : Int) (kids : F) (ih : AllF (RemC B t rs) kids) : RemC B t rs r k kids := by
  intro hck hnd X hX w hb
  obtain ⟨⟨A, c, qs, hx, hq, hqc, hk⟩, _⟩ := hX
  have HIH := Aside0.mk ih
  have HCK := Aside0.mk hck
  have HND := Aside0.mk hnd
  have HK := Aside0.mk hk
  have HLEN := Aside0.mk hk.length
  have HQ := Aside0.mk (And.intro hq hqc)
  have HNX := Aside0.mk (Node3.mk (W := B) hx)
  have HB := Aside0.mk hb
  have HX1 := Aside0.mk (HNX.out.move HB.out HNX.out.lt)
  have HQL : Aside0 (qs.length ≤ 1000) := ⟨by have h1 := hk.length; have h2 := len_nodes2 kids; simp only [F.nodes] at hnd; omega⟩
  clear ih hk hq hqc hx hb hck hnd
  go_enter Tryz.func29, Tryz.ntmps29
  have x0 := HX1.out.c0
  go_upto_region 1 with fail
  by_cases hr : r = -1
  · subst hr
    obtain rfl := chk_leaf0 HCK.out
    have x1 := HX1.out.c1
    go_wp2_with fail
    go_at_call 30
    refine (Leaf_calls w k).mono ?_
    rintro e w2 ⟨rfl, hL, hb⟩
    have H2 := Aside0.mk (And.intro hL hb)
    clear hL hb
    go_wp2_with fail
    go_ret
    exact ⟨_, rfl, OwnN.leaf ⟨Nat.le_refl _, (Node3.mk (W := w2) H2.out.1).lt⟩ ⟨H2.out.1⟩, H2.out.2⟩
  · have t1 : decide (r = -1) = false := decide_eq_false hr
    have t1' : (r == -1) = false := beq_eq_false_iff_ne.2 hr
    have HKC := Aside0.mk (chk_kids HCK.out hr)
    have HK0 := Aside0.mk (chk_tok HCK.out hr)
    clear hr
    go_upto_region 4 with fail
    clear t1 t1' x0
    have HW := Aside0.mk (Below.refl w.heap.size w)
    go_wp2_with fail
    go_loopg [3, 4] qs.length (fun kq v3 v4 w' => RmRel w kids qs.length kq v3 v4 w')
    case atStart => exact ⟨0, [], none, 0, .nil, by omega, rfl, rfl, rfl, Kd.R_nil _ _ _ _ _, rfl, HW.out, rfl⟩
    case round =>
      obtain ⟨i, js, A1, c1, done, hi, rfl, rfl, hl, ho, hown, hb, hdone⟩ := hrel
      have HI := Aside0.mk hi
      have HL := Aside0.mk hl
      have HO := Aside0.mk (And.intro ho hown)
      have HR := Aside0.mk (And.intro hb hdone)
      have HBr := Aside0.mk (HB.out.trans (hb.mono HB.out.size))
      have HXr := Aside0.mk (HX1.out.move hb HX1.out.lt)
      clear hi hl ho hown hb hdone
      by_cases hil : i < qs.length
      · have t1 : decide ((i : Int) < (qs.length : Int)) = true := by simp; omega
        obtain ⟨r', k', ks, e1, e2⟩ := HK.out.at_ kids qs i hil
        obtain ⟨ad2, rfl, hc⟩ := row_at HQ.out.1 i hil
        have hc2 := pw_cell_below HBr.out hc
        have hnk : (F.cons r' k' ks .nil).nodes ≤ 1000 := by
          have h1 := drop_nodes kids i
          rw [e1] at h1
          have h2 := HND.out
          simp only [F.nodes] at h1 h2 ⊢
          omega
        have C := Aside0.mk (HIH.out.at_ kids i e1 (chk_at kids _ i HKC.out e1) hnk qs[i] e2 wr HBr.out)
        have HD := Aside0.mk e1
        have x2 := HXr.out.c2
        have hin2 : (i : Int) < (qs.length : Int) := by omega
        have hql : qs.length ≤ 9223372036854775807 := HQ.out.1.2.1
        have hjl : js.length ≤ 1000 := by have := HL.out; have := HQL.out; omega
        have HJL := Aside0.mk hjl
        clear e1 e2 hc hnk hjl
        unfold pv at hc2
        go_wp2_with (first
          | (go_at_call 29; refine C.out.mono ?_; rintro e w4 ⟨Z, rfl, hO4, hb4⟩; have H4 := Aside0.mk (And.intro hO4 hb4); have H4Z : Aside0 (w.heap.size ≤ w4.heap.size) := ⟨Nat.le_trans HR.out.1.size hb4.size⟩; clear hO4 hb4)
          | (at_builtin; refine Kd.R_append kP (w0 := w) w.heap.size rfl (.tmp 24) (.tmp 33) 59 37 (.pointer none) 8 rfl Tryz.underlying59 infoP rfl (by decide) (by omega) _ js Z [.pointer (some ⟨Z, 0, none⟩)] (fun _ => True) (fun _ => False) rfl rfl (show Kd.M kP _ _ _ _ [pv Z] from rfl) (fun _ h => h.elim) (fun _ _ => trivial) (Kd.R_below HO.out.1 H4.out.2) (HR.out.1.trans (H4.out.2.mono HR.out.1.size)) H4Z.out (by have := HJL.out; omega) ?_; intro v2 w5 ho2 hb2 hg2 hn2; obtain ⟨A5, c5, e5⟩ := Kd.R_slice ho2; subst e5; have H5 := Aside0.mk (And.intro ho2 (And.intro hb2 (And.intro hg2 hn2))); clear ho2 hb2 hg2 hn2))
        go_roundg (gk - 1)
        case measure => have := HI.out; omega
        case rel =>
          obtain ⟨o1, o2⟩ := HO.out
          obtain ⟨q1, q2⟩ := H4.out
          obtain ⟨p1, p2, p3, p4⟩ := H5.out
          have hlt := Kd.R_lt o1
          have hs4 := q2.size
          have hs5 := p3.size
          have hsr := HR.out.1.size
          have old : ∀ b, w.heap.size ≤ b ∧ b < wr.heap.size ∧ some b ≠ (Value.slice A1 js.length c1).ownBlock → w5.heap[b]? = wr.heap[b]? := fun b hb => (p3.block b (by omega) hb.2.2).trans (q2.block b hb.2.1)
          have new : ∀ b, wr.heap.size ≤ b ∧ b < w4.heap.size → w5.heap[b]? = w4.heap[b]? := fun b hb => p3.block b (by omega) (fun he => by have := hlt b he.symm; omega)
          try rw [show js.length + 1 = (js ++ [Z]).length by simp]
          refine ⟨i + 1, js ++ [Z], A5, c5, done.app (.cons r' k' ks .nil), by have := HI.out; omega, by go_num, rfl, by have := HL.out; simp; omega, p1, ?_, p2, ?_⟩
          · refine OwnF.snoc (q1.move new) done _ js ?_ ?_ ?_ (o2.move _ _ _ old)
            · rintro b ⟨h1, h2, h4⟩
              refine ⟨h1, by omega, fun he => ?_⟩
              rcases p4 with p4 | ⟨b5, p4, p5⟩
              · rw [p4] at he; exact h4 he
              · rw [p4] at he; injection he with he; omega
            · rintro b ⟨h1, h2⟩
              refine ⟨by omega, by omega, fun he => ?_⟩
              rcases p4 with p4 | ⟨b5, p4, p5⟩
              · rw [p4] at he; have := hlt b he.symm; omega
              · rw [p4] at he; injection he with he; omega
            · rintro b ⟨_, h2, _⟩ ⟨h3, _⟩
              omega
          · rw [app_assoc]
            simp only [F.app]
            rw [← HD.out]
            exact HR.out.2
      · have t1 : decide ((i : Int) < (qs.length : Int)) = false := by simp; omega
        have hie : i = qs.length := by have := HI.out; omega
        have HDN : Aside0 (kids = done) := ⟨by
          have h1 := HK.out.len kids qs
          have h2 := HR.out.2
          rw [hie, h1, app_nil] at h2
          exact h2⟩
        obtain ⟨_, g1, g2⟩ := Kd.R_reads' HO.out.1
        have CN := Aside0.mk (node_own wr r A1 c1 js done _ (by have := HL.out; have := HQL.out; omega) g2 g1 HO.out.2 (fun b hb => hb.2.1))
        have x0 := HXr.out.c0
        have x2 := HXr.out.c2
        clear g1 g2 hie
        go_wp2_with fail
        go_at_call 31
        refine CN.out.mono ?_
        rintro e w6 ⟨Z, rfl, hO, hb6⟩
        have H6 := Aside0.mk (And.intro hO hb6)
        clear hO hb6 CN
        go_wp2_with fail
        go_ret
        have hs6 := H6.out.2.size
        have hsr := HR.out.1.size
        rw [HK0.out, HDN.out]
        exact ⟨Z, rfl, H6.out.1.mono (fun b hb => hb.elim (fun hb => ⟨hb.1, by have := hb.2.1; omega⟩) (fun hb => ⟨by have := hb.1; omega, hb.2⟩)), HR.out.1.trans (H6.out.2.mono HR.out.1.size)⟩
theorem remade_calls (B : World) (t : Nat) (rs : List U.SR) (f : F) : AllF (RemC B t rs) f := AllF.of (remade_node B t rs) f
end Go.Proofs.YtjhemobplcelbaaGreatDoor.T
