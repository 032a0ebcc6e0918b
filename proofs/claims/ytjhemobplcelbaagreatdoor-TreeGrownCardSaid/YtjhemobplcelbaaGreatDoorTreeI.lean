/- tree: build of donatuslaw13, walked. -/
import Derived.Test.YtjhemobplcelbaaGreatDoorTreeH
namespace Go.Proofs.YtjhemobplcelbaaGreatDoor.T
open Go.RowKit Go.Proofs.YtjhemobplcelbaaGreatDoorW.PrintWords Go.Proofs.YtjhemobplcelbaaGreatDoorW.PrintLast Go.Proofs.YtjhemobplcelbaaGreatDoorW.PrintMore
set_option linter.unusedVariables false
set_option linter.unusedSimpArgs false
/-- What build answers from the i-th shape on, d levels above the last. -/
def BuildC (l : List S87) (A : Option Addr) (c : Nat) (d : Nat) : Prop := ∀ (deep i : Nat), d + deep = 13 → i < 60 → ∀ (w : World), Kd.C k87 w A l.length l →
  Calls Tryz.prog 16 #[.slice A l.length c, .int .i64 (i : Int), .int .i64 (deep : Int)] w fun e w' => ∃ X, e = .returned (.tuple #[.pointer (some ⟨X, 0, none⟩), .int .i64 ((bld l d i).2 : Int)]) ∧ OwnN w' (fun b => w.heap.size ≤ b ∧ b < w'.heap.size) X (bld l d i).1.1 (bld l d i).1.2.1 (bld l d i).1.2.2 ∧ Below w.heap.size w w'
def BRel (w : World) (X : Nat) (r k : Int) (b : Nat → (Int × Int × F) × Nat) (n i0 : Nat) (kq : Nat) (v1 v10 : Value) (w' : World) : Prop := ∃ (j i' : Nat) (A : Option Addr) (c : Nat) (js : List Nat) (done : F), j + kq = n ∧ v10 = .int .i64 (j : Int) ∧ v1 = .int .i64 (i' : Int) ∧ Node3 w' X (.int .i64 r) (.int .i64 k) (.slice A js.length c) ∧ js.length ≤ j ∧ Kd.R kP 37 w' w.heap.size (fun b => b ≠ X) (.slice A js.length c) js ∧
  OwnF w' done (fun b => w.heap.size ≤ b ∧ b < w'.heap.size ∧ b ≠ X ∧ some b ≠ (Value.slice A js.length c).ownBlock) js ∧ Below w.heap.size w w' ∧ bldK b n i0 = (done.app (bldK b (n - j) i').1, (bldK b (n - j) i').2) ∧ i' ≤ 60
theorem Node3.put2 {W : World} {X : Nat} {a b c : Value} (h : Node3 W X a b c) (v : Value) : Node3 (W.setCell ⟨X, 2, none⟩ v) X a b v := by
  refine ⟨?_⟩
  rw [setCell_eq_setRow W X 2 #[a, b, c] 61 (0, 0) v h.heap]
  exact setRow_heap W X #[a, b, c] _ 61 (0, 0) h.heap
theorem bldK_stop {b : Nat → (Int × Int × F) × Nat} {n i : Nat} (h : n = 0 ∨ 60 ≤ i) : bldK b n i = (.nil, i) := by
  cases n with
  | zero => rfl
  | succ n => simp only [bldK]; rw [if_neg (by omega)]
theorem bldK_go {b : Nat → (Int × Int × F) × Nat} {n i : Nat} (h : 0 < n) (h2 : i < 60) : bldK b n i = (F.cons (b i).1.1 (b i).1.2.1 (b i).1.2.2 (bldK b (n - 1) (b i).2).1, (bldK b (n - 1) (b i).2).2) := by
  cases n with
  | zero => exact absurd h (Nat.lt_irrefl 0)
  | succ n => simp only [bldK]; rw [if_pos h2]; rfl
theorem OwnN.leaf {w : World} {S : Nat → Prop} {X : Nat} {r k : Int} (hX : S X) (h : Node3 w X (.int .i64 r) (.int .i64 k) (.slice none 0 0)) : OwnN w S X r k .nil := ⟨hX, none, 0, [], fun _ => False, h.heap, Kd.R_nil _ _ _ _ _, fun b hb => hb.elim, rfl⟩
set_option maxRecDepth 100000 in
set_option maxHeartbeats 4000000 in
theorem build_last (l : List S87) (A : Option Addr) (c d deep i : Nat) (hd : deep ≤ 13) (hi : i ≤ 60) (hx : l.length ≤ i ∨ 12 < deep) (w : World) :
    Calls Tryz.prog 16 #[.slice A l.length c, .int .i64 (i : Int), .int .i64 (deep : Int)] w fun e w' => ∃ X, e = .returned (.tuple #[.pointer (some ⟨X, 0, none⟩), .int .i64 ((i + 1 : Nat) : Int)]) ∧ OwnN w' (fun b => w.heap.size ≤ b ∧ b < w'.heap.size) X (-1) 0 .nil ∧ Below w.heap.size w w' := by
  have hb := below_alloc (Below.refl w.heap.size w) (.cells #[.int .i64 (-1), .int .i64 0, .slice none 0 0] 61)
  have hn := Node3.new w (.int .i64 (-1)) (.int .i64 0) (.slice none 0 0)
  have H : Aside0 (OwnN (w.alloc (.cells #[.int .i64 (-1), .int .i64 0, .slice none 0 0] 61)) (fun b => w.heap.size ≤ b ∧ b < (w.alloc (.cells #[.int .i64 (-1), .int .i64 0, .slice none 0 0] 61)).heap.size) w.heap.size (-1) 0 .nil ∧ Below w.heap.size w (w.alloc (.cells #[.int .i64 (-1), .int .i64 0, .slice none 0 0] 61))) := ⟨OwnN.leaf ⟨Nat.le_refl _, hn.lt⟩ hn, hb⟩
  have hw : IntKind.i64.wrap ((i : Int) + 1) = (i : Int) + 1 := by rw [IntKind.wrap_i64]; omega
  clear hb hn
  by_cases hl : l.length ≤ i
  · have t1 : decide ((i : Int) ≥ (l.length : Int)) = true := by simp; omega
    go_enter Tryz.func16, Tryz.ntmps16
    go_wp2_with fail
    go_ret2
    exact ⟨_, rfl, H.out⟩
  · have hd2 : 12 < deep := hx.resolve_left hl
    have t1 : decide ((i : Int) ≥ (l.length : Int)) = false := by simp; omega
    have t2 : decide ((deep : Int) > 12) = true := by simp; omega
    go_enter Tryz.func16, Tryz.ntmps16
    go_wp2_with fail
    go_ret2
    exact ⟨_, rfl, H.out⟩
set_option maxRecDepth 100000 in
set_option maxHeartbeats 4000000 in
theorem build_node (l : List S87) (A : Option Addr) (c : Nat) (d : Nat) (ih : BuildC l A c d) : BuildC l A c (d + 1) := by
  intro deep i hd hi w hr
  by_cases hl : l.length ≤ i
  · have e : bld l (d + 1) i = ((-1, 0, .nil), i + 1) := by simp only [bld]; rw [dif_neg (by omega)]
    rw [e]
    exact build_last l A c d deep i (by omega) (by omega) (.inl hl) w
  · have hil : i < l.length := by omega
    have e : bld l (d + 1) i = ((l[i].f0, l[i].f1, (bldK (bld l d) (kn l[i]) (i + 1)).1), (bldK (bld l d) (kn l[i]) (i + 1)).2) := by simp only [bld]; rw [dif_pos hil]
    rw [e]
    obtain ⟨ad, rfl, c0, c1, c2⟩ := shape_at hr i hil
    have HIH := Aside0.mk ih
    have HR := Aside0.mk hr
    have hkn : (if l[i].f0 = -1 then (0 : Int) else Int.tmod (Int.tmod l[i].f2 4 + 4) 4) = (kn l[i] : Int) := by
      have h1 := Int.tmod_nonneg (a := Int.tmod l[i].f2 4 + 4) (4 : Int) (by have := Int.lt_tmod_of_pos l[i].f2 (show (0 : Int) < 4 by decide); omega)
      unfold kn
      split
      · rfl
      · omega
    have hw0 : IntKind.i64.wrap (Int.tmod l[i].f2 4 + 4) = Int.tmod l[i].f2 4 + 4 := by
      have h1 := Int.lt_tmod_of_pos l[i].f2 (show (0 : Int) < 4 by decide)
      have h2 := Int.tmod_lt_of_pos l[i].f2 (show (0 : Int) < 4 by decide)
      rw [IntKind.wrap_i64]; omega
    have hw1 : IntKind.i64.wrap ((i : Int) + 1) = ((i + 1 : Nat) : Int) := by rw [IntKind.wrap_i64]; omega
    have t1 : decide ((i : Int) ≥ (l.length : Int)) = false := by simp; omega
    have t2 : decide ((deep : Int) > 12) = false := by simp; omega
    have hil2 : (i : Int) < (l.length : Int) := by omega
    have HD := Aside0.mk hd
    have HI := Aside0.mk (And.intro hi hil)
    have hkl := kn_le l[i]
    generalize hr0 : l[i].f0 = r0 at *
    generalize hk0 : l[i].f1 = k0 at *
    generalize hs0 : l[i].f2 = s0 at *
    generalize hn0 : kn l[i] = n0 at *
    clear hr0 hk0 hs0 hn0 hr ih e
    go_enter Tryz.func16, Tryz.ntmps16
    go_upto_region 3 with fail
    go_cut [8] (fun v8 wx => ∃ X, v8 = .pointer (some ⟨X, 0, none⟩) ∧ w.heap.size ≤ X ∧ Node3 wx X (.int .i64 r0) (.int .i64 k0) (.slice none 0 0) ∧ Below w.heap.size w wx ∧ wx.heap.size = X + 1)
    case first =>
      go_region_with fail
      all_goals (go_wp2_with fail; go_meet; exact ⟨w.heap.size, rfl, Nat.le_refl _, Node3.new w.drew _ _ _, below_alloc (below_drew1 (Below.refl _ _)) _, by simp⟩)
    case rest =>
      obtain ⟨X, rfl, hX, hN, hB, hsz⟩ := hcut
      have HX := Aside0.mk (And.intro hX (And.intro hN (And.intro hB hsz)))
      have x0 := hN.c0
      have d2 := pw_cell_below hB c2
      clear hX hN hB hsz c0 c1 c2
      go_upto_if 48 with fail
      go_cut [9] (fun v9 wx => v9 = .int .i64 (n0 : Int) ∧ wx = wc)
      case first =>
        by_cases hr : r0 = -1
        · have e1 : (r0 == -1) = true := by simpa using hr
          rw [if_pos hr] at hkn
          rw [e1]
          clear hr
          go_wp2_with fail
          go_meet
          exact ⟨by rw [← hkn], rfl⟩
        · have e1 : (r0 == -1) = false := by simpa using hr
          rw [if_neg hr] at hkn
          rw [e1]
          clear hr
          go_wp2_with fail
          go_meet
          exact ⟨by rw [← hkn], rfl⟩
      case rest =>
        obtain ⟨rfl, rfl⟩ := hcut
        obtain ⟨dp, hdp⟩ : ∃ dp, dp = deep + 1 := ⟨_, rfl⟩
        have hw2 : IntKind.i64.wrap ((deep : Int) + 1) = (dp : Int) := by have := HD.out; rw [IntKind.wrap_i64]; omega
        have HDP := Aside0.mk hdp
        clear hdp hkn hw0 d2 x0 t1 t2 hil2
        go_wp2_with fail
        go_loopg [1, 10] n0 (fun kq v1 v10 w' => BRel w X r0 k0 (bld l d) n0 (i + 1) kq v1 v10 w')
        case atStart => exact ⟨0, i + 1, none, 0, [], .nil, by omega, rfl, rfl, HX.out.2.1, Nat.le_refl _, Kd.R_nil _ _ _ _ _, rfl, HX.out.2.2.1, by simp [F.app], by have := HI.out; omega⟩
        case round =>
          obtain ⟨j, i', A1, c1, js, done, hj, rfl, rfl, hn, hjl, ho, hO, hb, hs, hi'⟩ := hrel
          have HJ := Aside0.mk hj
          have HN := Aside0.mk hn
          have HO := Aside0.mk (And.intro ho hO)
          have HB := Aside0.mk hb
          have HS := Aside0.mk hs
          have HL := Aside0.mk (And.intro hjl hi')
          have hjn := hn.c2
          have hXlt := hn.lt
          clear hj hn ho hO hb hs hi' hjl
          by_cases hgo : j < n0 ∧ i' < 60
          · have t1 : decide ((j : Int) < (n0 : Int)) = true := by simp; omega
            have t2 : decide ((i' : Int) < 60) = true := by simp; omega
            have HGO := Aside0.mk hgo
            have hj1 : j < n0 := hgo.1
            have hj2 : i' < 60 := hgo.2
            have C := Aside0.mk (HIH.out dp i' (by have := HD.out; have := HDP.out; omega) hgo.2 wr (Kd.C_below HR.out HB.out))
            have hle := Aside0.mk (bld_le l d i' hgo.2)
            have hgoK := bldK_go (b := bld l d) (n := n0 - j) (i := i') (by omega) hgo.2
            have HK := Aside0.mk hgoK
            clear hgo hgoK
            generalize bld l d i' = T at *
            obtain ⟨⟨tr, tk, tf⟩, ti⟩ := T
            have HXL := Aside0.mk hXlt
            have hkl3 : js.length ≤ 3 := by have := HL.out.1; have := HGO.out.1; omega
            have HWS : Aside0 (w.heap.size ≤ wr.heap.size) := ⟨HB.out.size⟩
            go_wp2_with (first
              | (go_at_call 16; refine C.out.mono ?_; rintro e w4 ⟨Z, rfl, hO4, hb4⟩; have H4 := Aside0.mk (And.intro hO4 hb4); have z2 := (HN.out.move hb4 HXL.out).c2; have H4Z : Aside0 (w.heap.size ≤ w4.heap.size) := ⟨Nat.le_trans HWS.out hb4.size⟩; clear hO4 hb4)
              | (at_builtin; refine Kd.R_append kP (w0 := w) w.heap.size rfl (.tmp 72) (.tmp 74) 59 37 (.pointer none) 8 rfl Tryz.underlying59 infoP rfl (by decide) (by omega) _ js Z [.pointer (some ⟨Z, 0, none⟩)] (fun b => b ≠ X) (fun _ => False) rfl rfl (show Kd.M kP _ _ _ _ [pv Z] from rfl) (fun _ h => h.elim) (fun k hk => by have := HXL.out; have := H4.out.2.size; omega) (Kd.R_below HO.out.1 H4.out.2) (HB.out.trans (H4.out.2.mono HB.out.size)) H4Z.out (by omega) ?_; intro v2 w5 ho2 hb2 hg2 hn2; obtain ⟨A5, c5, e5⟩ := Kd.R_slice ho2; subst e5; have H5 := Aside0.mk (And.intro ho2 (And.intro hb2 (And.intro hg2 hn2))); have HN5 : Aside0 (Node3 w5 X (.int .i64 r0) (.int .i64 k0) (.slice A1 js.length c1)) := ⟨⟨(hg2.block X (Nat.lt_of_lt_of_le HXL.out H4.out.2.size) (fun he => HO.out.1.1 X he.symm rfl)).trans (HN.out.move H4.out.2 HXL.out).heap⟩⟩; have z3 := HN5.out.fz 2; have z4 := HN5.out.c2; clear ho2 hb2 hg2 hn2))
            go_roundg (gk - 1)
            case measure => have := HJ.out; have := HGO.out; omega
            case rel =>
              obtain ⟨o1, o2⟩ := HO.out
              obtain ⟨q1, q2⟩ := H4.out
              obtain ⟨p1, p2, p3, p4⟩ := H5.out
              have hX1 := HX.out.1
              have hXlt := HXL.out
              have hlt := Kd.R_lt o1
              have hs4 := q2.size
              have hs5 := p3.size
              have old : ∀ b, w.heap.size ≤ b ∧ b < wr.heap.size ∧ b ≠ X ∧ some b ≠ (Value.slice A1 js.length c1).ownBlock → (w5.setCell ⟨X, 2, none⟩ (.slice A5 (js ++ [Z]).length c5)).heap[b]? = wr.heap[b]? := fun b hb => ((Below.heap_setCell w5 ⟨X, 2, none⟩ _ b hb.2.2.1).trans (p3.block b (by omega) hb.2.2.2)).trans (q2.block b hb.2.1)
              have new : ∀ b, wr.heap.size ≤ b ∧ b < w4.heap.size → (w5.setCell ⟨X, 2, none⟩ (.slice A5 (js ++ [Z]).length c5)).heap[b]? = w4.heap[b]? := fun b hb => (Below.heap_setCell w5 ⟨X, 2, none⟩ _ b (by show b ≠ X; omega)).trans (p3.block b (by omega) (fun he => by have := hlt b he.symm; omega))
              rw [show js.length + 1 = (js ++ [Z]).length by simp]
              refine ⟨j + 1, ti, A5, c5, js ++ [Z], done.app (.cons tr tk tf .nil), by have := HJ.out; have := HGO.out; omega, by go_num, rfl, HN5.out.put2 _, by have := HL.out.1; simp; omega, Kd.R_move p1 (fun b hb => Below.heap_setCell w5 ⟨X, 2, none⟩ _ b hb), ?_, p2.setCell (p := ⟨X, 2, none⟩) hX1 _, ?_, hle.out.2.1⟩
              · refine OwnF.snoc (q1.move new) done _ js ?_ ?_ ?_ (o2.move _ _ _ old)
                · rintro b ⟨h1, h2, h3, h4⟩
                  refine ⟨h1, by simp only [World.size_setCell]; omega, h3, fun he => ?_⟩
                  rcases p4 with p4 | ⟨b5, p4, p5⟩
                  · rw [p4] at he; exact h4 he
                  · rw [p4] at he; injection he with he; omega
                · rintro b ⟨h1, h2⟩
                  refine ⟨by have := HWS.out; omega, by simp only [World.size_setCell]; omega, by omega, fun he => ?_⟩
                  rcases p4 with p4 | ⟨b5, p4, p5⟩
                  · rw [p4] at he; have := hlt b he.symm; omega
                  · rw [p4] at he; injection he with he; omega
                · rintro b ⟨_, h2, _, _⟩ ⟨h3, _⟩
                  omega
              · rw [HS.out, HK.out, app_assoc]
                simp only [F.app]
                rw [show n0 - (j + 1) = n0 - j - 1 by omega]
          · have HE : Aside0 (bldK (bld l d) n0 (i + 1) = (done, i')) := ⟨by
              rw [HS.out, bldK_stop (by have := HJ.out; omega), app_nil]⟩
            have HF : Aside0 (OwnN wr (fun b => w.heap.size ≤ b ∧ b < wr.heap.size) X r0 k0 done ∧ Below w.heap.size w wr) := ⟨⟨⟨HX.out.1, hXlt⟩, A1, c1, js, _, HN.out.heap, Kd.R_mono (Kd.R_lower (Kd.R_bound HO.out.1) (Nat.zero_le _)) (fun b hb => ⟨⟨hb.2.1, hb.2.2.1⟩, hb.1⟩), fun b hb => ⟨⟨hb.1, hb.2.1⟩, hb.2.2.1, hb.2.2.2⟩, HO.out.2⟩, HB.out⟩
            by_cases hjn2 : j < n0
            · have t1 : decide ((j : Int) < (n0 : Int)) = true := by simp; omega
              have t2 : decide ((i' : Int) < 60) = false := by simp; omega
              go_wp2_with fail
              go_ret2
              rw [HE.out]
              exact ⟨X, rfl, HF.out⟩
            · have t1 : decide ((j : Int) < (n0 : Int)) = false := by simp; omega
              go_wp2_with fail
              go_ret2
              rw [HE.out]
              exact ⟨X, rfl, HF.out⟩
theorem build_calls (l : List S87) (A : Option Addr) (c : Nat) : ∀ d, BuildC l A c d := by
  intro d
  induction d with
  | zero => intro deep i hd hi w _; exact build_last l A c 0 deep i (by omega) (by omega) (.inr (by omega)) w
  | succ d ih => exact build_node l A c d ih
end Go.Proofs.YtjhemobplcelbaaGreatDoor.T
