/- tree: grow of donatuslaw13 (printed by mk_grow.py). -/
import Derived.Test.YtjhemobplcelbaaGreatDoorTreeAD
namespace Go.Proofs.YtjhemobplcelbaaGreatDoor.T
open Go.RowKit Go.Proofs.YtjhemobplcelbaaGreatDoorW.PrintWords Go.Proofs.YtjhemobplcelbaaGreatDoorW.PrintLast Go.Proofs.YtjhemobplcelbaaGreatDoorW.PrintMore
open Go.Proofs.YtjhemobplcelbaaGreatDoor.U (SR kSR rule_at int_at)
open Go.Proofs.YtjhemobplcelbaaGreatDoor.O (Bx)
set_option linter.unusedVariables false
set_option linter.unusedSimpArgs false
/-- What grow answers at a depth. -/
def GrowC (B : World) (AT LF t : Nat) (n sq ex : Int) (v4 v5 v6 : Value) (A7 : Option Addr) (c7 : Nat) (rs : List SR) (Ap : Option Addr) (cp : Nat) (ps : List Int) (deep : Nat) : Prop := ∀ (sym : Int), 0 ≤ sym → ∀ (l : Nat), l ≤ 60 → ∀ (w : World), Below B.heap.size B w → Cell1 w AT 3 (.int .i64 ((60 - l : Nat) : Int)) → Cell1 w LF 3 (.int .i64 (l : Int)) →
  Calls Tryz.prog 28 #[.agg #[.int .i64 (t : Int), .int .i64 n, .int .i64 sq, .int .i64 ex, v4, v5, v6, .slice A7 rs.length c7], .int .i64 sym, .slice Ap ps.length cp, .pointer (some ⟨AT, 0, none⟩), .pointer (some ⟨LF, 0, none⟩), .int .i64 (deep : Int)] w (GrowPost B w AT LF t rs sym l deep)
def LsRel (W1 : World) (rs : List SR) (sym : Int) (kq : Nat) (v14 v15 : Value) (w' : World) : Prop := ∃ (i : Nat) (A : Option Addr) (c : Nat) (js : List Int), i + kq = rs.length ∧ 1 ≤ i ∧ v15 = .int .i64 (i : Int) ∧ v14 = .slice A js.length c ∧ js.length + 1 ≤ i ∧ Kd.R (Kd.int .i64) 3 w' W1.heap.size (fun _ => True) (.slice A js.length c) js ∧ (∀ x ∈ js, 1 ≤ x ∧ x < (rs.length : Int) ∧ (ruOf rs x).f0 = sym) ∧ Below W1.heap.size W1 w'
def GrRel (B w : World) (AT LF X0 X : Nat) (cs : Array Value) (t : Nat) (rs : List SR) (deep : Nat) (x : Int) (xs : List Int) (l0 : Nat) (kq : Nat) (v19 : Value) (w' : World) : Prop := ∃ (i l' : Nat) (A : Option Addr) (c : Nat) (js : List Nat) (done : F), i + kq = xs.length ∧ v19 = .int .i64 (i : Int) ∧ Node3 w' X (.int .i64 x) (.int .i64 0) (.slice A js.length c) ∧ js.length = i ∧ Kd.R kP 37 w' B.heap.size (fun b => w.heap.size ≤ b ∧ b ≠ X ∧ b ≠ X0) (.slice A js.length c) js ∧
  OwnF w' done (fun b => w.heap.size ≤ b ∧ b < w'.heap.size ∧ b ≠ X ∧ some b ≠ (Value.slice A js.length c).ownBlock) js ∧ Cell1 w' AT 3 (.int .i64 ((60 - l' : Nat) : Int)) ∧ Cell1 w' LF 3 (.int .i64 (l' : Int)) ∧ Keep2 AT LF w w' ∧ Below B.heap.size B w' ∧ Bx w' X0 cs 32 ∧ l' ≤ l0 ∧ done.len = i ∧ done.chk t rs xs = true ∧ done.nodes ≤ i + 6 * (l0 - l') ∧ done.height + deep ≤ 13
set_option maxRecDepth 100000 in
set_option maxHeartbeats 8000000 in
theorem grow_node (B : World) (AT LF t : Nat) (n sq ex : Int) (v4 v5 v6 : Value) (A7 : Option Addr) (c7 : Nat) (rs : List SR) (Ap : Option Addr) (cp : Nat) (ps : List Int) (hne : AT ≠ LF) (hA : B.heap.size ≤ AT) (hL : B.heap.size ≤ LF) (hru : Kd.C kSR B A7 rs.length rs) (hrl : 1 ≤ rs.length ∧ rs.length ≤ 31) (hr6 : ∀ r ∈ rs, r.f1.length ≤ 6 ∧ ∀ x ∈ r.f1, 0 ≤ x) (hps : Kd.C (Kd.int .i64) B Ap ps.length ps) (deep : Nat) (hd : deep ≤ 13) (ih : deep ≤ 12 → GrowC B AT LF t n sq ex v4 v5 v6 A7 c7 rs Ap cp ps (deep + 1)) : GrowC B AT LF t n sq ex v4 v5 v6 A7 c7 rs Ap cp ps deep := by
  intro sym hsym l hl w hb hat hlf
  obtain ⟨a, ha⟩ : ∃ a, a = 60 - l := ⟨_, rfl⟩
  rw [← ha] at hat
  obtain ⟨dp, hdp⟩ : ∃ dp, dp = deep + 1 := ⟨_, rfl⟩
  rw [← hdp] at ih
  have HAE := Aside0.mk (And.intro ha hdp)
  have HP := Aside0.mk (And.intro hne (And.intro hA hL))
  have HRU := Aside0.mk (And.intro hru (And.intro hrl hr6))
  have HPS := Aside0.mk hps
  have HIH := Aside0.mk ih
  have HD := Aside0.mk hd
  have HSY := Aside0.mk hsym
  have HLL := Aside0.mk hl
  have hb1 := below_alloc (Below.refl w.heap.size w) (.cells #[.int .i64 (t : Int), .int .i64 n, .int .i64 sq, .int .i64 ex, v4, v5, v6, .slice A7 rs.length c7] 32)
  have hx := Bx.new w #[.int .i64 (t : Int), .int .i64 n, .int .i64 sq, .int .i64 ex, v4, v5, v6, .slice A7 rs.length c7] 32
  have HC := Aside0.mk (And.intro hb (And.intro hat hlf))
  have HWA : Aside0 (AT < w.heap.size ∧ LF < w.heap.size) := ⟨hat.lt, hlf.lt⟩
  have HWB : Aside0 (B.heap.size ≤ w.heap.size) := ⟨hb.size⟩
  clear hru hrl hr6 hps ih hat hlf hb hne hA hL ha hdp
  go_enter Tryz.func28, Tryz.ntmps28
  go_upto_region 1 with fail
  obtain ⟨X0, hX⟩ : ∃ X, X = w.heap.size := ⟨_, rfl⟩
  rw [← hX] at hx
  rw [← hX]
  have HX0 := Aside0.mk hX
  have HX := Aside0.mk hx
  have HB := Aside0.mk hb1
  generalize w.alloc (.cells #[.int .i64 (t : Int), .int .i64 n, .int .i64 sq, .int .i64 ex, v4, v5, v6, .slice A7 rs.length c7] 32) = W1 at *
  have HC1 : Aside0 (Below B.heap.size B W1 ∧ Cell1 W1 AT 3 (.int .i64 (a : Int)) ∧ Cell1 W1 LF 3 (.int .i64 (l : Int)) ∧ Keep2 AT LF w W1) := ⟨HC.out.1.trans (HB.out.mono HC.out.1.size), HC.out.2.1.move HB.out HWA.out.1, HC.out.2.2.move HB.out HWA.out.2, Keep2.of HB.out⟩
  have s0 := HX.out.c 0 rfl
  clear hx hb1 hX
  by_cases hst : sym < (t : Int)
  · have t1 : decide (sym < (t : Int)) = true := decide_eq_true hst
    have hn := Node3.new W1 (.int .i64 (-1)) (.int .i64 sym) (.slice none 0 0)
    have hbn := below_alloc (Below.refl W1.heap.size W1) (.cells #[.int .i64 (-1), .int .i64 sym, .slice none 0 0] 61)
    have HN := Aside0.mk (And.intro hn hbn)
    have HST := Aside0.mk hst
    clear hn hbn hst
    go_wp2_with fail
    go_ret2
    have e1 : chkT t rs (-1) sym .nil = true := by
      unfold chkT
      rw [if_pos rfl]
      exact decide_eq_true ⟨HSY.out, HST.out, rfl⟩
    exact ⟨HC1.out.1.trans (HN.out.2.mono HC1.out.1.size), HC1.out.2.2.2.trans (Keep2.of HN.out.2), .inr ⟨_, -1, sym, .nil, l, rfl, OwnN.leaf ⟨HB.out.size, HN.out.1.lt⟩ HN.out.1, e1, fun _ => rfl, fun h => absurd h (by decide), Nat.le_refl _, by simp [F.nodes], by have := HD.out; simp only [F.height]; omega, by rw [← HAE.out.1]; exact HC1.out.2.1.move HN.out.2 HC1.out.2.1.lt, HC1.out.2.2.1.move HN.out.2 HC1.out.2.2.1.lt⟩⟩
  · have t1 : decide (sym < (t : Int)) = false := decide_eq_false hst
    clear hst
    go_upto_region 4 with fail
    clear t1 s0
    have HW1 := Aside0.mk (Below.refl W1.heap.size W1)
    go_wp2_with fail
    go_loopg [14, 15] (rs.length - 1) (fun kq v14 v15 w' => LsRel W1 rs sym kq v14 v15 w')
    case atStart => exact ⟨1, none, 0, [], by have := HRU.out.2.1; omega, Nat.le_refl _, rfl, rfl, by simp, Kd.R_nil _ _ _ _ _, by simp, HW1.out⟩
    case round =>
      obtain ⟨i, A1, c1, js, hi, hi1, rfl, rfl, hjl, ho, hjs, hbr⟩ := hrel
      have HI := Aside0.mk (And.intro hi (And.intro hi1 hjl))
      have HO := Aside0.mk (And.intro ho (And.intro hjs hbr))
      have HXr := Aside0.mk (HX.out.move hbr HX.out.lt)
      have HBr := Aside0.mk (HC1.out.1.trans (hbr.mono HC1.out.1.size))
      have s7 := HXr.out.c 7 rfl
      have hrl1 : rs.length ≤ 31 := HRU.out.2.1.2
      clear hi hi1 hjl ho hjs hbr
      by_cases hil : i < rs.length
      · have t1 : decide ((i : Int) < (rs.length : Int)) = true := by simp; omega
        obtain ⟨ad, Ar, cr, rfl, c0, c1', c2', c3', _, _⟩ := rule_at HRU.out.1 i hil
        have d0 := pw_cell_below HBr.out c0
        have hin : (i : Int) < (rs.length : Int) := by omega
        have hjl31 : js.length ≤ 31 := by have := HI.out; omega
        have HE0 := Aside0.mk (ruOf_at rs i hil)
        obtain ⟨x0, hx0⟩ : ∃ x, x = rs[i].f0 := ⟨_, rfl⟩
        rw [← hx0] at d0
        clear c0 c1' c2' c3'
        by_cases heq : x0 = sym
        · have t2 : (x0 == sym) = true := by simpa using heq
          have HE := Aside0.mk (And.intro hx0 heq)
          have HIL := Aside0.mk hil
          clear heq hx0
          go_wp2_with (first
            | (at_builtin; refine Kd.R_append (Kd.int .i64) (w0 := W1) W1.heap.size rfl (.tmp 44) (.tmp 46) 29 3 (.int .i64 0) 8 rfl Tryz.underlying29 infoI rfl (by decide) (by omega) _ js (i : Int) [.int .i64 (i : Int)] (fun _ => True) (fun _ => False) rfl rfl (show Kd.M (Kd.int .i64) _ _ _ _ [.int .i64 (i : Int)] from rfl) (fun _ h => h.elim) (fun _ _ => trivial) HO.out.1 HO.out.2.2 HO.out.2.2.size (by omega) ?_; intro v2 w5 ho2 hb2 hg2 hn2; obtain ⟨A5, c5, e5⟩ := Kd.R_slice ho2; subst e5; have H5 := Aside0.mk (And.intro ho2 hb2); clear ho2 hb2 hg2 hn2))
          go_roundg (gk - 1)
          case measure => have := HI.out; omega
          case rel =>
            have h1 := HI.out
            refine ⟨i + 1, A5, c5, js ++ [(i : Int)], by omega, by omega, by go_num, ?_, by simp; omega, ?_, ?_, H5.out.2⟩
            · simp
            · exact H5.out.1
            · intro x hx
              rcases List.mem_append.1 hx with hx | hx
              · exact HO.out.2.1 x hx
              · rw [List.mem_singleton.1 hx]
                exact ⟨by omega, by have := HIL.out; omega, by rw [HE0.out, ← HE.out.1, HE.out.2]⟩
        · have t2 : (x0 == sym) = false := by simpa using heq
          clear heq hx0
          go_wp2_with fail
          go_roundg (gk - 1)
          case measure => have := HI.out; omega
          case rel =>
            have h1 := HI.out
            exact ⟨i + 1, A1, c1, js, by omega, by omega, by go_num, rfl, by omega, HO.out.1, HO.out.2.1, HO.out.2.2⟩
      · have t1 : decide ((i : Int) < (rs.length : Int)) = false := by simp; omega
        have HAc := Aside0.mk (HC1.out.2.1.move HO.out.2.2 HC1.out.2.1.lt)
        have HLc := Aside0.mk (HC1.out.2.2.1.move HO.out.2.2 HC1.out.2.2.1.lt)
        have HKr := Aside0.mk (HC1.out.2.2.2.trans (Keep2.of HO.out.2.2))
        have y0 := HLc.out.c
        have y1 := HLc.out.fz 0
        obtain ⟨m, hm⟩ : ∃ m : Int, m = (l : Int) - 1 := ⟨_, rfl⟩
        have hw1 : IntKind.i64.wrap ((l : Int) - 1) = m := by have := HLL.out; rw [IntKind.wrap_i64]; omega
        have HM := Aside0.mk hm
        have hjl31 : js.length ≤ 31 := by have := HI.out; omega
        clear hm
        go_upto_region 10 with fail
        have HF : Aside0 (Below B.heap.size B (wr.setCell ⟨LF, 0, none⟩ (.int .i64 m)) ∧ Keep2 AT LF w (wr.setCell ⟨LF, 0, none⟩ (.int .i64 m))) := ⟨HBr.out.setCell (p := ⟨LF, 0, none⟩) HP.out.2.2 _, HKr.out.set2 _⟩
        have HL2 := Aside0.mk (HLc.out.set (.int .i64 m))
        have HA2 := Aside0.mk (HAc.out.far HP.out.1 0 (.int .i64 m))
        have HX2 := Aside0.mk (HXr.out.far ⟨LF, 0, none⟩ (by have := HX0.out; have := HWA.out.2; show X0 ≠ LF; omega) (.int .i64 m))
        have HO2 : Aside0 (Kd.R (Kd.int .i64) 3 (wr.setCell ⟨LF, 0, none⟩ (.int .i64 m)) W1.heap.size _ (.slice A1 js.length c1) js) := ⟨Kd.R_move (Kd.R_bound HO.out.1) (fun b hb => Below.heap_setCell _ _ _ _ (by have := HC1.out.2.2.1.lt; have := hb.2.1; show b ≠ LF; omega))⟩
        generalize wr.setCell ⟨LF, 0, none⟩ (.int .i64 m) = W2 at *
        clear y0 y1 hw1 s7
        have y0 := HL2.out.c
        by_cases hbad : m < 0
        · have t2 : decide (m < 0) = true := decide_eq_true hbad
          clear hbad
          go_wp2_with fail
          go_ret2
          exact ⟨HF.out.1, HF.out.2, .inl rfl⟩
        have t2 : decide (m < 0) = false := decide_eq_false hbad
        have HM0 := Aside0.mk hbad
        clear hbad
        by_cases hbad : 12 < deep
        · have t3 : decide ((deep : Int) > 12) = true := by simp; omega
          clear hbad
          go_wp2_with fail
          go_ret2
          exact ⟨HF.out.1, HF.out.2, .inl rfl⟩
        have t3 : decide ((deep : Int) > 12) = false := by simp; omega
        have HD12 := Aside0.mk hbad
        clear hbad
        by_cases hbad : js.length = 0
        · have t4 : ((js.length : Int) == 0) = true := beq_iff_eq.2 (by omega)
          clear hbad
          go_wp2_with fail
          go_ret2
          exact ⟨HF.out.1, HF.out.2, .inl rfl⟩
        have t4 : ((js.length : Int) == 0) = false := beq_eq_false_iff_ne.2 (by omega)
        have HJ0 := Aside0.mk hbad
        clear hbad
        go_upto_region 13 with fail
        clear y0 t2 t3
        have y0 := HA2.out.c
        go_upto_if 71 with fail
        go_cut [16] (fun v16 wx => ∃ k : Int, v16 = .int .i64 k ∧ wx = W2)
        case first =>
          by_cases hap : a < ps.length
          · have t5 : decide ((a : Int) < (ps.length : Int)) = true := by simp; omega
            have hap2 : (a : Int) < (ps.length : Int) := by omega
            obtain ⟨ad2, rfl, hc⟩ := int_at HPS.out a hap
            have hc2 := pw_cell_below HF.out.1 hc
            clear hc
            go_wp2_with fail
            go_meet
            exact ⟨_, rfl, rfl⟩
          · have t5 : decide ((a : Int) < (ps.length : Int)) = false := by simp; omega
            go_wp2_with fail
            go_meet
            exact ⟨_, rfl, rfl⟩
        case rest =>
          obtain ⟨k, rfl, hwc⟩ := hcut
          subst hwc
          have y0 := HA2.out.c
          have y1 := HA2.out.fz 0
          obtain ⟨a1, ha1⟩ : ∃ x, x = a + 1 := ⟨_, rfl⟩
          have hw1 : IntKind.i64.wrap ((a : Int) + 1) = (a1 : Int) := by have := HAE.out.1; rw [IntKind.wrap_i64]; omega
          have HA1 := Aside0.mk ha1
          clear ha1
          go_upto_region 16 with fail
          have HF3 : Aside0 (Below B.heap.size B (wc.setCell ⟨AT, 0, none⟩ (.int .i64 (a1 : Int))) ∧ Keep2 AT LF w (wc.setCell ⟨AT, 0, none⟩ (.int .i64 (a1 : Int)))) := ⟨HF.out.1.setCell (p := ⟨AT, 0, none⟩) HP.out.2.1 _, HF.out.2.set1 _⟩
          have HA3 := Aside0.mk (HA2.out.set (.int .i64 (a1 : Int)))
          have HL3 := Aside0.mk (HL2.out.far (fun e => HP.out.1 e.symm) 0 (.int .i64 (a1 : Int)))
          have HX3 := Aside0.mk (HX2.out.far ⟨AT, 0, none⟩ (by have := HX0.out; have := HWA.out.1; show X0 ≠ AT; omega) (.int .i64 (a1 : Int)))
          have HO3 : Aside0 (Kd.R (Kd.int .i64) 3 (wc.setCell ⟨AT, 0, none⟩ (.int .i64 (a1 : Int))) W1.heap.size _ (.slice A1 js.length c1) js) := ⟨Kd.R_move HO2.out (fun b hb => Below.heap_setCell _ _ _ _ (by have := HC1.out.2.1.lt; have := hb.2.1; show b ≠ AT; omega))⟩
          generalize wc.setCell ⟨AT, 0, none⟩ (.int .i64 (a1 : Int)) = W3 at *
          clear y0 y1 hw1
          have hjp : (0 : Int) < (js.length : Int) := by have := HJ0.out; omega
          have h1 := Int.lt_tmod_of_pos k hjp
          have h2 := Int.tmod_lt_of_pos k hjp
          have hw2 : IntKind.i64.wrap (Int.tmod k (js.length : Int) + (js.length : Int)) = Int.tmod k (js.length : Int) + (js.length : Int) := by rw [IntKind.wrap_i64]; omega
          have h3 := Int.tmod_nonneg (a := Int.tmod k (js.length : Int) + (js.length : Int)) (js.length : Int) (by omega)
          have h4 := Int.tmod_lt_of_pos (Int.tmod k (js.length : Int) + (js.length : Int)) hjp
          obtain ⟨q, hq⟩ : ∃ q : Nat, Int.tmod (Int.tmod k (js.length : Int) + (js.length : Int)) (js.length : Int) = (q : Int) := ⟨_, (Int.toNat_of_nonneg h3).symm⟩
          have hqj : q < js.length := by omega
          have hqi : (q : Int) < (js.length : Int) := by omega
          have hjn : (js.length : Int) ≠ 0 := by omega
          obtain ⟨_, g1, g2⟩ := Kd.R_reads' HO3.out
          obtain ⟨adj, hAj, hcj⟩ := int_at g2 q hqj
          subst hAj
          obtain ⟨hx1, hx2, hx3⟩ := HO.out.2.1 js[q] (List.getElem_mem hqj)
          obtain ⟨xn, hxn⟩ : ∃ xn : Nat, js[q] = (xn : Int) := ⟨js[q].toNat, by omega⟩
          rw [hxn] at hcj hx1 hx2 hx3
          have HXN : Aside0 (1 ≤ xn ∧ xn < rs.length ∧ (ruOf rs (xn : Int)).f0 = sym) := ⟨by omega, by omega, hx3⟩
          clear h1 h2 h3 h4 g1 g2 hx1 hx2 hx3 hxn
          have hn := Node3.new W3 (.int .i64 (xn : Int)) (.int .i64 0) (.slice none 0 0)
          have hbn := below_alloc (Below.refl W3.heap.size W3) (.cells #[.int .i64 (xn : Int), .int .i64 0, .slice none 0 0] 61)
          have HNB := Aside0.mk (And.intro hn hbn)
          clear hn hbn
          go_upto_region 17 with fail
          obtain ⟨X, hXe⟩ : ∃ X, X = W3.heap.size := ⟨_, rfl⟩
          rw [← hXe]
          have HXE := Aside0.mk hXe
          have hN4 := HNB.out.1
          rw [← hXe] at hN4
          have HN4 := Aside0.mk hN4
          have HA4 := Aside0.mk (HA3.out.move HNB.out.2 HA3.out.lt)
          have HL4 := Aside0.mk (HL3.out.move HNB.out.2 HL3.out.lt)
          have HX4 := Aside0.mk (HX3.out.move HNB.out.2 HX3.out.lt)
          have HF4 : Aside0 (Below B.heap.size B _ ∧ Keep2 AT LF w _) := ⟨HF3.out.1.trans (HNB.out.2.mono HF3.out.1.size), HF3.out.2.trans (Keep2.of HNB.out.2)⟩
          have HXA : Aside0 (X0 ≠ AT ∧ X0 ≠ LF ∧ X ≠ AT ∧ X ≠ LF ∧ X ≠ X0 ∧ w.heap.size ≤ X ∧ X0 = w.heap.size) := ⟨by
            have e1 := HX0.out; have e2 := HWA.out; have e3 := HF3.out.2.size; have e4 := HX3.out.lt; omega⟩
          clear hXe hN4 hw2 hq hqj hqi hjn hjp hcj t4 HNB
          generalize W3.alloc (.cells #[.int .i64 (xn : Int), .int .i64 0, .slice none 0 0] 61) = W4 at *
          obtain ⟨ad, Ar, cr, hAd, c0, d1, c2', c3', hrc, hrC⟩ := rule_at HRU.out.1 xn HXN.out.2.1
          subst hAd
          have d2 := pw_cell_below HF4.out.1 d1
          have hxl : xn < rs.length := HXN.out.2.1
          have HXF : Aside0 (ruOf rs (xn : Int) = rs[xn]'hxl) := ⟨ruOf_at rs xn hxl⟩
          have h6 := HRU.out.2.2 (rs[xn]'hxl) (List.getElem_mem hxl)
          have hxi : (xn : Int) < (rs.length : Int) := by have := HXN.out.2.1; omega
          obtain ⟨xs, hxs⟩ : ∃ xs, xs = (rs[xn]'hxl).f1 := ⟨_, rfl⟩
          rw [← hxs] at d2 hrc hrC h6
          have HXS := Aside0.mk (And.intro hxs h6)
          have HRW := Aside0.mk hrC
          have s7 := HX4.out.c 7 rfl
          have n0 := HN4.out.c0
          clear c0 d1 c2' c3' hrC hxs h6
          obtain ⟨l1, hl1⟩ : ∃ l1 : Nat, m = (l1 : Int) := ⟨m.toNat, by have := HM0.out; omega⟩
          have HL1 : Aside0 (l = l1 + 1 ∧ a1 = 60 - l1) := ⟨by have h1 := HM.out; have h2 := HAE.out.1; have h3 := HA1.out; omega⟩
          have hxs6 : xs.length ≤ 6 := HXS.out.2.1
          go_cut [18] (fun v18 wx => v18 = .slice Ar xs.length cr ∧ wx = W4.drew)
          case first =>
            go_region_with fail
            all_goals (go_wp2_with fail; go_meet; exact ⟨rfl, rfl⟩)
          case rest =>
          obtain ⟨rfl, rfl⟩ := hcut
          have HA5 : Aside0 (Cell1 W4.drew AT 3 (.int .i64 ((60 - l1 : Nat) : Int))) := ⟨⟨by rw [← HL1.out.2]; exact HA4.out.heap⟩⟩
          have HL5 : Aside0 (Cell1 W4.drew LF 3 (.int .i64 (l1 : Int))) := ⟨⟨by rw [← hl1]; exact HL4.out.heap⟩⟩
          have HF5 : Aside0 (Below B.heap.size B W4.drew ∧ Keep2 AT LF w W4.drew ∧ Bx W4.drew X0 #[.int .i64 (t : Int), .int .i64 n, .int .i64 sq, .int .i64 ex, v4, v5, v6, .slice (some ad) rs.length c7] 32 ∧ Node3 W4.drew X (.int .i64 (xn : Int)) (.int .i64 0) (.slice none 0 0)) := ⟨below_drew1 HF4.out.1, ⟨HF4.out.2.size, HF4.out.2.block⟩, HX4.out.drew, ⟨HN4.out.heap⟩⟩
          clear s7 n0 d2 hxi
          go_wp2_with fail
          go_loopg [19] xs.length (fun kq v19 w' => GrRel B w AT LF X0 X #[.int .i64 (t : Int), .int .i64 n, .int .i64 sq, .int .i64 ex, v4, v5, v6, .slice (some ad) rs.length c7] t rs deep (xn : Int) xs l1 kq v19 w')
          case atStart => exact ⟨0, l1, none, 0, [], .nil, by omega, rfl, HF5.out.2.2.2, rfl, Kd.R_nil _ _ _ _ _, rfl, HA5.out, HL5.out, HF5.out.2.1, HF5.out.1, HF5.out.2.2.1, Nat.le_refl _, rfl, by simp [F.chk], by simp [F.nodes], by have := HD.out; simp [F.height]; omega⟩
          case round =>
            obtain ⟨i2, l2, A2, c2, js2, done, hi, rfl, hn, hjl, ho, hown, ha2, hl2, hk2, hb2, hx2, hle, hdl, hck, hnd, hht⟩ := hrel
            have HR := Aside0.mk (And.intro hb2 (And.intro ha2 hl2))
            have HKr2 := Aside0.mk hk2
            have HXr2 := Aside0.mk hx2
            have HNr := Aside0.mk hn
            have HOr := Aside0.mk (And.intro ho hown)
            have HIr := Aside0.mk (And.intro hi (And.intro hjl (And.intro hle hdl)))
            have HCk := Aside0.mk (And.intro hck (And.intro hnd hht))
            clear hi hn hjl ho hown ha2 hl2 hk2 hb2 hx2 hle hdl hck hnd hht
            by_cases hil2 : i2 < xs.length
            · have t1 : decide ((i2 : Int) < (xs.length : Int)) = true := by simp; omega
              obtain ⟨adx, hAx, hcx⟩ := int_at HRW.out i2 hil2
              subst hAx
              have hsn := HXS.out.2.2 xs[i2] (List.getElem_mem hil2)
              have HILr := Aside0.mk hil2
              have hi2i : (i2 : Int) < (xs.length : Int) := by omega
              obtain ⟨sy, hsy⟩ : ∃ sy, sy = xs[i2] := ⟨_, rfl⟩
              rw [← hsy] at hcx hsn
              have HSYr : Aside0 (∃ h : i2 < xs.length, sy = xs[i2]) := ⟨hil2, hsy⟩
              have HC3 := Aside0.mk hcx
              have C : Aside0 (∀ w', Below B.heap.size B w' → Cell1 w' AT 3 (.int .i64 ((60 - l2 : Nat) : Int)) → Cell1 w' LF 3 (.int .i64 (l2 : Int)) → _) := ⟨fun w' => HIH.out (by have := HD12.out; omega) sy hsn l2 (by have := HIr.out.2.2.1; have := HL1.out; have := HLL.out; omega) w'⟩
              have hw2 : IntKind.i64.wrap ((deep : Int) + 1) = (dp : Int) := by have := HD.out; have := HAE.out.2; rw [IntKind.wrap_i64]; omega
              clear hcx hsn hsy hil2
              go_upto_region 21 with fail
              have hS0 : Below B.heap.size B wr.drew ∧ Bx wr.drew X0 #[.int .i64 (t : Int), .int .i64 n, .int .i64 sq, .int .i64 ex, v4, v5, v6, .slice (some ad) rs.length c7] 32 := ⟨below_drew1 HR.out.1, HXr2.out.drew⟩
              have stepS := Aside0.mk (fun (w' : World) (hS' : Below B.heap.size B w' ∧ Bx w' X0 #[.int .i64 (t : Int), .int .i64 n, .int .i64 sq, .int .i64 ex, v4, v5, v6, .slice (some ad) rs.length c7] 32) => (⟨hS'.2.c 0 rfl, hS'.2.c 1 rfl, hS'.2.c 2 rfl, hS'.2.c 3 rfl, hS'.2.c 4 rfl, hS'.2.c 5 rfl, hS'.2.c 6 rfl, hS'.2.c 7 rfl, pw_cell_below hS'.1 HC3.out⟩ : _ ∧ _ ∧ _ ∧ _ ∧ _ ∧ _ ∧ _ ∧ _ ∧ _))
              refine h_begin (fun w' => Below B.heap.size B w' ∧ Bx w' X0 #[.int .i64 (t : Int), .int .i64 n, .int .i64 sq, .int .i64 ex, v4, v5, v6, .slice (some ad) rs.length c7] 32) (by kernel_rfl) ?_
              refine h_take (i := 0) (v := ?_) rfl (by kernel_rfl) (by kernel_rfl) (by kernel_rfl) (fun _ _ _ h => h) (Or.inl ⟨by rfl, ?_⟩) hS0 ?_
              rotate_left
              · intro w' hS'
                obtain ⟨s0, s1, s2, s3, s4, s5, s6, s7, hc4⟩ := stepS.out w' hS'
                go_simp
                (try with_reducible rfl)
              simp only [Act.put, List.setIfInBounds_toArray, List.set_cons_zero, List.set_cons_succ]
              refine h_take (i := 1) (v := ?_) rfl (by kernel_rfl) (by kernel_rfl) (by kernel_rfl) (fun _ _ _ h => h) (Or.inl ⟨by rfl, ?_⟩) hS0 ?_
              rotate_left
              · intro w' hS'
                go_simp
                (try with_reducible rfl)
              simp only [Act.put, List.setIfInBounds_toArray, List.set_cons_zero, List.set_cons_succ]
              refine h_take (i := 2) (v := ?_) rfl (by kernel_rfl) (by kernel_rfl) (by kernel_rfl) (fun _ _ _ h => h) (Or.inl ⟨by rfl, ?_⟩) hS0 ?_
              rotate_left
              · intro w' hS'
                go_simp
                (try with_reducible rfl)
              simp only [Act.put, List.setIfInBounds_toArray, List.set_cons_zero, List.set_cons_succ]
              refine h_take (i := 3) (v := ?_) rfl (by kernel_rfl) (by kernel_rfl) (by kernel_rfl) (fun _ _ _ h => h) (Or.inl ⟨by rfl, ?_⟩) hS0 ?_
              rotate_left
              · intro w' hS'
                go_simp
                (try with_reducible rfl)
              simp only [Act.put, List.setIfInBounds_toArray, List.set_cons_zero, List.set_cons_succ]
              refine h_take (i := 4) (v := ?_) rfl (by kernel_rfl) (by kernel_rfl) (by kernel_rfl) (fun _ _ _ h => h) (Or.inl ⟨by rfl, ?_⟩) hS0 ?_
              rotate_left
              · intro w' hS'
                obtain ⟨s0, s1, s2, s3, s4, s5, s6, s7, hc4⟩ := stepS.out w' hS'
                go_simp
                (try with_reducible rfl)
              simp only [Act.put, List.setIfInBounds_toArray, List.set_cons_zero, List.set_cons_succ]
              refine h_take (i := 5) (v := ?_) rfl (by kernel_rfl) (by kernel_rfl) (by kernel_rfl) (fun _ _ _ h => h) (Or.inl ⟨by rfl, ?_⟩) hS0 ?_
              rotate_left
              · intro w' hS'
                go_simp
                (try with_reducible rfl)
              simp only [Act.put, List.setIfInBounds_toArray, List.set_cons_zero, List.set_cons_succ]
              refine h_take (i := 6) (v := ?_) rfl (by kernel_rfl) (by kernel_rfl) (by kernel_rfl) (fun _ _ _ h => h) (Or.inl ⟨by rfl, ?_⟩) hS0 ?_
              rotate_left
              · intro w' hS'
                go_simp
                (try with_reducible rfl)
              simp only [Act.put, List.setIfInBounds_toArray, List.set_cons_zero, List.set_cons_succ]
              refine h_take (i := 7) (v := ?_) rfl (by kernel_rfl) (by kernel_rfl) (by kernel_rfl) (fun _ _ _ h => h) (Or.inl ⟨by rfl, ?_⟩) hS0 ?_
              rotate_left
              · intro w' hS'
                go_simp
                (try with_reducible rfl)
              simp only [Act.put, List.setIfInBounds_toArray, List.set_cons_zero, List.set_cons_succ]
              refine h_take (i := 8) (v := ?_) rfl (by kernel_rfl) (by kernel_rfl) (by kernel_rfl) (fun _ _ _ h => h) (Or.inl ⟨by rfl, ?_⟩) hS0 ?_
              rotate_left
              · intro w' hS'
                go_simp
                (try with_reducible rfl)
              simp only [Act.put, List.setIfInBounds_toArray, List.set_cons_zero, List.set_cons_succ]
              refine h_take (i := 9) (v := ?_) rfl (by kernel_rfl) (by kernel_rfl) (by kernel_rfl) (fun _ _ _ h => h) (Or.inl ⟨by rfl, ?_⟩) hS0 ?_
              rotate_left
              · intro w' hS'
                go_simp
                (try with_reducible rfl)
              simp only [Act.put, List.setIfInBounds_toArray, List.set_cons_zero, List.set_cons_succ]
              refine h_one (i := 10) (by kernel_rfl) rfl (fun K hK => ?_)
              go_simp
              (with_reducible refine Calls.mono (C.out _ (below_drew1 HR.out.1) HR.out.2.1.drew HR.out.2.2.drew) ?_)
              rintro e w4 ⟨hB4, hk4, hor⟩
              have hS1 : Below B.heap.size B w4 ∧ Bx w4 X0 #[.int .i64 (t : Int), .int .i64 n, .int .i64 sq, .int .i64 ex, v4, v5, v6, .slice (some ad) rs.length c7] 32 := ⟨hB4, ⟨(hk4.block X0 (show X0 < wr.heap.size from HXr2.out.lt) HXA.out.1 HXA.out.2.1).trans HXr2.out.heap⟩⟩
              rcases hor with rfl | ⟨Z, r4, k4, f4, l4, rfl, q1, q2, q3, q4, q5, q6, q7, q8, q9⟩
              · go_wp2_with fail
                refine hK.out _ _ hS1 ?_
                clear hK K
                refine h_take (i := 11) (v := ?_) rfl (by kernel_rfl) (by kernel_rfl) (by kernel_rfl) (fun _ _ _ h => h) (Or.inl ⟨by rfl, ?_⟩) hS1 ?_
                rotate_left
                · intro w' hS'
                  go_simp
                  (try with_reducible rfl)
                simp only [Act.put, List.setIfInBounds_toArray, List.set_cons_zero, List.set_cons_succ]
                refine h_take (i := 12) (v := ?_) rfl (by kernel_rfl) (by kernel_rfl) (by kernel_rfl) (fun _ _ _ h => h) (Or.inl ⟨by rfl, ?_⟩) hS1 ?_
                rotate_left
                · intro w' hS'
                  go_simp
                  (try with_reducible rfl)
                simp only [Act.put, List.setIfInBounds_toArray, List.set_cons_zero, List.set_cons_succ]
                refine h_take (i := 13) (v := ?_) rfl (by kernel_rfl) (by kernel_rfl) (by kernel_rfl) (fun _ _ _ h => h) (Or.inl ⟨by rfl, ?_⟩) hS1 ?_
                rotate_left
                · intro w' hS'
                  go_simp
                  (try with_reducible rfl)
                simp only [Act.put, List.setIfInBounds_toArray, List.set_cons_zero, List.set_cons_succ]
                refine h_take (i := 14) (v := ?_) rfl (by kernel_rfl) (by kernel_rfl) (by kernel_rfl) (fun _ _ _ h => h) (Or.inl ⟨by rfl, ?_⟩) hS1 ?_
                rotate_left
                · intro w' hS'
                  go_simp
                  (try with_reducible rfl)
                simp only [Act.put, List.setIfInBounds_toArray, List.set_cons_zero, List.set_cons_succ]
                refine h_take (i := 15) (v := ?_) rfl (by kernel_rfl) (by kernel_rfl) (by kernel_rfl) (fun _ _ _ h => h) (Or.inl ⟨by rfl, ?_⟩) hS1 ?_
                rotate_left
                · intro w' hS'
                  go_simp
                  (try with_reducible rfl)
                simp only [Act.put, List.setIfInBounds_toArray, List.set_cons_zero, List.set_cons_succ]
                refine h_done (by kernel_rfl) ?_
                have H4 := Aside0.mk (And.intro hB4 hk4)
                clear stepS hS0 hS1 hB4 hk4
                go_wp2_with fail
                go_ret2
                exact ⟨H4.out.1, HKr2.out.trans ⟨H4.out.2.size, H4.out.2.block⟩, .inl rfl⟩
              · go_wp2_with fail
                refine hK.out _ _ hS1 ?_
                clear hK K
                refine h_take (i := 11) (v := ?_) rfl (by kernel_rfl) (by kernel_rfl) (by kernel_rfl) (fun _ _ _ h => h) (Or.inl ⟨by rfl, ?_⟩) hS1 ?_
                rotate_left
                · intro w' hS'
                  go_simp
                  (try with_reducible rfl)
                simp only [Act.put, List.setIfInBounds_toArray, List.set_cons_zero, List.set_cons_succ]
                refine h_take (i := 12) (v := ?_) rfl (by kernel_rfl) (by kernel_rfl) (by kernel_rfl) (fun _ _ _ h => h) (Or.inl ⟨by rfl, ?_⟩) hS1 ?_
                rotate_left
                · intro w' hS'
                  go_simp
                  (try with_reducible rfl)
                simp only [Act.put, List.setIfInBounds_toArray, List.set_cons_zero, List.set_cons_succ]
                refine h_take (i := 13) (v := ?_) rfl (by kernel_rfl) (by kernel_rfl) (by kernel_rfl) (fun _ _ _ h => h) (Or.inl ⟨by rfl, ?_⟩) hS1 ?_
                rotate_left
                · intro w' hS'
                  go_simp
                  (try with_reducible rfl)
                simp only [Act.put, List.setIfInBounds_toArray, List.set_cons_zero, List.set_cons_succ]
                refine h_take (i := 14) (v := ?_) rfl (by kernel_rfl) (by kernel_rfl) (by kernel_rfl) (fun _ _ _ h => h) (Or.inl ⟨by rfl, ?_⟩) hS1 ?_
                rotate_left
                · intro w' hS'
                  go_simp
                  (try with_reducible rfl)
                simp only [Act.put, List.setIfInBounds_toArray, List.set_cons_zero, List.set_cons_succ]
                refine h_take (i := 15) (v := ?_) rfl (by kernel_rfl) (by kernel_rfl) (by kernel_rfl) (fun _ _ _ h => h) (Or.inl ⟨by rfl, ?_⟩) hS1 ?_
                rotate_left
                · intro w' hS'
                  go_simp
                  (try with_reducible rfl)
                simp only [Act.put, List.setIfInBounds_toArray, List.set_cons_zero, List.set_cons_succ]
                refine h_done (by kernel_rfl) ?_
                have H4 : Aside0 (Below B.heap.size B w4 ∧ Keep2 AT LF wr w4 ∧ OwnN w4 (fun b => wr.heap.size ≤ b ∧ b < w4.heap.size) Z r4 k4 f4) := ⟨hB4, ⟨hk4.size, hk4.block⟩, q1⟩
                have H5 := Aside0.mk (And.intro q2 (And.intro q3 (And.intro q4 (And.intro q5 (And.intro q6 (And.intro q7 (And.intro q8 q9)))))))
                clear stepS hS0 hS1 hB4 hk4 q1 q2 q3 q4 q5 q6 q7 q8 q9
                have HN4r : Aside0 (Node3 w4 X (.int .i64 (xn : Int)) (.int .i64 0) (.slice A2 js2.length c2)) := ⟨⟨(H4.out.2.1.block X HNr.out.lt HXA.out.2.2.1 HXA.out.2.2.2.1).trans HNr.out.heap⟩⟩
                have HO4 : Aside0 (Kd.R kP 37 w4 B.heap.size (fun b => w.heap.size ≤ b ∧ b ≠ X ∧ b ≠ X0) (.slice A2 js2.length c2) js2) := ⟨Kd.R_mono (Kd.R_move (Kd.R_bound HOr.out.1) (fun b hb => H4.out.2.1.block b hb.2.2.1 (by have := HWA.out.1; have := hb.1.1; omega) (by have := HWA.out.2; have := hb.1.1; omega))) (fun b hb => hb.1)⟩
                have n2 := HN4r.out.c2
                have hj6 : js2.length ≤ 6 := by have h1 := HIr.out; have h2 := HXS.out.2.1; omega
                have HSZ : Aside0 (w.heap.size ≤ wr.heap.size ∧ wr.heap.size ≤ w4.heap.size ∧ X < wr.heap.size ∧ X0 < wr.heap.size) := ⟨HKr2.out.size, H4.out.2.1.size, HNr.out.lt, HXr2.out.lt⟩
                go_wp2_with (first
                  | (at_builtin; refine Kd.R_append kP (w0 := B) B.heap.size rfl (.tmp 133) (.tmp 135) 59 37 (.pointer none) 8 rfl Tryz.underlying59 infoP rfl (by decide) (by omega) _ js2 Z [.pointer (some ⟨Z, 0, none⟩)] (fun b => w.heap.size ≤ b ∧ b ≠ X ∧ b ≠ X0) (fun _ => False) rfl rfl (show Kd.M kP _ _ _ _ [pv Z] from rfl) (fun _ h => h.elim) (fun k hk => by have := HSZ.out; omega) HO4.out H4.out.1 H4.out.1.size (by omega) ?_; intro v2 w5 ho2 hb2 hg2 hn2; obtain ⟨A5, c5, e5⟩ := Kd.R_slice ho2; subst e5; have H6 := Aside0.mk (And.intro ho2 (And.intro hb2 (And.intro hg2 hn2))); have HN5 : Aside0 (Node3 w5 X (.int .i64 (xn : Int)) (.int .i64 0) (.slice A2 js2.length c2)) := ⟨⟨(hg2.block X (by have := HSZ.out; omega) (fun he => (HO4.out.1 X he.symm).2.1 rfl)).trans HN4r.out.heap⟩⟩; have z3 := HN5.out.fz 2; have z4 := HN5.out.c2; clear ho2 hb2 hg2 hn2))
                go_roundg (gk - 1)
                case measure => have := HIr.out; have := HILr.out; omega
                case rel =>
                  obtain ⟨o1, o2⟩ := HOr.out
                  obtain ⟨u1, u2, u3⟩ := H4.out
                  obtain ⟨q2, q3, q4, q5, q6, q7, q8, q9⟩ := H5.out
                  obtain ⟨p1, p2, p3, p4⟩ := H6.out
                  obtain ⟨m1, m2, m3, m4⟩ := HSZ.out
                  obtain ⟨z1, z2, z3', z4', z5, z6, z7⟩ := HXA.out
                  obtain ⟨k1, k2⟩ := HWA.out
                  have hown : ∀ b, (Value.slice A2 js2.length c2).ownBlock = some b → w.heap.size ≤ b ∧ b ≠ X ∧ b ≠ X0 ∧ b < wr.heap.size := fun b hb => ⟨(o1.1 b hb).1, (o1.1 b hb).2.1, (o1.1 b hb).2.2, Kd.R_lt o1 b hb⟩
                  have hs5 := p3.size
                  have keep : ∀ b, b ≠ X → b < w4.heap.size → some b ≠ (Value.slice A2 js2.length c2).ownBlock → (w5.setCell ⟨X, 2, none⟩ (.slice A5 (js2 ++ [Z]).length c5)).heap[b]? = w4.heap[b]? := fun b h1 h2 h3 => (Below.heap_setCell w5 ⟨X, 2, none⟩ _ b h1).trans (p3.block b h2 h3)
                  have old : ∀ b, w.heap.size ≤ b ∧ b < wr.heap.size ∧ b ≠ X ∧ some b ≠ (Value.slice A2 js2.length c2).ownBlock → (w5.setCell ⟨X, 2, none⟩ (.slice A5 (js2 ++ [Z]).length c5)).heap[b]? = wr.heap[b]? := fun b hb => (keep b hb.2.2.1 (by omega) hb.2.2.2).trans (u2.block b hb.2.1 (by omega) (by omega))
                  have new : ∀ b, wr.heap.size ≤ b ∧ b < w4.heap.size → (w5.setCell ⟨X, 2, none⟩ (.slice A5 (js2 ++ [Z]).length c5)).heap[b]? = w4.heap[b]? := fun b hb => keep b (by omega) hb.2 (fun he => by have := hown b he.symm; omega)
                  have low : ∀ b, b < w.heap.size → (w5.setCell ⟨X, 2, none⟩ (.slice A5 (js2 ++ [Z]).length c5)).heap[b]? = w4.heap[b]? := fun b hb => keep b (by omega) (by omega) (fun he => by have := hown b he.symm; omega)
                  try rw [show js2.length + 1 = (js2 ++ [Z]).length by simp]
                  refine ⟨i2 + 1, l4, A5, c5, js2 ++ [Z], done.app (.cons r4 k4 f4 .nil), by have := HIr.out; omega, by go_num, HN5.out.put2 _, by have := HIr.out; simp; omega, Kd.R_move p1 (fun b hb => Below.heap_setCell w5 ⟨X, 2, none⟩ _ b hb.2.1), ?_, ⟨(low AT k1).trans q8.heap⟩, ⟨(low LF k2).trans q9.heap⟩, ⟨by rw [World.size_setCell]; omega, fun b h1 h2 h3 => (low b h1).trans ((u2.block b (by omega) h2 h3).trans (HKr2.out.block b h1 h2 h3))⟩, p2.setCell (p := ⟨X, 2, none⟩) (by have := HWB.out; show B.heap.size ≤ X; omega) _, ⟨(keep X0 (by omega) (by omega) (fun he => by have := hown X0 he.symm; omega)).trans ((u2.block X0 m4 z1 z2).trans HXr2.out.heap)⟩, by have := HIr.out; omega, by have := HIr.out; rw [app_len]; simp only [F.len]; omega, ?_, ?_, ?_⟩
                  · refine OwnF.snoc (u3.move new) done _ js2 ?_ ?_ ?_ (o2.move _ _ _ old)
                    · rintro b ⟨h1, h2, h3, h4⟩
                      refine ⟨h1, by simp only [World.size_setCell]; omega, h3, fun he => ?_⟩
                      rcases p4 with p4 | ⟨b5, p4, p5⟩
                      · rw [p4] at he; exact h4 he
                      · rw [p4] at he; injection he with he; omega
                    · rintro b ⟨h1, h2⟩
                      refine ⟨by omega, by simp only [World.size_setCell]; omega, by omega, fun he => ?_⟩
                      rcases p4 with p4 | ⟨b5, p4, p5⟩
                      · rw [p4] at he; have := hown b he.symm; omega
                      · rw [p4] at he; injection he with he; omega
                    · rintro b ⟨_, h2, _, _⟩ ⟨h3, _⟩
                      omega
                  · have e1 := HIr.out.2.2.2
                    obtain ⟨h1, h2⟩ := HSYr.out
                    refine chk_snoc q2 done xs HCk.out.1 (by omega) ?_ ?_
                    · intro hr
                      simp only [e1]
                      rw [q3 hr, h2]
                    · intro hr
                      simp only [e1]
                      rw [q4 hr, h2]
                  · have h1 := HCk.out.2.1
                    have h2 := HIr.out
                    rw [app_nodes]
                    simp only [F.nodes]
                    omega
                  · have h1 := HCk.out.2.2
                    have h2 := HAE.out.2
                    rw [app_height]
                    simp only [F.height]
                    omega
            · have t1 : decide ((i2 : Int) < (xs.length : Int)) = false := by simp; omega
              have hie : i2 = xs.length := by have := HIr.out.1; omega
              have HIE := Aside0.mk hie
              clear hie
              go_wp2_with fail
              go_ret2
              have e1 := HIr.out
              have e2 := HCk.out
              have e3 := HIE.out
              have e4 := HL1.out
              have hx0 := HXN.out
              have e5 : chkT t rs (xn : Int) 0 done = true := by
                unfold chkT
                rw [if_neg (by omega), HXF.out, ← HXS.out.1, if_neg (by omega)]
                exact e2.1
              obtain ⟨m1, m2⟩ := HWA.out
              refine ⟨HR.out.1, HKr2.out, .inr ⟨X, (xn : Int), 0, done, l2, rfl, ⟨⟨HXA.out.2.2.2.2.2.1, HNr.out.lt⟩, A2, c2, js2, _, HNr.out.heap, Kd.R_mono (Kd.R_lower (Kd.R_bound HOr.out.1) (Nat.zero_le _)) (fun b hb => ⟨⟨hb.1.1, hb.2.2.1⟩, hb.1.2.1⟩), fun b hb => ⟨⟨hb.1, hb.2.1⟩, hb.2.2.1, hb.2.2.2⟩, HOr.out.2⟩, e5, fun h => absurd h (by omega), fun _ => hx0.2.2, by omega, by omega, e2.2.2, HR.out.2.1, HR.out.2.2⟩⟩
end Go.Proofs.YtjhemobplcelbaaGreatDoor.T
