/- of: Cut of donatuslaw1 and of donatuslaw5: a grammar that is small. -/
import Derived.Test.YtjhemobplcelbaaGreatDoorOfF
import Derived.Test.YtjhemobplcelbaaGreatDoorOfW
namespace Go.Proofs.YtjhemobplcelbaaGreatDoor.O
open Go.RowKit Go.Proofs.YtjhemobplcelbaaGreatDoorW.PrintWords Go.Proofs.YtjhemobplcelbaaGreatDoorW.PrintLast Go.Proofs.YtjhemobplcelbaaGreatDoorW.PrintMore
set_option linter.unusedVariables false
set_option linter.unusedSimpArgs false
def cut15 (s : ByteArray) : ByteArray := if s.size ≤ 15 then s else s.extract 0 15
theorem cut15_size (s : ByteArray) : (cut15 s).size ≤ 15 := by
  unfold cut15
  split
  · assumption
  · rw [ByteArray.size_extract]; omega
theorem cut1_calls (w : World) (s : ByteArray) : Calls Tryz.prog 49 #[.string s, .int .i64 15] w fun e w' => e = .returned (.string (cut15 s)) ∧ w' = w := by
  by_cases h : s.size ≤ 15
  · have HC : Aside0 (cut15 s = s) := ⟨if_pos h⟩
    have t1 : decide ((s.size : Int) > 15) = false := by simp; omega
    go_enter Tryz.func49, Tryz.ntmps49
    go_wp2_with fail
    go_ret
    exact ⟨by rw [HC.out]; rfl, rfl⟩
  · have HC : Aside0 (cut15 s = s.extract 0 15) := ⟨if_neg h⟩
    have t1 : decide ((s.size : Int) > 15) = true := by simp; omega
    have h2 : (15 : Int) ≤ (s.size : Int) := by omega
    have h3 : 15 ≤ s.size := by omega
    go_enter Tryz.func49, Tryz.ntmps49
    go_wp2_with fail
    go_ret
    exact ⟨by rw [HC.out]; rfl, rfl⟩
theorem infoTk : (Tryz.prog.info? 71).map (fun i => (i.zero, i.size, i.bytes)) = some (some (.agg #[.string ⟨#[]⟩, .int .i64 0, .int .i64 0]), 3, 32) := by kernel_rfl
theorem infoRu : (Tryz.prog.info? 73).map (fun i => (i.zero, i.size, i.bytes)) = some (some (.agg #[.string ⟨#[]⟩, .slice none 0 0, .string ⟨#[]⟩]), 3, 56) := by kernel_rfl
def CtRel (W : World) (O len : Nat) (st : ByteArray) (ex : Int) (kq : Nat) (v : Value) (w' : World) : Prop := ∃ (i : Nat) (vT : Value) (l : List STk), i + kq = len ∧ v = .int .i64 (i : Int) ∧ Bx w' O #[vT, .string st, .int .i64 ex, .slice none 0 0] 25 ∧ Kd.R kTk 71 w' W.heap.size (fun x => x ≠ O) vT l ∧ l.length = i ∧ (∀ t ∈ l, t.f0.size ≤ 15) ∧ Below W.heap.size W w'
theorem boxes2q (w : World) (c1 c2 : Array Value) (t1 t2 : TypeId) : ∃ X V : Nat, X = w.heap.size ∧ V = w.heap.size + 1 ∧ ((w.alloc (.cells c1 t1)).alloc (.cells c2 t2)).heap.size = w.heap.size + 2 ∧ Bx ((w.alloc (.cells c1 t1)).alloc (.cells c2 t2)) X c1 t1 ∧ Bx ((w.alloc (.cells c1 t1)).alloc (.cells c2 t2)) V c2 t2 ∧ Below w.heap.size w ((w.alloc (.cells c1 t1)).alloc (.cells c2 t2)) := by
  have h2 := Bx.new (w.alloc (.cells c1 t1)) c2 t2
  rw [World.size_alloc] at h2
  have b1 := below_alloc (Below.refl w.heap.size w) (.cells c1 t1)
  exact ⟨_, _, rfl, rfl, by simp only [World.size_alloc], (Bx.new w c1 t1).onto _, h2, below_alloc b1 (.cells c2 t2)⟩
def CutPost (w : World) (e : Ending) (w' : World) : Prop := ∃ (A : Option Addr) (c : Nat) (ts : List STk) (st : ByteArray) (ex : Int) (A2 : Option Addr) (c2 : Nat) (rs : List SRu), e = .returned (.agg #[.slice A ts.length c, .string st, .int .i64 ex, .slice A2 rs.length c2]) ∧ Kd.C kTk w' A ts.length ts ∧ ts.length ≤ c ∧ Kd.C kRu w' A2 rs.length rs ∧ rs.length ≤ c2 ∧
  ts.length ≤ 42 ∧ rs.length ≤ 105 ∧ st.size ≤ 15 ∧ (∀ t ∈ ts, t.f0.size ≤ 15) ∧ (∀ r ∈ rs, r.f0.size ≤ 15 ∧ r.f2.size ≤ 15 ∧ r.f1.length ≤ 22 ∧ ∀ s ∈ r.f1, s.size ≤ 15) ∧ Below w.heap.size w w'
theorem fresh_ne {T a : Nat} {W : World} (h : T < a) (hs : a ≤ W.heap.size) : ∀ x, W.heap.size ≤ x → x ≠ T := fun x hx => by omega
def smallR (r : SRu) : Prop := r.f0.size ≤ 15 ∧ r.f2.size ≤ 15 ∧ r.f1.length ≤ 22 ∧ ∀ s ∈ r.f1, s.size ≤ 15
/-- The second loop: tokens stay, below N; rules grow, from N on. -/
def CrRel (W : World) (O N len : Nat) (st : ByteArray) (ex : Int) (vT : Value) (l : List STk) (kq : Nat) (v : Value) (w' : World) : Prop := ∃ (i : Nat) (vR : Value) (q : List SRu), i + kq = len ∧ v = .int .i64 (i : Int) ∧ Bx w' O #[vT, .string st, .int .i64 ex, vR] 25 ∧ Kd.R kTk 71 w' W.heap.size (fun x => x ≠ O ∧ x < N) vT l ∧ Kd.R kRu 73 w' W.heap.size (fun x => N ≤ x) vR q ∧ q.length = i ∧ (∀ r ∈ q, smallR r) ∧ Below W.heap.size W w' ∧ N ≤ w'.heap.size
def CkRel (W : World) (T len : Nat) (a b : ByteArray) (kq : Nat) (v : Value) (w' : World) : Prop := ∃ (k : Nat) (v1 : Value) (rt : List ByteArray), k + kq = len ∧ v = .int .i64 (k : Int) ∧ Bx w' T #[.string a, v1, .string b] 73 ∧ Kd.R Kd.string 9 w' W.heap.size (fun x => x ≠ T) v1 rt ∧ rt.length = k ∧ (∀ s ∈ rt, s.size ≤ 15) ∧ Below W.heap.size W w'
set_option maxRecDepth 100000 in
set_option maxHeartbeats 4000000 in
theorem cut_calls (w : World) (A : Option Addr) (c : Nat) (ts : List STk) (st : ByteArray) (ex : Int) (A2 : Option Addr) (c2 : Nat) (rs : List SRu) (hts : Kd.C kTk w A ts.length ts) (hct : ts.length ≤ c) (hrs : Kd.C kRu w A2 rs.length rs) (hc2 : rs.length ≤ c2) :
    Calls Tryz.prog 15 #[.agg #[.slice A ts.length c, .string st, .int .i64 ex, .slice A2 rs.length c2]] w (CutPost w) := by
  have HL := Aside0.mk (And.intro hts hrs)
  clear hts hrs
  go_enter Tryz.func15, Tryz.ntmps15
  go_upto_region 1 with fail
  obtain ⟨X, V, hX, hV, hsz, b1, b2, hb⟩ := boxes2q w #[.slice A ts.length c, .string st, .int .i64 ex, .slice A2 rs.length c2] #[.slice none 0 0, .string ⟨#[]⟩, .int .i64 0, .slice none 0 0] 25 25
  rw [← hV]
  rw [← hX]
  generalize (w.alloc (.cells #[.slice A ts.length c, .string st, .int .i64 ex, .slice A2 rs.length c2] 25)).alloc (.cells #[.slice none 0 0, .string ⟨#[]⟩, .int .i64 0, .slice none 0 0] 25) = W2 at *
  have HV : Aside0 (w.heap.size ≤ V ∧ X < W2.heap.size ∧ V < W2.heap.size) := ⟨by omega⟩
  have HX := Aside0.mk (And.intro b1 b2)
  have HB := Aside0.mk hb
  clear hX hV hb hsz
  have x1 := b1.c 1 rfl
  have x2 := b1.c 2 rfl
  clear b1 b2
  have C1 := fun w' => Aside0.mk (cut1_calls w' st)
  obtain ⟨s1, hs1⟩ : ∃ s, s = cut15 st := ⟨_, rfl⟩
  have HS1 : Aside0 (s1.size ≤ 15) := ⟨by rw [hs1]; exact cut15_size _⟩
  rw [← hs1] at C1
  clear hs1
  go_cut [3] (fun v3 wx => v3 = .pointer (some ⟨W2.heap.size, 0, none⟩) ∧ Bx wx W2.heap.size #[.slice none 0 0, .string s1, .int .i64 ex, .slice none 0 0] 25 ∧ Below W2.heap.size W2 wx)
  case first =>
    go_region_held3 (fun w' => w'.cell? ⟨X, 1, none⟩ = some (.string st) ∧ w'.cell? ⟨X, 2, none⟩ = some (.int .i64 ex)) (go_keep) (first
      | (go_at_call 49; (with_reducible refine Calls.mono (C1 _).out ?_); rintro e w' ⟨rfl, rfl⟩))
    all_goals (go_wp2_with fail; go_meet; exact ⟨rfl, (Bx.new W2 _ _).drew, below_drew1 (below_alloc (Below.refl _ _) _)⟩)
  case rest =>
    obtain ⟨rfl, hbo, hbw⟩ := hcut
    obtain ⟨O, hO⟩ : ∃ O, O = W2.heap.size := ⟨_, rfl⟩
    rw [← hO] at hbo
    rw [← hO]
    have HO := Aside0.mk hO
    have H3 := Aside0.mk (And.intro hbo hbw)
    have HX3 := Aside0.mk (HX.out.1.move hbw HX.out.1.lt)
    have x0 := HX3.out.c 0 rfl
    have x3 := HX3.out.c 3 rfl
    obtain ⟨len, hlen⟩ : ∃ len, len = min ts.length 42 := ⟨_, rfl⟩
    have HLEN := Aside0.mk hlen
    clear x1 x2 hbo hbw hO C1 hlen
    go_upto_block 0 with fail
    go_cut [4] (fun v4 wx => ∃ vT l, Bx wx O #[vT, .string s1, .int .i64 ex, .slice none 0 0] 25 ∧ Kd.R kTk 71 wx W2.heap.size (fun x => x ≠ O) vT l ∧ l.length ≤ 42 ∧ (∀ t ∈ l, t.f0.size ≤ 15) ∧ Below W2.heap.size W2 wx)
    case first =>
      go_wp2_with fail
      go_loopg [4] len (fun kq v4 w' => CtRel W2 O len s1 ex kq v4 w')
      case atStart => exact ⟨0, _, [], by omega, rfl, H3.out.1, Kd.R_nil _ _ _ _ _, rfl, fun t ht => (by cases ht), H3.out.2⟩
      case round =>
        obtain ⟨i, vT, l, hi, rfl, hbo, hr, hll, hsm, hbw⟩ := hrel
        have HI := Aside0.mk (And.intro hi hll)
        have HBO := Aside0.mk hbo
        have HR := Aside0.mk (And.intro hr hsm)
        have HBW := Aside0.mk hbw
        have HXr := Aside0.mk (HX.out.1.move hbw HX.out.1.lt)
        have HB0 : Aside0 (Below w.heap.size w wr) := ⟨HB.out.trans (hbw.mono HB.out.size)⟩
        clear x0 x3
        have x0 := HXr.out.c 0 rfl
        have x3 := HXr.out.c 3 rfl
        clear hi hll hbo hr hsm hbw
        by_cases hil : i < len
        · have hil1 : i < ts.length := by have := HLEN.out; omega
          have hil2 : i < 42 := by have := HLEN.out; omega
          have t1 : decide ((i : Int) < (ts.length : Int)) = true := by simp; omega
          have t2 : decide ((i : Int) < 42) = true := by simp; omega
          have hin : (i : Int) < (ts.length : Int) := by omega
          obtain ⟨ad, e1, q0, q1, q2⟩ := tok_at HL.out.1 i hil1
          have q0 := pw_cell_below HB0.out q0
          have q1 := pw_cell_below HB0.out q1
          have q2 := pw_cell_below HB0.out q2
          have HIL := Aside0.mk (And.intro hil (And.intro hil1 hil2))
          generalize ts[i] = tk at *
          obtain ⟨f0, f1, f2⟩ := tk
          simp only at q0 q1 q2
          subst e1
          go_upto_region 6 with fail
          have hbA := below_alloc (Below.refl wr.heap.size wr) (.cells #[.string f0, .int .i64 f1, .int .i64 f2] 71)
          have hxT := Bx.new wr #[.string f0, .int .i64 f1, .int .i64 f2] 71
          obtain ⟨T, hT⟩ : ∃ T, T = wr.heap.size := ⟨_, rfl⟩
          rw [← hT] at hxT
          rw [← hT]
          have HT : Aside0 (T ≠ O ∧ W2.heap.size ≤ T) := ⟨by have := HBO.out.lt; omega, by have := HBW.out.size; omega⟩
          have HT6 := Aside0.mk (And.intro hxT (And.intro (HBO.out.move hbA HBO.out.lt) (And.intro (Kd.R_below (Kd.R_mono (ok' := fun x => x ≠ O ∧ x < T) (Kd.R_bound HR.out.1) (fun x hx => ⟨hx.1, by have := hx.2.2.1; omega⟩)) hbA) (HBW.out.trans (hbA.mono HBW.out.size)))))
          generalize wr.alloc (.cells #[.string f0, .int .i64 f1, .int .i64 f2] 71) = W6 at *
          have t0 := hxT.c 0 rfl
          have tf := hxT.fz 0
          have C1 := Aside0.mk (cut1_calls W6 f0)
          obtain ⟨s2, hs2⟩ : ∃ s, s = cut15 f0 := ⟨_, rfl⟩
          have HS2 : Aside0 (s2.size ≤ 15) := ⟨by rw [hs2]; exact cut15_size _⟩
          rw [← hs2] at C1
          clear hs2 hbA hxT hT q0 q1 q2
          go_upto_region 7 with (first
            | (go_at_call 49; (with_reducible refine Calls.mono C1.out ?_); rintro e w' ⟨rfl, rfl⟩))
          obtain ⟨W6, rfl⟩ : ∃ x, x = w' := ⟨_, rfl⟩
          have H7 : Aside0 (Bx (W6.setCell ⟨T, 0, none⟩ (.string s2)) T #[.string s2, .int .i64 f1, .int .i64 f2] 71 ∧ Bx (W6.setCell ⟨T, 0, none⟩ (.string s2)) O #[vT, .string s1, .int .i64 ex, .slice none 0 0] 25 ∧ Kd.R kTk 71 (W6.setCell ⟨T, 0, none⟩ (.string s2)) W2.heap.size (fun x => x ≠ O) vT l ∧ Below W2.heap.size W2 (W6.setCell ⟨T, 0, none⟩ (.string s2))) := ⟨HT6.out.1.put 0 _, HT6.out.2.1.far ⟨T, 0, none⟩ (by have := HT.out.1; show O ≠ T; omega) _, Kd.R_mono (Kd.R_far HT6.out.2.2.1 (p := ⟨T, 0, none⟩) (fun x hx => by have := hx.2; show x ≠ T; omega) _) (fun x hx => hx.1), HT6.out.2.2.2.setCell (p := ⟨T, 0, none⟩) HT.out.2 _⟩
          generalize W6.setCell ⟨T, 0, none⟩ (.string s2) = W7 at *
          clear t0 tf C1 x0 x3
          obtain ⟨Av, cv, rfl⟩ := Kd.R_slice HR.out.1
          have o0 := H7.out.2.1.c 0 rfl
          have of := H7.out.2.1.fz 0
          have t0 := H7.out.1.c 0 rfl
          have t1' := H7.out.1.c 1 rfl
          have t2' := H7.out.1.c 2 rfl
          have hll : l.length ≤ 42 := by have := HI.out.2; have := HIL.out.2.2; omega
          have HSZ : Aside0 (W2.heap.size ≤ W7.heap.size ∧ O < W7.heap.size) := ⟨H7.out.2.2.2.size, H7.out.2.1.lt⟩
          go_wp2_with (first
            | (at_builtin; refine Kd.R_append kTk (w0 := W2) W2.heap.size rfl (.tmp 36) (.tmp 38) 22 71 (.agg #[.string ⟨#[]⟩, .int .i64 0, .int .i64 0]) 32 rfl Tryz.underlying22 infoTk rfl (by decide) (by omega) _ l (⟨s2, f1, f2⟩ : STk) [.string s2, .int .i64 f1, .int .i64 f2] (fun x => x ≠ O) (fun _ => False) rfl rfl (kTk_mkM _ _ _ (⟨s2, f1, f2⟩ : STk)) (fun _ h => h.elim) (fun x hx => by have := HSZ.out.2; omega) H7.out.2.2.1 H7.out.2.2.2 HSZ.out.1 (by omega) ?_; intro v2 w9 ho hb9 hg hat; obtain ⟨A9, c9, e9⟩ := Kd.R_slice ho; subst e9; have HX9 := Aside0.mk (Bx.grown H7.out.2.1 hg (fun he => H7.out.2.2.1.1 O he.symm rfl)); have H9 := Aside0.mk (And.intro ho hb9); have g1 := HX9.out.c 0 rfl; have g2 := HX9.out.fz 0; clear ho hb9 hg hat))
          go_roundg (gk - 1)
          case measure => have := HI.out; have := HIL.out; omega
          case rel =>
            rw [show l.length + 1 = (l ++ [(⟨s2, f1, f2⟩ : STk)]).length by simp]
            refine ⟨i + 1, _, _, by have := HI.out; have := HIL.out; omega, by have h1 := HIL.out; first | rfl | (congr 1; unfold wrap64; omega), HX9.out.put 0 _, Kd.R_far H9.out.1 (fun x h => h) _, by simp; exact HI.out.2, fun t ht => ?_, H9.out.2.setCell (p := ⟨O, 0, none⟩) (by have := HO.out; show W2.heap.size ≤ O; omega) _⟩
            rcases List.mem_append.1 ht with h | h
            · exact HR.out.2 t h
            · rw [List.mem_singleton.1 h]; exact HS2.out
        · have HEND : Aside0 (l.length ≤ 42) := ⟨by have := HI.out.2; have := HI.out.1; have := HLEN.out; omega⟩
          by_cases hit : i < ts.length
          · have t1 : decide ((i : Int) < (ts.length : Int)) = true := by simp; omega
            have hi42 : ¬ i < 42 := by have := HLEN.out; omega
            have t2 : decide ((i : Int) < 42) = false := by simp; omega
            go_wp2_with fail
            go_meet
            exact ⟨_, _, HBO.out, HR.out.1, HEND.out, HR.out.2, HBW.out⟩
          · have t1 : decide ((i : Int) < (ts.length : Int)) = false := by simp; omega
            go_wp2_with fail
            go_meet
            exact ⟨_, _, HBO.out, HR.out.1, HEND.out, HR.out.2, HBW.out⟩
    case rest =>
      obtain ⟨vT, l, hbo, hr, hll, hsm, hbw⟩ := hcut
      obtain ⟨W8, rfl⟩ : ∃ x, x = wc := ⟨_, rfl⟩
      have HN : Aside0 (O < W8.heap.size) := ⟨hbo.lt⟩
      have H8 := Aside0.mk (And.intro hbo (And.intro (Kd.R_mono (ok' := fun x => x ≠ O ∧ x < W8.heap.size) (Kd.R_bound hr) (fun x hx => ⟨hx.1, hx.2.2.1⟩)) hbw))
      have HT8 := Aside0.mk (And.intro hll hsm)
      obtain ⟨len2, hlen2⟩ : ∃ len, len = min rs.length 105 := ⟨_, rfl⟩
      have HLEN2 := Aside0.mk hlen2
      clear hbo hr hll hsm hbw x0 x3 hlen2
      go_upto_block 2 with fail
      go_cut [6] (fun v6 wx => ∃ vR q, Bx wx O #[vT, .string s1, .int .i64 ex, vR] 25 ∧ Kd.R kTk 71 wx W2.heap.size (fun x => x ≠ O ∧ x < W8.heap.size) vT l ∧ Kd.R kRu 73 wx W2.heap.size (fun x => W8.heap.size ≤ x) vR q ∧ q.length ≤ 105 ∧ (∀ r ∈ q, smallR r) ∧ Below W2.heap.size W2 wx)
      case first =>
        go_wp2_with fail
        go_loopg [6] len2 (fun kq v6 w' => CrRel W2 O W8.heap.size len2 s1 ex vT l kq v6 w')
        case atStart => exact ⟨0, _, [], by omega, rfl, H8.out.1, H8.out.2.1, Kd.R_nil _ _ _ _ _, rfl, fun r hr => (by cases hr), H8.out.2.2, Nat.le_refl _⟩
        case round =>
          obtain ⟨i, vR, q, hi, rfl, hbo, hrt, hrr, hql, hqs, hbw, hNw⟩ := hrel
          have HI := Aside0.mk (And.intro hi hql)
          have HBO := Aside0.mk hbo
          have HR := Aside0.mk (And.intro hrt (And.intro hrr hqs))
          have HBW := Aside0.mk (And.intro hbw hNw)
          have HXr := Aside0.mk (HX.out.1.move hbw HX.out.1.lt)
          have x3 := HXr.out.c 3 rfl
          clear hi hbo hrt hrr hql hqs hbw hNw
          by_cases hil : i < len2
          · have hil1 : i < rs.length := by have := HLEN2.out; omega
            have hil2 : i < 105 := by have := HLEN2.out; omega
            have t1 : decide ((i : Int) < (rs.length : Int)) = true := by simp; omega
            have t2 : decide ((i : Int) < 105) = true := by simp; omega
            have hin : (i : Int) < (rs.length : Int) := by omega
            obtain ⟨ad, A1, c1, e1, q0, q1, q2, hl1, hrw⟩ := ru_at HL.out.2 i hil1
            have HIL := Aside0.mk (And.intro hil (And.intro hil1 hil2))
            generalize rs[i] = rk at *
            obtain ⟨f0, f1, f2⟩ := rk
            simp only at q0 q1 q2 hl1 hrw
            subst e1
            have HQ : Aside0 (∀ w', Below W2.heap.size W2 w' → w'.cell? ⟨X, 3, none⟩ = some (.slice (some ad) rs.length c2) ∧ w'.cell? (ad.add (i * 3)) = some (.string f0) ∧ w'.cell? ⟨(ad.add (i * 3)).block, (ad.add (i * 3)).off + 1, none⟩ = some (.slice A1 f1.length c1) ∧ w'.cell? ⟨(ad.add (i * 3)).block, (ad.add (i * 3)).off + 2, none⟩ = some (.string f2)) := ⟨fun w' hb => ⟨(HX.out.1.move hb HX.out.1.lt).c 3 rfl, pw_cell_below (HB.out.trans (hb.mono HB.out.size)) q0, pw_cell_below (HB.out.trans (hb.mono HB.out.size)) q1, pw_cell_below (HB.out.trans (hb.mono HB.out.size)) q2⟩⟩
            have HRW := Aside0.mk (And.intro hrw hl1)
            have C1 := fun w' => Aside0.mk (cut1_calls w' f0)
            have C2 := fun w' => Aside0.mk (cut1_calls w' f2)
            obtain ⟨a, ha⟩ : ∃ s, s = cut15 f0 := ⟨_, rfl⟩
            obtain ⟨b, hb⟩ : ∃ s, s = cut15 f2 := ⟨_, rfl⟩
            have HAB : Aside0 (a.size ≤ 15 ∧ b.size ≤ 15) := ⟨by rw [ha, hb]; exact ⟨cut15_size _, cut15_size _⟩⟩
            rw [← ha] at C1
            rw [← hb] at C2
            obtain ⟨gko, hgko⟩ : ∃ x, x = gk := ⟨_, rfl⟩
            have HGO := Aside0.mk hgko
            clear ha hb q0 q1 q2 hrw hl1 hgko
            go_upto_region 11 with fail
            obtain ⟨x3a, q0, q1, q2⟩ := HQ.out wr HBW.out.1
            go_cut [7] (fun v7 wx => v7 = .pointer (some ⟨wr.heap.size, 0, none⟩) ∧ Bx wx wr.heap.size #[.string a, .slice none 0 0, .string b] 73 ∧ Below wr.heap.size wr wx)
            case first =>
              go_region_held3 (fun w' => w'.cell? ⟨X, 3, none⟩ = some (.slice (some ad) rs.length c2) ∧ w'.cell? (ad.add (i * 3)) = some (.string f0) ∧ w'.cell? ⟨(ad.add (i * 3)).block, (ad.add (i * 3)).off + 2, none⟩ = some (.string f2)) (go_keep) (first
                | (go_at_call 49; (with_reducible refine Calls.mono (C1 _).out ?_); rintro e w' ⟨rfl, rfl⟩)
                | (go_at_call 49; (with_reducible refine Calls.mono (C2 _).out ?_); rintro e w' ⟨rfl, rfl⟩))
              all_goals (go_wp2_with fail; go_meet; exact ⟨rfl, (Bx.new wr _ _).drew, below_drew1 (below_alloc (Below.refl _ _) _)⟩)
            case rest =>
              obtain ⟨rfl, hxT, hbT⟩ := hcut
              obtain ⟨T, hT⟩ : ∃ T, T = wr.heap.size := ⟨_, rfl⟩
              rw [← hT] at hxT
              rw [← hT]
              obtain ⟨W11, rfl⟩ : ∃ x, x = wc := ⟨_, rfl⟩
              have HT := Aside0.mk (And.intro hT (And.intro hxT hbT))
              have HBT : Aside0 (Below W2.heap.size W2 W11) := ⟨HBW.out.1.trans (hbT.mono HBW.out.1.size)⟩
              obtain ⟨len3, hlen3⟩ : ∃ len, len = min f1.length 22 := ⟨_, rfl⟩
              have HLEN3 := Aside0.mk hlen3
              obtain ⟨Wo, hWo⟩ : ∃ x, x = wr := ⟨_, rfl⟩
              have HWo := Aside0.mk hWo
              have HTW : Aside0 (Wo.heap.size ≤ T) := ⟨by rw [hWo]; exact Nat.le_of_eq hT.symm⟩
              clear hT hxT hbT x3 x3a q0 q1 q2 C1 C2 hlen3 hWo
              go_upto_block 4 with fail
              go_cut [8] (fun v8 wx => ∃ v1 rt, Bx wx T #[.string a, v1, .string b] 73 ∧ Kd.R Kd.string 9 wx Wo.heap.size (fun x => x ≠ T) v1 rt ∧ rt.length ≤ 22 ∧ (∀ s ∈ rt, s.size ≤ 15) ∧ Below Wo.heap.size Wo wx)
              case first =>
                go_wp2_with fail
                go_loopg [8] len3 (fun kq v8 w' => CkRel Wo T len3 a b kq v8 w')
                case atStart => exact ⟨0, _, [], by omega, rfl, HT.out.2.1, Kd.R_nil _ _ _ _ _, rfl, fun s hs => (by cases hs), by rw [HWo.out]; exact HT.out.2.2⟩
                case round =>
                  obtain ⟨k, v1, rt, hk, rfl, hbx, hr1, hrl, hrs, hbk⟩ := hrel
                  have HK := Aside0.mk (And.intro hk hrl)
                  have HKX := Aside0.mk (And.intro hbx (And.intro hr1 hrs))
                  have HKB := Aside0.mk hbk
                  have HK2 : Aside0 (Below W2.heap.size W2 wr) := ⟨HBW.out.1.trans (by rw [← HWo.out]; exact hbk.mono (by rw [HWo.out]; exact HBW.out.1.size))⟩
                  obtain ⟨x3, q0, q1, q2⟩ := HQ.out wr HK2.out
                  clear hk hbx hr1 hrl hrs hbk q0 q2
                  by_cases hkl : k < len3
                  · have hkl1 : k < f1.length := by have := HLEN3.out; omega
                    have hkl2 : k < 22 := by have := HLEN3.out; omega
                    have t3 : decide ((k : Int) < (f1.length : Int)) = true := by simp; omega
                    have t4 : decide ((k : Int) < 22) = true := by simp; omega
                    have hkn : (k : Int) < (f1.length : Int) := by omega
                    obtain ⟨bd, e2, hcx⟩ := str_at HRW.out.1 k hkl1
                    have HKL := Aside0.mk (And.intro hkl (And.intro hkl1 hkl2))
                    generalize f1[k] = sk at *
                    subst e2
                    have stepS : Aside0 (∀ w', Below W2.heap.size W2 w' → w'.cell? ⟨X, 3, none⟩ = some (.slice (some ad) rs.length c2) ∧ w'.cell? ⟨(ad.add (i * 3)).block, (ad.add (i * 3)).off + 1, none⟩ = some (.slice (some bd) f1.length c1) ∧ w'.cell? (bd.add k) = some (.string sk)) := ⟨fun w' hb => ⟨(HQ.out w' hb).1, (HQ.out w' hb).2.2.1, pw_cell_below (HB.out.trans (hb.mono HB.out.size)) hcx⟩⟩
                    obtain ⟨Av, cv, rfl⟩ := Kd.R_slice HKX.out.2.1
                    have C1 := fun w' => Aside0.mk (cut1_calls w' sk)
                    obtain ⟨z, hz⟩ : ∃ s, s = cut15 sk := ⟨_, rfl⟩
                    have HZ : Aside0 (z.size ≤ 15) := ⟨by rw [hz]; exact cut15_size _⟩
                    rw [← hz] at C1
                    have hlr : rt.length ≤ 22 := by have := HK.out.2; omega
                    have HSZ : Aside0 (Wo.heap.size ≤ wr.heap.size ∧ T < wr.heap.size) := ⟨HKB.out.size, HKX.out.1.lt⟩
                    clear hz hcx
                    go_upto_region 15 with fail
                    have hS0 : Bx wr.drew T #[.string a, .slice Av rt.length cv, .string b] 73 ∧ Below W2.heap.size W2 wr.drew := ⟨HKX.out.1.drew, below_drew1 HK2.out⟩
                    refine region_begin (fun w' => Bx w' T #[.string a, .slice Av rt.length cv, .string b] 73 ∧ Below W2.heap.size W2 w') 15 (by kernel_rfl) ?_
                    clear x3 q1
                    refine take_first (i := 0) (v := ?_) rfl (by kernel_rfl) (by kernel_rfl) (by kernel_rfl) (by kernel_rfl) (fun _ _ _ h => h) (Or.inl ⟨by rfl, ?_⟩) hS0 ?_
                    rotate_left
                    · intro w' hS'
                      obtain ⟨x3, r1, rk⟩ := stepS.out w' hS'.2
                      have b1 := hS'.1.c 1 rfl
                      go_simp
                      with_reducible rfl
                    simp only [Act.put, List.setIfInBounds_toArray, List.set_cons_zero, List.set_cons_succ]
                    refine take_first (i := 1) (v := ?_) rfl (by kernel_rfl) (by kernel_rfl) (by kernel_rfl) (by kernel_rfl) (fun _ _ _ h => h) (Or.inl ⟨by rfl, ?_⟩) hS0 ?_
                    rotate_left
                    · intro w' hS'
                      obtain ⟨x3, r1, rk⟩ := stepS.out w' hS'.2
                      have b1 := hS'.1.c 1 rfl
                      go_simp
                      with_reducible rfl
                    simp only [Act.put, List.setIfInBounds_toArray, List.set_cons_zero, List.set_cons_succ]
                    refine take_first (i := 2) (v := ?_) rfl (by kernel_rfl) (by kernel_rfl) (by kernel_rfl) (by kernel_rfl) (fun _ _ _ h => h) (Or.inl ⟨by rfl, ?_⟩) hS0 ?_
                    rotate_left
                    · intro w' hS'
                      obtain ⟨x3, r1, rk⟩ := stepS.out w' hS'.2
                      have b1 := hS'.1.c 1 rfl
                      go_simp
                      with_reducible rfl
                    simp only [Act.put, List.setIfInBounds_toArray, List.set_cons_zero, List.set_cons_succ]
                    refine take_first (i := 3) (v := ?_) rfl (by kernel_rfl) (by kernel_rfl) (by kernel_rfl) (by kernel_rfl) (fun _ _ _ h => h) (Or.inl ⟨by rfl, ?_⟩) hS0 ?_
                    rotate_left
                    · intro w' hS'
                      obtain ⟨x3, r1, rk⟩ := stepS.out w' hS'.2
                      have b1 := hS'.1.c 1 rfl
                      go_simp
                      with_reducible rfl
                    simp only [Act.put, List.setIfInBounds_toArray, List.set_cons_zero, List.set_cons_succ]
                    refine take_first (i := 4) (v := ?_) rfl (by kernel_rfl) (by kernel_rfl) (by kernel_rfl) (by kernel_rfl) (fun _ _ _ h => h) (Or.inl ⟨by rfl, ?_⟩) hS0 ?_
                    rotate_left
                    · intro w' hS'
                      obtain ⟨x3, r1, rk⟩ := stepS.out w' hS'.2
                      have b1 := hS'.1.c 1 rfl
                      go_simp
                      with_reducible rfl
                    simp only [Act.put, List.setIfInBounds_toArray, List.set_cons_zero, List.set_cons_succ]
                    refine take_first (i := 5) (v := ?_) rfl (by kernel_rfl) (by kernel_rfl) (by kernel_rfl) (by kernel_rfl) (fun _ _ _ h => h) (Or.inl ⟨by rfl, ?_⟩) hS0 ?_
                    rotate_left
                    · intro w' hS'
                      obtain ⟨x3, r1, rk⟩ := stepS.out w' hS'.2
                      have b1 := hS'.1.c 1 rfl
                      go_simp
                      with_reducible rfl
                    simp only [Act.put, List.setIfInBounds_toArray, List.set_cons_zero, List.set_cons_succ]
                    refine take_first (i := 6) (v := ?_) rfl (by kernel_rfl) (by kernel_rfl) (by kernel_rfl) (by kernel_rfl) (fun _ _ _ h => h) (Or.inl ⟨by rfl, ?_⟩) hS0 ?_
                    rotate_left
                    · intro w' hS'
                      obtain ⟨x3, r1, rk⟩ := stepS.out w' hS'.2
                      have b1 := hS'.1.c 1 rfl
                      go_simp
                      with_reducible rfl
                    simp only [Act.put, List.setIfInBounds_toArray, List.set_cons_zero, List.set_cons_succ]
                    refine take_first (i := 7) (v := ?_) rfl (by kernel_rfl) (by kernel_rfl) (by kernel_rfl) (by kernel_rfl) (fun _ _ _ h => h) (Or.inl ⟨by rfl, ?_⟩) hS0 ?_
                    rotate_left
                    · intro w' hS'
                      obtain ⟨x3, r1, rk⟩ := stepS.out w' hS'.2
                      have b1 := hS'.1.c 1 rfl
                      go_simp
                      with_reducible rfl
                    simp only [Act.put, List.setIfInBounds_toArray, List.set_cons_zero, List.set_cons_succ]
                    refine take_first (i := 8) (v := ?_) rfl (by kernel_rfl) (by kernel_rfl) (by kernel_rfl) (by kernel_rfl) (fun _ _ _ h => h) (Or.inl ⟨by rfl, ?_⟩) hS0 ?_
                    rotate_left
                    · intro w' hS'
                      obtain ⟨x3, r1, rk⟩ := stepS.out w' hS'.2
                      have b1 := hS'.1.c 1 rfl
                      go_simp
                      with_reducible rfl
                    simp only [Act.put, List.setIfInBounds_toArray, List.set_cons_zero, List.set_cons_succ]
                    refine take_first (i := 9) (v := ?_) rfl (by kernel_rfl) (by kernel_rfl) (by kernel_rfl) (by kernel_rfl) (fun _ _ _ h => h) (Or.inl ⟨by rfl, ?_⟩) hS0 ?_
                    rotate_left
                    · intro w' hS'
                      obtain ⟨x3, r1, rk⟩ := stepS.out w' hS'.2
                      have b1 := hS'.1.c 1 rfl
                      go_simp
                      with_reducible rfl
                    simp only [Act.put, List.setIfInBounds_toArray, List.set_cons_zero, List.set_cons_succ]
                    refine take_first (i := 10) (v := ?_) rfl (by kernel_rfl) (by kernel_rfl) (by kernel_rfl) (by kernel_rfl) (fun _ _ _ h => h) (Or.inl ⟨by rfl, ?_⟩) hS0 ?_
                    rotate_left
                    · intro w' hS'
                      obtain ⟨x3, r1, rk⟩ := stepS.out w' hS'.2
                      have b1 := hS'.1.c 1 rfl
                      go_simp
                      with_reducible rfl
                    simp only [Act.put, List.setIfInBounds_toArray, List.set_cons_zero, List.set_cons_succ]
                    refine one_next (i := 11) (by kernel_rfl) rfl (fun K hK => ?_)
                    refine step_call (by rfl) (f := 49) (args := #[.string sk, .int .i64 15]) (by go_simp) ?_
                    with_reducible refine Calls.mono (C1 _).out ?_
                    rintro e w' ⟨rfl, rfl⟩
                    refine ⟨_, rfl, ?_⟩
                    refine hK.out _ _ (fun _ => hS0) ?_
                    clear hK K
                    try simp only [Act.put, List.setIfInBounds_toArray, List.set_cons_zero, List.set_cons_succ]
                    refine one_next (i := 12) (by kernel_rfl) rfl (fun K hK => ?_)
                    go_simp
                    refine hK.out _ _ (fun _ => ⟨hS0.1.onto _, below_alloc hS0.2 _⟩) ?_
                    clear hK K
                    try simp only [Act.put, List.setIfInBounds_toArray, List.set_cons_zero, List.set_cons_succ]
                    refine one_next (i := 13) (by kernel_rfl) rfl (fun K hK => ?_)
                    refine Kd.R_append_rows_step Kd.string (w0 := Wo) Wo.heap.size (by rfl) (.tmp 83) (.tmp 94) 28 9 (.string ⟨#[]⟩) 16 rfl Tryz.underlying28 infoS rfl (by decide) (by omega) (.slice Av rt.length cv) rt [z] _ 1 1 (fun x => x ≠ T) (fun _ => False) (by rfl) (by rfl) (Kd.R_below HKX.out.2.1 (show Below wr.heap.size wr _ from (by repeat (first | (with_reducible first | exact Below.refl _ _ | apply below_alloc | apply below_drew1) | exact Below.refl _ _)))) (one_str (by first | exact lit_new _ _ _ | exact lit_new2 _ _ _)) (fun _ _ h => h) (fun _ h => h.elim) (fresh_ne HSZ.out.2 (show Below wr.heap.size wr _ from (by repeat (first | (with_reducible first | exact Below.refl _ _ | apply below_alloc | apply below_drew1) | exact Below.refl _ _))).size) (HKB.out.trans ((show Below wr.heap.size wr _ from (by repeat (first | (with_reducible first | exact Below.refl _ _ | apply below_alloc | apply below_drew1) | exact Below.refl _ _))).mono HKB.out.size)) (Nat.le_trans HSZ.out.1 (show Below wr.heap.size wr _ from (by repeat (first | (with_reducible first | exact Below.refl _ _ | apply below_alloc | apply below_drew1) | exact Below.refl _ _))).size) (by omega) ?_
                    intro v1' w9 ho hb9 hg hat
                    obtain ⟨A9, c9, e9⟩ := Kd.R_slice ho
                    subst e9
                    have HX9 := Aside0.mk (Bx.grown (HKX.out.1.move (show Below wr.heap.size wr _ from (by repeat (first | (with_reducible first | exact Below.refl _ _ | apply below_alloc | apply below_drew1) | exact Below.refl _ _))) HKX.out.1.lt) hg (fun he => HKX.out.2.1.1 T he.symm rfl))
                    have H9 := Aside0.mk (And.intro ho hb9)
                    have HB9 : Aside0 (Below W2.heap.size W2 w9) := ⟨HBW.out.1.trans (by rw [← HWo.out]; exact hb9.mono (by rw [HWo.out]; exact HBW.out.1.size))⟩
                    have g1 := HX9.out.c 1 rfl
                    have g2 := HX9.out.fz 1
                    clear ho hb9 hg hat hS0
                    refine hK.out _ _ (fun _ => ⟨HX9.out, HB9.out⟩) ?_
                    clear hK K
                    try simp only [Act.put, List.setIfInBounds_toArray, List.set_cons_zero, List.set_cons_succ]
                    refine one_next (i := 14) (by kernel_rfl) rfl (fun K hK => ?_)
                    go_simp
                    refine hK.out _ _ (fun _ => ⟨HX9.out, HB9.out⟩) ?_
                    clear hK K
                    try simp only [Act.put, List.setIfInBounds_toArray, List.set_cons_zero, List.set_cons_succ]
                    refine one_next (i := 15) (by kernel_rfl) rfl (fun K hK => ?_)
                    go_simp
                    refine hK.out _ _ (fun h => absurd rfl h) ?_
                    clear hK K
                    refine all_done (by kernel_rfl) ?_
                    try simp only [Act.put, List.setIfInBounds_toArray, List.set_cons_zero, List.set_cons_succ]
                    go_wp2_with fail
                    go_roundg (gk - 1)
                    case measure => have := HK.out; have := HKL.out; omega
                    case rel =>
                      rw [show rt.length + 1 = (rt ++ [z]).length by simp]
                      refine ⟨k + 1, _, _, by have := HK.out; have := HKL.out; omega, by have h1 := HKL.out; first | rfl | (congr 1; unfold wrap64; omega), HX9.out.put 1 _, Kd.R_far H9.out.1 (fun x h => h) _, by simp; exact HK.out.2, fun y hy => ?_, H9.out.2.setCell (p := ⟨T, 1, none⟩) HTW.out _⟩
                      rcases List.mem_append.1 hy with h | h
                      · exact HKX.out.2.2 y h
                      · rw [List.mem_singleton.1 h]; exact HZ.out
                  · have HE3 : Aside0 (rt.length ≤ 22) := ⟨by have := HK.out; have := HLEN3.out; omega⟩
                    by_cases hit : k < f1.length
                    · have t3 : decide ((k : Int) < (f1.length : Int)) = true := by simp; omega
                      have hk22 : ¬ k < 22 := by have := HLEN3.out; omega
                      have t4 : decide ((k : Int) < 22) = false := by simp; omega
                      go_wp2_with fail
                      go_meet
                      exact ⟨_, _, HKX.out.1, HKX.out.2.1, HE3.out, HKX.out.2.2, HKB.out⟩
                    · have t3 : decide ((k : Int) < (f1.length : Int)) = false := by simp; omega
                      go_wp2_with fail
                      go_meet
                      exact ⟨_, _, HKX.out.1, HKX.out.2.1, HE3.out, HKX.out.2.2, HKB.out⟩
              case rest =>
                obtain ⟨v1, rt, hbx, hr1, hrl, hrs, hbk⟩ := hcut
                obtain ⟨W12, rfl⟩ : ∃ x, x = wc := ⟨_, rfl⟩
                have hbk' : Below wr.heap.size wr W12 := by rw [← HWo.out]; exact hbk
                have hTT : T = wr.heap.size := HT.out.1
                have HW : Aside0 (Below W2.heap.size W2 W12 ∧ W8.heap.size ≤ W12.heap.size ∧ W2.heap.size ≤ W12.heap.size) := ⟨HBW.out.1.trans (hbk'.mono HBW.out.1.size), Nat.le_trans HBW.out.2 hbk'.size, Nat.le_trans HBW.out.1.size hbk'.size⟩
                have HO12 := Aside0.mk (HBO.out.move hbk' HBO.out.lt)
                have HRT := Aside0.mk (Kd.R_below HR.out.1 hbk')
                have HRR := Aside0.mk (Kd.R_below HR.out.2.1 hbk')
                have HRI : Aside0 (Kd.R Kd.string 9 W12 W2.heap.size (fun x => wr.heap.size ≤ x) v1 rt) := ⟨Kd.R_lower (Kd.R_mono (Kd.R_bound hr1) (fun x hx => by have := hx.2.1; rw [HWo.out] at this; exact this)) (by rw [HWo.out]; exact HBW.out.1.size)⟩
                have HSM : Aside0 (smallR ⟨a, rt, b⟩) := ⟨HAB.out.1, HAB.out.2, hrl, hrs⟩
                have HOWN : Aside0 (∀ x, wr.heap.size ≤ x → some x ≠ vR.ownBlock) := ⟨fun x hx he => by have := Kd.R_lt HR.out.2.1 x he.symm; omega⟩
                have HNW : Aside0 (W8.heap.size ≤ wr.heap.size) := ⟨HBW.out.2⟩
                obtain ⟨Ar, cr, rfl⟩ := Kd.R_slice hr1
                obtain ⟨Aq, cq, rfl⟩ := Kd.R_slice HR.out.2.1
                have r0 := hbx.c 0 rfl
                have r1 := hbx.c 1 rfl
                have r2 := hbx.c 2 rfl
                have o3 := HO12.out.c 3 rfl
                have hlq : q.length ≤ 105 := by have := HI.out; have := HIL.out; omega
                clear hbx hr1 hrl hrs hbk hbk' hTT
                go_wp2_with (first
                  | (at_builtin; refine Kd.R_append kRu (w0 := W2) W2.heap.size rfl (.tmp 98) (.tmp 100) 23 73 (.agg #[.string ⟨#[]⟩, .slice none 0 0, .string ⟨#[]⟩]) 56 rfl Tryz.underlying23 infoRu rfl (by decide) (by omega) _ q (⟨a, rt, b⟩ : SRu) [.string a, .slice Ar rt.length cr, .string b] (fun x => W8.heap.size ≤ x) (fun x => wr.heap.size ≤ x) rfl rfl (kRu_mkM _ _ _ (⟨a, rt, b⟩ : SRu) HRI.out) (fun x hx => ⟨Nat.le_trans HNW.out hx, HOWN.out x hx⟩) (fun x hx => Nat.le_trans HW.out.2.1 hx) HRR.out HW.out.1 HW.out.2.2 (by omega) ?_; intro v2 w9 ho hb9 hg hat; obtain ⟨A9, c9, e9⟩ := Kd.R_slice ho; subst e9; have HX9 := Aside0.mk (Bx.grown HO12.out hg (fun he => by have h1 := HRR.out.1 O he.symm; have := HN.out; simp only at h1; omega)); have H9 := Aside0.mk (And.intro ho hb9); have HT9 := Aside0.mk (Kd.R_after (ok := fun x => x ≠ O ∧ x < W8.heap.size) (v := .slice Aq q.length cq) (Kd.R_mono HRT.out (fun x hx => ⟨hx, fun he => by have h1 := HRR.out.1 x he.symm; have := hx.2; simp only at h1; omega⟩)) hg hat); have HS9 : Aside0 (W8.heap.size ≤ w9.heap.size) := ⟨Nat.le_trans HW.out.2.1 hg.size⟩; have g1 := HX9.out.c 3 rfl; have g2 := HX9.out.fz 3; clear ho hb9 hg hat))
                go_roundg (gko - 1)
                case measure => have := HI.out; have := HIL.out; have := HGO.out; omega
                case rel =>
                  rw [show q.length + 1 = (q ++ [(⟨a, rt, b⟩ : SRu)]).length by simp]
                  refine ⟨i + 1, _, _, by have := HI.out; have := HIL.out; have := HGO.out; omega, by have h1 := HIL.out; first | rfl | (congr 1; unfold wrap64; omega), HX9.out.put 3 _, Kd.R_mono (Kd.R_far HT9.out (fun x h => h.1.1) _) (fun x hx => hx.1), Kd.R_far H9.out.1 (fun x hx => by have := HN.out; show x ≠ O; omega) _, by simp; exact HI.out.2, fun r hr => ?_, H9.out.2.setCell (p := ⟨O, 3, none⟩) (by have := HO.out; show W2.heap.size ≤ O; omega) _, by rw [World.size_setCell]; exact HS9.out⟩
                  rcases List.mem_append.1 hr with h | h
                  · exact HR.out.2.2 r h
                  · rw [List.mem_singleton.1 h]; exact HSM.out
          · have HE : Aside0 (q.length ≤ 105) := ⟨by have := HI.out; have := HLEN2.out; omega⟩
            by_cases hit : i < rs.length
            · have t1 : decide ((i : Int) < (rs.length : Int)) = true := by simp; omega
              have hi105 : ¬ i < 105 := by have := HLEN2.out; omega
              have t2 : decide ((i : Int) < 105) = false := by simp; omega
              go_wp2_with fail
              go_meet
              exact ⟨_, _, HBO.out, HR.out.1, HR.out.2.1, HE.out, HR.out.2.2, HBW.out.1⟩
            · have t1 : decide ((i : Int) < (rs.length : Int)) = false := by simp; omega
              go_wp2_with fail
              go_meet
              exact ⟨_, _, HBO.out, HR.out.1, HR.out.2.1, HE.out, HR.out.2.2, HBW.out.1⟩
      case rest =>
        obtain ⟨vR, q, hbo, hrt, hrr, hql, hqs, hbw⟩ := hcut
        obtain ⟨W16, rfl⟩ : ∃ x, x = wc := ⟨_, rfl⟩
        obtain ⟨Al, cl, rfl⟩ := Kd.R_slice hrt
        obtain ⟨Aq, cq, rfl⟩ := Kd.R_slice hrr
        have HVr := Aside0.mk (HX.out.2.move hbw HX.out.2.lt)
        have hend : ∀ w', (∀ k, W2.heap.size ≤ k → w'.heap[k]? = W16.heap[k]?) → Below w.heap.size w w' → CutPost w (.returned (.agg #[.slice Al l.length cl, .string s1, .int .i64 ex, .slice Aq q.length cq])) w' := fun w' hk hb => by
          obtain ⟨_, d0, n0⟩ := Kd.R_reads' (Kd.R_move (w1 := w') (Kd.R_bound hrt) (fun k h => hk k h.2.1))
          obtain ⟨_, d3, n3⟩ := Kd.R_reads' (Kd.R_move (w1 := w') (Kd.R_bound hrr) (fun k h => hk k h.2.1))
          exact ⟨Al, cl, l, s1, ex, Aq, cq, q, rfl, n0, d0, n3, d3, HT8.out.1, hql, HS1.out, HT8.out.2, hqs, hb⟩
        have HEND := Aside0.mk hend
        have HB16 : Aside0 (Below w.heap.size w W16) := ⟨HB.out.trans (hbw.mono HB.out.size)⟩
        have o0 := hbo.c 0 rfl
        have o1 := hbo.c 1 rfl
        have o2 := hbo.c 2 rfl
        have o3 := hbo.c 3 rfl
        have v0 := HVr.out.c 0 rfl
        have v1 := HVr.out.c 1 rfl
        have v2 := HVr.out.c 2 rfl
        have v3 := HVr.out.c 3 rfl
        have vf := fun k => HVr.out.fz k
        clear hbo hrt hrr hql hqs hbw hend
        go_wp2_with fail
        refine bodyPost_ret (results_cell_row rfl _ _ V 25 #[.slice Al l.length cl, .string s1, .int .i64 ex, .slice Aq q.length cq] (0, 0) _ rfl (put4_bx HVr.out).heap Tryz.underlying25 rfl (by kernel_rfl)) rfl ?_
        exact HEND.out _ (fun k hk => put4_far (by have := HV.out; omega)) (put4_below HB16.out HV.out.1)
end Go.Proofs.YtjhemobplcelbaaGreatDoor.O
