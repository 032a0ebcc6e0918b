/- of: rule of donatusref4: a rule by numbers. -/
import Derived.Test.YtjhemobplcelbaaGreatDoorOfD
namespace Go.Proofs.YtjhemobplcelbaaGreatDoor.O
open Go.RowKit Go.Proofs.YtjhemobplcelbaaGreatDoorW.PrintWords Go.Proofs.YtjhemobplcelbaaGreatDoorW.PrintLast Go.Proofs.YtjhemobplcelbaaGreatDoorW.PrintMore
open Go.Proofs.YtjhemobplcelbaaGreatDoor.U (SR kSR kSR_mkM)
set_option linter.unusedVariables false
set_option linter.unusedSimpArgs false
theorem infoI : (Tryz.prog.info? 3).map (fun i => (i.zero, i.size, i.bytes)) = some (some (.int .i64 0), 1, 8) := by kernel_rfl
/-- A variable's block. -/
structure Bx (W : World) (X : Nat) (cs : Array Value) (ty : TypeId) : Prop where
  heap : W.heap[X]? = some (.cells cs ty (0, 0))
section
variable {W W' : World} {X Y B : Nat} {cs : Array Value} {ty : TypeId}
theorem Bx.lt (h : Bx W X cs ty) : X < W.heap.size := (Array.getElem?_eq_some_iff.1 h.heap).1
theorem Bx.c (h : Bx W X cs ty) (k : Nat) {v : Value} (hk : cs.toList[k]? = some v) : W.cell? ⟨X, k, none⟩ = some v := by
  rw [Array.getElem?_toList] at hk
  simp [World.cell?, h.heap, hk]
theorem Bx.fz (h : Bx W X cs ty) (k : Nat) : W.frozen? ⟨X, k, none⟩ = false := by simp [World.frozen?, h.heap]
theorem Bx.move (h : Bx W X cs ty) (hb : Below B W W') (hX : X < B) : Bx W' X cs ty := ⟨(hb.block X hX).trans h.heap⟩
theorem Bx.new (w : World) (cs : Array Value) (ty : TypeId) : Bx (w.alloc (.cells cs ty)) w.heap.size cs ty := ⟨heap_alloc_new w _⟩
theorem Bx.put (h : Bx W X cs ty) (j : Nat) (v : Value) : Bx (W.setCell ⟨X, j, none⟩ v) X (cs.setIfInBounds j v) ty := ⟨by rw [setCell_eq_setRow W X j cs ty (0, 0) v h.heap]; exact setRow_heap W X cs _ ty (0, 0) h.heap⟩
theorem Bx.far (h : Bx W X cs ty) (p : Addr) (hp : X ≠ p.block) (v : Value) : Bx (W.setCell p v) X cs ty := ⟨(Below.heap_setCell W p v X hp).trans h.heap⟩
theorem Bx.onto (h : Bx W X cs ty) (o : Obj) : Bx (W.alloc o) X cs ty := h.move (below_alloc (Below.refl _ _) o) h.lt
theorem Bx.drew (h : Bx W X cs ty) : Bx W.drew X cs ty := ⟨h.heap⟩
theorem Bx.grown {row : Option Nat} (h : Bx W X cs ty) (hg : W.grownBy W' row) (hne : some X ≠ row) : Bx W' X cs ty := ⟨(hg.block X h.lt hne).trans h.heap⟩
end
theorem boxes4 (w : World) (c1 c2 c3 c4 : Array Value) (t1 t2 t3 t4 : TypeId) : ∃ X Y Z V C : Nat, X = w.heap.size ∧ Y = w.heap.size + 1 ∧ Z = w.heap.size + 1 + 1 ∧ V = w.heap.size + 1 + 1 + 1 ∧ C = ((((w.alloc (.cells c1 t1)).alloc (.cells c2 t2)).alloc (.cells c3 t3)).alloc (.cells c4 t4)).heap.size ∧ C = w.heap.size + 4 ∧
    Bx ((((w.alloc (.cells c1 t1)).alloc (.cells c2 t2)).alloc (.cells c3 t3)).alloc (.cells c4 t4)) X c1 t1 ∧ Bx ((((w.alloc (.cells c1 t1)).alloc (.cells c2 t2)).alloc (.cells c3 t3)).alloc (.cells c4 t4)) Y c2 t2 ∧ Bx ((((w.alloc (.cells c1 t1)).alloc (.cells c2 t2)).alloc (.cells c3 t3)).alloc (.cells c4 t4)) Z c3 t3 ∧ Bx ((((w.alloc (.cells c1 t1)).alloc (.cells c2 t2)).alloc (.cells c3 t3)).alloc (.cells c4 t4)) V c4 t4 ∧
    Below w.heap.size w ((((w.alloc (.cells c1 t1)).alloc (.cells c2 t2)).alloc (.cells c3 t3)).alloc (.cells c4 t4)) := by
  have h2 := Bx.new (w.alloc (.cells c1 t1)) c2 t2
  have h3 := Bx.new ((w.alloc (.cells c1 t1)).alloc (.cells c2 t2)) c3 t3
  have h4 := Bx.new (((w.alloc (.cells c1 t1)).alloc (.cells c2 t2)).alloc (.cells c3 t3)) c4 t4
  rw [World.size_alloc] at h2
  rw [World.size_alloc, World.size_alloc] at h3
  rw [World.size_alloc, World.size_alloc, World.size_alloc] at h4
  refine ⟨_, _, _, _, _, rfl, rfl, rfl, rfl, rfl, by simp only [World.size_alloc], (((Bx.new w c1 t1).onto _).onto _).onto _, (h2.onto _).onto _, h3.onto _, h4, ?_⟩
  have b1 := below_alloc (Below.refl w.heap.size w) (.cells c1 t1)
  have b2 := below_alloc b1 (.cells c2 t2)
  have b3 := below_alloc b2 (.cells c3 t3)
  exact below_alloc b3 (.cells c4 t4)
theorem plc_lt (s : ByteArray) : ∀ (xs : List ByteArray) (i : Nat), plc s xs i < (i : Int) + xs.length := by
  intro xs
  induction xs with
  | nil => intro i; simp only [plc, List.length_nil]; omega
  | cons x xs ih =>
    intro i
    unfold plc
    split
    · simp; omega
    · have := ih (i + 1); simp only [List.length_cons]; omega
theorem plc_ge (s : ByteArray) : ∀ (xs : List ByteArray) (i : Nat), -1 ≤ plc s xs i := by
  intro xs
  induction xs with
  | nil => intro i; simp [plc]
  | cons x xs ih =>
    intro i
    unfold plc
    split
    · omega
    · exact ih (i + 1)
def byStep (t : Int) (b n : Int) : Int := if n < t then n else b
/-- The token by which a rule binds; -1. -/
def ruleBy (ts : List STk) (names : List ByteArray) (r : SRu) : Int := if r.f2 = ⟨#[]⟩ then (r.f1.map (fun s => plc s names 0)).foldl (byStep ts.length) (-1) else plc r.f2 (ts.map STk.f0) 0
def ruleF (ts : List STk) (names : List ByteArray) (r : SRu) : SR := ⟨plc r.f0 names 0, r.f1.map (fun s => plc s names 0), if 0 ≤ ruleBy ts names r then (rdTk ts (ruleBy ts names r)).f1 else 0, if 0 ≤ ruleBy ts names r then (rdTk ts (ruleBy ts names r)).f2 else 0⟩
theorem by_lt (t : Int) (h0 : 0 ≤ t) : ∀ (l : List Int) (b : Int), b < t → l.foldl (byStep t) b < t := by
  intro l
  induction l with
  | nil => intro b h; exact h
  | cons x l ih =>
    intro b h
    refine ih _ ?_
    unfold byStep
    split <;> omega
theorem ruleBy_lt (ts : List STk) (names : List ByteArray) (r : SRu) : ruleBy ts names r < ts.length := by
  unfold ruleBy
  split
  · exact by_lt _ (by omega) _ _ (by omega)
  · have := plc_lt r.f2 (ts.map STk.f0) 0; simp at this; omega
theorem drawn_below {w w' : World} (h : Drawn0 w w') : Below w.heap.size w w' := by
  obtain ⟨n, rfl⟩ := h
  exact pw_below_drewN (Below.refl _ _) n
def put4 (W : World) (X : Nat) (v0 v1 v2 v3 : Value) : World := (((W.setCell ⟨X, 0, none⟩ v0).setCell ⟨X, 1, none⟩ v1).setCell ⟨X, 2, none⟩ v2).setCell ⟨X, 3, none⟩ v3
theorem put4_bx {W : World} {X : Nat} {a0 a1 a2 a3 v0 v1 v2 v3 : Value} {e : Nat} (h : Bx W X #[a0, a1, a2, a3] e) : Bx (put4 W X v0 v1 v2 v3) X #[v0, v1, v2, v3] e := (((h.put 0 v0).put 1 v1).put 2 v2).put 3 v3
theorem put4_far {W : World} {X k : Nat} {v0 v1 v2 v3 : Value} (hk : k ≠ X) : (put4 W X v0 v1 v2 v3).heap[k]? = W.heap[k]? := by
  unfold put4
  rw [Below.heap_setCell _ _ _ k hk, Below.heap_setCell _ _ _ k hk, Below.heap_setCell _ _ _ k hk, Below.heap_setCell _ _ _ k hk]
theorem put4_below {B0 : Nat} {w W : World} {X : Nat} {v0 v1 v2 v3 : Value} (h : Below B0 w W) (hX : B0 ≤ X) : Below B0 w (put4 W X v0 v1 v2 v3) :=
  (((h.setCell (p := ⟨X, 0, none⟩) hX _).setCell (p := ⟨X, 1, none⟩) hX _).setCell (p := ⟨X, 2, none⟩) hX _).setCell (p := ⟨X, 3, none⟩) hX _
def RlRel (W : World) (C : Nat) (lf : Int) (ts : List STk) (names : List ByteArray) (l : List ByteArray) (kq : Nat) (v8 v9 : Value) (w' : World) : Prop := ∃ (k : Nat) (b : Int) (v1 : Value) (rt : List Int), k + kq = l.length ∧ v9 = .int .i64 (k : Int) ∧ v8 = .int .i64 b ∧ Bx w' C #[.int .i64 lf, v1, .int .i64 0, .int .i64 0] 81 ∧ Kd.R (Kd.int .i64) 3 w' W.heap.size (fun x => x ≠ C) v1 rt ∧ rt = (l.take k).map (fun s => plc s names 0) ∧ b = rt.foldl (byStep ts.length) (-1) ∧ Below W.heap.size W w'
set_option maxRecDepth 100000 in
set_option maxHeartbeats 4000000 in
theorem rule_calls (w : World) (A : Option Addr) (c : Nat) (ts : List STk) (st : ByteArray) (ex : Int) (A2 : Option Addr) (n2 c2 : Nat) (t n st2 ex2 : Int) (A4 A5 A6 A7 : Option Addr) (c4 n5 c5 n6 c6 n7 c7 : Nat) (names : List ByteArray) (A1 : Option Addr) (c1 : Nat) (r : SRu)
    (hts : Kd.C kTk w A ts.length ts) (hct : ts.length ≤ c) (hnm : Kd.C Kd.string w A4 names.length names) (hc4 : names.length ≤ c4) (hr : Kd.C Kd.string w A1 r.f1.length r.f1) (hc1 : r.f1.length ≤ c1) (hl : r.f1.length ≤ 1000000) (ht : t = ts.length) :
    Calls Tryz.prog 46 #[.agg #[.slice A ts.length c, .string st, .int .i64 ex, .slice A2 n2 c2], .agg #[.int .i64 t, .int .i64 n, .int .i64 st2, .int .i64 ex2, .slice A4 names.length c4, .slice A5 n5 c5, .slice A6 n6 c6, .slice A7 n7 c7], .agg #[.string r.f0, .slice A1 r.f1.length c1, .string r.f2]] w fun e w' => ∃ A' c', e = .returned (.agg #[.int .i64 (ruleF ts names r).f0, .slice A' (ruleF ts names r).f1.length c', .int .i64 (ruleF ts names r).f2, .int .i64 (ruleF ts names r).f3]) ∧ Kd.R (Kd.int .i64) 3 w' w.heap.size (fun _ => True) (.slice A' (ruleF ts names r).f1.length c') (ruleF ts names r).f1 ∧ Below w.heap.size w w' := by
  obtain ⟨rl, rt, rp⟩ := r
  simp only at hr hc1 hl ⊢
  have HH := Aside0.mk (And.intro hts (And.intro hnm (And.intro hr hl)))
  have HT := Aside0.mk ht
  clear hts hnm hr hl ht
  go_enter Tryz.func46, Tryz.ntmps46
  go_upto_region 1 with fail
  obtain ⟨X, Y, Z, V, C, hX, hY, hZ, hV, hC, hs, b1, b2, b3, b4, hb⟩ := boxes4 w #[.slice A ts.length c, .string st, .int .i64 ex, .slice A2 n2 c2] #[.int .i64 t, .int .i64 n, .int .i64 st2, .int .i64 ex2, .slice A4 names.length c4, .slice A5 n5 c5, .slice A6 n6 c6, .slice A7 n7 c7] #[.string rl, .slice A1 rt.length c1, .string rp] #[.int .i64 0, .slice none 0 0, .int .i64 0, .int .i64 0] 25 32 73 81
  rw [← hV, ← hZ, ← hY]
  rw [← hX]
  generalize (((w.alloc (.cells #[.slice A ts.length c, .string st, .int .i64 ex, .slice A2 n2 c2] 25)).alloc (.cells #[.int .i64 t, .int .i64 n, .int .i64 st2, .int .i64 ex2, .slice A4 names.length c4, .slice A5 n5 c5, .slice A6 n6 c6, .slice A7 n7 c7] 32)).alloc (.cells #[.string rl, .slice A1 rt.length c1, .string rp] 73)).alloc (.cells #[.int .i64 0, .slice none 0 0, .int .i64 0, .int .i64 0] 81) = W3 at *
  have HB := Aside0.mk hb
  have HS : Aside0 (X < C ∧ Y < C ∧ Z < C ∧ V < C ∧ C = W3.heap.size) := ⟨by omega⟩
  have HX := Aside0.mk (And.intro b1 (And.intro b2 (And.intro b3 b4)))
  have HL := Aside0.mk (And.intro (Kd.C_below HH.out.1 hb) (And.intro (Kd.C_below HH.out.2.1 hb) (Kd.C_below HH.out.2.2.1 hb)))
  have hrt := HH.out.2.2.2
  have HVW : Aside0 (w.heap.size ≤ V) := ⟨by omega⟩
  clear hX hY hZ hV hs hb HH
  have y4 := b2.c 4 rfl
  have z0 := b3.c 0 rfl
  clear b1 b2 b3 b4
  have CP := Aside0.mk (place_calls W3 A4 c4 names rl HL.out.2.1 hc4)
  go_wp2_with (first
    | (go_at_call 45; (with_reducible refine Calls.mono CP.out ?_); rintro e w4 ⟨rfl, rfl⟩))
  rw [← hC]
  have HC := Aside0.mk hC
  have hbA := below_alloc (Below.refl w4.heap.size w4) (.cells #[.int .i64 (plc rl names 0), .slice none 0 0, .int .i64 0, .int .i64 0] 81)
  have hbx := Bx.new w4 #[.int .i64 (plc rl names 0), .slice none 0 0, .int .i64 0, .int .i64 0] 81
  rw [← hC] at hbx
  have H5 := Aside0.mk (And.intro hbx hbA)
  generalize w4.alloc (.cells #[.int .i64 (plc rl names 0), .slice none 0 0, .int .i64 0, .int .i64 0] 81) = W5 at *
  clear hbA hbx hC CP y4 z0
  go_loopg [8, 9] rt.length (fun kq v8 v9 w' => RlRel w4 C (plc rl names 0) ts names rt kq v8 v9 w')
  case atStart => exact ⟨0, -1, .slice none 0 0, [], by omega, rfl, rfl, H5.out.1, Kd.R_nil _ _ _ _ _, rfl, rfl, H5.out.2⟩
  case round =>
    obtain ⟨k, b, v1, l, hk, rfl, rfl, hbx, hR, hl, hbv, hbw⟩ := hrel
    have HK := Aside0.mk hk
    have HR := Aside0.mk (And.intro hbx (And.intro hR (And.intro hl (And.intro hbv hbw))))
    have HLT : Aside0 (Y < wr.heap.size ∧ Z < wr.heap.size) := ⟨by have := HS.out; have := hbw.size; omega⟩
    have HYr := Aside0.mk (HX.out.2.1.move hbw (by have := HS.out; omega))
    have HZr := Aside0.mk (HX.out.2.2.1.move hbw (by have := HS.out; omega))
    have y4 := HYr.out.c 4 rfl
    have y0 := HYr.out.c 0 rfl
    have z1 := HZr.out.c 1 rfl
    clear hk hbx hR hl hbv hbw
    by_cases hkl : k < rt.length
    · have t1 : decide ((k : Int) < (rt.length : Int)) = true := by simp; omega
      have hkn : (k : Int) < (rt.length : Int) := by omega
      obtain ⟨bd, e2, hcx⟩ := str_at HL.out.2.2 k hkl
      subst e2
      have hcx2 := pw_cell_below HR.out.2.2.2.2 hcx
      have HTK : Aside0 ((rt.take (k + 1)).map (fun s => plc s names 0) = (rt.take k).map (fun s => plc s names 0) ++ [plc rt[k] names 0]) := ⟨by rw [List.take_succ_eq_append_getElem hkl, List.map_append]; rfl⟩
      have HKL := Aside0.mk hkl
      generalize rt[k] = s at *
      have HPL : Aside0 (-1 ≤ plc s names 0 ∧ plc s names 0 < names.length) := ⟨plc_ge _ _ _, by have := plc_lt s names 0; omega⟩
      have CP : ∀ n, Aside0 (Calls Tryz.prog 45 #[.slice A4 names.length c4, .string s] (wr.drewN n) fun e w' => e = .returned (.int .i64 (plc s names 0)) ∧ w' = wr.drewN n) := fun n => ⟨place_calls (wr.drewN n) A4 c4 names s (Kd.C_below HL.out.2.1 (HR.out.2.2.2.2.trans ((drawn_below ⟨n, rfl⟩).mono HR.out.2.2.2.2.size))) hc4⟩
      clear hcx hkl
      go_upto_region 6 with fail
      go_quiet ((go_at_call 45; exact Calls.quiet_of_same (CP _).out))
      have hbd : Below wr.heap.size wr (wr.drewN nq) := drawn_below ⟨nq, rfl⟩
      have hRd := Kd.R_below HR.out.2.1 hbd
      have hCd := HR.out.1.move hbd HR.out.1.lt
      have HYd := Aside0.mk (HYr.out.move hbd HYr.out.lt)
      have hBd := HR.out.2.2.2.2.trans (hbd.mono HR.out.2.2.2.2.size)
      generalize wr.drewN nq = Wd at *
      have HW := Aside0.mk (And.intro hRd (And.intro hCd hBd))
      have HWC : Aside0 (C < Wd.heap.size ∧ w4.heap.size ≤ Wd.heap.size) := ⟨hCd.lt, hBd.size⟩
      have hlen : (List.map (fun s => plc s names 0) (rt.take k)).length ≤ 1000001 := by simp; omega
      have HLR := Aside0.mk (And.intro HR.out.2.2.1 HR.out.2.2.2.1)
      have hll : l.length ≤ 1000001 := by have := HLR.out.1; rw [this]; exact hlen
      obtain ⟨Av, cv, ev⟩ := Kd.R_slice HR.out.2.1
      subst ev
      have o1 := hCd.c 1 rfl
      obtain ⟨x, hx⟩ : ∃ x, x = plc s names 0 := ⟨_, rfl⟩
      rw [← hx]
      rw [← hx] at HTK HPL
      have hYC : Y ≠ C := by have := HS.out; omega
      clear hRd hCd hBd hbd CP hlen HR hx HYr y0 y4 z1 hcx2 hkn t1
      by_cases hxt : x < t
      · have t6 : decide (x < t) = true := decide_eq_true hxt
        have HXT := Aside0.mk hxt
        clear hxt
        go_wp2_with (first
          | (at_builtin; refine Kd.R_append (Kd.int .i64) (w0 := w4) w4.heap.size rfl (.tmp 33) (.tmp 35) 29 3 (.int .i64 0) 8 rfl Tryz.underlying29 infoI rfl (by decide) (by omega) _ l x [.int .i64 x] (fun z => z ≠ C) (fun _ => False) rfl rfl (show Kd.M (Kd.int .i64) _ _ _ x [.int .i64 x] from rfl) (fun _ h => h.elim) (fun z hz => by have := HWC.out.1; omega) HW.out.1 HW.out.2.2 HWC.out.2 (by omega) ?_; intro v2 w5 ho2 hb2 hg2 hat2; obtain ⟨A5, c5, e5⟩ := Kd.R_slice ho2; subst e5; have HC5 := Aside0.mk (HW.out.2.1.grown hg2 (fun he => HW.out.1.1 C he.symm rfl)); have HY5 := Aside0.mk (HYd.out.grown hg2 (fun he => by have h3 := Kd.R_base HW.out.1 Y he.symm; have := HS.out; omega)); have H5 := Aside0.mk (And.intro ho2 hb2); have g1 := HC5.out.c 1 rfl; have g2 := HC5.out.fz 1; have y0 := (HY5.out.far ⟨C, 1, none⟩ hYC (.slice A5 (l.length + 1) c5)).c 0 rfl; clear ho2 hb2 hg2 hat2))
        go_roundg (gk - 1)
        case measure => have := HK.out; have := HKL.out; omega
        case rel =>
          have hl1 : (l ++ [x]).length = l.length + 1 := by simp
          have h5 := H5.out
          rw [hl1] at h5
          exact ⟨k + 1, x, _, l ++ [x], by have := HK.out; have := HKL.out; omega, by have h1 := HKL.out; first | rfl | (congr 1; unfold wrap64; omega), rfl, HC5.out.put 1 _, Kd.R_far h5.1 (fun z h => h) _, by rw [HTK.out, ← HLR.out.1], by rw [List.foldl_append, ← HLR.out.2]; simp only [List.foldl_cons, List.foldl_nil, byStep]; have h1 := HXT.out; rw [HT.out] at h1; rw [if_pos h1], h5.2.setCell (p := ⟨C, 1, none⟩) (by have := HS.out; show w4.heap.size ≤ C; omega) _⟩
      · have t6 : decide (x < t) = false := decide_eq_false hxt
        have HXT := Aside0.mk hxt
        clear hxt
        go_wp2_with (first
          | (at_builtin; refine Kd.R_append (Kd.int .i64) (w0 := w4) w4.heap.size rfl (.tmp 33) (.tmp 35) 29 3 (.int .i64 0) 8 rfl Tryz.underlying29 infoI rfl (by decide) (by omega) _ l x [.int .i64 x] (fun z => z ≠ C) (fun _ => False) rfl rfl (show Kd.M (Kd.int .i64) _ _ _ x [.int .i64 x] from rfl) (fun _ h => h.elim) (fun z hz => by have := HWC.out.1; omega) HW.out.1 HW.out.2.2 HWC.out.2 (by omega) ?_; intro v2 w5 ho2 hb2 hg2 hat2; obtain ⟨A5, c5, e5⟩ := Kd.R_slice ho2; subst e5; have HC5 := Aside0.mk (HW.out.2.1.grown hg2 (fun he => HW.out.1.1 C he.symm rfl)); have HY5 := Aside0.mk (HYd.out.grown hg2 (fun he => by have h3 := Kd.R_base HW.out.1 Y he.symm; have := HS.out; omega)); have H5 := Aside0.mk (And.intro ho2 hb2); have g1 := HC5.out.c 1 rfl; have g2 := HC5.out.fz 1; have y0 := (HY5.out.far ⟨C, 1, none⟩ hYC (.slice A5 (l.length + 1) c5)).c 0 rfl; clear ho2 hb2 hg2 hat2))
        go_roundg (gk - 1)
        case measure => have := HK.out; have := HKL.out; omega
        case rel =>
          have hl1 : (l ++ [x]).length = l.length + 1 := by simp
          have h5 := H5.out
          rw [hl1] at h5
          exact ⟨k + 1, b, _, l ++ [x], by have := HK.out; have := HKL.out; omega, by have h1 := HKL.out; first | rfl | (congr 1; unfold wrap64; omega), rfl, HC5.out.put 1 _, Kd.R_far h5.1 (fun z h => h) _, by rw [HTK.out, ← HLR.out.1], by rw [List.foldl_append, ← HLR.out.2]; simp only [List.foldl_cons, List.foldl_nil, byStep]; have h1 := HXT.out; rw [HT.out] at h1; rw [if_neg (by omega)], h5.2.setCell (p := ⟨C, 1, none⟩) (by have := HS.out; show w4.heap.size ≤ C; omega) _⟩
    · have t1 : decide ((k : Int) < (rt.length : Int)) = false := by simp; omega
      have hka : rt.take k = rt := List.take_of_length_le (by omega)
      have HRT : Aside0 (l = rt.map (fun s => plc s names 0)) := ⟨by rw [HR.out.2.2.1, hka]⟩
      have HBY : Aside0 (b = (rt.map (fun s => plc s names 0)).foldl (byStep ts.length) (-1)) := ⟨by rw [HR.out.2.2.2.1, HRT.out]⟩
      have z2 := HZr.out.c 2 rfl
      have HXr := Aside0.mk (HX.out.1.move HR.out.2.2.2.2 (by have := HS.out; omega))
      have x0 := HXr.out.c 0 rfl
      have x1 := HXr.out.c 1 rfl
      have x2 := HXr.out.c 2 rfl
      have x3 := HXr.out.c 3 rfl
      have CT := Aside0.mk (token_calls wr A c ts st ex A2 n2 c2 rp (Kd.C_below HL.out.1 HR.out.2.2.2.2) hct)
      obtain ⟨by1, hby1⟩ : ∃ b, b = ruleBy ts names ⟨rl, rt, rp⟩ := ⟨_, rfl⟩
      have HBE : Aside0 (by1 = if rp = ⟨#[]⟩ then b else plc rp (ts.map STk.f0) 0) := ⟨by rw [hby1, HBY.out]; rfl⟩
      clear hka HK y4 y0 HBY
      obtain ⟨W10, rfl⟩ : ∃ x, x = wr := ⟨_, rfl⟩
      have HF : Aside0 (ruleF ts names ⟨rl, rt, rp⟩ = ⟨plc rl names 0, l, if 0 ≤ by1 then (rdTk ts by1).f1 else 0, if 0 ≤ by1 then (rdTk ts by1).f2 else 0⟩) := ⟨by rw [HRT.out, hby1]; rfl⟩
      have HBL : Aside0 (by1 < ts.length) := ⟨by rw [hby1]; exact ruleBy_lt _ _ _⟩
      clear hby1
      go_upto_if 45 with fail
      go_cut [8] (fun v8 wx => v8 = .int .i64 by1 ∧ Below W10.heap.size W10 wx)
      case first =>
        by_cases h5 : rp.toList = []
        · have t5 : (!rp.toList.isEmpty) = false := by rw [h5]; rfl
          have HP5 : Aside0 (by1 = b) := ⟨by rw [HBE.out, if_pos (toList_eq.1 (by rw [h5, toList_nil]))]⟩
          rw [t5]
          clear t5 h5
          go_wp2_with fail
          go_meet
          exact ⟨by rw [HP5.out], Below.refl _ _⟩
        · have t5 : (!rp.toList.isEmpty) = true := by simpa using h5
          have HP5 : Aside0 (by1 = plc rp (ts.map STk.f0) 0) := ⟨by rw [HBE.out, if_neg (fun h => h5 (by rw [h, toList_nil]))]⟩
          rw [t5]
          clear t5 h5
          go_wp2_with (first
            | (go_at_call 69; (with_reducible refine Calls.mono CT.out ?_); rintro e w5 ⟨rfl, hb5⟩; have HB5 := Aside0.mk hb5; clear hb5))
          go_meet
          exact ⟨by rw [HP5.out], HB5.out⟩
      case rest =>
        obtain ⟨rfl, hbc⟩ := hcut
        have HCr := Aside0.mk (HR.out.1.move hbc HR.out.1.lt)
        have HRr := Aside0.mk (Kd.R_below HR.out.2.1 hbc)
        have HBr := Aside0.mk (HR.out.2.2.2.2.trans (hbc.mono HR.out.2.2.2.2.size))
        have HXc := Aside0.mk (HXr.out.move hbc HXr.out.lt)
        have HVc := Aside0.mk (HX.out.2.2.2.move HBr.out (by have := HS.out; omega))
        have hVC : V ≠ C := by have := HS.out; omega
        have hXC : X ≠ C := by have := HS.out; omega
        clear hbc x0 x1 x2 x3 z1 z2 CT HBE
        obtain ⟨Av, cv, ev⟩ := Kd.R_slice HR.out.2.1
        subst ev
        by_cases hb0 : 0 ≤ by1
        · have t7 : decide (by1 ≥ 0) = true := decide_eq_true hb0
          obtain ⟨j, rfl⟩ : ∃ j : Nat, by1 = (j : Int) := ⟨by1.toNat, by omega⟩
          have hjl : j < ts.length := by have := HBL.out; omega
          obtain ⟨ad, rfl, q0, q1, q2⟩ := tok_at HL.out.1 j hjl
          have x0 := HXc.out.c 0 rfl
          have q1' := pw_cell_below HBr.out q1
          have q2' := pw_cell_below HBr.out q2
          have hadC : (ad.add (j * 3)).block ≠ C := by have h1 : (ad.add (j * 3)).block < w4.heap.size := World.block_lt_of_cell? w4 ⟨(ad.add (j * 3)).block, (ad.add (j * 3)).off + 1, none⟩ q1; have := HS.out; omega
          have hCX := hXC.symm
          have hCad := hadC.symm
          have f2 := HCr.out.fz 2
          have c2 := HCr.out.c 2 rfl
          have c3 := HCr.out.c 3 rfl
          have f3 := HCr.out.fz 3
          clear q0 q1 q2
          go_upto_region 13 with fail
          go_region_held3 (fun w' => w'.cell? ⟨X, 0, none⟩ = some (.slice (some ad) ts.length c) ∧ w'.cell? ⟨(ad.add (j * 3)).block, (ad.add (j * 3)).off + 1, none⟩ = some (.int .i64 ts[j].f1) ∧ w'.cell? ⟨(ad.add (j * 3)).block, (ad.add (j * 3)).off + 2, none⟩ = some (.int .i64 ts[j].f2)) (go_keep) (fail)
          have HCF : Aside0 (Bx ((wc.setCell ⟨C, 2, none⟩ (.int .i64 ts[j].f1)).setCell ⟨C, 3, none⟩ (.int .i64 ts[j].f2)).drew C #[.int .i64 (plc rl names 0), .slice Av l.length cv, .int .i64 ts[j].f1, .int .i64 ts[j].f2] 81 ∧ Bx ((wc.setCell ⟨C, 2, none⟩ (.int .i64 ts[j].f1)).setCell ⟨C, 3, none⟩ (.int .i64 ts[j].f2)).drew V #[.int .i64 0, .slice none 0 0, .int .i64 0, .int .i64 0] 81 ∧ Kd.R (Kd.int .i64) 3 ((wc.setCell ⟨C, 2, none⟩ (.int .i64 ts[j].f1)).setCell ⟨C, 3, none⟩ (.int .i64 ts[j].f2)).drew w4.heap.size (fun x => x ≠ C) (.slice Av l.length cv) l ∧ Below w4.heap.size w4 ((wc.setCell ⟨C, 2, none⟩ (.int .i64 ts[j].f1)).setCell ⟨C, 3, none⟩ (.int .i64 ts[j].f2)).drew) :=
            ⟨((HCr.out.put 2 _).put 3 _).drew, ((HVc.out.far ⟨C, 2, none⟩ hVC _).far ⟨C, 3, none⟩ hVC _).drew, Kd.R_below (Kd.R_far (Kd.R_far HRr.out (fun z h => h) _) (fun z h => h) _) (below_drew1 (Below.refl _ _)), below_drew1 ((HBr.out.setCell (p := ⟨C, 2, none⟩) (by have := HS.out; show w4.heap.size ≤ C; omega) _).setCell (p := ⟨C, 3, none⟩) (by have := HS.out; show w4.heap.size ≤ C; omega) _)⟩
          generalize ((wc.setCell ⟨C, 2, none⟩ (.int .i64 ts[j].f1)).setCell ⟨C, 3, none⟩ (.int .i64 ts[j].f2)).drew = WZ at *
          clear x0 q1' q2' c2 c3 f2 f3 hadC hCad
          have hCF := HCF.out.1
          have x0 := hCF.c 0 rfl
          have x1 := hCF.c 1 rfl
          have x2 := hCF.c 2 rfl
          have x3 := hCF.c 3 rfl
          have v0 := HCF.out.2.1.c 0 rfl
          have v1 := HCF.out.2.1.c 1 rfl
          have v2 := HCF.out.2.1.c 2 rfl
          have v3 := HCF.out.2.1.c 3 rfl
          have vf := fun k => HCF.out.2.1.fz k
          clear hCF
          have HEND : Aside0 (∃ A' c', Ending.returned (.agg #[.int .i64 (plc rl names 0), .slice Av l.length cv, .int .i64 ts[j].f1, .int .i64 ts[j].f2]) = .returned (.agg #[.int .i64 (ruleF ts names ⟨rl, rt, rp⟩).f0, .slice A' (ruleF ts names ⟨rl, rt, rp⟩).f1.length c', .int .i64 (ruleF ts names ⟨rl, rt, rp⟩).f2, .int .i64 (ruleF ts names ⟨rl, rt, rp⟩).f3]) ∧ Kd.R (Kd.int .i64) 3 (put4 WZ V (.int .i64 (plc rl names 0)) (.slice Av l.length cv) (.int .i64 ts[j].f1) (.int .i64 ts[j].f2)) w.heap.size (fun _ => True) (.slice A' (ruleF ts names ⟨rl, rt, rp⟩).f1.length c') (ruleF ts names ⟨rl, rt, rp⟩).f1 ∧ Below w.heap.size w (put4 WZ V (.int .i64 (plc rl names 0)) (.slice Av l.length cv) (.int .i64 ts[j].f1) (.int .i64 ts[j].f2))) := ⟨by
            rw [HF.out]
            have hVw : w.heap.size ≤ V := HVW.out
            refine ⟨Av, cv, by rw [if_pos hb0, if_pos hb0]; simp [rdTk, List.getD, hjl], ?_, put4_below (HB.out.trans (HCF.out.2.2.2.mono HB.out.size)) hVw⟩
            exact Kd.R_lower (Kd.R_mono (Kd.R_move (w1 := put4 WZ V _ _ _ _) (Kd.R_bound HCF.out.2.2.1) (fun k hk => put4_far (by have := hk.2.1; have := HS.out; omega))) (fun _ _ => trivial)) HB.out.size⟩
          go_wp2_with fail
          refine bodyPost_ret (results_cell_row rfl _ _ V 81 #[.int .i64 (plc rl names 0), .slice Av l.length cv, .int .i64 ts[j].f1, .int .i64 ts[j].f2] (0, 0) _ rfl (put4_bx HCF.out.2.1).heap Tryz.underlying81 rfl (by kernel_rfl)) rfl ?_
          exact HEND.out
        · have t7 : decide (by1 ≥ 0) = false := decide_eq_false hb0
          have HCF : Aside0 (Bx wc C #[.int .i64 (plc rl names 0), .slice Av l.length cv, .int .i64 0, .int .i64 0] 81 ∧ Bx wc V #[.int .i64 0, .slice none 0 0, .int .i64 0, .int .i64 0] 81 ∧ Kd.R (Kd.int .i64) 3 wc w4.heap.size (fun x => x ≠ C) (.slice Av l.length cv) l ∧ Below w4.heap.size w4 wc) := ⟨HCr.out, HVc.out, HRr.out, HBr.out⟩
          generalize wc = WZ at *
          have hCF := HCF.out.1
          have x0 := hCF.c 0 rfl
          have x1 := hCF.c 1 rfl
          have x2 := hCF.c 2 rfl
          have x3 := hCF.c 3 rfl
          have v0 := HCF.out.2.1.c 0 rfl
          have v1 := HCF.out.2.1.c 1 rfl
          have v2 := HCF.out.2.1.c 2 rfl
          have v3 := HCF.out.2.1.c 3 rfl
          have vf := fun k => HCF.out.2.1.fz k
          clear hCF
          have HEND : Aside0 (∃ A' c', Ending.returned (.agg #[.int .i64 (plc rl names 0), .slice Av l.length cv, .int .i64 0, .int .i64 0]) = .returned (.agg #[.int .i64 (ruleF ts names ⟨rl, rt, rp⟩).f0, .slice A' (ruleF ts names ⟨rl, rt, rp⟩).f1.length c', .int .i64 (ruleF ts names ⟨rl, rt, rp⟩).f2, .int .i64 (ruleF ts names ⟨rl, rt, rp⟩).f3]) ∧ Kd.R (Kd.int .i64) 3 (put4 WZ V (.int .i64 (plc rl names 0)) (.slice Av l.length cv) (.int .i64 0) (.int .i64 0)) w.heap.size (fun _ => True) (.slice A' (ruleF ts names ⟨rl, rt, rp⟩).f1.length c') (ruleF ts names ⟨rl, rt, rp⟩).f1 ∧ Below w.heap.size w (put4 WZ V (.int .i64 (plc rl names 0)) (.slice Av l.length cv) (.int .i64 0) (.int .i64 0))) := ⟨by
            rw [HF.out]
            have hVw : w.heap.size ≤ V := HVW.out
            refine ⟨Av, cv, by rw [if_neg hb0, if_neg hb0], ?_, put4_below (HB.out.trans (HCF.out.2.2.2.mono HB.out.size)) hVw⟩
            exact Kd.R_lower (Kd.R_mono (Kd.R_move (w1 := put4 WZ V _ _ _ _) (Kd.R_bound HCF.out.2.2.1) (fun k hk => put4_far (by have := hk.2.1; have := HS.out; omega))) (fun _ _ => trivial)) HB.out.size⟩
          go_wp2_with fail
          refine bodyPost_ret (results_cell_row rfl _ _ V 81 #[.int .i64 (plc rl names 0), .slice Av l.length cv, .int .i64 0, .int .i64 0] (0, 0) _ rfl (put4_bx HCF.out.2.1).heap Tryz.underlying81 rfl (by kernel_rfl)) rfl ?_
          exact HEND.out
end Go.Proofs.YtjhemobplcelbaaGreatDoor.O
