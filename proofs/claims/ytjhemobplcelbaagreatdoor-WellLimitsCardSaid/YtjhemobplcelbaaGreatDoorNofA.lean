/- wof: slices.Index, Contains at texts; well.token, great, lefts (printed by wip/wof). -/
import Derived.Test.YtjhemobplcelbaaGreatDoorMayI
import Derived.Test.YtjhemobplcelbaaGreatDoorOfG
namespace Go.Proofs.YtjhemobplcelbaaGreatDoor.O
open Go.RowKit Go.Proofs.YtjhemobplcelbaaGreatDoorW.PrintWords Go.Proofs.YtjhemobplcelbaaGreatDoorW.PrintLast Go.Proofs.YtjhemobplcelbaaGreatDoorW.PrintMore
open Go.Proofs.YtjhemobplcelbaaGreatDoor.M (idxB idxB_at idxB_none idxB_any IRel)
set_option linter.unusedVariables false
set_option linter.unusedSimpArgs false
/-- slices.Index at texts. -/
theorem index_calls (w : World) (A : Option Addr) (c : Nat) (xs : List ByteArray) (s : ByteArray) (hxs : Kd.C Kd.string w A xs.length xs) (hc : xs.length ≤ c) :
    Calls Tryz.prog 88 #[.slice A xs.length c, .string s] w fun e w' => e = .returned (.int .i64 (plc s xs 0)) ∧ w' = w := by
  have HX := Aside0.mk hxs
  clear hxs
  go_enter Tryz.func88, Tryz.ntmps88
  go_wp2_with fail
  go_loopg [8] xs.length (fun kq v5 w' => PlRel w s xs kq v5 w')
  case atStart => exact ⟨0, by omega, rfl, rfl, rfl⟩
  case round =>
    obtain ⟨i, hi, rfl, rfl, hs⟩ := hrel
    have HI := Aside0.mk hi
    have HS := Aside0.mk hs
    clear hi hs
    by_cases hil : i < xs.length
    · have t1 : decide ((i : Int) < (xs.length : Int)) = true := by simp; omega
      have hin : (i : Int) < (xs.length : Int) := by omega
      have hql : xs.length ≤ 9223372036854775807 := HX.out.2.1
      obtain ⟨ad, rfl, hcl⟩ := str_at HX.out i hil
      have HP := Aside0.mk (plc_at s xs i hil)
      generalize xs[i] = x at *
      by_cases he : x = s
      · subst he
        rw [if_pos rfl] at HP
        go_wp2_with fail
        go_ret
        exact ⟨by rw [HS.out, HP.out]; rfl, rfl⟩
      · have hne : ¬ s.toList = x.toList := fun h => he (toList_eq.1 h.symm)
        have hbe : (s.toList == x.toList) = false := by simpa using hne
        rw [if_neg he] at HP
        go_wp2_with fail
        go_roundg (gk - 1)
        case measure => have := HI.out; omega
        case rel => exact ⟨i + 1, by have := HI.out; omega, by go_num, rfl, by rw [HS.out, HP.out]⟩
    · have t1 : decide ((i : Int) < (xs.length : Int)) = false := by simp; omega
      go_wp2_with fail
      go_ret
      refine ⟨?_, rfl⟩
      rw [HS.out, List.drop_of_length_le (by omega)]
      rfl
theorem contains_calls (w : World) (A : Option Addr) (c : Nat) (xs : List ByteArray) (s : ByteArray) (hxs : Kd.C Kd.string w A xs.length xs) (hc : xs.length ≤ c) :
    Calls Tryz.prog 84 #[.slice A xs.length c, .string s] w fun e w' => e = .returned (.bool (decide (0 ≤ plc s xs 0))) ∧ w' = w := by
  have HC := Aside0.mk (index_calls w A c xs s hxs hc)
  clear hxs
  generalize plc s xs 0 = q at *
  go_enter Tryz.func84, Tryz.ntmps84
  go_wp2_with fail
  go_at_call 88
  refine HC.out.mono ?_
  rintro e w1 ⟨rfl, rfl⟩
  go_wp2_with fail
  go_ret
  exact ⟨rfl, rfl⟩
/-- The predicate of well.token. -/
theorem same_calls (w : World) (s : ByteArray) (u : STk) (X : Nat) (ht : Bx w X #[.string s] 9) :
    Calls Tryz.prog 102 #[.agg #[.string u.f0, .int .i64 u.f1, .int .i64 u.f2], .pointer (some ⟨X, 0, none⟩)] w fun e w' => e = .returned (.bool (decide (u.f0 = s))) ∧ Below w.heap.size w w' := by
  have HB := Aside0.mk (below_alloc (Below.refl w.heap.size w) (.cells #[.string u.f0, .int .i64 u.f1, .int .i64 u.f2] 71))
  have x0 := (ht.move HB.out ht.lt).c 0 rfl
  have y0 := (M.TBox.new w u).c0
  clear ht
  obtain ⟨un, ul, ua⟩ := u
  dsimp only at *
  by_cases h1 : un.toList = s.toList
  · have HL : Aside0 (decide (un = s) = true) := ⟨decide_eq_true (toList_eq.1 h1)⟩
    generalize decide (un = s) = b at *
    go_enter Tryz.func102, Tryz.ntmps102
    go_wp2_with fail
    go_ret
    exact ⟨by rw [HL.out]; rfl, by first | exact HB.out | exact below_alloc (Below.refl _ _) _⟩
  · have HL : Aside0 (decide (un = s) = false) := ⟨decide_eq_false (fun h => h1 (toList_eq.2 h))⟩
    generalize decide (un = s) = b at *
    go_enter Tryz.func102, Tryz.ntmps102
    go_wp2_with fail
    go_ret
    exact ⟨by rw [HL.out]; simp [h1], by first | exact HB.out | exact below_alloc (Below.refl _ _) _⟩
set_option maxHeartbeats 2000000 in
theorem index_tokn (w : World) (A : Option Addr) (c : Nat) (xs : List STk) (p : STk → Bool) (X : Nat) (hr : Kd.C kTk w A xs.length xs) (hC : ∀ w', Below w.heap.size w w' → ∀ (x : STk), Calls Tryz.prog 102 #[.agg #[.string x.f0, .int .i64 x.f1, .int .i64 x.f2], .pointer (some ⟨X, 0, none⟩)] w' fun e w'' => e = .returned (.bool (p x)) ∧ Below w'.heap.size w' w'') :
    Calls Tryz.prog 101 #[.slice A xs.length c, .func (.func 102) #[] #[.pointer (some ⟨X, 0, none⟩)]] w fun e w' => e = .returned (.int .i64 (idxB p xs)) ∧ Below w.heap.size w w' := by
  have HR := Aside0.mk hr
  have HC := Aside0.mk hC
  have hxl : xs.length ≤ 9223372036854775807 := hr.2.1
  clear hr hC
  go_enter Tryz.func101, Tryz.ntmps101
  go_wp2_with fail
  go_loopg [8] xs.length (fun kq v8 w' => IRel p xs w kq v8 w')
  case atStart => exact ⟨0, by omega, rfl, Below.refl _ _, fun j h => absurd h (Nat.not_lt_zero j)⟩
  case round =>
    obtain ⟨i, hi, rfl, hb, hp⟩ := hrel
    have HI := Aside0.mk hi
    have HB := Aside0.mk hb
    have HP := Aside0.mk hp
    clear hi hb hp
    by_cases hil : i < xs.length
    · have t1 : decide ((i : Int) < (xs.length : Int)) = true := by simp; omega
      obtain ⟨ad, e1, x0, x1, x2⟩ := tok_at (Kd.C_below HR.out HB.out) i hil
      subst e1
      have CX := Aside0.mk (HC.out wr HB.out xs[i])
      go_wp2_with fail
      go_at_call 102
      refine CX.out.mono ?_
      rintro e w1 ⟨rfl, hd⟩
      have HB1 := Aside0.mk (HB.out.trans (hd.mono HB.out.size))
      clear hd x0 x1 x2 CX
      obtain ⟨b, hpb⟩ : ∃ b, p xs[i] = b := ⟨_, rfl⟩
      rw [hpb]
      have HPB := Aside0.mk hpb
      clear hpb
      cases b with
      | true =>
        go_wp2_with fail
        go_ret
        exact ⟨by rw [idxB_at hil HPB.out (fun j h => HP.out j h (by omega))]; rfl, HB1.out⟩
      | false =>
        go_wp2_with fail
        go_roundg (gk - 1)
        case measure => have := HI.out; omega
        case rel =>
          refine ⟨i + 1, by have := HI.out; omega, by go_num, HB1.out, fun j h h2 => ?_⟩
          by_cases hj : j < i
          · exact HP.out j hj h2
          · obtain rfl : j = i := by omega
            exact HPB.out
    · have t1 : decide ((i : Int) < (xs.length : Int)) = false := by simp; omega
      go_wp2_with fail
      go_ret
      exact ⟨by rw [idxB_none (fun j h => HP.out j (by have := HI.out; omega) h)]; rfl, HB.out⟩
theorem idxB_plc (s : ByteArray) (ts : List STk) : idxB (fun u => decide (u.f0 = s)) ts = plc s (ts.map STk.f0) 0 := by
  have : ∀ (l : List STk) (k : Nat), plc s (l.map STk.f0) k = if l.any (fun u => decide (u.f0 = s)) = true then ((k + l.findIdx (fun u => decide (u.f0 = s)) : Nat) : Int) else -1 := by
    intro l
    induction l with
    | nil => intro k; rfl
    | cons u l ih =>
      intro k
      simp only [List.map_cons, plc, List.any_cons, List.findIdx_cons]
      by_cases hu : u.f0 = s
      · simp [hu]
      · simp only [if_neg hu, decide_eq_false hu, Bool.false_or, ih (k + 1), cond_false]
        split
        · congr 1; omega
        · rfl
  rw [this ts 0]
  unfold idxB
  simp
theorem wtoken_calls (w : World) (A : Option Addr) (c : Nat) (ts : List STk) (st : ByteArray) (ex : Int) (A2 : Option Addr) (n2 c2 : Nat) (s : ByteArray) (hr : Kd.C kTk w A ts.length ts) :
    Calls Tryz.prog 83 #[.agg #[.slice A ts.length c, .string st, .int .i64 ex, .slice A2 n2 c2], .string s] w fun e w' => e = .returned (.int .i64 (plc s (ts.map STk.f0) 0)) ∧ Below w.heap.size w w' := by
  obtain ⟨X, V, hX, hV, b1, b2, hb⟩ := boxes2 w #[.slice A ts.length c, .string st, .int .i64 ex, .slice A2 n2 c2] #[.string s] 25 9
  have C := Aside0.mk (index_tokn ((w.alloc (.cells #[.slice A ts.length c, .string st, .int .i64 ex, .slice A2 n2 c2] 25)).alloc (.cells #[.string s] 9)) A c ts (fun u => decide (u.f0 = s)) V (Kd.C_below hr hb) (fun w' hw x => same_calls w' s x V (b2.move hw b2.lt)))
  rw [idxB_plc] at C
  have HB := Aside0.mk hb
  have x0 := b1.c 0 rfl
  clear hr hb b1 b2
  subst hX
  generalize plc s (ts.map STk.f0) 0 = q at *
  go_enter Tryz.func83, Tryz.ntmps83
  go_upto_region 1 with fail
  rw [← hV]
  generalize (w.alloc (.cells #[.slice A ts.length c, .string st, .int .i64 ex, .slice A2 n2 c2] 25)).alloc (.cells #[.string s] 9) = W2 at *
  clear hV
  go_wp2_with (first
    | (go_at_call 101; (with_reducible refine Calls.mono C.out ?_); rintro e w4 ⟨rfl, hd⟩; have HD := Aside0.mk (HB.out.trans (hd.mono HB.out.size)); clear hd))
  go_ret
  exact ⟨rfl, HD.out⟩
/-- The predicate of well.great. -/
theorem wide_calls (w : World) (r : SRu) (A : Option Addr) (c : Nat) :
    Calls Tryz.prog 81 #[.agg #[.string r.f0, .slice A r.f1.length c, .string r.f2]] w fun e w' => e = .returned (.bool (decide (6 < r.f1.length))) ∧ Below w.heap.size w w' := by
  have HB := Aside0.mk (below_alloc (Below.refl w.heap.size w) (.cells #[.string r.f0, .slice A r.f1.length c, .string r.f2] 73))
  have x1 := (Bx.new w #[.string r.f0, .slice A r.f1.length c, .string r.f2] 73).c 1 rfl
  obtain ⟨b, hb⟩ : ∃ b, decide (6 < r.f1.length) = b := ⟨_, rfl⟩
  rw [hb]
  have hb2 : decide ((6 : Int) < (r.f1.length : Int)) = b := by rw [← hb]; exact decide_eq_decide.2 (by omega)
  have hb3 : decide ((r.f1.length : Int) > 6) = b := hb2
  clear hb
  go_enter Tryz.func81, Tryz.ntmps81
  go_wp2_with fail
  go_ret
  exact ⟨rfl, by first | exact HB.out | exact below_alloc (Below.refl _ _) _⟩
set_option maxHeartbeats 2000000 in
theorem index_wide (w : World) (A : Option Addr) (c : Nat) (xs : List SRu) (p : SRu → Bool) (hr : Kd.C kRu w A xs.length xs) (hC : ∀ w', Below w.heap.size w w' → ∀ (x : SRu) (Ax : Option Addr) (cx : Nat), x ∈ xs → Kd.C Kd.string w' Ax x.f1.length x.f1 → x.f1.length ≤ cx → Calls Tryz.prog 81 #[.agg #[.string x.f0, .slice Ax x.f1.length cx, .string x.f2]] w' fun e w'' => e = .returned (.bool (p x)) ∧ Below w'.heap.size w' w'') :
    Calls Tryz.prog 92 #[.slice A xs.length c, .func (.func 81) #[] #[]] w fun e w' => e = .returned (.int .i64 (idxB p xs)) ∧ Below w.heap.size w w' := by
  have HR := Aside0.mk hr
  have HC := Aside0.mk hC
  have hxl : xs.length ≤ 9223372036854775807 := hr.2.1
  clear hr hC
  go_enter Tryz.func92, Tryz.ntmps92
  go_wp2_with fail
  go_loopg [8] xs.length (fun kq v8 w' => IRel p xs w kq v8 w')
  case atStart => exact ⟨0, by omega, rfl, Below.refl _ _, fun j h => absurd h (Nat.not_lt_zero j)⟩
  case round =>
    obtain ⟨i, hi, rfl, hb, hp⟩ := hrel
    have HI := Aside0.mk hi
    have HB := Aside0.mk hb
    have HP := Aside0.mk hp
    clear hi hb hp
    by_cases hil : i < xs.length
    · have t1 : decide ((i : Int) < (xs.length : Int)) = true := by simp; omega
      obtain ⟨ad, A1, c1, e1, x0, x1, x2, l1, g1⟩ := M.at_rule (Kd.C_below HR.out HB.out) i hil rfl
      subst e1
      have HG := Aside0.mk (And.intro g1 l1)
      clear g1 l1
      have CX := Aside0.mk (HC.out wr HB.out xs[i] A1 c1 (List.getElem_mem hil) HG.out.1 HG.out.2)
      go_wp2_with fail
      go_at_call 81
      refine CX.out.mono ?_
      rintro e w1 ⟨rfl, hd⟩
      have HB1 := Aside0.mk (HB.out.trans (hd.mono HB.out.size))
      clear hd x0 x1 x2 CX
      obtain ⟨b, hpb⟩ : ∃ b, p xs[i] = b := ⟨_, rfl⟩
      rw [hpb]
      have HPB := Aside0.mk hpb
      clear hpb
      cases b with
      | true =>
        go_wp2_with fail
        go_ret
        exact ⟨by rw [idxB_at hil HPB.out (fun j h => HP.out j h (by omega))]; rfl, HB1.out⟩
      | false =>
        go_wp2_with fail
        go_roundg (gk - 1)
        case measure => have := HI.out; omega
        case rel =>
          refine ⟨i + 1, by have := HI.out; omega, by go_num, HB1.out, fun j h h2 => ?_⟩
          by_cases hj : j < i
          · exact HP.out j hj h2
          · obtain rfl : j = i := by omega
            exact HPB.out
    · have t1 : decide ((i : Int) < (xs.length : Int)) = false := by simp; omega
      go_wp2_with fail
      go_ret
      exact ⟨by rw [idxB_none (fun j h => HP.out j (by have := HI.out; omega) h)]; rfl, HB.out⟩
theorem contains_wide (w : World) (A : Option Addr) (c : Nat) (xs : List SRu) (p : SRu → Bool) (hr : Kd.C kRu w A xs.length xs) (hC : ∀ w', Below w.heap.size w w' → ∀ (x : SRu) (Ax : Option Addr) (cx : Nat), x ∈ xs → Kd.C Kd.string w' Ax x.f1.length x.f1 → x.f1.length ≤ cx → Calls Tryz.prog 81 #[.agg #[.string x.f0, .slice Ax x.f1.length cx, .string x.f2]] w' fun e w'' => e = .returned (.bool (p x)) ∧ Below w'.heap.size w' w'') :
    Calls Tryz.prog 74 #[.slice A xs.length c, .func (.func 81) #[] #[]] w fun e w' => e = .returned (.bool (xs.any p)) ∧ Below w.heap.size w w' := by
  have HC := Aside0.mk (index_wide w A c xs p  hr hC)
  clear hr hC
  go_enter Tryz.func74, Tryz.ntmps74
  go_wp2_with fail
  go_at_call 92
  refine HC.out.mono ?_
  rintro e w1 ⟨rfl, hb⟩
  have HB := Aside0.mk hb
  clear hb
  go_wp2_with fail
  go_ret
  exact ⟨by rw [← idxB_any]; rfl, HB.out⟩
set_option maxHeartbeats 4000000 in
/-- well.lefts. -/
theorem wlefts_calls (w : World) (A : Option Addr) (n c : Nat) (st : ByteArray) (ex : Int) (A2 : Option Addr) (c2 : Nat) (rs : List SRu) (hrs : Kd.C kRu w A2 rs.length rs) (hc : rs.length ≤ c2) (hl : rs.length ≤ 1000000) :
    Calls Tryz.prog 64 #[.agg #[.slice A n c, .string st, .int .i64 ex, .slice A2 rs.length c2]] w fun e w' => ∃ v, e = .returned v ∧ Kd.R Kd.string 9 w' w.heap.size (fun _ => True) v (leftsF rs) ∧ Below w.heap.size w w' := by
  have hb := below_alloc (Below.refl w.heap.size w) (.cells #[.slice A n c, .string st, .int .i64 ex, .slice A2 rs.length c2] 25)
  have hx : GBox (w.alloc (.cells #[.slice A n c, .string st, .int .i64 ex, .slice A2 rs.length c2] 25)) w.heap.size _ _ _ _ := GBox.new w
  have HX := Aside0.mk (And.intro (Kd.C_below hrs hb) (And.intro hb hl))
  clear hrs hl
  go_enter Tryz.func64, Tryz.ntmps64
  go_upto_region 1 with fail
  generalize w.alloc (.cells #[.slice A n c, .string st, .int .i64 ex, .slice A2 rs.length c2] 25) = W1 at *
  generalize hXe : w.heap.size = X at hx ⊢
  have HB := Aside0.mk hx
  have x3 := hx.c3
  clear hx hb
  go_wp2_with fail
  go_loopg [3, 9] rs.length (fun kq v3 v9 w' => LfRel W1 rs kq v9 v3 w')
  case atStart => exact ⟨0, [], by omega, rfl, Kd.R_nil _ _ _ _ _, Nat.le_refl _, rfl, Below.refl _ _⟩
  case round =>
    obtain ⟨i, l, hi, rfl, hr, hll, hs, hb⟩ := hrel
    have HI := Aside0.mk hi
    have HR := Aside0.mk (And.intro hr (And.intro hll (And.intro hs hb)))
    clear hi hr hll hs hb x3
    by_cases hil : i < rs.length
    · have t1 : decide ((i : Int) < (rs.length : Int)) = true := by simp; omega
      have hin : (i : Int) < (rs.length : Int) := by omega
      have hlen : rs.length ≤ 1000000 := HX.out.2.2
      obtain ⟨ad, A1, c1, e1, q0, q1, q2, _, _⟩ := M.at_rule (Kd.C_below HX.out.1 HR.out.2.2.2) i hil rfl
      have HST : Aside0 (leftsF rs = (rs.drop (i + 1)).foldl leftStep (leftStep l rs[i])) := ⟨by rw [HR.out.2.2.1, List.drop_eq_getElem_cons hil, List.foldl_cons]⟩
      have HLS : Aside0 (leftStep l rs[i] = if plc rs[i].f0 l 0 < 0 then l ++ [rs[i].f0] else l) := ⟨rfl⟩
      generalize leftStep l rs[i] = l' at *
      generalize rs[i] = x at *
      obtain ⟨xf, xr, xp⟩ := x
      dsimp only at *
      subst e1
      have hbv := below_alloc (Below.refl wr.heap.size wr) (.cells #[.string xf, .slice A1 xr.length c1, .string xp] 73)
      have hxv := Bx.new wr #[.string xf, .slice A1 xr.length c1, .string xp] 73
      have HV := Aside0.mk (And.intro hxv hbv)
      clear hxv hbv
      go_upto_region 5 with fail
      obtain ⟨Vx, hVx⟩ : ∃ V, V = wr.heap.size := ⟨_, rfl⟩
      rw [← hVx]
      have HV2 := HV.out.1
      rw [← hVx] at HV2
      have HRv := Aside0.mk (Kd.R_below HR.out.1 HV.out.2)
      have HBv := Aside0.mk (HR.out.2.2.2.trans (HV.out.2.mono HR.out.2.2.2.size))
      clear q0 q1 q2 HV hVx
      generalize wr.alloc (.cells #[.string xf, .slice A1 xr.length c1, .string xp] 73) = Wv at *
      obtain ⟨Av, cv, ev, hcv, hrd⟩ := Kd.R_reads HRv.out
      subst ev
      have C := Aside0.mk (contains_calls Wv Av cv l xf hrd hcv)
      have v0 := HV2.c 0 rfl
      have hll2 : l.length ≤ 1000001 := by have := HR.out.2.1; omega
      have HIL := Aside0.mk hil
      have HLB := Aside0.mk HR.out.2.1
      clear hcv hrd HV2
      by_cases hp : plc xf l 0 < 0
      · have HE : Aside0 (l' = l ++ [xf]) := ⟨by rw [HLS.out, if_pos hp]⟩
        rw [decide_eq_false (show ¬ 0 ≤ plc xf l 0 by omega)] at C
        clear hp
        go_wp2_with (first
          | (go_at_call 84; (with_reducible refine Calls.mono C.out ?_); rintro e w3 ⟨rfl, rfl⟩)
          | (at_builtin; refine Kd.R_append Kd.string (w0 := W1) W1.heap.size rfl (.tmp 18) (.tmp 21) 28 9 (.string ⟨#[]⟩) 16 rfl Tryz.underlying28 infoS rfl (by decide) (by omega) _ l xf [.string xf] (fun _ => True) (fun _ => False) rfl rfl (show Kd.M Kd.string _ _ _ xf [.string xf] from rfl) (fun _ h => h.elim) (fun _ _ => trivial) HRv.out HBv.out HBv.out.size (by omega) ?_; intro v2 w5 ho2 hb2 hg2 hat2; have H5 := Aside0.mk (And.intro ho2 hb2); clear ho2 hb2 hg2 hat2))
        go_roundg (gk - 1)
        case measure => have := HI.out; have := HIL.out; omega
        case rel => exact ⟨i + 1, l ++ [xf], by have := HI.out; have := HIL.out; omega, by have h1 := HIL.out; have h2 := HX.out.2.2; first | rfl | go_num | (congr 1; unfold wrap64; omega), H5.out.1, by have := HLB.out; simp; omega, by rw [HST.out, HE.out], H5.out.2⟩
      · have HE : Aside0 (l' = l) := ⟨by rw [HLS.out, if_neg hp]⟩
        rw [decide_eq_true (show 0 ≤ plc xf l 0 by omega)] at C
        clear hp
        go_wp2_with (first
          | (go_at_call 84; (with_reducible refine Calls.mono C.out ?_); rintro e w3 ⟨rfl, rfl⟩))
        go_roundg (gk - 1)
        case measure => have := HI.out; have := HIL.out; omega
        case rel => exact ⟨i + 1, l, by have := HI.out; have := HIL.out; omega, by have h1 := HIL.out; have h2 := HX.out.2.2; first | rfl | go_num | (congr 1; unfold wrap64; omega), HRv.out, by have := HLB.out; omega, by rw [HST.out, HE.out], HBv.out⟩
    · have t1 : decide ((i : Int) < (rs.length : Int)) = false := by simp; omega
      go_wp2_with fail
      go_ret
      refine ⟨_, rfl, ?_, HX.out.2.1.trans (HR.out.2.2.2.mono HX.out.2.1.size)⟩
      have h := HR.out.2.2.1
      rw [List.drop_of_length_le (by omega)] at h
      rw [h, ← hXe]
      exact Kd.R_lower HR.out.1 HX.out.2.1.size
end Go.Proofs.YtjhemobplcelbaaGreatDoor.O
