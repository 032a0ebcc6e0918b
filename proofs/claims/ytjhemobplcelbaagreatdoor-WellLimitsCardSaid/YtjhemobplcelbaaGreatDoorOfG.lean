/- of: Of of donatusref4. -/
import Derived.Test.YtjhemobplcelbaaGreatDoorOfL
import Derived.Test.YtjhemobplcelbaaGreatDoorOfW
namespace Go.Proofs.YtjhemobplcelbaaGreatDoor.O
open Go.RowKit Go.Proofs.YtjhemobplcelbaaGreatDoorW.PrintWords Go.Proofs.YtjhemobplcelbaaGreatDoorW.PrintLast Go.Proofs.YtjhemobplcelbaaGreatDoorW.PrintMore
open Go.Proofs.YtjhemobplcelbaaGreatDoor.U (SR kSR kSR_mkM okRule FixP passY passR y0 r0 ref_yields ref_reached)
open Go.Proofs.YtjhemobplcelbaaGreatDoor.M (rmayB rmay_calls)
set_option linter.unusedVariables false
set_option linter.unusedSimpArgs false
theorem boxes2 (w : World) (c1 c2 : Array Value) (t1 t2 : TypeId) : ∃ X V : Nat, X = w.heap.size ∧ V = w.heap.size + 1 ∧ Bx ((w.alloc (.cells c1 t1)).alloc (.cells c2 t2)) X c1 t1 ∧ Bx ((w.alloc (.cells c1 t1)).alloc (.cells c2 t2)) V c2 t2 ∧ Below w.heap.size w ((w.alloc (.cells c1 t1)).alloc (.cells c2 t2)) := by
  have h2 := Bx.new (w.alloc (.cells c1 t1)) c2 t2
  rw [World.size_alloc] at h2
  have b1 := below_alloc (Below.refl w.heap.size w) (.cells c1 t1)
  exact ⟨_, _, rfl, rfl, (Bx.new w c1 t1).onto _, h2, below_alloc b1 (.cells c2 t2)⟩
theorem results_cell_tmp {P : Program} {fn : Func} {p q : Tmp} {ty : TypeId} (h : fn.results = #[.cell p ty, .tmp q]) (tmps : Array Value) (w : World) (g : Nat) (t : TypeId) (cs : Array Value) (d : TypeDesc) (v : Value)
    (hp : tmps.getD p undef = .pointer (some ⟨g, 0, none⟩)) (hq : tmps.getD q undef = v) (hg : w.heap[g]? = some (.cells cs t (0, 0)))
    (hu : P.underlying ty = some d) (hd : (match d with | .struct _ | .array _ _ => true | _ => false) = true) (hi : (P.info? ty).map (·.size) = some cs.size) :
    (results fn tmps).run P w = .ok (.tuple #[.agg cs, v]) w := by
  have hp' : tmps[p]?.getD undef = .pointer (some ⟨g, 0, none⟩) := by simpa using hp
  have hq' : tmps[q]?.getD undef = v := by simpa using hq
  simp [results, h, hp', hq', asAddr, run_loadVar_row w g t ty cs (0, 0) d hg hu hd hi]
def put8 (W : World) (X : Nat) (v0 v1 v2 v3 v4 v5 v6 v7 : Value) : World := (((((((W.setCell ⟨X, 0, none⟩ v0).setCell ⟨X, 1, none⟩ v1).setCell ⟨X, 2, none⟩ v2).setCell ⟨X, 3, none⟩ v3).setCell ⟨X, 4, none⟩ v4).setCell ⟨X, 5, none⟩ v5).setCell ⟨X, 6, none⟩ v6).setCell ⟨X, 7, none⟩ v7
theorem put8_bx {W : World} {X : Nat} {a0 a1 a2 a3 a4 a5 a6 a7 v0 v1 v2 v3 v4 v5 v6 v7 : Value} {e : Nat} (h : Bx W X #[a0, a1, a2, a3, a4, a5, a6, a7] e) : Bx (put8 W X v0 v1 v2 v3 v4 v5 v6 v7) X #[v0, v1, v2, v3, v4, v5, v6, v7] e := by
  have h0 : Bx _ X #[v0, a1, a2, a3, a4, a5, a6, a7] e := h.put 0 v0
  have h1 : Bx _ X #[v0, v1, a2, a3, a4, a5, a6, a7] e := h0.put 1 v1
  have h2 : Bx _ X #[v0, v1, v2, a3, a4, a5, a6, a7] e := h1.put 2 v2
  have h3 : Bx _ X #[v0, v1, v2, v3, a4, a5, a6, a7] e := h2.put 3 v3
  have h4 : Bx _ X #[v0, v1, v2, v3, v4, a5, a6, a7] e := h3.put 4 v4
  have h5 : Bx _ X #[v0, v1, v2, v3, v4, v5, a6, a7] e := h4.put 5 v5
  have h6 : Bx _ X #[v0, v1, v2, v3, v4, v5, v6, a7] e := h5.put 6 v6
  exact h6.put 7 v7
theorem put8_far {W : World} {X k : Nat} {v0 v1 v2 v3 v4 v5 v6 v7 : Value} (hk : k ≠ X) : (put8 W X v0 v1 v2 v3 v4 v5 v6 v7).heap[k]? = W.heap[k]? := by
  unfold put8
  rw [Below.heap_setCell _ _ _ k hk, Below.heap_setCell _ _ _ k hk, Below.heap_setCell _ _ _ k hk, Below.heap_setCell _ _ _ k hk, Below.heap_setCell _ _ _ k hk, Below.heap_setCell _ _ _ k hk, Below.heap_setCell _ _ _ k hk, Below.heap_setCell _ _ _ k hk]
theorem put8_below {B0 : Nat} {w W : World} {X : Nat} {v0 v1 v2 v3 v4 v5 v6 v7 : Value} (h : Below B0 w W) (hX : B0 ≤ X) : Below B0 w (put8 W X v0 v1 v2 v3 v4 v5 v6 v7) :=
  (((((((h.setCell (p := ⟨X, 0, none⟩) hX _).setCell (p := ⟨X, 1, none⟩) hX _).setCell (p := ⟨X, 2, none⟩) hX _).setCell (p := ⟨X, 3, none⟩) hX _).setCell (p := ⟨X, 4, none⟩) hX _).setCell (p := ⟨X, 5, none⟩) hX _).setCell (p := ⟨X, 6, none⟩) hX _).setCell (p := ⟨X, 7, none⟩) hX _
/-! #### what Of answers -/
/-- All symbols yield something and are reached. -/
def useful (ts : List STk) (st : ByteArray) (rs : List SRu) : Prop := ∃ ry rr, FixP (passY (rulesF ts st rs).tail) (y0 ts.length (leftsF rs).length) ry ∧ FixP (passR (rulesF ts st rs).tail) (r0 ts.length (leftsF rs).length (startF ts st rs).toNat) rr ∧ ∀ i, ts.length + 1 ≤ i → i ≤ ts.length + (leftsF rs).length → ry.getD i false = true ∧ rr.getD i false = true
/-- The error that Of tells. -/
def OfIs (ts : List STk) (st : ByteArray) (ex : Int) (rs : List SRu) (e : Int) : Prop :=
  (rmayB ts st ex rs = false ∧ e = 1) ∨ (rmayB ts st ex rs = true ∧ longB ts rs = true ∧ e = 6) ∨ (rmayB ts st ex rs = true ∧ longB ts rs = false ∧ ¬ namedOk ts st rs ∧ e = 7) ∨ (rmayB ts st ex rs = true ∧ longB ts rs = false ∧ namedOk ts st rs ∧ ¬ useful ts st rs ∧ e = 8) ∨ (rmayB ts st ex rs = true ∧ longB ts rs = false ∧ namedOk ts st rs ∧ useful ts st rs ∧ e = 0)
def zeroSp : Value := .agg #[.int .i64 0, .int .i64 0, .int .i64 0, .int .i64 0, .slice none 0 0, .slice none 0 0, .slice none 0 0, .slice none 0 0]
/-- A Spec that reads as it should. -/
def SpecAt (w : World) (ts : List STk) (st : ByteArray) (ex : Int) (rs : List SRu) (v : Value) : Prop := ∃ (A4 A5 A6 A7 : Option Addr) (c4 c5 c6 c7 : Nat), v = .agg #[.int .i64 ts.length, .int .i64 (leftsF rs).length, .int .i64 (startF ts st rs), .int .i64 ex, .slice A4 (namesF ts rs).length c4, .slice A5 ts.length c5, .slice A6 ts.length c6, .slice A7 (rulesF ts st rs).length c7] ∧
  Kd.C Kd.string w A4 (namesF ts rs).length (namesF ts rs) ∧ (namesF ts rs).length ≤ c4 ∧ Kd.C (Kd.int .i64) w A5 ts.length (ts.map STk.f1) ∧ ts.length ≤ c5 ∧ Kd.C (Kd.int .i64) w A6 ts.length (ts.map STk.f2) ∧ ts.length ≤ c6 ∧ Kd.C kSR w A7 (rulesF ts st rs).length (rulesF ts st rs) ∧ (rulesF ts st rs).length ≤ c7
def OfPost (w : World) (ts : List STk) (st : ByteArray) (ex : Int) (rs : List SRu) (e : Ending) (w' : World) : Prop := ∃ (v : Value) (err : Int), e = .returned (.tuple #[v, .int .i64 err]) ∧ OfIs ts st ex rs err ∧ (err ≠ 0 → v = zeroSp) ∧ (err = 0 → SpecAt w' ts st ex rs v) ∧ Below w.heap.size w w'
set_option maxRecDepth 100000 in
set_option maxHeartbeats 4000000 in
theorem of_calls (w : World) (A : Option Addr) (c : Nat) (ts : List STk) (st : ByteArray) (ex : Int) (A2 : Option Addr) (c2 : Nat) (rs : List SRu) (hts : Kd.C kTk w A ts.length ts) (hct : ts.length ≤ c) (hrs : Kd.C kRu w A2 rs.length rs) (hc2 : rs.length ≤ c2)
    (hl1 : ts.length ≤ 100000) (hl2 : rs.length ≤ 100000) (hst : st.size ≤ 1000) (hnm : ∀ t ∈ ts, t.f0.size ≤ 1000) (hrn : ∀ r ∈ rs, r.f0.size ≤ 1000 ∧ r.f2.size ≤ 1000 ∧ r.f1.length ≤ 100000 ∧ ∀ s ∈ r.f1, s.size ≤ 1000) :
    Calls Tryz.prog 14 #[.agg #[.slice A ts.length c, .string st, .int .i64 ex, .slice A2 rs.length c2]] w (OfPost w ts st ex rs) := by
  have HL := Aside0.mk (And.intro hts hrs)
  have CM : ∀ w', Aside0 (Below w.heap.size w w' → Calls Tryz.prog 41 #[.agg #[.slice A ts.length c, .string st, .int .i64 ex, .slice A2 rs.length c2]] w' fun e w'' => e = .returned (.bool (rmayB ts st ex rs)) ∧ Below w'.heap.size w' w'') := fun w' => ⟨fun hb => rmay_calls w' A c ts st ex A2 c2 rs (Kd.C_below hts hb) hct hl1 (Kd.C_below hrs hb) hc2 hl2 hst hnm hrn⟩
  have CL : ∀ w', Aside0 (Below w.heap.size w w' → Calls Tryz.prog 42 #[.agg #[.slice A ts.length c, .string st, .int .i64 ex, .slice A2 rs.length c2]] w' fun e w'' => e = .returned (.bool (longB ts rs)) ∧ Below w'.heap.size w' w'') := fun w' => ⟨fun hb => long_calls w' A c ts st ex A2 c2 rs (Kd.C_below hrs hb) hc2 (by omega)⟩
  have CN : ∀ w', Aside0 (Below w.heap.size w w' → Calls Tryz.prog 43 #[.agg #[.slice A ts.length c, .string st, .int .i64 ex, .slice A2 rs.length c2]] w' fun e w'' => ∃ b, e = .returned (.bool b) ∧ (b = true ↔ namedOk ts st rs) ∧ Below w'.heap.size w' w'') := fun w' => ⟨fun hb => named_calls w' A c ts st ex A2 c2 rs (Kd.C_below hts hb) hct (Kd.C_below hrs hb) hc2 (by omega)⟩
  have CF : ∀ w', Aside0 (Below w.heap.size w w' → Calls Tryz.prog 44 #[.agg #[.slice A ts.length c, .string st, .int .i64 ex, .slice A2 rs.length c2]] w' fun e w'' => ∃ v, e = .returned v ∧ Kd.R Kd.string 9 w'' w'.heap.size (fun _ => True) v (leftsF rs) ∧ Below w'.heap.size w' w'') := fun w' => ⟨fun hb => lefts_calls w' A ts.length c st ex A2 c2 rs (Kd.C_below hrs hb) hc2 (by omega)⟩
  clear hts hrs hst hnm hrn
  go_enter Tryz.func14, Tryz.ntmps14
  go_upto_region 1 with fail
  obtain ⟨X, V, hX, hV, b1, b2, hb⟩ := boxes2 w #[.slice A ts.length c, .string st, .int .i64 ex, .slice A2 rs.length c2] #[.int .i64 0, .int .i64 0, .int .i64 0, .int .i64 0, .slice none 0 0, .slice none 0 0, .slice none 0 0, .slice none 0 0] 25 32
  rw [← hV]
  rw [← hX]
  generalize (w.alloc (.cells #[.slice A ts.length c, .string st, .int .i64 ex, .slice A2 rs.length c2] 25)).alloc (.cells #[.int .i64 0, .int .i64 0, .int .i64 0, .int .i64 0, .slice none 0 0, .slice none 0 0, .slice none 0 0, .slice none 0 0] 32) = W2 at *
  have HV : Aside0 (w.heap.size ≤ V ∧ X < V) := ⟨by omega⟩
  have HX := Aside0.mk (And.intro b1 b2)
  have HB := Aside0.mk hb
  clear hX hV hb
  have x0 := b1.c 0 rfl
  have x1 := b1.c 1 rfl
  have x2 := b1.c 2 rfl
  have x3 := b1.c 3 rfl
  clear b1 b2
  obtain ⟨bm, hbm⟩ : ∃ b, rmayB ts st ex rs = b := ⟨_, rfl⟩
  have HM := Aside0.mk hbm
  rw [hbm] at CM
  clear hbm
  cases bm with
  | false =>
    go_wp2_with (first
      | (go_at_call 41; (with_reducible refine Calls.mono ((CM _).out HB.out) ?_); rintro e w3 ⟨rfl, hb3⟩; have H3 := Aside0.mk (HB.out.trans (hb3.mono HB.out.size)); have HV3 := Aside0.mk (HX.out.2.move hb3 HX.out.2.lt); clear hb3; have g0 := HV3.out.c 0 rfl; have g1 := HV3.out.c 1 rfl; have g2 := HV3.out.c 2 rfl; have g3 := HV3.out.c 3 rfl; have g4 := HV3.out.c 4 rfl; have g5 := HV3.out.c 5 rfl; have g6 := HV3.out.c 6 rfl; have g7 := HV3.out.c 7 rfl; have gf := fun k => HV3.out.fz k))
    refine bodyPost_ret (results_cell_tmp rfl _ _ V 32 #[.int .i64 0, .int .i64 0, .int .i64 0, .int .i64 0, .slice none 0 0, .slice none 0 0, .slice none 0 0, .slice none 0 0] _ (.int .i64 1) rfl rfl (put8_bx HV3.out).heap Tryz.underlying32 rfl (by kernel_rfl)) rfl ?_
    exact ⟨zeroSp, 1, rfl, .inl ⟨HM.out, rfl⟩, fun _ => rfl, fun h => absurd h (by decide), put8_below H3.out HV.out.1⟩
  | true =>
    go_upto_region 3 with (first
      | (go_at_call 41; (with_reducible refine Calls.mono ((CM _).out HB.out) ?_); rintro e w3 ⟨rfl, hb3⟩; have H3 := Aside0.mk (HB.out.trans (hb3.mono HB.out.size)); have HX3 := Aside0.mk (And.intro (HX.out.1.move hb3 HX.out.1.lt) (HX.out.2.move hb3 HX.out.2.lt)); clear hb3))
    clear HX HB x0 x1 x2 x3 CM
    have x0 := HX3.out.1.c 0 rfl
    have x1 := HX3.out.1.c 1 rfl
    have x2 := HX3.out.1.c 2 rfl
    have x3 := HX3.out.1.c 3 rfl
    obtain ⟨bm, hbm⟩ : ∃ b, longB ts rs = b := ⟨_, rfl⟩
    have HG := Aside0.mk hbm
    rw [hbm] at CL
    clear hbm
    cases bm with
    | true =>
      go_wp2_with (first
        | (go_at_call 42; (with_reducible refine Calls.mono ((CL _).out H3.out) ?_); rintro e w4 ⟨rfl, hb3⟩; have H4 := Aside0.mk (H3.out.trans (hb3.mono H3.out.size)); have HV3 := Aside0.mk (HX3.out.2.move hb3 HX3.out.2.lt); clear hb3; have g0 := HV3.out.c 0 rfl; have g1 := HV3.out.c 1 rfl; have g2 := HV3.out.c 2 rfl; have g3 := HV3.out.c 3 rfl; have g4 := HV3.out.c 4 rfl; have g5 := HV3.out.c 5 rfl; have g6 := HV3.out.c 6 rfl; have g7 := HV3.out.c 7 rfl; have gf := fun k => HV3.out.fz k))
      refine bodyPost_ret (results_cell_tmp rfl _ _ V 32 #[.int .i64 0, .int .i64 0, .int .i64 0, .int .i64 0, .slice none 0 0, .slice none 0 0, .slice none 0 0, .slice none 0 0] _ (.int .i64 6) rfl rfl (put8_bx HV3.out).heap Tryz.underlying32 rfl (by kernel_rfl)) rfl ?_
      exact ⟨zeroSp, 6, rfl, .inr (.inl ⟨HM.out, HG.out, rfl⟩), fun _ => rfl, fun h => absurd h (by decide), put8_below H4.out HV.out.1⟩
    | false =>
      go_upto_region 5 with (first
        | (go_at_call 42; (with_reducible refine Calls.mono ((CL _).out H3.out) ?_); rintro e w4 ⟨rfl, hb3⟩; have H4 := Aside0.mk (H3.out.trans (hb3.mono H3.out.size)); have HX4 := Aside0.mk (And.intro (HX3.out.1.move hb3 HX3.out.1.lt) (HX3.out.2.move hb3 HX3.out.2.lt)); clear hb3))
      clear HX3 H3 x0 x1 x2 x3 CL
      have x0 := HX4.out.1.c 0 rfl
      have x1 := HX4.out.1.c 1 rfl
      have x2 := HX4.out.1.c 2 rfl
      have x3 := HX4.out.1.c 3 rfl
      have CN4 := (CN _).out H4.out
      by_cases hnk : namedOk ts st rs
      · have CN5 : Aside0 (Calls Tryz.prog 43 #[.agg #[.slice A ts.length c, .string st, .int .i64 ex, .slice A2 rs.length c2]] w4 fun e w' => e = .returned (.bool true) ∧ Below w4.heap.size w4 w') := ⟨CN4.mono (fun e w' ⟨b, he, hb, hw⟩ => ⟨by rw [he, hb.2 hnk], hw⟩)⟩
        have HNK := Aside0.mk hnk
        clear CN4 CN hnk
        go_upto_region 7 with (first
          | (go_at_call 43; (with_reducible refine Calls.mono CN5.out ?_); rintro e w5 ⟨rfl, hb3⟩; have H5 := Aside0.mk (H4.out.trans (hb3.mono H4.out.size)); have HX5 := Aside0.mk (And.intro (HX4.out.1.move hb3 HX4.out.1.lt) (HX4.out.2.move hb3 HX4.out.2.lt)); clear hb3))
        clear HX4 H4 x0 x1 x2 x3 CN5
        have x0 := HX5.out.1.c 0 rfl
        have x1 := HX5.out.1.c 1 rfl
        have x2 := HX5.out.1.c 2 rfl
        have x3 := HX5.out.1.c 3 rfl
        go_upto_region 8 with (first
          | (go_at_call 44; (with_reducible refine Calls.mono ((CF _).out H5.out) ?_); rintro e w6 ⟨v, rfl, ho, hb3⟩; obtain ⟨Al, cl, rfl⟩ := Kd.R_slice ho; obtain ⟨_, _, elq, hcl, hrl⟩ := Kd.R_reads ho; injection elq with ea _ ec; subst ea ec; have HLF := Aside0.mk (And.intro hrl hcl); have H6 := Aside0.mk (H5.out.trans (hb3.mono H5.out.size)); have HX6 := Aside0.mk (And.intro (HX5.out.1.move hb3 HX5.out.1.lt) (HX5.out.2.move hb3 HX5.out.2.lt)); clear hb3 ho hcl hrl))
        clear HX5 H5 x0 x1 x2 x3 CF
        have x0 := HX6.out.1.c 0 rfl
        have x1 := HX6.out.1.c 1 rfl
        have x2 := HX6.out.1.c 2 rfl
        have x3 := HX6.out.1.c 3 rfl
        go_upto_region 9 with fail
        have hbA := below_alloc (Below.refl w6.heap.size w6) (.cells #[.int .i64 ts.length, .int .i64 (leftsF rs).length, .int .i64 0, .int .i64 ex, .slice none 0 0, .slice none 0 0, .slice none 0 0, .slice none 0 0] 32)
        have hxB := Bx.new w6 #[.int .i64 ts.length, .int .i64 (leftsF rs).length, .int .i64 0, .int .i64 ex, .slice none 0 0, .slice none 0 0, .slice none 0 0, .slice none 0 0] 32
        obtain ⟨B, hB⟩ : ∃ B, B = w6.heap.size := ⟨_, rfl⟩
        rw [← hB] at hxB
        rw [← hB]
        have H7 := Aside0.mk (And.intro hxB hbA)
        have HBB := Aside0.mk hB
        generalize w6.alloc (.cells #[.int .i64 ts.length, .int .i64 (leftsF rs).length, .int .i64 0, .int .i64 ex, .slice none 0 0, .slice none 0 0, .slice none 0 0, .slice none 0 0] 32) = W7 at *
        clear hbA hxB hB x0 x1 x2 x3
        go_wp2_with fail
        go_loopg [6] ts.length (fun kq v6 w' => TcRel w6 B ts ts.length (leftsF rs).length ex kq v6 w')
        case atStart => exact ⟨0, _, _, _, by omega, rfl, H7.out.1, R3.nil _ _ _, H7.out.2⟩
        case round =>
          obtain ⟨i, v4, v5, v6, hi, rfl, hbx, hr, hbw⟩ := hrel
          have HI := Aside0.mk hi
          have HR := Aside0.mk hr
          have HBX := Aside0.mk hbx
          have HBW := Aside0.mk hbw
          have HXr := Aside0.mk (HX6.out.1.move hbw HX6.out.1.lt)
          have x0 := HXr.out.c 0 rfl
          clear hi hr hbx hbw
          by_cases hil : i < ts.length
          · have t1 : decide ((i : Int) < (ts.length : Int)) = true := by simp; omega
            have hin : (i : Int) < (ts.length : Int) := by omega
            obtain ⟨ad, e1, q0, q1, q2⟩ := tok_at HL.out.1 i hil
            have HB0 : Aside0 (Below w.heap.size w wr) := ⟨H6.out.trans (HBW.out.mono H6.out.size)⟩
            have HQ : Aside0 (wr.cell? (ad.add (i * 3)) = some (.string ts[i].f0) ∧ wr.cell? ⟨(ad.add (i * 3)).block, (ad.add (i * 3)).off + 1, none⟩ = some (.int .i64 ts[i].f1) ∧ wr.cell? ⟨(ad.add (i * 3)).block, (ad.add (i * 3)).off + 2, none⟩ = some (.int .i64 ts[i].f2)) := ⟨pw_cell_below HB0.out q0, pw_cell_below HB0.out q1, pw_cell_below HB0.out q2⟩
            have HTK : Aside0 ((ts.take (i + 1)).map STk.f0 = (ts.take i).map STk.f0 ++ [ts[i].f0] ∧ (ts.take (i + 1)).map STk.f1 = (ts.take i).map STk.f1 ++ [ts[i].f1] ∧ (ts.take (i + 1)).map STk.f2 = (ts.take i).map STk.f2 ++ [ts[i].f2]) := ⟨by rw [List.take_succ_eq_append_getElem hil]; simp only [List.map_append, List.map_cons, List.map_nil, and_self]⟩
            have HIL := Aside0.mk hil
            generalize ts[i] = tk at *
            obtain ⟨s0, s1, s2⟩ := tk
            simp only at HQ HTK
            subst e1
            have hla : ((ts.take i).map STk.f0).length ≤ 100000 := by simp; omega
            have hlb : ((ts.take i).map STk.f1).length ≤ 100000 := by simp; omega
            have hlc : ((ts.take i).map STk.f2).length ≤ 100000 := by simp; omega
            generalize (ts.take i).map STk.f0 = la at *
            generalize (ts.take i).map STk.f1 = lb at *
            generalize (ts.take i).map STk.f2 = lc at *
            have HQ0 := Aside0.mk (And.intro q0 (And.intro q1 q2))
            clear q0 q1 q2
            have HBL : Aside0 (w6.heap.size ≤ B) := ⟨Nat.le_of_eq HBB.out.symm⟩
            obtain ⟨A4, c4, rfl⟩ := Kd.R_slice HR.out.r4
            have q0 := HQ.out.1
            have y0 := HBX.out.c 4 rfl
            have y0' := fun o => ((HBX.out.onto o).drew).c 4 rfl
            go_upto_region 12 with fail
            go_cut [6] (fun v wx => ∃ v4', v = .int .i64 (i : Int) ∧ Bx wx B #[.int .i64 ts.length, .int .i64 (leftsF rs).length, .int .i64 0, .int .i64 ex, v4', v5, v6, .slice none 0 0] 32 ∧ R3 w6.heap.size B wx v4' v5 v6 (la ++ [s0]) lb lc ∧ Below w6.heap.size w6 wx)
            case first =>
              go_region_law (first
                | (refine Kd.R_append_rows_step Kd.string (w0 := w6) w6.heap.size (by rfl) (.tmp 44) (.tmp 51) 28 9 (.string ⟨#[]⟩) 16 rfl Tryz.underlying28 infoS rfl (by decide) (by omega) (.slice A4 la.length c4) la [s0] _ 1 1 (fun x => x ≠ B ∧ some x ≠ v5.ownBlock ∧ some x ≠ v6.ownBlock) (fun _ => False) (by rfl) (by rfl) (Kd.R_below HR.out.r4 (show Below wr.heap.size wr _ from (by repeat (first | (with_reducible first | exact Below.refl _ _ | apply below_alloc | apply below_drew1) | exact Below.refl _ _)))) (one_str (by first | exact lit_new _ _ _ | exact lit_new2 _ _ _)) (fun _ _ h => h) (fun _ h => h.elim) (HR.out.fresh4 HBX.out.lt (show Below wr.heap.size wr _ from (by repeat (first | (with_reducible first | exact Below.refl _ _ | apply below_alloc | apply below_drew1) | exact Below.refl _ _))).size) (HBW.out.trans ((show Below wr.heap.size wr _ from (by repeat (first | (with_reducible first | exact Below.refl _ _ | apply below_alloc | apply below_drew1) | exact Below.refl _ _))).mono HBW.out.size)) (Nat.le_trans HBW.out.size (show Below wr.heap.size wr _ from (by repeat (first | (with_reducible first | exact Below.refl _ _ | apply below_alloc | apply below_drew1) | exact Below.refl _ _))).size) (by omega) ?_; intro v1 w9 ho hb9 hg hat; obtain ⟨A9, c9, e9⟩ := Kd.R_slice ho; subst e9; have HX9 := Aside0.mk (Bx.grown (HBX.out.move (show Below wr.heap.size wr _ from (by repeat (first | (with_reducible first | exact Below.refl _ _ | apply below_alloc | apply below_drew1) | exact Below.refl _ _))) HBX.out.lt) hg HR.out.b4); have HR9 := Aside0.mk (R3.put4 (HR.out.below (show Below wr.heap.size wr _ from (by repeat (first | (with_reducible first | exact Below.refl _ _ | apply below_alloc | apply below_drew1) | exact Below.refl _ _)))) ho hg hat); have HB9 := Aside0.mk hb9; have g1 := HX9.out.c 4 rfl; have g2 := HX9.out.fz 4; clear ho hb9 hg hat))
              all_goals (go_wp2_with fail; go_meet; rw [show la.length + 1 = (la ++ [s0]).length by simp]; exact ⟨_, rfl, HX9.out.put 4 _, HR9.out.far 4 _, HB9.out.setCell (p := ⟨B, 4, none⟩) HBL.out _⟩)
            case rest =>
              obtain ⟨v4', rfl, hbx, hr, hbw⟩ := hcut
              obtain ⟨wc1, rfl⟩ : ∃ x, x = wc := ⟨_, rfl⟩
              have HB0 : Aside0 (Below w.heap.size w wc1) := ⟨H6.out.trans (hbw.mono H6.out.size)⟩
              have HXr := Aside0.mk (HX6.out.1.move hbw HX6.out.1.lt)
              have HQ : Aside0 (wc1.cell? (ad.add (i * 3)) = some (.string s0) ∧ wc1.cell? ⟨(ad.add (i * 3)).block, (ad.add (i * 3)).off + 1, none⟩ = some (.int .i64 s1) ∧ wc1.cell? ⟨(ad.add (i * 3)).block, (ad.add (i * 3)).off + 2, none⟩ = some (.int .i64 s2)) := ⟨pw_cell_below HB0.out HQ0.out.1, pw_cell_below HB0.out HQ0.out.2.1, pw_cell_below HB0.out HQ0.out.2.2⟩
              have HR := Aside0.mk hr
              have HBX := Aside0.mk hbx
              have HBW := Aside0.mk hbw
              clear hbx hr hbw x0 q0 y0 y0'
              have x0 := HXr.out.c 0 rfl
              obtain ⟨A5, c5, rfl⟩ := Kd.R_slice HR.out.r5
              have q0 := HQ.out.2.1
              have y0 := HBX.out.c 5 rfl
              have y0' := fun o => ((HBX.out.onto o).drew).c 5 rfl
              go_upto_region 13 with fail
              go_cut [6] (fun v wx => ∃ v5', v = .int .i64 (i : Int) ∧ Bx wx B #[.int .i64 ts.length, .int .i64 (leftsF rs).length, .int .i64 0, .int .i64 ex, v4', v5', v6, .slice none 0 0] 32 ∧ R3 w6.heap.size B wx v4' v5' v6 (la ++ [s0]) (lb ++ [s1]) lc ∧ Below w6.heap.size w6 wx)
              case first =>
                go_region_law (first
                  | (refine Kd.R_append_rows_step (Kd.int .i64) (w0 := w6) w6.heap.size (by rfl) (.tmp 55) (.tmp 62) 29 3 (.int .i64 0) 8 rfl Tryz.underlying29 infoI rfl (by decide) (by omega) (.slice A5 lb.length c5) lb [s1] _ 1 1 (fun x => x ≠ B ∧ some x ≠ v4'.ownBlock ∧ some x ≠ v6.ownBlock) (fun _ => False) (by rfl) (by rfl) (Kd.R_below HR.out.r5 (show Below wc1.heap.size wc1 _ from (by repeat (first | (with_reducible first | exact Below.refl _ _ | apply below_alloc | apply below_drew1) | exact Below.refl _ _)))) (one_int (by first | exact lit_new _ _ _ | exact lit_new2 _ _ _)) (fun _ _ h => h) (fun _ h => h.elim) (HR.out.fresh5 HBX.out.lt (show Below wc1.heap.size wc1 _ from (by repeat (first | (with_reducible first | exact Below.refl _ _ | apply below_alloc | apply below_drew1) | exact Below.refl _ _))).size) (HBW.out.trans ((show Below wc1.heap.size wc1 _ from (by repeat (first | (with_reducible first | exact Below.refl _ _ | apply below_alloc | apply below_drew1) | exact Below.refl _ _))).mono HBW.out.size)) (Nat.le_trans HBW.out.size (show Below wc1.heap.size wc1 _ from (by repeat (first | (with_reducible first | exact Below.refl _ _ | apply below_alloc | apply below_drew1) | exact Below.refl _ _))).size) (by omega) ?_; intro v1 w9 ho hb9 hg hat; obtain ⟨A9, c9, e9⟩ := Kd.R_slice ho; subst e9; have HX9 := Aside0.mk (Bx.grown (HBX.out.move (show Below wc1.heap.size wc1 _ from (by repeat (first | (with_reducible first | exact Below.refl _ _ | apply below_alloc | apply below_drew1) | exact Below.refl _ _))) HBX.out.lt) hg HR.out.b5); have HR9 := Aside0.mk (R3.put5 (HR.out.below (show Below wc1.heap.size wc1 _ from (by repeat (first | (with_reducible first | exact Below.refl _ _ | apply below_alloc | apply below_drew1) | exact Below.refl _ _)))) ho hg hat); have HB9 := Aside0.mk hb9; have g1 := HX9.out.c 5 rfl; have g2 := HX9.out.fz 5; clear ho hb9 hg hat))
                all_goals (go_wp2_with fail; go_meet; rw [show lb.length + 1 = (lb ++ [s1]).length by simp]; exact ⟨_, rfl, HX9.out.put 5 _, HR9.out.far 5 _, HB9.out.setCell (p := ⟨B, 5, none⟩) HBL.out _⟩)
              case rest =>
                obtain ⟨v5', rfl, hbx, hr, hbw⟩ := hcut
                obtain ⟨wc2, rfl⟩ : ∃ x, x = wc := ⟨_, rfl⟩
                have HB0 : Aside0 (Below w.heap.size w wc2) := ⟨H6.out.trans (hbw.mono H6.out.size)⟩
                have HXr := Aside0.mk (HX6.out.1.move hbw HX6.out.1.lt)
                have HQ : Aside0 (wc2.cell? (ad.add (i * 3)) = some (.string s0) ∧ wc2.cell? ⟨(ad.add (i * 3)).block, (ad.add (i * 3)).off + 1, none⟩ = some (.int .i64 s1) ∧ wc2.cell? ⟨(ad.add (i * 3)).block, (ad.add (i * 3)).off + 2, none⟩ = some (.int .i64 s2)) := ⟨pw_cell_below HB0.out HQ0.out.1, pw_cell_below HB0.out HQ0.out.2.1, pw_cell_below HB0.out HQ0.out.2.2⟩
                have HR := Aside0.mk hr
                have HBX := Aside0.mk hbx
                have HBW := Aside0.mk hbw
                clear hbx hr hbw x0 q0 y0 y0'
                have x0 := HXr.out.c 0 rfl
                obtain ⟨A6, c6, rfl⟩ := Kd.R_slice HR.out.r6
                have q0 := HQ.out.2.2
                have y0 := HBX.out.c 6 rfl
                have y0' := fun o => ((HBX.out.onto o).drew).c 6 rfl
                go_upto_region 14 with fail
                go_region_law (first
                  | (refine Kd.R_append_rows_step (Kd.int .i64) (w0 := w6) w6.heap.size (by rfl) (.tmp 66) (.tmp 73) 29 3 (.int .i64 0) 8 rfl Tryz.underlying29 infoI rfl (by decide) (by omega) (.slice A6 lc.length c6) lc [s2] _ 1 1 (fun x => x ≠ B ∧ some x ≠ v4'.ownBlock ∧ some x ≠ v5'.ownBlock) (fun _ => False) (by rfl) (by rfl) (Kd.R_below HR.out.r6 (show Below wc2.heap.size wc2 _ from (by repeat (first | (with_reducible first | exact Below.refl _ _ | apply below_alloc | apply below_drew1) | exact Below.refl _ _)))) (one_int (by first | exact lit_new _ _ _ | exact lit_new2 _ _ _)) (fun _ _ h => h) (fun _ h => h.elim) (HR.out.fresh6 HBX.out.lt (show Below wc2.heap.size wc2 _ from (by repeat (first | (with_reducible first | exact Below.refl _ _ | apply below_alloc | apply below_drew1) | exact Below.refl _ _))).size) (HBW.out.trans ((show Below wc2.heap.size wc2 _ from (by repeat (first | (with_reducible first | exact Below.refl _ _ | apply below_alloc | apply below_drew1) | exact Below.refl _ _))).mono HBW.out.size)) (Nat.le_trans HBW.out.size (show Below wc2.heap.size wc2 _ from (by repeat (first | (with_reducible first | exact Below.refl _ _ | apply below_alloc | apply below_drew1) | exact Below.refl _ _))).size) (by omega) ?_; intro v1 w9 ho hb9 hg hat; obtain ⟨A9, c9, e9⟩ := Kd.R_slice ho; subst e9; have HX9 := Aside0.mk (Bx.grown (HBX.out.move (show Below wc2.heap.size wc2 _ from (by repeat (first | (with_reducible first | exact Below.refl _ _ | apply below_alloc | apply below_drew1) | exact Below.refl _ _))) HBX.out.lt) hg HR.out.b6); have HR9 := Aside0.mk (R3.put6 (HR.out.below (show Below wc2.heap.size wc2 _ from (by repeat (first | (with_reducible first | exact Below.refl _ _ | apply below_alloc | apply below_drew1) | exact Below.refl _ _)))) ho hg hat); have HB9 := Aside0.mk hb9; have g1 := HX9.out.c 6 rfl; have g2 := HX9.out.fz 6; clear ho hb9 hg hat))
                all_goals
                  go_wp2_with fail
                  go_roundg (gk - 1)
                  case measure => have := HI.out; have := HIL.out; omega
                  case rel =>
                    rw [show lc.length + 1 = (lc ++ [s2]).length by simp]
                    exact ⟨i + 1, _, _, _, by have := HI.out; have := HIL.out; omega, by have h1 := HIL.out; first | rfl | (congr 1; unfold wrap64; omega), HX9.out.put 6 _, by rw [HTK.out.1, HTK.out.2.1, HTK.out.2.2]; exact HR9.out.far 6 _, HB9.out.setCell (p := ⟨B, 6, none⟩) HBL.out _⟩
          · have t1 : decide ((i : Int) < (ts.length : Int)) = false := by simp; omega
            have hit : i = ts.length := by have := HI.out; omega
            have hr := HR.out
            rw [hit, List.take_length] at hr
            have HR1 := Aside0.mk hr
            obtain ⟨A4, c4, rfl⟩ := Kd.R_slice HR.out.r4
            have y4 := HBX.out.c 4 rfl
            have HBO := Aside0.mk (below_alloc (Below.refl wr.heap.size wr) (.cells #[.string ⟨#[]⟩] 9))
            have hlt := (long_no HG.out).2.1
            have hll := (long_no HG.out).2.2.2
            have hla : ((ts.take i).map STk.f0).length ≤ 12 := by simp; omega
            have HLA : Aside0 ((ts.take i).map STk.f0 = ts.map STk.f0) := ⟨by rw [hit, List.take_length]⟩
            have HLR := Aside0.mk (Kd.C_below HLF.out.1 HBW.out)
            generalize (ts.take i).map STk.f0 = la at *
            clear hr hit
            have HBL : Aside0 (w6.heap.size ≤ B) := ⟨Nat.le_of_eq HBB.out.symm⟩
            go_upto_region 16 with (first
              | (at_builtin; refine Kd.R_append Kd.string (w0 := w6) w6.heap.size rfl (.tmp 77) (.tmp 78) 28 9 (.string ⟨#[]⟩) 16 rfl Tryz.underlying28 infoS rfl (by decide) (by omega) _ la (⟨#[]⟩ : ByteArray) [.string ⟨#[]⟩] (fun x => x ≠ B ∧ some x ≠ v5.ownBlock ∧ some x ≠ v6.ownBlock) (fun _ => False) rfl rfl (show Kd.M Kd.string _ _ _ (⟨#[]⟩ : ByteArray) [.string ⟨#[]⟩] from rfl) (fun _ h => h.elim) (HR.out.fresh4 HBX.out.lt (Nat.le_refl _)) HR.out.r4 HBW.out HBW.out.size (by omega) ?_; intro v2 w9 ho hb9 hg hat; obtain ⟨A9, c9, e9⟩ := Kd.R_slice ho; subst e9; rw [show (la ++ [(⟨#[]⟩ : ByteArray)]).length = la.length + 1 from by simp] at ho hat; have HX9 := Aside0.mk (Bx.grown HBX.out hg HR.out.b4); have HR9 := Aside0.mk (R3.put4 HR.out ho hg hat); have HB9 := Aside0.mk hb9; have HL9 := Aside0.mk (Kd.C_below HLF.out.1 hb9); clear ho hb9 hg hat)
              | (at_builtin; refine Kd.R_append_rows Kd.string (w0 := w6) w6.heap.size rfl (.tmp 79) (.tmp 80) 28 9 (.string ⟨#[]⟩) 16 rfl Tryz.underlying28 infoS rfl (by decide) (by omega) (.slice A9 (la.length + 1) c9) (la ++ [(⟨#[]⟩ : ByteArray)]) (leftsF rs) Al (leftsF rs).length cl (fun x => x ≠ B ∧ some x ≠ v5.ownBlock ∧ some x ≠ v6.ownBlock) (fun _ => False) rfl rfl HR9.out.r4 HL9.out (fun _ _ h => h) (fun _ h => h.elim) (HR9.out.fresh4 HX9.out.lt (Nat.le_refl _)) HB9.out HB9.out.size (by simp; omega) ?_; intro v3 w10 ho hb10 hg hat; obtain ⟨A10, c10, e10⟩ := Kd.R_slice ho; subst e10; have HX10 := Aside0.mk (Bx.grown HX9.out hg HR9.out.b4); have HR10 := Aside0.mk (R3.put4 HR9.out ho hg hat); have HB10 := Aside0.mk hb10; have g1 := HX10.out.c 4 rfl; have g2 := HX10.out.fz 4; clear ho hb10 hg hat))
            have hn4 : la.length + ((leftsF rs).length + 1) = (namesF ts rs).length := by rw [names_len, HLA.out]; simp; omega
            rw [hn4]
            have hnn : la ++ [(⟨#[]⟩ : ByteArray)] ++ leftsF rs = namesF ts rs := by rw [HLA.out]; rfl
            have hl5 : (ts.take i).map STk.f1 = ts.map STk.f1 := by rw [List.take_of_length_le (by omega)]
            have hl6 : (ts.take i).map STk.f2 = ts.map STk.f2 := by rw [List.take_of_length_le (by omega)]
            have hr10 := HR10.out
            rw [hnn, hl5, hl6] at hr10
            have H15 : Aside0 (Bx (w10.setCell ⟨B, 4, none⟩ (.slice A10 (namesF ts rs).length c10)) B #[.int .i64 ts.length, .int .i64 (leftsF rs).length, .int .i64 0, .int .i64 ex, .slice A10 (namesF ts rs).length c10, v5, v6, .slice none 0 0] 32 ∧ R3 w6.heap.size B (w10.setCell ⟨B, 4, none⟩ (.slice A10 (namesF ts rs).length c10)) (.slice A10 (namesF ts rs).length c10) v5 v6 (namesF ts rs) (ts.map STk.f1) (ts.map STk.f2) ∧ Below w6.heap.size w6 (w10.setCell ⟨B, 4, none⟩ (.slice A10 (namesF ts rs).length c10))) := ⟨HX10.out.put 4 _, hr10.far 4 _, HB10.out.setCell (p := ⟨B, 4, none⟩) HBL.out _⟩
            generalize w10.setCell ⟨B, 4, none⟩ (.slice A10 (namesF ts rs).length c10) = W15 at *
            clear hn4 hnn hl5 hl6 hr10 HX10 HR10 HB10 g1 g2 HX9 HR9 HB9 HL9 x0 y4 hla t1 hil HLR
            have HX15 := Aside0.mk (HX6.out.1.move H15.out.2.2 HX6.out.1.lt)
            have x1 := HX15.out.c 1 rfl
            have HL15 := Aside0.mk (Kd.C_below HLF.out.1 H15.out.2.2)
            have hlp := lefts_pos HNK.out.2.1
            obtain ⟨s0, hs0⟩ : ∃ s, s = if st = ⟨#[]⟩ then (leftsF rs).headD ⟨#[]⟩ else st := ⟨_, rfl⟩
            have HS0 := Aside0.mk hs0
            clear hs0
            obtain ⟨nl, hnl⟩ : ∃ n, n = (leftsF rs).length := ⟨_, rfl⟩
            go_upto_if 86 with fail
            go_cut [7] (fun v7 wx => v7 = .string s0 ∧ wx = W15)
            case first =>
              by_cases h5 : st.toList = []
              · have t5 : st.toList.isEmpty = true := by rw [h5]; rfl
                have HP5 : Aside0 (s0 = (leftsF rs).headD ⟨#[]⟩) := ⟨by rw [HS0.out, if_pos (toList_eq.1 (by rw [h5, toList_nil]))]⟩
                rw [t5]
                clear t5 h5
                obtain ⟨ld, el, hcl⟩ := str_at HL15.out 0 (by omega)
                have HP6 : Aside0 ((leftsF rs)[0] = s0) := ⟨by rw [HP5.out]; exact head_at _ _ _⟩
                rw [HP6.out, Addr.add_zero'] at hcl
                have hl0 : 0 < (leftsF rs).length := hlp
                subst el
                go_wp2_with fail
                go_meet
                exact ⟨rfl, rfl⟩
              · have t5 : st.toList.isEmpty = false := by simpa using h5
                have HP5 : Aside0 (s0 = st) := ⟨by rw [HS0.out, if_neg (fun h => h5 (by rw [h, toList_nil]))]⟩
                rw [t5]
                clear t5 h5
                go_wp2_with fail
                go_meet
                exact ⟨by rw [HP5.out], rfl⟩
            case rest =>
              obtain ⟨rfl, rfl⟩ := hcut
              go_upto_region 19 with fail
              have hsk := start_ok HNK.out
              have hsf : startF ts st rs = (ts.length : Int) + 1 + plc s0 (leftsF rs) 0 := by rw [HS0.out]; rfl
              have CP : ∀ w', Aside0 (Below w6.heap.size w6 w' → Calls Tryz.prog 45 #[.slice Al (leftsF rs).length cl, .string s0] w' fun e w'' => e = .returned (.int .i64 (plc s0 (leftsF rs) 0)) ∧ w'' = w') := fun w' => ⟨fun hb => place_calls w' Al cl (leftsF rs) s0 (Kd.C_below HLF.out.1 hb) HLF.out.2⟩
              obtain ⟨p, hp⟩ : ∃ p, p = plc s0 (leftsF rs) 0 := ⟨_, rfl⟩
              rw [← hp] at CP hsf
              obtain ⟨q, hq⟩ : ∃ q, q = startF ts st rs := ⟨_, rfl⟩
              rw [← hq] at hsk hsf
              have HQS := Aside0.mk (And.intro hq hsk)
              have hw1 : IntKind.i64.wrap ((ts.length : Int) + 1) = (ts.length : Int) + 1 := by rw [IntKind.wrap_i64]; omega
              have hw2 : IntKind.i64.wrap ((ts.length : Int) + 1 + p) = q := by rw [IntKind.wrap_i64]; omega
              have y0 := H15.out.1.c 0 rfl
              have y2 := H15.out.1.c 2 rfl
              have f2 := H15.out.1.fz 2
              clear hp hq hsk hsf x1 hlp
              go_cut [3] (fun v3 wx => v3 = .int .i64 0 ∧ Bx wx B #[.int .i64 ts.length, .int .i64 (leftsF rs).length, .int .i64 q, .int .i64 ex, .slice A10 (namesF ts rs).length c10, v5, v6, .slice none 0 0] 32 ∧ R3 w6.heap.size B wx (.slice A10 (namesF ts rs).length c10) v5 v6 (namesF ts rs) (ts.map STk.f1) (ts.map STk.f2) ∧ Below w6.heap.size w6 wx)
              case first =>
                go_region_with (first
                  | (go_at_call 45; (with_reducible refine Calls.mono ((CP _).out (below_drew1 H15.out.2.2)) ?_); rintro e w' ⟨rfl, rfl⟩))
                all_goals (go_wp2_with fail; go_meet; exact ⟨rfl, H15.out.1.drew.put 2 _, (H15.out.2.1.below (below_drew1 (Below.refl _ _))).far 2 _, (below_drew1 H15.out.2.2).setCell (p := ⟨B, 2, none⟩) HBL.out _⟩)
              case rest =>
                obtain ⟨rfl, hbx, hr, hbw⟩ := hcut
                clear y0 y2 f2 hw1 hw2 CP
                obtain ⟨W20, rfl⟩ : ∃ x, x = wc := ⟨_, rfl⟩
                obtain ⟨v7, hv7⟩ : ∃ v, v = Value.slice none 0 0 := ⟨_, rfl⟩
                rw [← hv7] at hbx
                have HV7 := Aside0.mk hv7
                have HB20 := Aside0.mk hbw
                have HR20 : Aside0 (R4 w6.heap.size B W20.heap.size W20 (.slice A10 (namesF ts rs).length c10) v5 v6 v7 (namesF ts rs) (ts.map STk.f1) (ts.map STk.f2) []) := ⟨by rw [hv7]; exact R4.of hr hbx.lt⟩
                have hbi := below_alloc (Below.refl W20.heap.size W20) (.cells #[.int .i64 q] 3)
                have HI20 := Aside0.mk hbi
                have HBi := Aside0.mk (hbx.onto (.cells #[.int .i64 q] 3))
                have HLR := Aside0.mk (lit_rule (W := W20) (base := w6.heap.size) q hbw.size)
                have hsz : (W20.alloc (.cells #[.int .i64 q] 3)).heap.size = W20.heap.size + 1 := World.size_alloc ..
                have HSZ := Aside0.mk hsz
                have y2 := hbx.c 2 rfl
                have y7 := hbx.c 7 rfl
                clear hbx hr hbw hbi hsz hv7
                go_upto_region 21 with (first
                  | (at_builtin; refine Kd.R_append kSR (w0 := w6) w6.heap.size rfl (.tmp 99) (.tmp 104) 30 81 (.agg #[.int .i64 0, .slice none 0 0, .int .i64 0, .int .i64 0]) 48 rfl Tryz.underlying30 infoSR rfl (by decide) (by omega) _ ([] : List SR) (⟨-1, [q], 0, 0⟩ : SR) [.int .i64 (-1), .slice (some ⟨W20.heap.size, 0, none⟩) 1 1, .int .i64 0, .int .i64 0] (fun x => W20.heap.size ≤ x) (fun x => x = W20.heap.size) rfl (by rw [World.size_alloc]; rfl) HLR.out (fun x hx => ⟨by omega, by rw [HV7.out]; intro hh; cases hh⟩) (fun x hx => by have := HSZ.out; omega) (Kd.R_below HR20.out.r7 HI20.out) (HB20.out.trans (HI20.out.mono HB20.out.size)) (Nat.le_trans HB20.out.size HI20.out.size) (by simp) ?_; intro v2 w9 ho hb9 hg hat; obtain ⟨A9, c9, e9⟩ := Kd.R_slice ho; subst e9; have HX9 := Aside0.mk (HBi.out.grown hg (by rw [HV7.out]; intro hh; cases hh)); have HR9 := Aside0.mk (R4.put7 (HR20.out.below HI20.out) ho hg hat); have HB9 := Aside0.mk hb9; have HN9 : Aside0 (W20.heap.size ≤ w9.heap.size) := ⟨by have h1 := hg.size; have := HSZ.out; omega⟩; have g1 := HX9.out.c 7 rfl; have g2 := HX9.out.fz 7; clear ho hb9 hg hat))
                have hl9 : (([] : List SR) ++ [(⟨-1, [q], 0, 0⟩ : SR)]).length = 1 := rfl
                have H21 : Aside0 (Bx (w9.setCell ⟨B, 7, none⟩ (.slice A9 1 c9)) B #[.int .i64 ts.length, .int .i64 (leftsF rs).length, .int .i64 q, .int .i64 ex, .slice A10 (namesF ts rs).length c10, v5, v6, .slice A9 1 c9] 32 ∧ R4 w6.heap.size B W20.heap.size (w9.setCell ⟨B, 7, none⟩ (.slice A9 1 c9)) (.slice A10 (namesF ts rs).length c10) v5 v6 (.slice A9 1 c9) (namesF ts rs) (ts.map STk.f1) (ts.map STk.f2) [⟨-1, [q], 0, 0⟩] ∧ Below w6.heap.size w6 (w9.setCell ⟨B, 7, none⟩ (.slice A9 1 c9)) ∧ W20.heap.size ≤ (w9.setCell ⟨B, 7, none⟩ (.slice A9 1 c9)).heap.size) := ⟨HX9.out.put 7 _, HR9.out.far 7 _, HB9.out.setCell (p := ⟨B, 7, none⟩) HBL.out _, by rw [World.size_setCell]; exact HN9.out⟩
                generalize w9.setCell ⟨B, 7, none⟩ (.slice A9 1 c9) = W21 at *
                clear g1 g2 y2 y7 hl9 HX9 HR9 HB9
                go_wp2_with fail
                go_loopg [8] rs.length (fun kq v8 w' => RcRel w6 B W20.heap.size ts (namesF ts rs) rs ts.length (leftsF rs).length q ex (.slice A10 (namesF ts rs).length c10) v5 v6 kq v8 w')
                case atStart => exact ⟨0, _, by omega, rfl, H21.out.1, H21.out.2.1, H21.out.2.2.1, H21.out.2.2.2⟩
                case round =>
                  obtain ⟨j, v7', hj, rfl, hbx, hr, hbw, hN⟩ := hrel
                  have HJ := Aside0.mk hj
                  have HRr := Aside0.mk hr
                  have HBr := Aside0.mk hbx
                  have HWr := Aside0.mk (And.intro hbw hN)
                  have HXr := Aside0.mk (HX6.out.1.move hbw HX6.out.1.lt)
                  have x3 := HXr.out.c 3 rfl
                  clear hj hr hbx hbw hN
                  by_cases hjl : j < rs.length
                  · have t1 : decide ((j : Int) < (rs.length : Int)) = true := by simp; omega
                    have hjn : (j : Int) < (rs.length : Int) := by omega
                    obtain ⟨ad2, A1, c1, e1, r0, r1, r2, hl1, hrr⟩ := ru_at HL.out.2 j hjl
                    have HTK : Aside0 ((⟨-1, [q], 0, 0⟩ :: (rs.take (j + 1)).map (ruleF ts (namesF ts rs)) : List SR) = (⟨-1, [q], 0, 0⟩ :: (rs.take j).map (ruleF ts (namesF ts rs)) : List SR) ++ [ruleF ts (namesF ts rs) rs[j]]) := ⟨by rw [List.take_succ_eq_append_getElem hjl, List.map_append]; rfl⟩
                    have hr6 : rs[j].f1.length ≤ 6 := (long_no HG.out).1 _ (List.getElem_mem hjl)
                    have HJL := Aside0.mk hjl
                    obtain ⟨A7, c7, ev7⟩ := Kd.R_slice HRr.out.r7
                    subst ev7
                    obtain ⟨_, hcn4, hn4⟩ := Kd.R_reads' HRr.out.r4
                    obtain ⟨A5, c5, ev5⟩ := Kd.R_slice HRr.out.r5
                    obtain ⟨A6, c6, ev6⟩ := Kd.R_slice HRr.out.r6
                    subst ev5 ev6
                    have CR : ∀ w', Aside0 (Below wr.heap.size wr w' → Calls Tryz.prog 46 #[.agg #[.slice A ts.length c, .string st, .int .i64 ex, .slice A2 rs.length c2], .agg #[.int .i64 ts.length, .int .i64 (leftsF rs).length, .int .i64 q, .int .i64 ex, .slice A10 (namesF ts rs).length c10, .slice A5 (ts.map STk.f1).length c5, .slice A6 (ts.map STk.f2).length c6, .slice A7 (⟨-1, [q], 0, 0⟩ :: (rs.take j).map (ruleF ts (namesF ts rs))).length c7], .agg #[.string rs[j].f0, .slice A1 rs[j].f1.length c1, .string rs[j].f2]] w' fun e w'' => ∃ A' c', e = .returned (.agg #[.int .i64 (ruleF ts (namesF ts rs) rs[j]).f0, .slice A' (ruleF ts (namesF ts rs) rs[j]).f1.length c', .int .i64 (ruleF ts (namesF ts rs) rs[j]).f2, .int .i64 (ruleF ts (namesF ts rs) rs[j]).f3]) ∧ Kd.R (Kd.int .i64) 3 w'' w'.heap.size (fun _ => True) (.slice A' (ruleF ts (namesF ts rs) rs[j]).f1.length c') (ruleF ts (namesF ts rs) rs[j]).f1 ∧ Below w'.heap.size w' w'') := fun w' => ⟨fun hb => rule_calls w' A c ts st ex A2 rs.length c2 ts.length (leftsF rs).length q ex A10 A5 A6 A7 c10 _ c5 _ c6 _ c7 (namesF ts rs) A1 c1 rs[j] (Kd.C_below HL.out.1 (H6.out.trans ((HWr.out.1.trans (hb.mono HWr.out.1.size)).mono H6.out.size))) hct (Kd.C_below hn4 hb) hcn4 (Kd.C_below hrr (H6.out.trans ((HWr.out.1.trans (hb.mono HWr.out.1.size)).mono H6.out.size))) hl1 (by omega) rfl⟩
                    have stepS : Aside0 (∀ w', Below w6.heap.size w6 w' → w'.cell? ⟨X, 0, none⟩ = some (.slice A ts.length c) ∧ w'.cell? ⟨X, 1, none⟩ = some (.string st) ∧ w'.cell? ⟨X, 2, none⟩ = some (.int .i64 ex) ∧ w'.cell? ⟨X, 3, none⟩ = some (.slice A2 rs.length c2) ∧ w'.cell? (ad2.add (j * 3)) = some (.string rs[j].f0) ∧ w'.cell? ⟨(ad2.add (j * 3)).block, (ad2.add (j * 3)).off + 1, none⟩ = some (.slice A1 rs[j].f1.length c1) ∧ w'.cell? ⟨(ad2.add (j * 3)).block, (ad2.add (j * 3)).off + 2, none⟩ = some (.string rs[j].f2) ∧ Below w6.heap.size w6 w') := ⟨fun w' hb => ⟨(HX6.out.1.move hb HX6.out.1.lt).c 0 rfl, (HX6.out.1.move hb HX6.out.1.lt).c 1 rfl, (HX6.out.1.move hb HX6.out.1.lt).c 2 rfl, (HX6.out.1.move hb HX6.out.1.lt).c 3 rfl, pw_cell_below (H6.out.trans (hb.mono H6.out.size)) r0, pw_cell_below (H6.out.trans (hb.mono H6.out.size)) r1, pw_cell_below (H6.out.trans (hb.mono H6.out.size)) r2, hb⟩⟩
                    obtain ⟨rx, hrx⟩ : ∃ rx, rx = ruleF ts (namesF ts rs) rs[j] := ⟨_, rfl⟩
                    rw [← hrx] at CR HTK
                    clear hrx r0 r1 r2
                    generalize rs[j] = rr at *
                    obtain ⟨rl, rt, rp⟩ := rr
                    simp only at CR stepS
                    subst e1
                    obtain ⟨rf0, rf1, rf2, rf3⟩ := rx
                    simp only at CR
                    have hlen7 : (⟨-1, [q], 0, 0⟩ :: (rs.take j).map (ruleF ts (namesF ts rs)) : List SR).length ≤ 31 := by have := (long_no HG.out).2.2.1; simp; omega
                    generalize (⟨-1, [q], 0, 0⟩ :: (rs.take j).map (ruleF ts (namesF ts rs)) : List SR) = l7 at *
                    have b0 := HBr.out.c 0 rfl
                    have b1 := HBr.out.c 1 rfl
                    have b2 := HBr.out.c 2 rfl
                    have b3 := HBr.out.c 3 rfl
                    have b4 := HBr.out.c 4 rfl
                    have b5 := HBr.out.c 5 rfl
                    have b6 := HBr.out.c 6 rfl
                    have b7 := HBr.out.c 7 rfl
                    have hW0 := HWr.out.1
                    clear hrr hl1 hr6 hn4 hcn4
                    go_upto_region 24 with fail
                    have hNR := HWr.out.2
                    obtain ⟨x0, x1, x2, x3', r0, r1, r2, _⟩ := stepS.out wr HWr.out.1
                    have hS0 : Bx wr.drew B #[.int .i64 ts.length, .int .i64 (leftsF rs).length, .int .i64 q, .int .i64 ex, .slice A10 (namesF ts rs).length c10, .slice A5 (ts.map STk.f1).length c5, .slice A6 (ts.map STk.f2).length c6, .slice A7 l7.length c7] 32 ∧ Below w6.heap.size w6 wr.drew := ⟨HBr.out.drew, below_drew1 HWr.out.1⟩
                    refine region_begin (fun w' => Bx w' B #[.int .i64 ts.length, .int .i64 (leftsF rs).length, .int .i64 q, .int .i64 ex, .slice A10 (namesF ts rs).length c10, .slice A5 (ts.map STk.f1).length c5, .slice A6 (ts.map STk.f2).length c6, .slice A7 l7.length c7] 32 ∧ Below w6.heap.size w6 w') 13 (by kernel_rfl) ?_
                    clear x0 x1 x2 x3' r0 r1 r2 b0 b1 b2 b3 b4 b5 b6 b7
                    refine take_first (i := 0) (v := ?_) rfl (by kernel_rfl) (by kernel_rfl) (by kernel_rfl) (by kernel_rfl) (fun _ _ _ h => h) (Or.inl ⟨by rfl, ?_⟩) hS0 ?_
                    rotate_left
                    · intro w' hS'
                      obtain ⟨x0, x1, x2, x3', r0, r1, r2, _⟩ := stepS.out w' hS'.2
                      have b0 := hS'.1.c 0 rfl
                      have b1 := hS'.1.c 1 rfl
                      have b2 := hS'.1.c 2 rfl
                      have b3 := hS'.1.c 3 rfl
                      have b4 := hS'.1.c 4 rfl
                      have b5 := hS'.1.c 5 rfl
                      have b6 := hS'.1.c 6 rfl
                      have b7 := hS'.1.c 7 rfl
                      go_simp
                      with_reducible rfl
                    simp only [Act.put, List.setIfInBounds_toArray, List.set_cons_zero, List.set_cons_succ]
                    refine take_first (i := 1) (v := ?_) rfl (by kernel_rfl) (by kernel_rfl) (by kernel_rfl) (by kernel_rfl) (fun _ _ _ h => h) (Or.inl ⟨by rfl, ?_⟩) hS0 ?_
                    rotate_left
                    · intro w' hS'
                      obtain ⟨x0, x1, x2, x3', r0, r1, r2, _⟩ := stepS.out w' hS'.2
                      have b0 := hS'.1.c 0 rfl
                      have b1 := hS'.1.c 1 rfl
                      have b2 := hS'.1.c 2 rfl
                      have b3 := hS'.1.c 3 rfl
                      have b4 := hS'.1.c 4 rfl
                      have b5 := hS'.1.c 5 rfl
                      have b6 := hS'.1.c 6 rfl
                      have b7 := hS'.1.c 7 rfl
                      go_simp
                      with_reducible rfl
                    simp only [Act.put, List.setIfInBounds_toArray, List.set_cons_zero, List.set_cons_succ]
                    refine take_first (i := 2) (v := ?_) rfl (by kernel_rfl) (by kernel_rfl) (by kernel_rfl) (by kernel_rfl) (fun _ _ _ h => h) (Or.inl ⟨by rfl, ?_⟩) hS0 ?_
                    rotate_left
                    · intro w' hS'
                      obtain ⟨x0, x1, x2, x3', r0, r1, r2, _⟩ := stepS.out w' hS'.2
                      have b0 := hS'.1.c 0 rfl
                      have b1 := hS'.1.c 1 rfl
                      have b2 := hS'.1.c 2 rfl
                      have b3 := hS'.1.c 3 rfl
                      have b4 := hS'.1.c 4 rfl
                      have b5 := hS'.1.c 5 rfl
                      have b6 := hS'.1.c 6 rfl
                      have b7 := hS'.1.c 7 rfl
                      go_simp
                      with_reducible rfl
                    simp only [Act.put, List.setIfInBounds_toArray, List.set_cons_zero, List.set_cons_succ]
                    refine take_first (i := 3) (v := ?_) rfl (by kernel_rfl) (by kernel_rfl) (by kernel_rfl) (by kernel_rfl) (fun _ _ _ h => h) (Or.inl ⟨by rfl, ?_⟩) hS0 ?_
                    rotate_left
                    · intro w' hS'
                      obtain ⟨x0, x1, x2, x3', r0, r1, r2, _⟩ := stepS.out w' hS'.2
                      have b0 := hS'.1.c 0 rfl
                      have b1 := hS'.1.c 1 rfl
                      have b2 := hS'.1.c 2 rfl
                      have b3 := hS'.1.c 3 rfl
                      have b4 := hS'.1.c 4 rfl
                      have b5 := hS'.1.c 5 rfl
                      have b6 := hS'.1.c 6 rfl
                      have b7 := hS'.1.c 7 rfl
                      go_simp
                      with_reducible rfl
                    simp only [Act.put, List.setIfInBounds_toArray, List.set_cons_zero, List.set_cons_succ]
                    refine take_first (i := 4) (v := ?_) rfl (by kernel_rfl) (by kernel_rfl) (by kernel_rfl) (by kernel_rfl) (fun _ _ _ h => h) (Or.inl ⟨by rfl, ?_⟩) hS0 ?_
                    rotate_left
                    · intro w' hS'
                      obtain ⟨x0, x1, x2, x3', r0, r1, r2, _⟩ := stepS.out w' hS'.2
                      have b0 := hS'.1.c 0 rfl
                      have b1 := hS'.1.c 1 rfl
                      have b2 := hS'.1.c 2 rfl
                      have b3 := hS'.1.c 3 rfl
                      have b4 := hS'.1.c 4 rfl
                      have b5 := hS'.1.c 5 rfl
                      have b6 := hS'.1.c 6 rfl
                      have b7 := hS'.1.c 7 rfl
                      go_simp
                      with_reducible rfl
                    simp only [Act.put, List.setIfInBounds_toArray, List.set_cons_zero, List.set_cons_succ]
                    refine take_first (i := 5) (v := ?_) rfl (by kernel_rfl) (by kernel_rfl) (by kernel_rfl) (by kernel_rfl) (fun _ _ _ h => h) (Or.inl ⟨by rfl, ?_⟩) hS0 ?_
                    rotate_left
                    · intro w' hS'
                      obtain ⟨x0, x1, x2, x3', r0, r1, r2, _⟩ := stepS.out w' hS'.2
                      have b0 := hS'.1.c 0 rfl
                      have b1 := hS'.1.c 1 rfl
                      have b2 := hS'.1.c 2 rfl
                      have b3 := hS'.1.c 3 rfl
                      have b4 := hS'.1.c 4 rfl
                      have b5 := hS'.1.c 5 rfl
                      have b6 := hS'.1.c 6 rfl
                      have b7 := hS'.1.c 7 rfl
                      go_simp
                      with_reducible rfl
                    simp only [Act.put, List.setIfInBounds_toArray, List.set_cons_zero, List.set_cons_succ]
                    refine take_first (i := 6) (v := ?_) rfl (by kernel_rfl) (by kernel_rfl) (by kernel_rfl) (by kernel_rfl) (fun _ _ _ h => h) (Or.inl ⟨by rfl, ?_⟩) hS0 ?_
                    rotate_left
                    · intro w' hS'
                      obtain ⟨x0, x1, x2, x3', r0, r1, r2, _⟩ := stepS.out w' hS'.2
                      have b0 := hS'.1.c 0 rfl
                      have b1 := hS'.1.c 1 rfl
                      have b2 := hS'.1.c 2 rfl
                      have b3 := hS'.1.c 3 rfl
                      have b4 := hS'.1.c 4 rfl
                      have b5 := hS'.1.c 5 rfl
                      have b6 := hS'.1.c 6 rfl
                      have b7 := hS'.1.c 7 rfl
                      go_simp
                      with_reducible rfl
                    simp only [Act.put, List.setIfInBounds_toArray, List.set_cons_zero, List.set_cons_succ]
                    refine take_first (i := 7) (v := ?_) rfl (by kernel_rfl) (by kernel_rfl) (by kernel_rfl) (by kernel_rfl) (fun _ _ _ h => h) (Or.inl ⟨by rfl, ?_⟩) hS0 ?_
                    rotate_left
                    · intro w' hS'
                      obtain ⟨x0, x1, x2, x3', r0, r1, r2, _⟩ := stepS.out w' hS'.2
                      have b0 := hS'.1.c 0 rfl
                      have b1 := hS'.1.c 1 rfl
                      have b2 := hS'.1.c 2 rfl
                      have b3 := hS'.1.c 3 rfl
                      have b4 := hS'.1.c 4 rfl
                      have b5 := hS'.1.c 5 rfl
                      have b6 := hS'.1.c 6 rfl
                      have b7 := hS'.1.c 7 rfl
                      go_simp
                      with_reducible rfl
                    simp only [Act.put, List.setIfInBounds_toArray, List.set_cons_zero, List.set_cons_succ]
                    refine take_first (i := 8) (v := ?_) rfl (by kernel_rfl) (by kernel_rfl) (by kernel_rfl) (by kernel_rfl) (fun _ _ _ h => h) (Or.inl ⟨by rfl, ?_⟩) hS0 ?_
                    rotate_left
                    · intro w' hS'
                      obtain ⟨x0, x1, x2, x3', r0, r1, r2, _⟩ := stepS.out w' hS'.2
                      have b0 := hS'.1.c 0 rfl
                      have b1 := hS'.1.c 1 rfl
                      have b2 := hS'.1.c 2 rfl
                      have b3 := hS'.1.c 3 rfl
                      have b4 := hS'.1.c 4 rfl
                      have b5 := hS'.1.c 5 rfl
                      have b6 := hS'.1.c 6 rfl
                      have b7 := hS'.1.c 7 rfl
                      go_simp
                      with_reducible rfl
                    simp only [Act.put, List.setIfInBounds_toArray, List.set_cons_zero, List.set_cons_succ]
                    simp only [List.length_map] at CR
                    refine one_next (i := 9) (by kernel_rfl) rfl (fun K hK => ?_)
                    refine step_call (by rfl) (f := 46) (args := #[.agg #[.slice A ts.length c, .string st, .int .i64 ex, .slice (some ad2) rs.length c2], .agg #[.int .i64 ts.length, .int .i64 (leftsF rs).length, .int .i64 q, .int .i64 ex, .slice A10 (namesF ts rs).length c10, .slice A5 ts.length c5, .slice A6 ts.length c6, .slice A7 l7.length c7], .agg #[.string rl, .slice A1 rt.length c1, .string rp]]) (by go_simp) ?_
                    with_reducible refine Calls.mono ((CR _).out (show Below wr.heap.size wr _ from (by repeat (first | (with_reducible first | exact Below.refl _ _ | apply below_alloc | apply below_drew1) | exact Below.refl _ _)))) ?_
                    rintro e w5 ⟨A', c', rfl, hR5, hb5⟩
                    refine ⟨_, rfl, ?_⟩
                    have hb5w : Below wr.heap.size wr w5 := Below.trans (show Below wr.heap.size wr _ from (by repeat (first | (with_reducible first | exact Below.refl _ _ | apply below_alloc | apply below_drew1) | exact Below.refl _ _))) hb5
                    have H5 := Aside0.mk (And.intro (Kd.R_lower (base' := wr.heap.size) hR5 (Nat.le_refl _)) hb5w)
                    have HX5 := Aside0.mk (HBr.out.move hb5w HBr.out.lt)
                    have HW5 : Aside0 (Below w6.heap.size w6 w5) := ⟨HWr.out.1.trans (hb5w.mono HWr.out.1.size)⟩
                    clear hR5 hb5 hb5w hS0
                    refine hK.out _ _ (fun _ => ⟨HX5.out, HW5.out⟩) ?_
                    clear hK K
                    try simp only [Act.put, List.setIfInBounds_toArray, List.set_cons_zero, List.set_cons_succ]
                    refine one_next (i := 10) (by kernel_rfl) rfl (fun K hK => ?_)
                    go_simp
                    refine hK.out _ _ (fun _ => ⟨HX5.out.onto _, below_alloc HW5.out _⟩) ?_
                    clear hK K
                    try simp only [Act.put, List.setIfInBounds_toArray, List.set_cons_zero, List.set_cons_succ]
                    refine one_next (i := 11) (by kernel_rfl) rfl (fun K hK => ?_)
                    refine Kd.R_append_rows_step kSR (w0 := w6) w6.heap.size (by rfl) (.tmp 115) (.tmp 124) 30 81 (.agg #[.int .i64 0, .slice none 0 0, .int .i64 0, .int .i64 0]) 48 rfl Tryz.underlying30 infoSR rfl (by decide) (by omega) (.slice A7 l7.length c7) l7 [(⟨rf0, rf1, rf2, rf3⟩ : SR)] _ 1 1 (fun x => W20.heap.size ≤ x) (fun x => wr.heap.size ≤ x) (by rfl) (by rfl) (Kd.R_below (Kd.R_below HRr.out.r7 H5.out.2) (show Below w5.heap.size w5 _ from (by repeat (first | (with_reducible first | exact Below.refl _ _ | apply below_alloc | apply below_drew1) | exact Below.refl _ _)))) (one_rule (okp := fun x => wr.heap.size ≤ x) (kSR_mkM _ _ _ (⟨rf0, rf1, rf2, rf3⟩ : SR) (Kd.R_below (Kd.R_lower (Kd.R_mono (Kd.R_bound H5.out.1) (fun x hx => hx.2.1)) HWr.out.1.size) (show Below w5.heap.size w5 _ from (by repeat (first | (with_reducible first | exact Below.refl _ _ | apply below_alloc | apply below_drew1) | exact Below.refl _ _))))) (by first | exact lit_row _ _ _ | exact lit_row2 _ _ _)) (fun _ _ h => h) (fun x hx => ⟨Nat.le_trans hNR hx, fun he => by have := Kd.R_lt HRr.out.r7 x he.symm; omega⟩) (fun x hx => Nat.le_trans hNR (Nat.le_trans (H5.out.2.trans ((show Below w5.heap.size w5 _ from (by repeat (first | (with_reducible first | exact Below.refl _ _ | apply below_alloc | apply below_drew1) | exact Below.refl _ _))).mono H5.out.2.size)).size hx)) (HWr.out.1.trans ((H5.out.2.trans ((show Below w5.heap.size w5 _ from (by repeat (first | (with_reducible first | exact Below.refl _ _ | apply below_alloc | apply below_drew1) | exact Below.refl _ _))).mono H5.out.2.size)).mono HWr.out.1.size)) (Nat.le_trans HWr.out.1.size (H5.out.2.trans ((show Below w5.heap.size w5 _ from (by repeat (first | (with_reducible first | exact Below.refl _ _ | apply below_alloc | apply below_drew1) | exact Below.refl _ _))).mono H5.out.2.size)).size) (by omega) ?_
                    intro v1 w9 ho hb9 hg hat
                    obtain ⟨A9, c9, e9⟩ := Kd.R_slice ho
                    subst e9
                    have HX9 := Aside0.mk (Bx.grown (HX5.out.move (show Below w5.heap.size w5 _ from (by repeat (first | (with_reducible first | exact Below.refl _ _ | apply below_alloc | apply below_drew1) | exact Below.refl _ _))) HX5.out.lt) hg HRr.out.b7)
                    have HR9 := Aside0.mk (R4.put7 ((HRr.out.below H5.out.2).below (show Below w5.heap.size w5 _ from (by repeat (first | (with_reducible first | exact Below.refl _ _ | apply below_alloc | apply below_drew1) | exact Below.refl _ _)))) ho hg hat)
                    have HB9 := Aside0.mk (And.intro hb9 (Nat.le_trans (H5.out.2.trans ((show Below w5.heap.size w5 _ from (by repeat (first | (with_reducible first | exact Below.refl _ _ | apply below_alloc | apply below_drew1) | exact Below.refl _ _))).mono H5.out.2.size)).size hg.size))
                    have g1 := HX9.out.c 7 rfl
                    have g2 := HX9.out.fz 7
                    clear ho hb9 hg hat
                    refine hK.out _ _ (fun _ => ⟨HX9.out, HB9.out.1⟩) ?_
                    clear hK K
                    try simp only [Act.put, List.setIfInBounds_toArray, List.set_cons_zero, List.set_cons_succ]
                    refine one_next (i := 12) (by kernel_rfl) rfl (fun K hK => ?_)
                    go_simp
                    refine hK.out _ _ (fun _ => ⟨HX9.out, HB9.out.1⟩) ?_
                    clear hK K
                    try simp only [Act.put, List.setIfInBounds_toArray, List.set_cons_zero, List.set_cons_succ]
                    refine one_next (i := 13) (by kernel_rfl) rfl (fun K hK => ?_)
                    go_simp
                    refine hK.out _ _ (fun h => absurd rfl h) ?_
                    clear hK K
                    refine all_done (by kernel_rfl) ?_
                    try simp only [Act.put, List.setIfInBounds_toArray, List.set_cons_zero, List.set_cons_succ]
                    go_wp2_with fail
                    go_roundg (gk - 1)
                    case measure => have := HJ.out; have := HJL.out; omega
                    case rel =>
                      rw [show l7.length + 1 = (l7 ++ [(⟨rf0, rf1, rf2, rf3⟩ : SR)]).length by simp]
                      exact ⟨j + 1, _, by have := HJ.out; have := HJL.out; omega, by have h1 := HJL.out; first | rfl | (congr 1; unfold wrap64; omega), HX9.out.put 7 _, by rw [HTK.out]; exact HR9.out.far 7 _, HB9.out.1.setCell (p := ⟨B, 7, none⟩) HBL.out _, by rw [World.size_setCell]; have := HB9.out.2; omega⟩
                  · have t1 : decide ((j : Int) < (rs.length : Int)) = false := by simp; omega
                    have hrl : (⟨-1, [q], 0, 0⟩ :: (rs.take j).map (ruleF ts (namesF ts rs)) : List SR) = rulesF ts st rs := by rw [List.take_of_length_le (by omega), HQS.out.1]; rfl
                    rw [hrl] at HRr
                    obtain ⟨A7, c7, ev7⟩ := Kd.R_slice HRr.out.r7
                    obtain ⟨A5, c5, ev5⟩ := Kd.R_slice HRr.out.r5
                    obtain ⟨A6, c6, ev6⟩ := Kd.R_slice HRr.out.r6
                    subst ev5 ev6 ev7
                    obtain ⟨_, hcn4, hn4⟩ := Kd.R_reads' HRr.out.r4
                    obtain ⟨_, hcn5, hn5⟩ := Kd.R_reads' HRr.out.r5
                    obtain ⟨_, hcn6, hn6⟩ := Kd.R_reads' HRr.out.r6
                    obtain ⟨_, hcn7, hn7⟩ := Kd.R_reads' HRr.out.r7
                    have hok := rules_ok HNK.out
                    have hll := (long_no HG.out)
                    obtain ⟨sq, hsq⟩ : ∃ s : Nat, q = (s : Int) := ⟨q.toNat, by have := HQS.out.2; omega⟩
                    have hsq2 : sq < ts.length + 1 + (leftsF rs).length := by have := HQS.out.2; omega
                    obtain ⟨ry, hry, hyl⟩ := U.fix_some (n := ts.length + 1 + (leftsF rs).length) (passY (rulesF ts st rs).tail) (U.keptY hok) _ (y0 ts.length (leftsF rs).length) (by simp [y0]; omega) (Nat.le_refl _)
                    obtain ⟨rr, hrr, hrl2⟩ := U.fix_some (n := ts.length + 1 + (leftsF rs).length) (passR (rulesF ts st rs).tail) (U.keptR hok) _ (r0 ts.length (leftsF rs).length sq) (by simp [r0]) (Nat.le_refl _)
                    have CY : Aside0 (∀ w', Below wr.heap.size wr w' → Calls Tryz.prog 47 #[.agg #[.int .i64 ts.length, .int .i64 (leftsF rs).length, .int .i64 q, .int .i64 ex, .slice A10 (namesF ts rs).length c10, .slice A5 (ts.map STk.f1).length c5, .slice A6 (ts.map STk.f2).length c6, .slice A7 (rulesF ts st rs).length c7]] w' fun e w'' => ∃ g d, e = .returned (.slice (some ⟨g, 0, none⟩) (ts.length + 1 + (leftsF rs).length) d) ∧ U.RowB w'' w'.heap.size g (ts.length + 1 + (leftsF rs).length) d ry ∧ Below w'.heap.size w' w'') := ⟨fun w' hb => by rw [hsq]; exact ref_yields w' ts.length (leftsF rs).length sq ex A10 A5 A6 A7 _ c10 _ c5 _ c6 c7 (rulesF ts st rs) (Kd.C_below hn7 hb) hcn7 hok (by simp [rulesF]) (by omega) ry hry⟩
                    have CR : Aside0 (∀ w', Below wr.heap.size wr w' → Calls Tryz.prog 48 #[.agg #[.int .i64 ts.length, .int .i64 (leftsF rs).length, .int .i64 q, .int .i64 ex, .slice A10 (namesF ts rs).length c10, .slice A5 (ts.map STk.f1).length c5, .slice A6 (ts.map STk.f2).length c6, .slice A7 (rulesF ts st rs).length c7]] w' fun e w'' => ∃ g d, e = .returned (.slice (some ⟨g, 0, none⟩) (ts.length + 1 + (leftsF rs).length) d) ∧ U.RowB w'' w'.heap.size g (ts.length + 1 + (leftsF rs).length) d rr ∧ Below w'.heap.size w' w'') := ⟨fun w' hb => by rw [hsq]; exact ref_reached w' ts.length (leftsF rs).length sq ex A10 A5 A6 A7 _ c10 _ c5 _ c6 c7 (rulesF ts st rs) (Kd.C_below hn7 hb) hcn7 hok (by simp [rulesF]) (by omega) hsq2 rr hrr⟩
                    have HUSE : Aside0 (useful ts st rs ↔ ∀ i, ts.length + 1 ≤ i → i ≤ ts.length + (leftsF rs).length → ry.getD i false = true ∧ rr.getD i false = true) := ⟨by
                      have hsf : (startF ts st rs).toNat = sq := by rw [← HQS.out.1, hsq]; rfl
                      constructor
                      · rintro ⟨ry', rr', h1, h2, h3⟩
                        rw [hsf] at h2
                        rw [fix_one h1 hry, fix_one h2 hrr] at h3
                        exact h3
                      · intro h3
                        exact ⟨ry, rr, hry, by rw [hsf]; exact hrr, h3⟩⟩
                    have HSP : Aside0 (∀ W' w', Below wr.heap.size wr W' → (∀ k, w6.heap.size ≤ k → w'.heap[k]? = W'.heap[k]?) → SpecAt w' ts st ex rs (.agg #[.int .i64 ts.length, .int .i64 (leftsF rs).length, .int .i64 q, .int .i64 ex, .slice A10 (namesF ts rs).length c10, .slice A5 (ts.map STk.f1).length c5, .slice A6 (ts.map STk.f2).length c6, .slice A7 (rulesF ts st rs).length c7])) := ⟨fun W' w' hb hk => by
                      have r := HRr.out.below hb
                      obtain ⟨_, d4, n4⟩ := Kd.R_reads' (Kd.R_move (w1 := w') (Kd.R_bound r.r4) (fun k h => hk k h.2.1))
                      obtain ⟨_, d5, n5⟩ := Kd.R_reads' (Kd.R_move (w1 := w') (Kd.R_bound r.r5) (fun k h => hk k h.2.1))
                      obtain ⟨_, d6, n6⟩ := Kd.R_reads' (Kd.R_move (w1 := w') (Kd.R_bound r.r6) (fun k h => hk k h.2.1))
                      obtain ⟨_, d7, n7⟩ := Kd.R_reads' (Kd.R_move (w1 := w') (Kd.R_bound r.r7) (fun k h => hk k h.2.1))
                      rw [List.length_map] at d5 d6 n5 n6
                      exact ⟨A10, A5, A6, A7, c10, c5, c6, c7, by rw [List.length_map, List.length_map, HQS.out.1], n4, d4, n5, d5, n6, d6, n7, d7⟩⟩
                    obtain ⟨m, hm⟩ : ∃ m, m = ts.length + 1 + (leftsF rs).length := ⟨_, rfl⟩
                    rw [← hm] at CY CR hyl hrl2
                    have HMM := Aside0.mk (And.intro hm (And.intro hyl hrl2))
                    have HLIM : Aside0 (ts.length ≤ 12 ∧ (leftsF rs).length ≤ 10) := ⟨hll.2.1, hll.2.2.2⟩
                    clear hm hyl hrl2 hry hrr hok hll hsq hsq2 hn4 hn5 hn6 hn7 hcn4 hcn5 hcn6 hcn7 hrl x3
                    obtain ⟨W25, rfl⟩ : ∃ x, x = wr := ⟨_, rfl⟩
                    have b0 := HBr.out.c 0 rfl
                    have b1 := HBr.out.c 1 rfl
                    have b2 := HBr.out.c 2 rfl
                    have b3 := HBr.out.c 3 rfl
                    have b4 := HBr.out.c 4 rfl
                    have b5 := HBr.out.c 5 rfl
                    have b6 := HBr.out.c 6 rfl
                    have b7 := HBr.out.c 7 rfl
                    have x3 := HXr.out.c 3 rfl
                    simp only [List.length_map] at CY CR
                    go_upto_region 25 with fail
                    go_cut [9, 10] (fun v9 v10 wx => TwoRows W25 m ry rr v9 v10 wx)
                    case first =>
                      have hdB : ∀ w', Below W25.heap.size W25 w' → Bx w' B #[.int .i64 ts.length, .int .i64 (leftsF rs).length, .int .i64 q, .int .i64 ex, .slice A10 (namesF ts rs).length c10, .slice A5 (ts.map STk.f1).length c5, .slice A6 (ts.map STk.f2).length c6, .slice A7 (rulesF ts st rs).length c7] 32 := fun w' hb => HBr.out.move hb HBr.out.lt
                      have HDB := Aside0.mk hdB
                      clear hdB
                      go_region_with (first
                        | (go_at_call 47; (with_reducible refine Calls.mono (CY.out _ (below_drew1 (Below.refl _ _))) ?_); rintro e w5' ⟨g, d, rfl, hr5, hb5⟩; have hh : Below W25.heap.size W25 w5' := (below_drew1 (Below.refl _ _)).trans hb5; have H5 := Aside0.mk (And.intro hr5 hh); have z0 := (HDB.out _ hh).c 0 rfl; have z1 := (HDB.out _ hh).c 1 rfl; have z2 := (HDB.out _ hh).c 2 rfl; have z3 := (HDB.out _ hh).c 3 rfl; have z4 := (HDB.out _ hh).c 4 rfl; have z5 := (HDB.out _ hh).c 5 rfl; have z6 := (HDB.out _ hh).c 6 rfl; have z7 := (HDB.out _ hh).c 7 rfl; clear hr5 hb5 hh)
                        | (go_at_call 48; (with_reducible refine Calls.mono (CR.out _ H5.out.2) ?_); rintro e w6' ⟨g', d', rfl, hr6, hb6⟩; have H6' := Aside0.mk (And.intro hr6 hb6); clear hr6 hb6))
                      all_goals (go_wp2_with fail; go_meet; exact ⟨g, d, g', d', rfl, rfl, Kd.R_lower (H5.out.1.below H6'.out.2) (below_drew1 (Below.refl W25.heap.size W25)).size, Kd.R_lower H6'.out.1 H5.out.2.size, H5.out.2.trans (H6'.out.2.mono H5.out.2.size)⟩)
                    case rest =>
                      obtain ⟨g, d, g', d', rfl, rfl, hr1, hr2, hb⟩ := hcut
                      obtain ⟨W26, rfl⟩ : ∃ x, x = wc := ⟨_, rfl⟩
                      have H26 := Aside0.mk (And.intro hr1 (And.intro hr2 hb))
                      have HB26 := Aside0.mk (HBr.out.move hb HBr.out.lt)
                      have HV26 := Aside0.mk (HX6.out.2.move (HWr.out.1.trans (hb.mono HWr.out.1.size)) HX6.out.2.lt)
                      have H06 : Aside0 (Below w.heap.size w W26) := ⟨H6.out.trans ((HWr.out.1.trans (hb.mono HWr.out.1.size)).mono H6.out.size)⟩
                      clear hr1 hr2 hb b0 b1 b2 b3 b4 b5 b6 b7 x3 CY CR
                      have b0 := HB26.out.c 0 rfl
                      have b1 := HB26.out.c 1 rfl
                      obtain ⟨t, ht⟩ : ∃ t, t = ts.length := ⟨_, rfl⟩
                      obtain ⟨n, hn⟩ : ∃ n, n = (leftsF rs).length := ⟨_, rfl⟩
                      have HTN := Aside0.mk (And.intro ht hn)
                      rw [← ht] at b0
                      rw [← hn] at b1
                      have ht12 : t ≤ 12 := by have := HLIM.out; omega
                      have hn10 : n ≤ 10 := by have := HLIM.out; omega
                      have hmt : m = t + 1 + n := by have := HMM.out.1; omega
                      have HMT := Aside0.mk hmt
                      have hw1 : IntKind.i64.wrap ((t : Int) + 1) = ((t + 1 : Nat) : Int) := by rw [IntKind.wrap_i64]; omega
                      have hw2 : IntKind.i64.wrap ((t : Int) + (n : Int)) = ((t + n : Nat) : Int) := by rw [IntKind.wrap_i64]; omega
                      clear ht hn hmt
                      go_wp2_with fail
                      go_loopg [11] n (fun kq v11 w' => ChRel W26 t n ry rr kq v11 w')
                      case atStart => exact ⟨0, by omega, by simp, rfl, fun k h1 h2 => absurd h1 (by omega)⟩
                      case round =>
                        obtain ⟨k, hk, rfl, rfl, hall⟩ := hrel
                        have HK := Aside0.mk (And.intro hk hall)
                        clear hk hall
                        by_cases hkn : k < n
                        · have t1 : decide ((((t + 1 + k : Nat) : Int)) ≤ ((t + n : Nat) : Int)) = true := by simp; omega
                          obtain ⟨p, hp⟩ : ∃ p, p = t + 1 + k := ⟨_, rfl⟩
                          obtain ⟨tn, htn⟩ : ∃ p, p = t + n := ⟨_, rfl⟩
                          have hpm : p < m := by have := HMT.out; omega
                          have hpm2 : (p : Int) < (m : Int) := by omega
                          have hly : p < ry.length := by rw [HMM.out.2.1]; exact hpm
                          have hlr : p < rr.length := by rw [HMM.out.2.2]; exact hpm
                          obtain ⟨p1, p2⟩ := H26.out.1.at_ p hly
                          obtain ⟨p3, p4⟩ := H26.out.2.1.at_ p hlr
                          have HGY : Aside0 (ry.getD p false = ry[p]) := ⟨by simp [List.getD, hly]⟩
                          have HGR : Aside0 (rr.getD p false = rr[p]) := ⟨by simp [List.getD, hlr]⟩
                          generalize ry[p] = by_ at *
                          generalize rr[p] = br_ at *
                          have HP := Aside0.mk (And.intro hp (And.intro hkn htn))
                          have hpt : p ≤ tn := by omega
                          rw [← hp] at t1
                          rw [← htn] at t1 hw2
                          rw [← hp]
                          clear hp htn hly hlr hkn p2 p4
                          by_cases hgood : by_ = true ∧ br_ = true
                          · obtain ⟨rfl, rfl⟩ := hgood
                            go_wp2_with fail
                            go_roundg (gk - 1)
                            case measure => have := HK.out.1; have := HP.out.2.1; omega
                            case rel =>
                              refine ⟨k + 1, by have := HK.out.1; have := HP.out.2.1; omega, by have h1 := HP.out.1; have h2 := HP.out.2.1; congr 1; first | omega | (unfold wrap64; omega), rfl, fun z h1 h2 => ?_⟩
                              by_cases hz : z < t + 1 + k
                              · exact HK.out.2 z h1 hz
                              · obtain rfl : z = p := by have := HP.out.1; omega
                                exact ⟨HGY.out, HGR.out⟩
                          · have HNU : Aside0 (¬ useful ts st rs) := ⟨fun hu => hgood (by
                              have h1 := HUSE.out.1 hu p (by have := HP.out.1; have := HTN.out.1; omega) (by have := HP.out.1; have := HP.out.2.1; have := HTN.out; omega)
                              rw [HGY.out, HGR.out] at h1
                              exact h1)⟩
                            have g0 := HV26.out.c 0 rfl
                            have g1 := HV26.out.c 1 rfl
                            have g2 := HV26.out.c 2 rfl
                            have g3 := HV26.out.c 3 rfl
                            have g4 := HV26.out.c 4 rfl
                            have g5 := HV26.out.c 5 rfl
                            have g6 := HV26.out.c 6 rfl
                            have g7 := HV26.out.c 7 rfl
                            have gf := fun k => HV26.out.fz k
                            cases by_ with
                            | false =>
                              go_wp2_with fail
                              refine bodyPost_ret (results_cell_tmp rfl _ _ V 32 #[.int .i64 0, .int .i64 0, .int .i64 0, .int .i64 0, .slice none 0 0, .slice none 0 0, .slice none 0 0, .slice none 0 0] _ (.int .i64 8) rfl rfl (put8_bx HV26.out).heap Tryz.underlying32 rfl (by kernel_rfl)) rfl ?_
                              exact ⟨zeroSp, 8, rfl, .inr (.inr (.inr (.inl ⟨HM.out, HG.out, HNK.out, HNU.out, rfl⟩))), fun _ => rfl, fun h => absurd h (by decide), put8_below H06.out HV.out.1⟩
                            | true =>
                              cases br_ with
                              | true => exact absurd ⟨rfl, rfl⟩ hgood
                              | false =>
                                go_wp2_with fail
                                refine bodyPost_ret (results_cell_tmp rfl _ _ V 32 #[.int .i64 0, .int .i64 0, .int .i64 0, .int .i64 0, .slice none 0 0, .slice none 0 0, .slice none 0 0, .slice none 0 0] _ (.int .i64 8) rfl rfl (put8_bx HV26.out).heap Tryz.underlying32 rfl (by kernel_rfl)) rfl ?_
                                exact ⟨zeroSp, 8, rfl, .inr (.inr (.inr (.inl ⟨HM.out, HG.out, HNK.out, HNU.out, rfl⟩))), fun _ => rfl, fun h => absurd h (by decide), put8_below H06.out HV.out.1⟩
                        · obtain ⟨p, hp⟩ : ∃ p, p = t + 1 + k := ⟨_, rfl⟩
                          obtain ⟨tn, htn⟩ : ∃ p, p = t + n := ⟨_, rfl⟩
                          have hpt : ¬ p ≤ tn := by omega
                          have t1 : decide ((p : Int) ≤ (tn : Int)) = false := by simp; omega
                          have HU : Aside0 (useful ts st rs) := ⟨HUSE.out.2 (fun z h1 h2 => HK.out.2 z (by have := HTN.out; omega) (by have := HTN.out; omega))⟩
                          have g0 := HV26.out.c 0 rfl
                          have g1 := HV26.out.c 1 rfl
                          have g2 := HV26.out.c 2 rfl
                          have g3 := HV26.out.c 3 rfl
                          have g4 := HV26.out.c 4 rfl
                          have g5 := HV26.out.c 5 rfl
                          have g6 := HV26.out.c 6 rfl
                          have g7 := HV26.out.c 7 rfl
                          have gf := fun k => HV26.out.fz k
                          have b0' := HB26.out.c 0 rfl
                          have b1' := HB26.out.c 1 rfl
                          have b2 := HB26.out.c 2 rfl
                          have b3 := HB26.out.c 3 rfl
                          have b4 := HB26.out.c 4 rfl
                          have b5 := HB26.out.c 5 rfl
                          have b6 := HB26.out.c 6 rfl
                          have b7 := HB26.out.c 7 rfl
                          rw [← HTN.out.1] at b0'
                          rw [← HTN.out.2] at b1'
                          rw [← htn] at hw2
                          rw [← hp]
                          clear hp htn b0' b1' hkn
                          go_wp2_with fail
                          rw [List.length_map, List.length_map, ← HTN.out.1, ← HTN.out.2] at HSP
                          refine bodyPost_ret (results_cell_tmp rfl _ _ V 32 #[.int .i64 t, .int .i64 n, .int .i64 q, .int .i64 ex, .slice A10 (namesF ts rs).length c10, .slice A5 ts.length c5, .slice A6 ts.length c6, .slice A7 (rulesF ts st rs).length c7] _ (.int .i64 0) rfl rfl (put8_bx HV26.out).heap Tryz.underlying32 rfl (by kernel_rfl)) rfl ?_
                          rw [← HTN.out.1] 
                          exact ⟨_, 0, rfl, .inr (.inr (.inr (.inr ⟨HM.out, HG.out, HNK.out, HU.out, rfl⟩))), fun h => absurd rfl h, fun _ => HSP.out _ _ H26.out.2.2 (fun k hk => put8_far (by have := HX6.out.2.lt; omega)), put8_below H06.out HV.out.1⟩
      · have CN5 : Aside0 (Calls Tryz.prog 43 #[.agg #[.slice A ts.length c, .string st, .int .i64 ex, .slice A2 rs.length c2]] w4 fun e w' => e = .returned (.bool false) ∧ Below w4.heap.size w4 w') := ⟨CN4.mono (fun e w' ⟨b, he, hb, hw⟩ => ⟨by rw [he]; cases b with | true => exact absurd (hb.1 rfl) hnk | false => rfl, hw⟩)⟩
        have HNK := Aside0.mk hnk
        clear CN4 CN hnk
        go_wp2_with (first
          | (go_at_call 43; (with_reducible refine Calls.mono CN5.out ?_); rintro e w5 ⟨rfl, hb3⟩; have H5 := Aside0.mk (H4.out.trans (hb3.mono H4.out.size)); have HV3 := Aside0.mk (HX4.out.2.move hb3 HX4.out.2.lt); clear hb3; have g0 := HV3.out.c 0 rfl; have g1 := HV3.out.c 1 rfl; have g2 := HV3.out.c 2 rfl; have g3 := HV3.out.c 3 rfl; have g4 := HV3.out.c 4 rfl; have g5 := HV3.out.c 5 rfl; have g6 := HV3.out.c 6 rfl; have g7 := HV3.out.c 7 rfl; have gf := fun k => HV3.out.fz k))
        refine bodyPost_ret (results_cell_tmp rfl _ _ V 32 #[.int .i64 0, .int .i64 0, .int .i64 0, .int .i64 0, .slice none 0 0, .slice none 0 0, .slice none 0 0, .slice none 0 0] _ (.int .i64 7) rfl rfl (put8_bx HV3.out).heap Tryz.underlying32 rfl (by kernel_rfl)) rfl ?_
        exact ⟨zeroSp, 7, rfl, .inr (.inr (.inl ⟨HM.out, HG.out, HNK.out, rfl⟩)), fun _ => rfl, fun h => absurd h (by decide), put8_below H5.out HV.out.1⟩
end Go.Proofs.YtjhemobplcelbaaGreatDoor.O
