/- oset: donatuslaw3.SetAll answers true, down = true. -/
import Derived.Test.YtldgofblflmcbaaSetQ
import Derived.Test.YtldgofblflmcbaaWQPut
import Derived.Deep.RegionHeld3
import Derived.Deep.RegionLaw
import Derived.Deep.CutBlock
import Derived.Deep.DeepCutAuto
import Derived.Outline
namespace Go.Proofs.Ytldgofblflmcbaa.S.I10
open Go.RowKit Go.Proofs.YtldgofblflmcbaaW.PrintWords Go.Proofs.YtldgofblflmcbaaW.PrintLast Go.Proofs.YtldgofblflmcbaaW.PrintMore
set_option linter.unusedVariables false
set_option linter.unusedSimpArgs false
abbrev St1 (w0 w : World) (g : Nat) (v : Value) (l : List Int) : Prop := OneV w0 w g l v l
theorem quiet_of0 {f : FuncId} {args : Array Value} {w : World} {n : Nat} {v : Value} (h : Calls Try.prog f args (w.drewN n) fun e w' => e = .returned v ∧ Drawn0 (w.drewN n) w') :
    Calls Try.prog f args (w.drewN n) fun e w'' => e = .returned v ∧ ∃ m, w'' = w.drewN m := Calls.quiet_of (h.mono fun _ _ k => ⟨k.1, k.2.out⟩)
theorem wrap64_eq (x : Int) : wrap64 x = IntKind.i64.wrap x := by unfold wrap64; rw [IntKind.wrap_i64]
theorem OneV.inn {w0 w : World} {g : Nat} {xs l : List Int} {v : Value} (h : OneV w0 w g xs v l) (x : Int) (hn : l.length ≤ 1000000) :
    Calls Try.prog 14 #[v, .int .i64 x, .bool true] w fun e w' => ∃ v', e = .returned v' ∧ OneV w0 w' g xs v' (S.add cB x l) ∧ Below w.heap.size w w' := by
  obtain ⟨F, G, hs, hf, hv, hd, hg⟩ := h.st
  refine (in_calls l x true hn v w G hv).mono fun e w' ⟨v', he, hv', hb⟩ => ⟨v', he, ⟨⟨F, fun k => (G k ∨ w.heap.size ≤ k) ∧ k < w'.heap.size, hs.below hb, hf, Kd.V_bound hv', fun k hk hG => ?_, fun k hk => hk.2⟩, h.up, h.below.trans (hb.mono h.below.size), h.len⟩, hb⟩
  rcases hG.1 with h1 | h1
  · exact hd k hk h1
  · have := hs.lt k hk
    omega
/-- The list is a row that has been made since. -/
theorem OneV.made {w0 w w' : World} {g : Nat} {xs l m : List Int} {v u : Value} (h : OneV w0 w g xs v l) (hr : Row (Kd.int .i64) 3 w' w.heap.size u m) (hb : Below w.heap.size w w') : OneV w0 w' g xs u m := h.listed hr hb
theorem lit2 (W : World) (a b : Int) : Kd.C (Kd.int .i64) (W.alloc (.cells #[.int .i64 a, .int .i64 b] 3)) (some ⟨W.heap.size, 0, none⟩) 2 [a, b] := by
  refine ⟨rfl, by decide, fun _ => ⟨_, rfl, fun j p hj => ⟨[.int .i64 p], rfl, rfl, fun i u hu => ?_⟩⟩⟩
  have hi : i = 0 := by
    have := (List.getElem?_eq_some_iff.1 hu).1
    simp at this
    omega
  subst hi
  obtain rfl : Value.int .i64 p = u := by simpa using hu
  have hj4 := (List.getElem?_eq_some_iff.1 hj).1
  simp only [List.length_cons, List.length_nil] at hj4
  rcases (show j = 0 ∨ j = 1 by omega) with rfl | rfl <;> (obtain rfl : _ = p := by simpa using hj) <;> simp [go_sem, Addr.add, Kd.int, Kd.scalar]
theorem adds_two {l : List Int} (hu : Up cB l) (a b : Int) : adds l (adds [] [a, b]) = S.add cB b (S.add cB a l) := by
  have h1 : Up cB ([] : List Int) := List.Pairwise.nil
  refine up_ext (down := true) (adds_up hu _) ((hu.add cmpB a).add cmpB b) (fun x => ?_)
  rw [mem_addsB hu, mem_addsB h1, show (x ∈ S.add cB b (S.add cB a l)) ↔ _ from mem_addD (down := true) (hu.add cmpB a), show (x ∈ S.add cB a l) ↔ _ from mem_addD (down := true) hu]
  simp only [List.not_mem_nil, false_or, List.mem_cons, or_false]
  constructor
  · rintro (h | h | h)
    · exact .inr (.inr h)
    · exact .inr (.inl h)
    · exact .inl h
  · rintro (h | h | h)
    · exact .inr (.inr h)
    · exact .inr (.inl h)
    · exact .inl h
theorem cutl {w : World} {A : Option Addr} {c k : Nat} {l : List Int} (h : Kd.C (Kd.int .i64) w A l.length l) (hc : l.length ≤ c) (hk : k ≤ l.length) :
    ∃ A1, (∀ W, (Instr.slice 27 (.slice A l.length c) (some (.int .i64 (k : Int))) none none).run Try.prog W = .ok (.slice A1 (l.length - k) (c - k)) W) ∧ ∀ w', (Kd.C (Kd.int .i64) w' A l.length l) → Kd.C (Kd.int .i64) w' A1 (l.length - k) (l.drop k) := by
  obtain ⟨i0, hi, _, hsz, _⟩ := info_parts info_int
  have hc2 := cut_from (P := Try.prog) 27 3 .i64 Try.underlying27 hi 1 hsz A l.length c (k : Int) (by omega) (by omega)
  rw [Int.toNat_natCast] at hc2
  refine ⟨_, hc2, fun w' h' => ?_⟩
  have := Kd.C_drop (m := k) h' hk hc
  rw [List.length_drop] at this
  exact this
/-- As OneV; the block X is apart from the set. -/
structure OneX (w0 w : World) (g : Nat) (xs : List Int) (v : Value) (l : List Int) (X : Nat) : Prop where
  st : ∃ F G, St w g F xs ∧ (∀ k, F k → w0.heap.size ≤ k) ∧ VI w G v l ∧ (∀ k, F k → ¬ G k) ∧ (∀ k, G k → k < w.heap.size) ∧ G X
  up : Up cB xs
  below : Below w0.heap.size w0 w
  len : xs.length ≤ 100000
section
variable {w0 w w' : World} {g X : Nat} {xs ys l m : List Int} {v u : Value} {b : Bool}
theorem OneX.toV (h : OneX w0 w g xs v l X) : OneV w0 w g xs v l := by
  obtain ⟨F, G, hs, hf, hv, hd, hg, _⟩ := h.st
  exact ⟨⟨F, G, hs, hf, hv, hd, hg⟩, h.up, h.below, h.len⟩
theorem OneX.lt (h : OneX w0 w g xs v l X) : X < w.heap.size := by
  obtain ⟨F, G, hs, hf, hv, hd, hg, hX⟩ := h.st
  exact hg X hX
theorem OneX.of_box (h : OneV w0 w g xs v l) (o : Obj) : OneX w0 (w.alloc o) g xs v l w.heap.size := by
  obtain ⟨F, G, hs, hf, hv, hd, hg⟩ := h.st
  refine ⟨⟨F, fun k => G k ∨ k = w.heap.size, hs.below (below_alloc (Below.refl _ _) o), hf, Kd.V_mono (Kd.V_alloc hv o) (fun k hk => .inl hk), fun k hk hG => ?_, fun k hk => ?_, .inr rfl⟩, h.up, below_alloc h.below o, h.len⟩
  · rcases hG with h1 | h1
    · exact hd k hk h1
    · have := hs.lt k hk; omega
  · rw [World.size_alloc]
    rcases hk with h1 | h1
    · have := hg k h1; omega
    · omega
theorem OneX.move (h : OneX w0 w g xs v l X) (hb : Below w.heap.size w w') : OneX w0 w' g xs v l X := by
  obtain ⟨F, G, hs, hf, hv, hd, hg, hX⟩ := h.st
  exact ⟨⟨F, G, hs.below hb, hf, Kd.V_below hv hb, hd, fun k hk => Nat.lt_of_lt_of_le (hg k hk) hb.size, hX⟩, h.up, h.below.trans (hb.mono h.below.size), h.len⟩
theorem OneX.turned {F G : Nat → Prop} {e : Ending} {r : Value} (h : OneX w0 w g xs v l X) (hs : St w g F xs) (hf : ∀ k, F k → w0.heap.size ≤ k) (hv : VI w G v l) (hd : ∀ k, F k → ¬ G k) (hg : ∀ k, G k → k < w.heap.size) (hX : G X)
    (hu : Up cB ys) (hl : ys.length ≤ 100000) (ha : Aft w g F ys r e w') : e = .returned r ∧ OneX w0 w' g ys v l X ∧ w'.heap[X]? = w.heap[X]? := by
  obtain ⟨he, F', hs', hm, hF⟩ := ha
  have hz := h.below.size
  refine ⟨he, ⟨⟨F', G, hs', fun k hk => ?_, Kd.V_step hv (fun k hk hlt => hm.block k hlt (fun h2 => hd k h2 hk)), fun k hk hG => ?_, fun k hk => Nat.lt_of_lt_of_le (hg k hk) hm.size, hX⟩, hu, h.below.trans (hm.below hz hf), hl⟩, hm.block X (hg X hX) (fun h2 => hd X h2 hX)⟩
  · rcases hF k hk with hk | hk
    · exact hf k hk
    · omega
  · rcases hF k hk with hk | hk
    · exact hd k hk hG
    · have := hg k hG
      omega
theorem cell_heap {w w' : World} {X o : Nat} {u : Value} (h : w'.heap[X]? = w.heap[X]?) (hu : w.cell? ⟨X, o, none⟩ = some u) : w'.cell? ⟨X, o, none⟩ = some u := (World.cell?_of_block (a := ⟨X, o, none⟩) h).trans hu
theorem OneX.add (h : OneX w0 w g xs v l X) (x : Int) (hy : S.add cB x xs = ys) (hb : hit cB x xs = b) (hl : ys.length ≤ 100000) :
    Calls Try.prog 13 #[.pointer (some ⟨g, 0, none⟩), .int .i64 x] w fun e w' => e = .returned (.bool (!b)) ∧ OneX w0 w' g ys v l X ∧ w'.heap[X]? = w.heap[X]? := by
  obtain ⟨F, G, hs, hf, hv, hd, hg, hX⟩ := h.st
  refine (add_calls hs h.up (by have := h.len; omega) x).mono fun e w' ha => ?_
  rw [hy, hb] at ha
  exact h.turned hs hf hv hd hg hX (by rw [← hy]; exact h.up.add cmpB x) hl ha
theorem OneX.del (h : OneX w0 w g xs v l X) (x : Int) (hy : S.del cB x xs = ys) (hb : hit cB x xs = b) :
    Calls Try.prog 15 #[.pointer (some ⟨g, 0, none⟩), .int .i64 x] w fun e w' => e = .returned (.bool b) ∧ OneX w0 w' g ys v l X ∧ w'.heap[X]? = w.heap[X]? := by
  obtain ⟨F, G, hs, hf, hv, hd, hg, hX⟩ := h.st
  refine (del_calls hs h.up (by have := h.len; omega) x).mono fun e w' ha => ?_
  have hl := del_len cB x xs
  rw [hy] at hl
  rw [hy, hb] at ha
  exact h.turned hs hf hv hd hg hX (by rw [← hy]; exact h.up.del x) (by have := h.len; omega) ha
theorem OneX.union {g2 : Nat} {F2 : Nat → Prop} {zs : List Int} (h : OneX w0 w g xs v l X) (h2 : St w g2 F2 ys) (hm : ys.length ≤ 100000) (hz : adds xs ys = zs) (hb : decide (xs.length < zs.length) = b) (hl : zs.length ≤ 100000) :
    Calls Try.prog 16 #[.pointer (some ⟨g, 0, none⟩), .pointer (some ⟨g2, 0, none⟩)] w fun e w' => e = .returned (.bool b) ∧ OneX w0 w' g zs v l X ∧ w'.heap[X]? = w.heap[X]? := by
  obtain ⟨F, G, hs, hf, hv, hd, hg, hX⟩ := h.st
  refine (union_calls hs h.up (by have := h.len; omega) (by omega) _ (list_calls h2 (by omega))).mono fun e w' ha => ?_
  rw [hz, hb] at ha
  exact h.turned hs hf hv hd hg hX (by rw [← hz]; exact adds_up h.up _) hl ha
theorem OneX.inn (h : OneX w0 w g xs v l X) (x : Int) (hn : l.length ≤ 1000000) :
    Calls Try.prog 14 #[v, .int .i64 x, .bool true] w fun e w' => ∃ v', e = .returned v' ∧ OneX w0 w' g xs v' (S.add cB x l) X ∧ Below w.heap.size w w' := by
  obtain ⟨F, G, hs, hf, hv, hd, hg, hX⟩ := h.st
  refine (in_calls l x true hn v w G hv).mono fun e w' ⟨v', he, hv', hb⟩ => ⟨v', he, ⟨⟨F, fun k => (G k ∨ w.heap.size ≤ k) ∧ k < w'.heap.size, hs.below hb, hf, Kd.V_bound hv', fun k hk hG => ?_, fun k hk => hk.2, ⟨.inl hX, Nat.lt_of_lt_of_le (hg X hX) hb.size⟩⟩, h.up, h.below.trans (hb.mono h.below.size), h.len⟩, hb⟩
  rcases hG.1 with h1 | h1
  · exact hd k hk h1
  · have := hs.lt k hk
    omega
theorem OneX.of {A : Option Addr} {cp : Nat} {zs : List Int} (h : OneX w0 w g xs v l X) (hr : Kd.C (Kd.int .i64) w A zs.length zs) (hl : zs.length ≤ 100000) :
    Calls Try.prog 17 #[.func (.func 10) #[] #[], .slice A zs.length cp] w fun e w' => ∃ g2 F2, e = .returned (.pointer (some ⟨g2, 0, none⟩)) ∧ St w' g2 F2 (adds [] zs) ∧ OneX w0 w' g xs v l X ∧ Below w.heap.size w w' :=
  (of_calls w A cp zs (by omega) hr).mono fun e w' ⟨g2, F2, he, hs, hb, hf⟩ => ⟨g2, F2, he, hs, h.move hb, hb⟩
/-- The list is a row made since. -/
theorem OneX.made (h : OneX w0 w g xs v l X) (hr : Row (Kd.int .i64) 3 w' w.heap.size u m) (hb : Below w.heap.size w w') : OneX w0 w' g xs u m X := by
  obtain ⟨F, G, hs, hf, hv, hd, hg, hX⟩ := h.st
  refine ⟨⟨F, fun k => (G k ∨ w.heap.size ≤ k) ∧ k < w'.heap.size, hs.below hb, hf, Kd.V_mono (VI.of_row hr) (fun k hk => ⟨.inr (hr.lt k hk).1, (hr.lt k hk).2⟩), fun k hk hG => ?_, fun k hk => hk.2, ⟨.inl hX, Nat.lt_of_lt_of_le (hg X hX) hb.size⟩⟩, h.up, h.below.trans (hb.mono h.below.size), h.len⟩
  rcases hG.1 with h1 | h1
  · exact hd k hk h1
  · have := hs.lt k hk
    omega
end
def BMid (w : World) (g X : Nat) (n : Nat) (f1 : Int) (v10 : Value) (w' : World) : Prop :=
  ∃ l : List Int, l.length ≤ n ∧ OneX w w' g l v10 l X ∧ w'.cell? ⟨X, 1, none⟩ = some (.int .i64 f1)
def M2 (w : World) (l : List Int) (v : Value) (kq : Nat) (v19 : Value) (w' : World) : Prop :=
  ∃ i : Nat, i + kq = l.length ∧ v19 = .int .i64 (i : Int) ∧ Below w.heap.size w w' ∧ Kd.Q (Kd.int .i64) 3 w' w.heap.size (own v) v (List.replicate i (-1) ++ l.drop i)
def M3 (w : World) (n : Nat) (kq : Nat) (v21 : Value) (w' : World) : Prop := ∃ i : Nat, i + kq = n ∧ v21 = .int .i64 (i : Int) ∧ Below w.heap.size w w'
def ARel (w : World) (g : Nat) (n : Nat) (kq : Nat) (v10 v11 : Value) (w' : World) : Prop :=
  ∃ i : Nat, ∃ l : List Int, i + kq = n ∧ v11 = .int .i64 (i : Int) ∧ l.length ≤ 2 * i ∧ St1 w w' g v10 l
def AMid (w : World) (g : Nat) (n : Nat) (v10 : Value) (w' : World) : Prop :=
  ∃ l : List Int, l.length ≤ n ∧ St1 w w' g v10 l
set_option maxHeartbeats 16000000 in
set_option maxRecDepth 100000 in
theorem All_calls (w : World) (A0 : Option Addr) (c0 : Nat) (xs : List S29) (hr0 : Kd.C k29 w A0 xs.length xs) (le0 : xs.length ≤ c0) (hxl : xs.length ≤ 17592186044416) (ask : Int) (ok2 : (Lit.int .i64 ask).wf = true) :
    Calls Try.prog 3 #[.slice A0 xs.length c0, .bool true, .int .i64 ask] w fun e w' => e = .returned (.bool true) ∧ Below w.heap.size w w' := by
  have HR0 := Aside0.mk hr0
  clear hr0 ok2
  go_enter Try.func3, Try.ntmps3
  go_wp2_with fail
  go_at_call 8
  refine (begun_calls _).mono ?_
  rintro e w1 ⟨rfl, hb⟩
  have HB := Aside0.mk hb
  clear hb
  go_wp2_with fail
  go_at_call 11
  refine (new_calls _).mono ?_
  rintro e w2 ⟨g, F, rfl, hs, hb, hf⟩
  have hz := HB.out.size
  have HT : Aside0 (St1 w w2 g (.slice none 0 0) []) := ⟨OneV.start (HB.out.trans (hb.mono hz)) hs (fun k hk => Nat.le_trans hz (hf k hk))⟩
  clear hs hb hf hz HB
  go_upto_block 0 with fail
  go_cut [10] (fun v10 wx => AMid w g 120 v10 wx)
  case first =>
    go_wp2_with fail
    go_loopg [10, 11] (min xs.length 60) (fun kq v10 v11 w' => ARel w g (min xs.length 60) kq v10 v11 w')
    case atStart => exact ⟨0, [], by omega, rfl, by simp, HT.out⟩
    case round =>
      obtain ⟨i, l, hi, rfl, hl, hT⟩ := hrel
      clear HT
      have hi60 : i ≤ 60 := by omega
      obtain ⟨A, c, rfl, hlc⟩ := hT.slice
      have HI := Aside0.mk hi
      have HT := Aside0.mk hT
      clear hi hT
      by_cases hlt : i < xs.length ∧ i < 60
      · obtain ⟨hlt1, hlt2⟩ := hlt
        have t1 : decide ((i : Int) < (xs.length : Int)) = true := by simp; omega
        have t2 : decide ((i : Int) < 60) = true := by simp; omega
        obtain ⟨ad, o, e1, x0, x1⟩ := at_op (Kd.C_below HR0.out HT.out.below) i hlt1
        subst e1
        obtain ⟨f0, f1⟩ := o
        dsimp only at x0 x1
        have hT1 := OneX.of_box HT.out (.cells #[.int .i64 f0, .int .i64 f1] 29)
        have y0 : (wr.alloc (.cells #[.int .i64 f0, .int .i64 f1] 29)).cell? ⟨wr.heap.size, 0, none⟩ = some (.int .i64 f0) := by simp [go_sem]
        have y1 : (wr.alloc (.cells #[.int .i64 f0, .int .i64 f1] 29)).cell? ⟨wr.heap.size, 1, none⟩ = some (.int .i64 f1) := by simp [go_sem]
        have HT1 := Aside0.mk hT1
        have Y0 := Aside0.mk y0
        have Y1 := Aside0.mk y1
        clear hT1 y0 y1
        go_wp2_with fail
        clear x0 x1 HT
        generalize wr.alloc (.cells #[.int .i64 f0, .int .i64 f1] 29) = W1 at *
        generalize wr.heap.size = X at *
        go_at_call 12
        refine (place_calls l f1 true (by omega) A c W1 HT1.out.toV.reads.2.2 hlc).mono ?_
        rintro e w3 ⟨rfl, hd⟩
        have hb3 := drawn_below hd
        have HT3 := Aside0.mk (HT1.out.move hb3)
        have Z0 := Aside0.mk ((hb3.cell (p := ⟨X, 0, none⟩) HT1.out.lt).trans Y0.out)
        have Z1 := Aside0.mk ((hb3.cell (p := ⟨X, 1, none⟩) HT1.out.lt).trans Y1.out)
        clear hd hb3 HT1 Y0 Y1
        have hcd : cD true = cB := rfl
        rw [hcd]
        clear hcd
        have z0 := Z0.out
        have z1 := Z1.out
        have hfst := lo_le cB f1 l
        obtain ⟨b, hb⟩ : ∃ b, hit cB f1 l = b := ⟨_, rfl⟩
        obtain ⟨lw, hlw⟩ : ∃ lw, lo cB f1 l = lw := ⟨_, rfl⟩
        rw [hb, hlw]
        rw [hlw] at hfst
        have HBt := Aside0.mk hb
        have HLW := Aside0.mk hlw
        clear hb hlw
        go_upto_block 2 with fail
        go_cut [10] (fun v10 wx => BMid w g X (2 * (i + 1)) f1 v10 wx)
        case first =>
          by_cases hf0 : f0 = 0
          · subst hf0
            have hh := HBt.out
            have hln := add_len cB f1 l
            have HA := Aside0.mk (HT3.out.add f1 rfl hh (by split at hln <;> omega))
            have hl2 : (S.add cB f1 l).length ≤ 2 * (i + 1) := by split at hln <;> omega
            clear hh hln
            go_wp2_with fail
            go_at_call 13
            refine HA.out.mono ?_
            rintro e w4 ⟨rfl, hT4, hK4⟩
            have HT4 := Aside0.mk hT4
            have Z4 := Aside0.mk (cell_heap hK4 Z1.out)
            clear hT4 HA hK4 z0 z1 HT3 Z0 Z1
            have z1 := Z4.out
            cases b
            all_goals
              go_wp2_with fail
              go_at_call 14
              refine (HT4.out.inn f1 (by omega)).mono ?_
              rintro e w5 ⟨v5, rfl, hT5, hb5⟩
              have HT5 := Aside0.mk hT5
              have Z5 := Aside0.mk ((hb5.cell (p := ⟨X, 1, none⟩) HT4.out.lt).trans Z4.out)
              clear hT5 hb5 HT4 Z4
              go_wp2_with fail
              go_meet
              exact ⟨_, hl2, HT5.out, Z5.out⟩
          · by_cases hf1 : f0 = 1
            · subst hf1
              clear hf0
              have hh := HBt.out
              have hln := del_len cB f1 l
              have HA := Aside0.mk (HT3.out.del f1 rfl hh)
              have hl2 : (S.del cB f1 l).length ≤ 2 * (i + 1) := by omega
              have hlt3 : b = true → lw < l.length := fun h => by rw [← HLW.out]; exact hit_lt (by rw [hh, h])
              have hde : S.del cB f1 l = if b = true then l.take lw ++ l.drop (lw + 1) else l := by unfold S.del; rw [hh, HLW.out]
              have HDE := Aside0.mk hde
              clear hh hln hde
              go_wp2_with fail
              go_at_call 15
              refine HA.out.mono ?_
              rintro e w4 ⟨rfl, hT4, hK4⟩
              have HT4 := Aside0.mk hT4
              have Z4 := Aside0.mk (cell_heap hK4 Z1.out)
              clear hT4 HA hK4 z0 z1 HT3 Z0 Z1
              cases b with
              | false =>
                rw [if_neg (by decide)] at HDE
                go_wp2_with fail
                go_meet
                exact ⟨l, by omega, by rw [HDE.out] at HT4; exact HT4.out, Z4.out⟩
              | true =>
                have hlw := hlt3 rfl
                rw [if_pos rfl] at HDE
                clear hlt3
                obtain ⟨A2, hcut, hC2⟩ := cutl HT4.out.toV.reads.2.2 hlc (k := lw + 1) (by omega)
                have hcut' : ∀ W, (Instr.slice 27 (.slice A l.length c) (some (.int .i64 ((lw : Int) + 1))) none none).run Try.prog W = .ok (.slice A2 (l.length - (lw + 1)) (c - (lw + 1))) W := hcut
                have HC2 := Aside0.mk hC2
                have hw1 : IntKind.i64.wrap ((lw : Int) + 1) = (lw : Int) + 1 := by rw [IntKind.wrap_i64]; omega
                have hw2 : (0 : Int) ≤ (lw : Int) := by omega
                have hw3 : (lw : Int) ≤ (l.length : Int) := by omega
                have hlc2 : l.length ≤ c := hlc
                have hlc3 : lw ≤ c := by omega
                have hdl : (l.drop (lw + 1)).length = l.length - (lw + 1) := List.length_drop
                have htk : (l.take lw).length = lw := by rw [List.length_take]; omega
                have HDL := Aside0.mk hdl
                have HTK := Aside0.mk htk
                have hCt := fun w' (h : Kd.C (Kd.int .i64) w' A l.length l) => Kd.C_take (m := lw) h (by omega)
                have HCT := Aside0.mk hCt
                clear hC2 hcut hdl htk hCt
                go_wp2_with fail
                go_region_law (first
                  | (refine Kd.R_append_rows_step (Kd.int .i64) (w0 := w4.drew) (W := w6) w4.heap.size (by rfl) (.tmp 104) (.tmp 108) 27 3 (.int .i64 0) 8 rfl Try.underlying27 info_int rfl (by decide) (by omega) (.slice A6 ([] ++ l.take lw : List Int).length c6) ([] ++ l.take lw) (l.drop (lw + 1)) A2 (l.length - (lw + 1)) (c - (lw + 1)) (fun _ => True) (fun _ => False) (by simp [Act.eval, Act.put]; try omega) (by simp [Act.eval, Act.put]; try omega) ho6 (HC2.out w6 (Kd.C_below (Kd.C_below HT4.out.toV.reads.2.2 (below_drew (Below.refl _ _))) hb6)) (fun _ _ h => h) (fun _ h => h.elim) (fun _ _ => trivial) hb6 hb6.size (by rw [List.nil_append, HTK.out]; omega) ?_; intro v7 w7 ho7 hb7 hg7 hn7)
                  | (refine Kd.R_append_rows_step (Kd.int .i64) (w0 := w4.drew) (W := w4.drew) w4.heap.size (by rfl) (.const (.slice none 0 0)) (.tmp 103) 27 3 (.int .i64 0) 8 rfl Try.underlying27 info_int rfl (by decide) (by omega) (.slice none 0 0) [] (l.take lw) A lw c (fun _ => True) (fun _ => False) (by rfl) (by simp [Act.eval, Act.put]; try omega) (Kd.R_nil _ _ _ _ _) (by have := HCT.out w4.drew (Kd.C_below HT4.out.toV.reads.2.2 (below_drew (Below.refl _ _))); rw [HTK.out] at this; exact this) (fun _ _ h => h) (fun _ h => h.elim) (fun _ _ => trivial) (Below.refl _ _) (Nat.le_refl _) (by simp only [List.length_nil]; omega) ?_; intro v6 w6 ho6 hb6 hg6 hn6; obtain ⟨A6, c6, rfl⟩ := Kd.R_slice ho6))
                have hro := Row.of_R flat_int ho7
                rw [List.nil_append] at hro
                have hbw : Below w4.heap.size w4 w7 := (below_drew (Below.refl _ _)).trans hb7
                have HRO := Aside0.mk hro
                have HBW := Aside0.mk hbw
                clear ho7 hb7 hg7 hn7 ho6 hb6 hg6 hn6 hro hbw
                go_wp2_with fail
                go_meet
                exact ⟨l.take lw ++ l.drop (lw + 1), by simp only [List.length_append, HDL.out, HTK.out]; omega, by rw [HDE.out] at HT4; exact HT4.out.made HRO.out HBW.out, (HBW.out.cell (p := ⟨X, 1, none⟩) HT4.out.lt).trans Z4.out⟩
            · have s0 : (f0 == 0) = false := by simpa using hf0
              have s1 : (f0 == 1) = false := by simpa using hf1
              obtain ⟨f3, hf3⟩ : ∃ f3, IntKind.i64.wrap (f1 + 3) = f3 := ⟨_, rfl⟩
              have hf3' : wrap64 (f1 + 3) = f3 := by rw [wrap64_eq]; exact hf3
              have hla : (S.add cB f1 l).length ≤ l.length + 1 := by have := add_len cB f1 l; split at this <;> omega
              have hlb : (S.add cB f3 (S.add cB f1 l)).length ≤ l.length + 2 := by have := add_len cB f3 (S.add cB f1 l); split at this <;> omega
              have hx4 : w3.drew.cell? ⟨X, 1, none⟩ = some (.int .i64 f1) := ((below_drew (Below.refl w3.heap.size w3)).cell (p := ⟨X, 1, none⟩) HT3.out.lt).trans Z1.out
              have HA2 := Aside0.mk (adds_two HT3.out.up f1 f3)
              go_wp2_with fail
              go_region_held3 (fun w' => w'.cell? ⟨X, 1, none⟩ = some (.int .i64 f1))
                (first | exact (hb5.cell (World.block_lt_of_cell? _ _ hx4)).trans hx4 | exact (hb6.cell (World.block_lt_of_cell? _ _ hx5)).trans hx5 | go_keep)
                (first
                  | (go_at_call 14; with_reducible refine (hT5.inn f3 (by omega)).mono ?_; rintro e w6 ⟨v6, rfl, hT6, hb6⟩)
                  | (go_at_call 14; refine ((HT3.out.move (below_drew (Below.refl _ _))).inn f1 (by omega)).mono ?_; rintro e w5 ⟨v5, rfl, hT5, hb5⟩; have hx5 := (hb5.cell (World.block_lt_of_cell? _ _ hx4)).trans hx4))
              rename_i hh6
              obtain ⟨m, hm⟩ : ∃ m, S.add cB f3 (S.add cB f1 l) = m := ⟨_, rfl⟩
              rw [hm] at hT6 HA2 hlb
              obtain ⟨A6, c6, rfl, hc6⟩ := hT6.toV.slice
              have HT6 := Aside0.mk hT6
              clear hT6 hb6 hx5 hT5 hb5 hx4 z0 z1 hm HT3 Z0 Z1 hla HLW HBt hfst
              by_cases hgt : l.length < m.length
              all_goals
                first
                  | have g1 : decide (l.length < m.length) = true := by simpa using hgt
                    have g2 : decide ((l.length : Int) < (m.length : Int)) = true := by simp; omega
                  | have g1 : decide (l.length < m.length) = false := by simpa using hgt
                    have g2 : decide ((l.length : Int) < (m.length : Int)) = false := by simp; omega
                clear hgt
                go_wp2_with fail
                go_at_call 17
                have hlit := lit2 w6 f1 f3
                have hb7 : Below w6.heap.size w6 (w6.alloc (.cells #[.int .i64 f1, .int .i64 f3] 3)) := below_alloc (Below.refl _ _) _
                refine ((HT6.out.move hb7).of (zs := [f1, f3]) hlit (by simp)).mono ?_
                rintro e w7 ⟨g2, F2, rfl, hs7, hT7, hb8⟩
                have hz7 : w7.cell? ⟨X, 1, none⟩ = some (.int .i64 f1) := (hb8.cell (p := ⟨X, 1, none⟩) (HT6.out.move hb7).lt).trans ((hb7.cell (p := ⟨X, 1, none⟩) HT6.out.lt).trans hh6)
                have hlA := adds_len [] [f1, f3]
                have HU := Aside0.mk (hT7.union hs7 (by simp at hlA; omega) HA2.out g1 (by omega))
                have Z7 := Aside0.mk hz7
                clear hlit hb7 hs7 hT7 hb8 hz7 hlA HT6 hh6
                go_wp2_with fail
                go_at_call 16
                refine HU.out.mono ?_
                rintro e w8 ⟨rfl, hT8, hK8⟩
                have HT8 := Aside0.mk hT8
                have Z8 := Aside0.mk (cell_heap hK8 Z7.out)
                clear hT8 hK8 HU Z7
                go_wp2_with fail
                go_meet
                exact ⟨m, by omega, HT8.out, Z8.out⟩
        case rest =>
          clear HT3 Z0 Z1 z0 z1 HBt HLW hfst
          obtain ⟨m, hm, hT, hz1⟩ := hcut
          obtain ⟨Am, cm, rfl, hcm⟩ := hT.toV.slice
          have HT := Aside0.mk hT
          clear hT
          obtain ⟨f4, hf4⟩ : ∃ f4, IntKind.i64.wrap (f1 + 1) = f4 := ⟨_, rfl⟩
          have hf4' : wrap64 (f1 + 1) = f4 := by rw [wrap64_eq]; exact hf4
          have hb4 : hit cB f4 m = m.contains f4 := hit_contains (down := true) HT.out.up f4
          obtain ⟨b4, hb4'⟩ : ∃ b, m.contains f4 = b := ⟨_, rfl⟩
          rw [hb4'] at hb4
          have HM := Aside0.mk hm
          have Z1 := Aside0.mk hz1
          have HLEN := fun n => Aside0.mk (HT.out.toV.move (pw_below_drewN (Below.refl _ _) n)).lenc
          have HHAS := fun n => Aside0.mk ((HT.out.toV.move (pw_below_drewN (Below.refl _ _) n)).hasD f4 hb4)
          have HHS := fun n => Aside0.mk (by have h := S.has_calls m f4 (by have := HT.out.len; omega) Am cm (wc.drewN n) (HT.out.toV.move (pw_below_drewN (Below.refl _ _) n)).reads.2.2 hcm; rw [hb4'] at h; exact h)
          clear hm hz1 hb4 hb4'
          have t5 : ((m.length : Int) == (m.length : Int)) = true := beq_self_eq_true _
          have t8 : (b4 == b4) = true := beq_self_eq_true _
          have z1 := Z1.out
          go_wp2_with fail
          go_at_call 18
          refine (HT.out.toV.at_ ask).mono ?_
          rintro e wq ⟨rfl, rfl⟩
          by_cases ha : 0 ≤ ask ∧ ask < m.length
          · rw [if_pos ha, decide_eq_true ha]
            obtain ⟨ha1, ha2⟩ := ha
            obtain ⟨k, rfl⟩ : ∃ k : Nat, ask = (k : Int) := ⟨ask.toNat, by omega⟩
            have hkm : k < m.length := by omega
            obtain ⟨ad2, e2, hx⟩ := at_int HT.out.toV.reads.2.2 k hkm rfl
            subst e2
            rw [Int.toNat_natCast, List.getD_eq_getElem?_getD, List.getElem?_eq_getElem hkm, Option.getD_some]
            have q1 : decide ((0 : Int) ≤ (k : Int)) = true := decide_eq_true ha1
            have q2 : decide ((k : Int) < (m.length : Int)) = true := decide_eq_true ha2
            have q3 : (m[k] == m[k]) = true := beq_self_eq_true _
            go_wp2_with fail
            go_quiet ((first | (go_at_call 19; with_reducible exact Calls.quiet_of_same (HLEN _).out) | (go_at_call 20; with_reducible exact quiet_of0 (HHAS _).out) | (go_at_call 21; with_reducible exact quiet_of0 (HHS _).out)))
            clear HLEN HHAS HHS
            go_wp2_with fail
            go_roundg (gk - 1)
            case measure => have := HI.out; omega
            case rel => exact ⟨i + 1, m, by have := HI.out; omega, by go_num, by have := HM.out; omega, HT.out.toV.move (pw_below_drewN (Below.refl _ _) _)⟩
          · rw [if_neg ha, decide_eq_false ha]
            by_cases ha1 : 0 ≤ ask
            all_goals
              first
                | have q1 : decide ((0 : Int) ≤ ask) = true := decide_eq_true ha1
                | have q1 : decide ((0 : Int) ≤ ask) = false := decide_eq_false ha1
              try have q2 : decide (ask < (m.length : Int)) = false := decide_eq_false (fun h => ha ⟨ha1, h⟩)
              clear ha ha1
              go_wp2_with fail
              go_quiet ((first | (go_at_call 19; with_reducible exact Calls.quiet_of_same (HLEN _).out) | (go_at_call 20; with_reducible exact quiet_of0 (HHAS _).out) | (go_at_call 21; with_reducible exact quiet_of0 (HHS _).out)))
              clear HLEN HHAS HHS
              go_wp2_with fail
              go_roundg (gk - 1)
              case measure => have := HI.out; omega
              case rel => exact ⟨i + 1, m, by have := HI.out; omega, by go_num, by have := HM.out; omega, HT.out.toV.move (pw_below_drewN (Below.refl _ _) _)⟩
      · have hnt : (i < xs.length → ¬ i < 60) := fun h1 h2 => hlt ⟨h1, h2⟩
        clear hlt
        by_cases hil : i < xs.length
        all_goals
          first
            | have t1 : decide ((i : Int) < (xs.length : Int)) = true := by simp; omega
            | have t1 : decide ((i : Int) < (xs.length : Int)) = false := by simp; omega
          try have t2 : decide ((i : Int) < 60) = false := by have := hnt hil; simp; omega
          clear hnt HI
          go_wp2_with fail
          go_meet
          exact ⟨l, by omega, HT.out⟩
  case rest =>
    clear HT
    obtain ⟨l, hl, hT⟩ := hcut
    obtain ⟨A, c, rfl, hlc⟩ := hT.slice
    have HT := Aside0.mk hT
    clear hT
    go_wp2_with fail
    go_at_call 22
    refine HT.out.list.mono ?_
    rintro e w3 ⟨v, rfl, hr, hb⟩
    obtain ⟨Am, cm, rfl, hcm, hrd⟩ := hr.reads
    have HQ := Aside0.mk (Kd.Q_of_R hr)
    have HB3 := Aside0.mk hb
    clear hr hrd hb
    go_wp2_with fail
    go_loopg [19] l.length (fun kq v19 w' => M2 wc l (.slice Am l.length cm) kq v19 w')
    case atStart => exact ⟨0, by omega, rfl, HB3.out, HQ.out⟩
    case round =>
      obtain ⟨j, hj, rfl, hb, hq⟩ := hrel
      clear HQ HB3
      have HJ := Aside0.mk hj
      have HB := Aside0.mk hb
      have HQ := Aside0.mk hq
      clear hj hb hq
      by_cases hjl : j < l.length
      · have t3 : decide ((j : Int) < (l.length : Int)) = true := by simp; omega
        have hj0 : (0 : Int) ≤ (j : Int) := by omega
        have hj1 : (j : Int) < (l.length : Int) := by omega
        have hrl : (List.replicate j (-1) ++ l.drop j : List Int).length = l.length := by simp; omega
        obtain ⟨gm, om, cm', em, hgm, hgl, _⟩ := Kd.Q_form HQ.out (by omega)
        injection em with em1 em2 em3
        subst em1
        clear em2 em3
        obtain ⟨m0, mf⟩ := Kd.Q_cell 0 HQ.out (j : Int) hj0 hj1
        have hrd : rdOf 0 (List.replicate j (-1) ++ l.drop j : List Int) (j : Int) = l[j] := by
          unfold rdOf
          rw [Int.toNat_natCast, List.getD_eq_getElem?_getD, List.getElem?_append_right (by simp)]
          simp [List.getElem?_drop, List.getElem?_eq_getElem hjl]
        rw [hrd, Int.toNat_natCast] at m0
        rw [Int.toNat_natCast] at mf
        obtain ⟨ad, e1, hx⟩ := at_int (HT.out.move HB.out).reads.2.2 j hjl rfl
        subst e1
        have t5 : (l[j] == l[j]) = true := beq_self_eq_true _
        have MF := Aside0.mk mf
        have M0 := Aside0.mk m0
        clear hrl hrd
        go_wp2_with fail
        go_quiet (fail)
        have mf2 : (wr.drewN nq).frozen? ⟨gm, om + j, none⟩ = false := by rw [(pw_below_drewN (Below.refl wr.heap.size wr) nq).frozen (p := ⟨gm, om + j, none⟩) hgl]; exact MF.out
        have m02 : (wr.drewN nq).cell? ⟨gm, om + j, none⟩ = some (.int .i64 l[j]) := ((pw_below_drewN (Below.refl wr.heap.size wr) nq).cell (p := ⟨gm, om + j, none⟩) hgl).trans M0.out
        have hp := Kd.Q_putg (Kd.Q_drewN HQ.out nq) (j : Int) hj0 hj1 (-1)
        rw [Int.toNat_natCast] at hp
        have hset : (List.replicate j (-1) ++ l.drop j : List Int).set j (-1) = List.replicate (j + 1) (-1) ++ l.drop (j + 1) := by
          rw [List.set_append_right _ _ (by simp), List.length_replicate, Nat.sub_self, List.drop_eq_getElem_cons hjl, List.set_cons_zero, List.replicate_succ', List.append_assoc]
          rfl
        rw [hset] at hp
        have HP := Aside0.mk hp
        clear hp hset m0 mf
        go_wp2_with fail
        go_roundg (gk - 1)
        case measure => have := HJ.out; omega
        case rel => exact ⟨j + 1, by have := HJ.out; omega, by go_num, (pw_below_drewN HB.out nq).setCell hgm _, HP.out.1⟩
      · have t3 : decide ((j : Int) < (l.length : Int)) = false := by simp; omega
        have HT2 := Aside0.mk (HT.out.move HB.out)
        have HB2 := HB
        clear HT HQ HB HJ HB2
        go_wp2_with fail
        go_at_call 22
        refine HT2.out.list.mono ?_
        rintro e w4 ⟨v, rfl, hr, hb⟩
        obtain ⟨Ak, ck, rfl, hck, hrd⟩ := hr.reads
        have HK := Aside0.mk hrd
        have HT3 := Aside0.mk (HT2.out.move hb)
        clear hr hrd hb HT2
        go_wp2_with fail
        go_loopg [21] l.length (fun kq v21 w' => M3 w4 l.length kq v21 w')
        case atStart => exact ⟨0, by omega, rfl, Below.refl _ _⟩
        case round =>
          obtain ⟨k, hk, rfl, hb⟩ := hrel
          have HKK := Aside0.mk hk
          have HB5 := Aside0.mk hb
          clear hk hb
          by_cases hkl : k < l.length
          · have t4 : decide ((k : Int) < (l.length : Int)) = true := by simp; omega
            have hk0 : (0 : Int) ≤ (k : Int) := by omega
            have hk1 : (k : Int) < (l.length : Int) := by omega
            obtain ⟨ad, e1, hx⟩ := at_int (HT3.out.move HB5.out).reads.2.2 k hkl rfl
            subst e1
            obtain ⟨ad2, e2, hy⟩ := at_int (Kd.C_below HK.out HB5.out) k hkl rfl
            subst e2
            have t5 : (l[k] == l[k]) = true := beq_self_eq_true _
            go_wp2_with fail
            go_quiet (fail)
            go_wp2_with fail
            go_roundg (gk - 1)
            case measure => have := HKK.out; omega
            case rel => exact ⟨k + 1, by have := HKK.out; omega, by go_num, pw_below_drewN HB5.out _⟩
          · have t4 : decide ((k : Int) < (l.length : Int)) = false := by simp; omega
            have HO := Aside0.mk (HT3.out.move HB5.out).below
            clear HT3 HB5
            go_wp2_with fail
            go_ret
            exact ⟨by simp, HO.out⟩
end Go.Proofs.Ytldgofblflmcbaa.S.I10
