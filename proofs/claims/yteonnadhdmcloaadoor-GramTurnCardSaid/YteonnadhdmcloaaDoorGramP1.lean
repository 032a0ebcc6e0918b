/- gram: the law GramAll answers true. -/
import Derived.Test.YteonnadhdmcloaaDoorGramP0
import Derived.Test.YteonnadhdmcloaaDoorEvY5
namespace Go.Proofs.YteonnadhdmcloaaDoor.G
open Go.RowKit Go.Proofs.YteonnadhdmcloaaDoorW.PrintWords Go.Proofs.YteonnadhdmcloaaDoorW.PrintLast Go.Proofs.YteonnadhdmcloaaDoorW.PrintMore
set_option linter.unusedVariables false
set_option linter.unusedSimpArgs false
theorem begun_yes (w : World) : Calls Tryd.prog 8 #[] w fun e w' => e = .returned (.bool true) ∧ Below w.heap.size w w' := V.yes_Y5 w
/-- What Cut answers: a grammar that is small, in rows of its own. -/
def CutIs (W w' : World) (e : Ending) : Prop := ∃ (A : Option Addr) (c : Nat) (A2 : Option Addr) (c2 : Nat) (l : List S35) (st : ByteArray) (ex : Int) (rs : List S39), e = .returned (.agg #[.slice A l.length c, .string st, .int .i64 ex, .slice A2 rs.length c2]) ∧ Kd.R k35 35 w' W.heap.size (fun _ => True) (.slice A l.length c) l ∧ Kd.R k39 39 w' W.heap.size (fun _ => True) (.slice A2 rs.length c2) rs ∧ sizeB l rs = true ∧ nameSizeB l st rs = true ∧ Below W.heap.size W w'
theorem cut_calls (w : World) (A : Option Addr) (c : Nat) (l : List S35) (st : ByteArray) (ex : Int) (A2 : Option Addr) (c2 : Nat) (rs : List S39) (h0 : Kd.C k35 w A l.length l) (hc : l.length ≤ c) (h3 : Kd.C k39 w A2 rs.length rs) (hc3 : rs.length ≤ c2) :
    Calls Tryd.prog 9 #[.agg #[.slice A l.length c, .string st, .int .i64 ex, .slice A2 rs.length c2]] w fun e w' => CutIs w w' e := by
  obtain ⟨l', st', ex', rs', hev, hs, hn⟩ := cut_ev l st ex rs
  obtain ⟨k, hk⟩ := hev.rounds
  refine (donatuslaw5_Cut.calls k A c l st ex A2 c2 rs l' st' ex' rs' w h0 hc h3 hc3 hk).mono ?_
  rintro e w' ⟨v0, v3, rfl, k0, k3, hb⟩
  obtain ⟨A', c', rfl, g1, g2⟩ := Kd.R_reads k0
  obtain ⟨A3, c3, rfl, g3, g4⟩ := Kd.R_reads (Kd.S_R k3)
  exact ⟨A', c', A3, c3, l', st', ex', rs', rfl, k0, Kd.S_R k3, hs, hn, hb⟩
theorem R_past {α : Type} {d : Kd α} {e : Nat} {w w1 : World} {base : Nat} {ok : Nat → Prop} {v : Value} {xs : List α} (h : d.R e w base ok v xs) (hm : ∀ k, base ≤ k → w1.heap[k]? = w.heap[k]?) : d.R e w1 base ok v xs :=
  Kd.R_mono (Kd.R_move (Kd.R_bound h) (fun k hk => hm k hk.2.1)) (fun k hk => hk.1)
/-- A box of four cells (type 25). -/
structure HBox (W : World) (X : Nat) (a b c d : Value) : Prop where
  heap : W.heap[X]? = some (.cells #[a, b, c, d] 25 (0, 0))
section
variable {W W' : World} {X Y B : Nat} {a b c d a' b' c' d' : Value}
theorem HBox.lt (h : HBox W X a b c d) : X < W.heap.size := (Array.getElem?_eq_some_iff.1 h.heap).1
theorem HBox.c0 (h : HBox W X a b c d) : W.cell? ⟨X, 0, none⟩ = some a := by simp [World.cell?, h.heap]
theorem HBox.c1 (h : HBox W X a b c d) : W.cell? ⟨X, 1, none⟩ = some b := by simp [World.cell?, h.heap]
theorem HBox.c2 (h : HBox W X a b c d) : W.cell? ⟨X, 2, none⟩ = some c := by simp [World.cell?, h.heap]
theorem HBox.c3 (h : HBox W X a b c d) : W.cell? ⟨X, 3, none⟩ = some d := by simp [World.cell?, h.heap]
theorem HBox.fz (h : HBox W X a b c d) (k : Nat) : W.frozen? ⟨X, k, none⟩ = false := by simp [World.frozen?, h.heap]
theorem HBox.move (h : HBox W X a b c d) (hb : Below B W W') (hX : X < B) : HBox W' X a b c d := ⟨(hb.block X hX).trans h.heap⟩
theorem HBox.new (w : World) (a b c d : Value) : HBox (w.alloc (.cells #[a, b, c, d] 25)) w.heap.size a b c d := ⟨heap_alloc_new w _⟩
def set4 (W : World) (X : Nat) (a b c d : Value) : World := (((W.setCell ⟨X, 0, none⟩ a).setCell ⟨X, 1, none⟩ b).setCell ⟨X, 2, none⟩ c).setCell ⟨X, 3, none⟩ d
theorem set4_far (k : Nat) (hk : k ≠ X) : (set4 W X a b c d).heap[k]? = W.heap[k]? := by
  unfold set4
  rw [Below.heap_setCell _ _ _ k hk, Below.heap_setCell _ _ _ k hk, Below.heap_setCell _ _ _ k hk, Below.heap_setCell _ _ _ k hk]
theorem HBox.set4 (h : HBox W X a b c d) : HBox (set4 W X a' b' c' d') X a' b' c' d' := by
  have one : ∀ (W : World) (k : Nat) (cs cs' : Array Value) (v : Value), W.heap[X]? = some (.cells cs 25 (0, 0)) → cs.setIfInBounds k v = cs' → (W.setCell ⟨X, k, none⟩ v).heap[X]? = some (.cells cs' 25 (0, 0)) := fun W k cs cs' v hg he => by
    rw [setCell_eq_setRow W X k cs 25 (0, 0) v hg, ← he]
    exact setRow_heap W X cs _ 25 (0, 0) hg
  exact ⟨one _ 3 #[a', b', c', d] _ d' (one _ 2 #[a', b', c, d] _ c' (one _ 1 #[a', b, c, d] _ b' (one _ 0 #[a, b, c, d] _ a' h.heap rfl) rfl) rfl) rfl⟩
theorem HBox.far (h : HBox W Y a b c d) (hY : Y ≠ X) : HBox (G.set4 W X a' b' c' d') Y a b c d := ⟨(set4_far Y hY).trans h.heap⟩
theorem below_set4 (h : Below B W' W) (hX : B ≤ X) : Below B W' (G.set4 W X a b c d) := by
  exact (((h.setCell (p := ⟨X, 0, none⟩) hX _).setCell (p := ⟨X, 1, none⟩) hX _).setCell (p := ⟨X, 2, none⟩) hX _).setCell (p := ⟨X, 3, none⟩) hX _
end
theorem two_boxes (w : World) (a b c d a' b' c' d' : Value) :
    HBox ((w.alloc (.cells #[a, b, c, d] 25)).alloc (.cells #[a', b', c', d'] 25)) w.heap.size a b c d ∧ HBox ((w.alloc (.cells #[a, b, c, d] 25)).alloc (.cells #[a', b', c', d'] 25)) (w.heap.size + 1) a' b' c' d' ∧ Below w.heap.size w ((w.alloc (.cells #[a, b, c, d] 25)).alloc (.cells #[a', b', c', d'] 25)) := by
  have h1 := HBox.new w a b c d
  have h2 := HBox.new (w.alloc (.cells #[a, b, c, d] 25)) a' b' c' d'
  have hb : Below (w.alloc (.cells #[a, b, c, d] 25)).heap.size (w.alloc (.cells #[a, b, c, d] 25)) ((w.alloc (.cells #[a, b, c, d] 25)).alloc (.cells #[a', b', c', d'] 25)) := below_alloc (Below.refl _ _) _
  have h3 := h1.move hb h1.lt
  rw [World.size_alloc] at h2
  exact ⟨h3, h2, below_alloc (below_alloc (Below.refl w.heap.size w) _) _⟩
/-- Two grammars that Cut has made, in their boxes. -/
def TwoCut (X : Nat) (w wx : World) : Prop := ∃ (A : Option Addr) (c : Nat) (A2 : Option Addr) (c2 : Nat) (l : List S35) (st : ByteArray) (ex : Int) (rs : List S39) (B : Option Addr) (d : Nat) (B2 : Option Addr) (d2 : Nat) (m : List S35) (su : ByteArray) (ey : Int) (qs : List S39),
  HBox wx X (.slice A l.length c) (.string st) (.int .i64 ex) (.slice A2 rs.length c2) ∧ HBox wx (X + 1) (.slice B m.length d) (.string su) (.int .i64 ey) (.slice B2 qs.length d2) ∧ Kd.C k35 wx A l.length l ∧ l.length ≤ c ∧ Kd.C k39 wx A2 rs.length rs ∧ rs.length ≤ c2 ∧ sizeB l rs = true ∧ nameSizeB l st rs = true ∧
  Kd.C k35 wx B m.length m ∧ m.length ≤ d ∧ Kd.C k39 wx B2 qs.length qs ∧ qs.length ≤ d2 ∧ sizeB m qs = true ∧ nameSizeB m su qs = true ∧ Below w.heap.size w wx
theorem two_cut {X : Nat} {w w5 w6 : World} {A A2 B B2 : Option Addr} {c c2 d d2 b5 b6 : Nat} {l m : List S35} {rs qs : List S39} {st su : ByteArray} {ex ey : Int} {v0 v1 v2 v3 u0 u1 u2 u3 : Value} (hx : HBox w6 X v0 v1 v2 v3) (hy : HBox w6 (X + 1) u0 u1 u2 u3) (hXw : X = w.heap.size) (h5 : X + 1 < b5) (h6 : X + 1 < b6) (hg : Below w5.heap.size w5 w6) (hb : Below w.heap.size w w6)
    (hk : Kd.R k35 35 w5 b5 (fun _ => True) (.slice A l.length c) l ∧ Kd.R k39 39 w5 b5 (fun _ => True) (.slice A2 rs.length c2) rs ∧ sizeB l rs = true ∧ nameSizeB l st rs = true)
    (hj : Kd.R k35 35 w6 b6 (fun _ => True) (.slice B m.length d) m ∧ Kd.R k39 39 w6 b6 (fun _ => True) (.slice B2 qs.length d2) qs ∧ sizeB m qs = true ∧ nameSizeB m su qs = true) :
    TwoCut X w (set4 (set4 w6 X (.slice A l.length c) (.string st) (.int .i64 ex) (.slice A2 rs.length c2)) (X + 1) (.slice B m.length d) (.string su) (.int .i64 ey) (.slice B2 qs.length d2)) := by
  have far : ∀ (p0 p1 p2 p3 q0 q1 q2 q3 : Value) (k : Nat), X + 1 < k → (set4 (set4 w6 X p0 p1 p2 p3) (X + 1) q0 q1 q2 q3).heap[k]? = w6.heap[k]? := fun p0 p1 p2 p3 q0 q1 q2 q3 k hk => by
    rw [set4_far k (by omega), set4_far k (by omega)]
  obtain ⟨k1, k2, k3, k4⟩ := hk
  obtain ⟨j1, j2, j3, j4⟩ := hj
  obtain ⟨_, n1, n2⟩ := Kd.R_reads' (R_past (Kd.R_below k1 hg) (fun k hk => far (.slice A l.length c) (.string st) (.int .i64 ex) (.slice A2 rs.length c2) (.slice B m.length d) (.string su) (.int .i64 ey) (.slice B2 qs.length d2) k (by omega)))
  obtain ⟨_, n3, n4⟩ := Kd.R_reads' (R_past (Kd.R_below k2 hg) (fun k hk => far (.slice A l.length c) (.string st) (.int .i64 ex) (.slice A2 rs.length c2) (.slice B m.length d) (.string su) (.int .i64 ey) (.slice B2 qs.length d2) k (by omega)))
  obtain ⟨_, n5, n6⟩ := Kd.R_reads' (R_past j1 (fun k hk => far (.slice A l.length c) (.string st) (.int .i64 ex) (.slice A2 rs.length c2) (.slice B m.length d) (.string su) (.int .i64 ey) (.slice B2 qs.length d2) k (by omega)))
  obtain ⟨_, n7, n8⟩ := Kd.R_reads' (R_past j2 (fun k hk => far (.slice A l.length c) (.string st) (.int .i64 ex) (.slice A2 rs.length c2) (.slice B m.length d) (.string su) (.int .i64 ey) (.slice B2 qs.length d2) k (by omega)))
  exact ⟨A, c, A2, c2, l, st, ex, rs, B, d, B2, d2, m, su, ey, qs, (hx.set4).far (by omega), (hy.far (by omega)).set4, n2, n1, n4, n3, k3, k4, n6, n5, n8, n7, j3, j4, below_set4 (below_set4 hb (by omega)) (by omega)⟩
set_option maxRecDepth 100000 in
set_option maxHeartbeats 4000000 in
theorem all_walk (w : World) (ht : Tab w) (A0 : Option Addr) (c0 : Nat) (A3 : Option Addr) (c3 : Nat) (x : S25) (r0 : k35.C w A0 x.f0.length x.f0) (e0 : x.f0.length ≤ c0) (r3 : k39.C w A3 x.f3.length x.f3) (e3 : x.f3.length ≤ c3) {ok : Prop} (hok : ok)
    (B0 : Option Addr) (d0 : Nat) (B3 : Option Addr) (d3 : Nat) (y : S25) (q0 : k35.C w B0 y.f0.length y.f0) (u0 : y.f0.length ≤ d0) (q3 : k39.C w B3 y.f3.length y.f3) (u3 : y.f3.length ≤ d3) {ok2 : Prop} (hok2 : ok2) :
    Calls Tryd.prog 3 #[.agg #[.slice A0 x.f0.length c0, .string x.f1, .int .i64 x.f2, .slice A3 x.f3.length c3], .agg #[.slice B0 y.f0.length d0, .string y.f1, .int .i64 y.f2, .slice B3 y.f3.length d3]] w fun e w' => e = .returned (.bool true) ∧ Below w.heap.size w w' := by
  have HT := Aside0.mk ht
  have HR0 := Aside0.mk r0
  have HR3 := Aside0.mk r3
  have HQ0 := Aside0.mk q0
  have HQ3 := Aside0.mk q3
  have HE := Aside0.mk (And.intro e0 (And.intro e3 (And.intro u0 u3)))
  clear ht r0 r3 q0 q3 e0 e3 u0 u3
  go_enter Tryd.func3, Tryd.ntmps3

  go_upto_region 1 with fail
  obtain ⟨hx, hy, hb⟩ := two_boxes w (Value.slice A0 x.f0.length c0) (Value.string x.f1) (Value.int IntKind.i64 x.f2) (Value.slice A3 x.f3.length c3) (Value.slice B0 y.f0.length d0) (Value.string y.f1) (Value.int IntKind.i64 y.f2) (Value.slice B3 y.f3.length d3)
  generalize hW2 : (w.alloc (Obj.cells #[Value.slice A0 x.f0.length c0, Value.string x.f1, Value.int IntKind.i64 x.f2, Value.slice A3 x.f3.length c3] 25)).alloc (Obj.cells #[Value.slice B0 y.f0.length d0, Value.string y.f1, Value.int IntKind.i64 y.f2, Value.slice B3 y.f3.length d3] 25) = W2 at *
  clear hW2
  obtain ⟨X, hX⟩ : ∃ X, X = w.heap.size := ⟨_, rfl⟩
  rw [← hX] at hx hy
  have HX := Aside0.mk hx
  have HY := Aside0.mk hy
  have HB := Aside0.mk hb
  have HXX := Aside0.mk hX
  rw [← hX]
  clear hX hx hy hb
  go_wp2_with fail
  go_at_call 8
  refine (begun_yes _).mono ?_
  rintro e w3 ⟨rfl, hb⟩
  have HX1 := Aside0.mk (HX.out.move hb HX.out.lt)
  have HY1 := Aside0.mk (HY.out.move hb HY.out.lt)
  have HB1 := Aside0.mk (HB.out.trans (hb.mono HB.out.size))
  clear HX HY HB hb
  go_upto_region 4 with fail
  have HCa : Aside0 (∀ w', Below w.heap.size w w' → Calls Tryd.prog 9 #[.agg #[.slice A0 x.f0.length c0, .string x.f1, .int .i64 x.f2, .slice A3 x.f3.length c3]] w' fun e w'' => CutIs w' w'' e) := ⟨fun w' hb => cut_calls w' A0 c0 x.f0 x.f1 x.f2 A3 c3 x.f3 (Kd.C_below HR0.out hb) HE.out.1 (Kd.C_below HR3.out hb) HE.out.2.1⟩
  have HCb : Aside0 (∀ w', Below w.heap.size w w' → Calls Tryd.prog 9 #[.agg #[.slice B0 y.f0.length d0, .string y.f1, .int .i64 y.f2, .slice B3 y.f3.length d3]] w' fun e w'' => CutIs w' w'' e) := ⟨fun w' hb => cut_calls w' B0 d0 y.f0 y.f1 y.f2 B3 d3 y.f3 (Kd.C_below HQ0.out hb) HE.out.2.2.1 (Kd.C_below HQ3.out hb) HE.out.2.2.2⟩
  go_cut [4] (fun v4 wx => v4 = .bool false ∧ TwoCut X w wx)
  case first =>
    have x0 := HX1.out.c0
    have x1 := HX1.out.c1
    have x2 := HX1.out.c2
    have x3 := HX1.out.c3
    have y0 := HY1.out.c0
    have y1 := HY1.out.c1
    have y2 := HY1.out.c2
    have y3 := HY1.out.c3
    have HZ : Aside0 (X + 1 < w3.drew.heap.size) := ⟨HY1.out.lt⟩
    go_region_with (first
      | (go_at_call 9; (with_reducible refine Calls.mono (HCa.out _ (below_drew1 HB1.out)) ?_); rintro e w5 ⟨A, c, A2, c2, l, st, ex, rs, rfl, ka, kb, ke, kf, kg⟩; have kh : Below w3.heap.size w3 w5 := (below_drew1 (Below.refl _ _)).trans kg; have HX5 := Aside0.mk (HX1.out.move kh HX1.out.lt); have HY5 := Aside0.mk (HY1.out.move kh HY1.out.lt); have HB5 := Aside0.mk (HB1.out.trans (kh.mono HB1.out.size)); clear kh; have z0 := HY5.out.c0; have z1 := HY5.out.c1; have z2 := HY5.out.c2; have z3 := HY5.out.c3; have HK := Aside0.mk (And.intro ka (And.intro kb (And.intro ke kf))); clear ka kb ke kf kg)
      | (go_at_call 9; (with_reducible refine Calls.mono (HCb.out _ HB5.out) ?_); rintro e w6 ⟨B, d, B2, d2, m, su, ey, qs, rfl, ja, jb, je, jf, jg⟩; have HX6 := Aside0.mk (HX5.out.move jg HX5.out.lt); have HY6 := Aside0.mk (HY5.out.move jg HY5.out.lt); have HB6 := Aside0.mk (HB5.out.trans (jg.mono HB5.out.size)); have HG := Aside0.mk jg; have HJ := Aside0.mk (And.intro ja (And.intro jb (And.intro je jf))); clear ja jb je jf jg; have p0 := HX6.out.c0; have p1 := HX6.out.c1; have p2 := HX6.out.c2; have p3 := HX6.out.c3; have p4 := HX6.out.fz 0; have p5 := HX6.out.fz 1; have p6 := HX6.out.fz 2; have p7 := HX6.out.fz 3; have q0 := HY6.out.c0; have q1 := HY6.out.c1; have q2 := HY6.out.c2; have q3 := HY6.out.c3; have q4 := HY6.out.fz 0; have q5 := HY6.out.fz 1; have q6 := HY6.out.fz 2; have q7 := HY6.out.fz 3))
    all_goals (go_wp2_with fail; go_meet; exact ⟨rfl, two_cut HX6.out HY6.out HXX.out HZ.out (by have := HG.out.size; have := HY5.out.lt; omega) HG.out HB6.out HK.out HJ.out⟩)
  case rest =>
    obtain ⟨rfl, A, c, A2, c2, l, st, ex, rs, B, d, B2, d2, m, su, ey, qs, b1, b2, f1, f2, f3, f4, f5, f6, f7, f8, f9, g1, g2, g3, g4⟩ := hcut
    have C10 : Aside0 (∀ w', Below wc.heap.size wc w' → Calls Tryd.prog 10 #[.agg #[.slice A l.length c, .string st, .int .i64 ex, .slice A2 rs.length c2]] w' fun e w'' => e = .returned (.bool (mayB l st ex rs)) ∧ Below w'.heap.size w' w'') := ⟨fun w' hb => gram_May.calls A c l st ex A2 c2 rs _ w' (Kd.C_below f1 hb) f2 (Kd.C_below f3 hb) f4 (may_f f5)⟩
    have C11 : Aside0 (∀ w', Below wc.heap.size wc w' → Calls Tryd.prog 11 #[.agg #[.slice A l.length c, .string st, .int .i64 ex, .slice A2 rs.length c2]] w' fun e w'' => e = .returned (.bool (mayB l st ex rs)) ∧ Below w'.heap.size w' w'') := ⟨fun w' hb => donatusref4_May.calls A c l st ex A2 c2 rs _ w' (Kd.C_below f1 hb) f2 (Kd.C_below f3 hb) f4 (rmay_f f5 f6)⟩
    have C12 : Aside0 (∀ w', Below wc.heap.size wc w' → Calls Tryd.prog 12 #[.agg #[.slice A l.length c, .string st, .int .i64 ex, .slice A2 rs.length c2]] w' fun e w'' => e = .returned (.string (mkS (textL l st ex rs))) ∧ Below w'.heap.size w' w'') := ⟨fun w' hb => gram_Text.calls A c l st ex A2 c2 rs _ w' (HT.out.move (g4.trans (hb.mono g4.size))) (Kd.C_below f1 hb) f2 (Kd.C_below f3 hb) f4 (text_f f5)⟩
    have C13 : Aside0 (∀ w', Below wc.heap.size wc w' → Calls Tryd.prog 13 #[.agg #[.slice A l.length c, .string st, .int .i64 ex, .slice A2 rs.length c2]] w' fun e w'' => e = .returned (.string (mkS (textL l st ex rs))) ∧ Below w'.heap.size w' w'') := ⟨fun w' hb => donatusref4_Text.calls A c l st ex A2 c2 rs _ w' (Kd.C_below f1 hb) f2 (Kd.C_below f3 hb) f4 (rtext_f f5 f6)⟩
    have C14 : Aside0 (∀ w', Below wc.heap.size wc w' → Calls Tryd.prog 14 #[.agg #[.slice A l.length c, .string st, .int .i64 ex, .slice A2 rs.length c2], .agg #[.slice B m.length d, .string su, .int .i64 ey, .slice B2 qs.length d2]] w' fun e w'' => e = .returned (.bool (geqB l st ex rs m su ey qs)) ∧ Below w'.heap.size w' w'') := ⟨fun w' hb => gram_Eq.calls A c l st ex A2 c2 rs B d m su ey B2 d2 qs _ w' (Kd.C_below f1 hb) f2 (Kd.C_below f3 hb) f4 (Kd.C_below f7 hb) f8 (Kd.C_below f9 hb) g1 (by unfold gram_Eq.f; rw [if_pos f5])⟩
    have C15 : Aside0 (∀ w', Below wc.heap.size wc w' → Calls Tryd.prog 15 #[.agg #[.slice A l.length c, .string st, .int .i64 ex, .slice A2 rs.length c2], .agg #[.slice B m.length d, .string su, .int .i64 ey, .slice B2 qs.length d2]] w' fun e w'' => e = .returned (.bool (geqB l st ex rs m su ey qs)) ∧ Below w'.heap.size w' w'') := ⟨fun w' hb => donatusref4_Eq.calls A c l st ex A2 c2 rs B d m su ey B2 d2 qs _ w' (Kd.C_below f1 hb) f2 (Kd.C_below f3 hb) f4 (Kd.C_below f7 hb) f8 (Kd.C_below f9 hb) g1 (req_f f5)⟩
    have C16 : Aside0 (∀ w', Below wc.heap.size wc w' → Calls Tryd.prog 14 #[.agg #[.slice A l.length c, .string st, .int .i64 ex, .slice A2 rs.length c2], .agg #[.slice A l.length c, .string st, .int .i64 ex, .slice A2 rs.length c2]] w' fun e w'' => e = .returned (.bool true) ∧ Below w'.heap.size w' w'') := ⟨fun w' hb => gram_Eq.calls A c l st ex A2 c2 rs A c l st ex A2 c2 rs _ w' (Kd.C_below f1 hb) f2 (Kd.C_below f3 hb) f4 (Kd.C_below f1 hb) f2 (Kd.C_below f3 hb) f4 (by unfold gram_Eq.f; rw [if_pos f5]; simp [geqB])⟩
    have x0 := b1.c0
    have x1 := b1.c1
    have x2 := b1.c2
    have x3 := b1.c3
    have y0 := b2.c0
    have y1 := b2.c1
    have y2 := b2.c2
    have y3 := b2.c3
    have HG := Aside0.mk g4
    clear HX1 HY1 HB1 HCa HCb b1 b2 f1 f2 f3 f4 f5 f6 f7 f8 f9 g1 g2 g3 g4 HR0 HR3 HQ0 HQ3 HE HT
    generalize mayB l st ex rs = bm at *
    generalize mkS (textL l st ex rs) = bt at *
    generalize geqB l st ex rs m su ey qs = bq at *
    have keep0 : Aside0 (∀ w', Below wc.heap.size wc w' → (w'.cell? ⟨X, 0, none⟩ = some (.slice A l.length c) ∧ w'.cell? ⟨X, 1, none⟩ = some (.string st) ∧ w'.cell? ⟨X, 2, none⟩ = some (.int .i64 ex) ∧ w'.cell? ⟨X, 3, none⟩ = some (.slice A2 rs.length c2) ∧ w'.cell? ⟨X + 1, 0, none⟩ = some (.slice B m.length d) ∧ w'.cell? ⟨X + 1, 1, none⟩ = some (.string su) ∧ w'.cell? ⟨X + 1, 2, none⟩ = some (.int .i64 ey) ∧ w'.cell? ⟨X + 1, 3, none⟩ = some (.slice B2 qs.length d2) ∧ Below wc.heap.size wc w')) := ⟨fun w' hb => ⟨(hb.cell (World.block_lt_of_cell? _ _ x0)).trans x0, (hb.cell (World.block_lt_of_cell? _ _ x1)).trans x1, (hb.cell (World.block_lt_of_cell? _ _ x2)).trans x2, (hb.cell (World.block_lt_of_cell? _ _ x3)).trans x3, (hb.cell (World.block_lt_of_cell? _ _ y0)).trans y0, (hb.cell (World.block_lt_of_cell? _ _ y1)).trans y1, (hb.cell (World.block_lt_of_cell? _ _ y2)).trans y2, (hb.cell (World.block_lt_of_cell? _ _ y3)).trans y3, hb⟩⟩
    have pick : Aside0 (∀ w', (w'.cell? ⟨X, 0, none⟩ = some (.slice A l.length c) ∧ w'.cell? ⟨X, 1, none⟩ = some (.string st) ∧ w'.cell? ⟨X, 2, none⟩ = some (.int .i64 ex) ∧ w'.cell? ⟨X, 3, none⟩ = some (.slice A2 rs.length c2) ∧ w'.cell? ⟨X + 1, 0, none⟩ = some (.slice B m.length d) ∧ w'.cell? ⟨X + 1, 1, none⟩ = some (.string su) ∧ w'.cell? ⟨X + 1, 2, none⟩ = some (.int .i64 ey) ∧ w'.cell? ⟨X + 1, 3, none⟩ = some (.slice B2 qs.length d2) ∧ Below wc.heap.size wc w') → Below wc.heap.size wc w') := ⟨fun w' h => h.2.2.2.2.2.2.2.2⟩
    have stepS : Aside0 (∀ w' w'', Below w'.heap.size w' w'' → (w'.cell? ⟨X, 0, none⟩ = some (.slice A l.length c) ∧ w'.cell? ⟨X, 1, none⟩ = some (.string st) ∧ w'.cell? ⟨X, 2, none⟩ = some (.int .i64 ex) ∧ w'.cell? ⟨X, 3, none⟩ = some (.slice A2 rs.length c2) ∧ w'.cell? ⟨X + 1, 0, none⟩ = some (.slice B m.length d) ∧ w'.cell? ⟨X + 1, 1, none⟩ = some (.string su) ∧ w'.cell? ⟨X + 1, 2, none⟩ = some (.int .i64 ey) ∧ w'.cell? ⟨X + 1, 3, none⟩ = some (.slice B2 qs.length d2) ∧ Below wc.heap.size wc w') → (w''.cell? ⟨X, 0, none⟩ = some (.slice A l.length c) ∧ w''.cell? ⟨X, 1, none⟩ = some (.string st) ∧ w''.cell? ⟨X, 2, none⟩ = some (.int .i64 ex) ∧ w''.cell? ⟨X, 3, none⟩ = some (.slice A2 rs.length c2) ∧ w''.cell? ⟨X + 1, 0, none⟩ = some (.slice B m.length d) ∧ w''.cell? ⟨X + 1, 1, none⟩ = some (.string su) ∧ w''.cell? ⟨X + 1, 2, none⟩ = some (.int .i64 ey) ∧ w''.cell? ⟨X + 1, 3, none⟩ = some (.slice B2 qs.length d2) ∧ Below wc.heap.size wc w'')) := ⟨fun w' w'' k h => keep0.out _ ((pick.out _ h).trans (k.mono (pick.out _ h).size))⟩
    go_upto_region 5 with fail
    go_region_held3 (fun w' => w'.cell? ⟨X, 0, none⟩ = some (.slice A l.length c) ∧ w'.cell? ⟨X, 1, none⟩ = some (.string st) ∧ w'.cell? ⟨X, 2, none⟩ = some (.int .i64 ex) ∧ w'.cell? ⟨X, 3, none⟩ = some (.slice A2 rs.length c2) ∧ w'.cell? ⟨X + 1, 0, none⟩ = some (.slice B m.length d) ∧ w'.cell? ⟨X + 1, 1, none⟩ = some (.string su) ∧ w'.cell? ⟨X + 1, 2, none⟩ = some (.int .i64 ey) ∧ w'.cell? ⟨X + 1, 3, none⟩ = some (.slice B2 qs.length d2) ∧ Below wc.heap.size wc w')
      (first | exact keep0.out _ (below_drew1 (Below.refl _ _)) | exact stepS.out _ _ (by assumption) (by assumption))
      (first
        | (go_at_call 10; (with_reducible refine Calls.mono (C10.out _ (pick.out _ (by assumption))) ?_); rintro e w7 ⟨rfl, hh⟩)
        | (go_at_call 11; (with_reducible refine Calls.mono (C11.out _ (pick.out _ (by assumption))) ?_); rintro e w7 ⟨rfl, hh⟩)
        | (go_at_call 12; (with_reducible refine Calls.mono (C12.out _ (pick.out _ (by assumption))) ?_); rintro e w7 ⟨rfl, hh⟩)
        | (go_at_call 13; (with_reducible refine Calls.mono (C13.out _ (pick.out _ (by assumption))) ?_); rintro e w7 ⟨rfl, hh⟩)
        | (go_at_call 14; (with_reducible refine Calls.mono (C14.out _ (pick.out _ (by assumption))) ?_); rintro e w7 ⟨rfl, hh⟩)
        | (go_at_call 14; (with_reducible refine Calls.mono (C16.out _ (pick.out _ (by assumption))) ?_); rintro e w7 ⟨rfl, hh⟩)
        | (go_at_call 15; (with_reducible refine Calls.mono (C15.out _ (pick.out _ (by assumption))) ?_); rintro e w7 ⟨rfl, hh⟩))
    have hB7 := Aside0.mk (pick.out w7 (by assumption))
    go_wp2_with fail
    go_ret
    exact ⟨rfl, HG.out.trans (hB7.out.mono HG.out.size)⟩
end Go.Proofs.YteonnadhdmcloaaDoor.G
