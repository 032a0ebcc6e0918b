/- gram: the law GramTurn answers true. -/
import Derived.Test.YteonnadhdmcloaaDoorGramP2
import Derived.Test.YteonnadhdmcloaaDoorGramS5
namespace Go.Proofs.YteonnadhdmcloaaDoor.G
open Go.RowKit Go.Proofs.YteonnadhdmcloaaDoorW.PrintWords Go.Proofs.YteonnadhdmcloaaDoorW.PrintLast Go.Proofs.YteonnadhdmcloaaDoorW.PrintMore
set_option linter.unusedVariables false
set_option linter.unusedSimpArgs false
/-- Two grammars in their boxes: the first one is this, the second one is small. -/
def TurnIs (X Y : Nat) (w wx : World) (A : Option Addr) (c : Nat) (A2 : Option Addr) (c2 : Nat) (l : List S35) (st : ByteArray) (ex : Int) (rs : List S39) : Prop := ∃ (B : Option Addr) (d : Nat) (B2 : Option Addr) (d2 : Nat) (m : List S35) (su : ByteArray) (ey : Int) (qs : List S39),
  HBox wx X (.slice A l.length c) (.string st) (.int .i64 ex) (.slice A2 rs.length c2) ∧ HBox wx Y (.slice B m.length d) (.string su) (.int .i64 ey) (.slice B2 qs.length d2) ∧ Kd.C k35 wx A l.length l ∧ Kd.C k39 wx A2 rs.length rs ∧
  Kd.C k35 wx B m.length m ∧ m.length ≤ d ∧ Kd.C k39 wx B2 qs.length qs ∧ qs.length ≤ d2 ∧ sizeB m qs = true ∧ nameSizeB m su qs = true ∧ Below w.heap.size w wx
section
variable {w W5 W : World} {X Y c c2 d d2 b1 : Nat} {A A2 B B2 : Option Addr} {l m : List S35} {rs qs : List S39} {st su : ByteArray} {ex ey : Int} {ok ok' : Nat → Prop}
theorem HBox.far1 {g : Nat} {a b c d : Value} (h : HBox W Y a b c d) (hY : Y ≠ g) (j : Nat) (v : Value) : HBox (W.setCell ⟨g, j, none⟩ v) Y a b c d := ⟨(Below.heap_setCell W ⟨g, j, none⟩ v Y hY).trans h.heap⟩
theorem HBox.put1 {a b c d : Value} (h : HBox W Y a b c d) (v : Value) : HBox (W.setCell ⟨Y, 1, none⟩ v) Y a v c d := by
  refine ⟨?_⟩
  rw [setCell_eq_setRow W Y 1 #[a, b, c, d] 25 (0, 0) v h.heap]
  exact setRow_heap W Y #[a, b, c, d] _ 25 (0, 0) h.heap
theorem turn_is (hx : HBox W5 X (.slice A l.length c) (.string st) (.int .i64 ex) (.slice A2 rs.length c2)) (hc : Kd.C k35 W5 A l.length l ∧ Kd.C k39 W5 A2 rs.length rs) (hw : Below w.heap.size w W5) (hb : Below W5.heap.size W5 W)
    (hy : HBox W Y (.slice B m.length d) (.string su) (.int .i64 ey) (.slice B2 qs.length d2)) (h1 : Kd.R k35 35 W b1 ok (.slice B m.length d) m) (h2 : Kd.S k39 39 W b1 ok' (.slice B2 qs.length d2) qs) (hs : sizeB m qs = true) (hn : nameSizeB m su qs = true) : TurnIs X Y w W A c A2 c2 l st ex rs := by
  obtain ⟨_, n1, n2⟩ := Kd.R_reads' h1
  obtain ⟨_, n3, n4⟩ := Kd.S_reads' h2
  exact ⟨B, d, B2, d2, m, su, ey, qs, hx.move hb hx.lt, hy, Kd.C_below hc.1 hb, Kd.C_below hc.2 hb, n2, n1, n4, n3, hs, hn, hw.trans (hb.mono hw.size)⟩
theorem turn_drew (h : TurnIs X Y w W A c A2 c2 l st ex rs) : TurnIs X Y w W.drew A c A2 c2 l st ex rs := by
  obtain ⟨B, d, B2, d2, m, su, ey, qs, h1, h2, h3, h4, h5, h6, h7, h8, h9, h10, h11⟩ := h
  have hb : Below W.heap.size W W.drew := below_drew1 (Below.refl _ _)
  exact ⟨B, d, B2, d2, m, su, ey, qs, h1.move hb h1.lt, h2.move hb h2.lt, Kd.C_below h3 hb, Kd.C_below h4 hb, Kd.C_below h5 hb, h6, Kd.C_below h7 hb, h8, h9, h10, below_drew1 h11⟩
theorem tmod_in {a : Int} {n : Nat} (h : 0 ≤ a) (hn : 0 < n) : ∃ i : Nat, Int.tmod a (n : Int) = (i : Int) ∧ i < n := by
  have h1 := Int.tmod_nonneg (n : Int) h
  have h2 := Int.tmod_lt_of_pos a (show (0 : Int) < (n : Int) by omega)
  exact ⟨(Int.tmod a n).toNat, by omega, by omega⟩
theorem name_size {name : ByteArray} (h : Nm name = true) : name.size ≤ 1000 := by
  unfold Nm at h
  have e : name.size = name.data.toList.length := rfl
  cases hl : name.data.toList with
  | nil => rw [e, hl]; decide
  | cons c r => rw [hl] at h; unfold nameB at h; simp only [Bool.and_eq_true, decide_eq_true_eq] at h; rw [e, hl, List.length_cons]; omega
theorem all_set {α : Type} {p : α → Bool} {l : List α} (h : l.all p = true) (i : Nat) (x : α) (hx : p x = true) : (l.set i x).all p = true := by
  rw [List.all_eq_true] at h ⊢
  intro y hy
  rcases List.mem_or_eq_of_mem_set hy with hy | rfl
  · exact h y hy
  · exact hx
theorem set_tok (hs : sizeB m qs = true) (hn : nameSizeB m su qs = true) (i : Nat) (hi : i < m.length) {name : ByteArray} (hz : name.size ≤ 1000) : sizeB (m.set i ⟨name, m[i].f1, m[i].f2⟩) qs = true ∧ nameSizeB (m.set i ⟨name, m[i].f1, m[i].f2⟩) su qs = true := by
  unfold sizeB nameSizeB at *
  simp only [Bool.and_eq_true, List.length_set] at *
  exact ⟨hs, ⟨hn.1.1, all_set hn.1.2 i _ (by simpa using hz)⟩, hn.2⟩
theorem set_rule (hs : sizeB m qs = true) (hn : nameSizeB m su qs = true) (i : Nat) (hi : i < qs.length) {name : ByteArray} (hz : name.size ≤ 1000) :
    (sizeB m (qs.set i ⟨name, qs[i].f1, qs[i].f2⟩) = true ∧ nameSizeB m su (qs.set i ⟨name, qs[i].f1, qs[i].f2⟩) = true) ∧ sizeB m (qs.set i ⟨qs[i].f0, qs[i].f1, name⟩) = true ∧ nameSizeB m su (qs.set i ⟨qs[i].f0, qs[i].f1, name⟩) = true := by
  unfold sizeB nameSizeB at *
  simp only [Bool.and_eq_true, List.length_set] at *
  have g1 := List.all_eq_true.1 hs.2 _ (List.getElem_mem hi)
  have g2 := List.all_eq_true.1 hn.2 _ (List.getElem_mem hi)
  simp only [Bool.and_eq_true, decide_eq_true_eq] at g2
  refine ⟨⟨⟨hs.1, all_set hs.2 i _ g1⟩, hn.1, all_set hn.2 i _ ?_⟩, ⟨hs.1, all_set hs.2 i _ g1⟩, hn.1, all_set hn.2 i _ ?_⟩
  · simp only [Bool.and_eq_true, decide_eq_true_eq]; exact ⟨⟨hz, g2.1.2⟩, g2.2⟩
  · simp only [Bool.and_eq_true, decide_eq_true_eq]; exact ⟨⟨g2.1.1, hz⟩, g2.2⟩
theorem turn_start (hx : HBox W5 X (.slice A l.length c) (.string st) (.int .i64 ex) (.slice A2 rs.length c2)) (hc : Kd.C k35 W5 A l.length l ∧ Kd.C k39 W5 A2 rs.length rs) (hw : Below w.heap.size w W5) (hb : Below W5.heap.size W5 W) (hY : W5.heap.size ≤ Y)
    (hy : HBox W Y (.slice B m.length d) (.string su) (.int .i64 ey) (.slice B2 qs.length d2)) (h1 : Kd.R k35 35 W b1 ok (.slice B m.length d) m) (h2 : Kd.S k39 39 W b1 ok' (.slice B2 qs.length d2) qs) (hs : sizeB m qs = true) (hn : nameSizeB m su qs = true) {name : ByteArray} (hz : Nm name = true) : TurnIs X Y w (W.setCell ⟨Y, 1, none⟩ (.string name)) A c A2 c2 l st ex rs := by
  refine turn_is hx hc hw (hb.setCell (p := ⟨Y, 1, none⟩) hY _) (hy.put1 _) (Kd.R_set h1 hy.heap (by intro q hq; rcases List.mem_cons.1 hq with rfl | hq; decide; cases hq) 1 _) (Kd.S_set h2 hy.heap (by intro q hq; rcases List.mem_cons.1 hq with rfl | hq; decide; revert hq; revert q; decide) 1 _) hs ?_
  unfold nameSizeB at *
  simp only [Bool.and_eq_true] at *
  exact ⟨⟨by simpa using name_size hz, hn.1.2⟩, hn.2⟩
theorem turn_tok (hx : HBox W5 X (.slice A l.length c) (.string st) (.int .i64 ex) (.slice A2 rs.length c2)) (hc : Kd.C k35 W5 A l.length l ∧ Kd.C k39 W5 A2 rs.length rs) (hw : Below w.heap.size w W5) (hb : Below W5.heap.size W5 W) (hb1 : W5.heap.size ≤ b1) {g : Nat}
    (hy : HBox W Y (.slice (some ⟨g, 0, none⟩) m.length d) (.string su) (.int .i64 ey) (.slice B2 qs.length d2)) (h1 : Kd.R k35 35 W b1 ok (.slice (some ⟨g, 0, none⟩) m.length d) m) (h2 : Kd.S k39 39 W b1 ok' (.slice B2 qs.length d2) qs) (hs : sizeB m qs = true) (hn : nameSizeB m su qs = true) {name : ByteArray} (hz : Nm name = true) (i : Nat) (hi : i < m.length) : TurnIs X Y w (W.setCell ⟨g, i * 3, none⟩ (.string name)) A c A2 c2 l st ex rs := by
  obtain ⟨cells, hg⟩ := Kd.R_typed h1 g (by simp [Value.ownBlock])
  have hgb := Kd.R_base h1 g (by simp [Value.ownBlock])
  obtain ⟨p1, _, _⟩ := put_tok h1 i hi name
  obtain ⟨s1, s2⟩ := set_tok hs hn i hi (name_size hz)
  have hne : Y ≠ g := by rintro rfl; have := hy.heap; rw [hg] at this; cases this
  have hy' := hy.far1 hne (i * 3) (.string name)
  have e : (m.set i ⟨name, m[i].f1, m[i].f2⟩).length = m.length := List.length_set ..
  exact turn_is (m := m.set i ⟨name, m[i].f1, m[i].f2⟩) hx hc hw (hb.setCell (p := ⟨g, i * 3, none⟩) (Nat.le_trans hb1 hgb) _) (by rw [e]; exact hy') (by rw [e]; exact p1) (Kd.S_set h2 hg (by intro q hq; rcases List.mem_cons.1 hq with rfl | hq; decide; revert hq; revert q; decide) _ _) s1 s2
theorem turn_rule (hx : HBox W5 X (.slice A l.length c) (.string st) (.int .i64 ex) (.slice A2 rs.length c2)) (hc : Kd.C k35 W5 A l.length l ∧ Kd.C k39 W5 A2 rs.length rs) (hw : Below w.heap.size w W5) (hb : Below W5.heap.size W5 W) (hb1 : W5.heap.size ≤ b1) {g : Nat}
    (hy : HBox W Y (.slice B m.length d) (.string su) (.int .i64 ey) (.slice (some ⟨g, 0, none⟩) qs.length d2)) (h1 : Kd.R k35 35 W b1 ok (.slice B m.length d) m) (h2 : Kd.S k39 39 W b1 (fun _ => True) (.slice (some ⟨g, 0, none⟩) qs.length d2) qs) (hs : sizeB m qs = true) (hn : nameSizeB m su qs = true) {name : ByteArray} (hz : Nm name = true) (i : Nat) (hi : i < qs.length) :
    TurnIs X Y w (W.setCell ⟨g, i * 3, none⟩ (.string name)) A c A2 c2 l st ex rs ∧ TurnIs X Y w (W.setCell ⟨g, i * 3 + 2, none⟩ (.string name)) A c A2 c2 l st ex rs := by
  obtain ⟨cells, hg⟩ := Kd.S_typed h2 g (by simp [Value.ownBlock])
  have hgb := Kd.S_base h2 g (by simp [Value.ownBlock])
  obtain ⟨p1, p2, _⟩ := put_rule h2 i hi name
  obtain ⟨⟨s1, s2⟩, s3, s4⟩ := set_rule hs hn i hi (name_size hz)
  have hne : Y ≠ g := by rintro rfl; have := hy.heap; rw [hg] at this; cases this
  have hy' := hy.far1 hne (i * 3) (.string name)
  have hy2 := hy.far1 hne (i * 3 + 2) (.string name)
  have e1 : (qs.set i ⟨name, qs[i].f1, qs[i].f2⟩).length = qs.length := List.length_set ..
  have e2 : (qs.set i ⟨qs[i].f0, qs[i].f1, name⟩).length = qs.length := List.length_set ..
  have ht : ∀ q, q ∈ 35 :: k35.E → q ≠ 39 := by intro q hq; rcases List.mem_cons.1 hq with rfl | hq; decide; cases hq
  exact ⟨turn_is (qs := qs.set i ⟨name, qs[i].f1, qs[i].f2⟩) hx hc hw (hb.setCell (p := ⟨g, i * 3, none⟩) (Nat.le_trans hb1 hgb) _) (by rw [e1]; exact hy') (Kd.R_set h1 hg ht _ _) (by rw [e1]; exact p1) s1 s2, turn_is (qs := qs.set i ⟨qs[i].f0, qs[i].f1, name⟩) hx hc hw (hb.setCell (p := ⟨g, i * 3 + 2, none⟩) (Nat.le_trans hb1 hgb) _) (by rw [e2]; exact hy2) (Kd.R_set h1 hg ht _ _) (by rw [e2]; exact p2) s3 s4⟩
end
set_option maxRecDepth 100000 in
set_option maxHeartbeats 4000000 in
theorem turn_walk (w : World) (ht : Tab w) (A0 : Option Addr) (c0 : Nat) (A3 : Option Addr) (c3 : Nat) (x : S25) (r0 : k35.C w A0 x.f0.length x.f0) (e0 : x.f0.length ≤ c0) (r3 : k39.C w A3 x.f3.length x.f3) (e3 : x.f3.length ≤ c3) {ok : Prop} (hok : ok)
    (wh : Int) (hw : (Lit.int .i64 wh).wf = true) (at_ : Int) (ha : (Lit.int .i64 at_).wf = true) (name : ByteArray) (hn : name.size ≤ 140737488351232) :
    Calls Tryd.prog 7 #[.agg #[.slice A0 x.f0.length c0, .string x.f1, .int .i64 x.f2, .slice A3 x.f3.length c3], .int .i64 wh, .int .i64 at_, .string name] w fun e w' => e = .returned (.bool true) ∧ Below w.heap.size w w' := by
  have HT := Aside0.mk ht
  have HR0 := Aside0.mk r0
  have HR3 := Aside0.mk r3
  have HE := Aside0.mk (And.intro e0 e3)
  have HN := Aside0.mk hn
  clear ht r0 r3 e0 e3 hn hw ha hok
  go_enter Tryd.func7, Tryd.ntmps7
  go_upto_region 1 with fail
  have hx := HBox.new w (Value.slice A0 x.f0.length c0) (Value.string x.f1) (Value.int IntKind.i64 x.f2) (Value.slice A3 x.f3.length c3)
  have hb : Below w.heap.size w (w.alloc (Obj.cells #[Value.slice A0 x.f0.length c0, Value.string x.f1, Value.int IntKind.i64 x.f2, Value.slice A3 x.f3.length c3] 25)) := below_alloc (Below.refl w.heap.size w) _
  generalize hW2 : w.alloc (Obj.cells #[Value.slice A0 x.f0.length c0, Value.string x.f1, Value.int IntKind.i64 x.f2, Value.slice A3 x.f3.length c3] 25) = W2 at *
  clear hW2
  obtain ⟨X, hX⟩ : ∃ X, X = w.heap.size := ⟨_, rfl⟩
  rw [← hX] at hx
  have HX := Aside0.mk hx
  have HB := Aside0.mk hb
  have HXX := Aside0.mk hX
  rw [← hX]
  clear hX hx hb
  go_wp2_with fail
  go_at_call 8
  refine (begun_yes _).mono ?_
  rintro e w3 ⟨rfl, hb⟩
  have HX1 := Aside0.mk (HX.out.move hb HX.out.lt)
  have HB1 := Aside0.mk (HB.out.trans (hb.mono HB.out.size))
  clear HX HB hb
  have x0 := HX1.out.c0
  have x1 := HX1.out.c1
  have x2 := HX1.out.c2
  have x3 := HX1.out.c3
  go_wp2_with fail
  go_at_call 9
  refine (cut_calls w3 A0 c0 x.f0 x.f1 x.f2 A3 c3 x.f3 (Kd.C_below HR0.out HB1.out) HE.out.1 (Kd.C_below HR3.out HB1.out) HE.out.2).mono ?_
  rintro e w4 ⟨A, c, A2, c2, l, st, ex, rs, rfl, ka, kb, ke, kf, kg⟩
  have hx4 := HX1.out.move kg HX1.out.lt
  have z0 := hx4.c0
  have z1 := hx4.c1
  have z2 := hx4.c2
  have z3 := hx4.c3
  have y0 := hx4.fz 0
  have y1 := hx4.fz 1
  have y2 := hx4.fz 2
  have y3 := hx4.fz 3
  clear x0 x1 x2 x3
  go_upto_region 5 with fail
  have hx5 := hx4.set4 (a' := .slice A l.length c) (b' := .string st) (c' := .int .i64 ex) (d' := .slice A2 rs.length c2)
  have hb5 : Below w.heap.size w (G.set4 w4 X (.slice A l.length c) (.string st) (.int .i64 ex) (.slice A2 rs.length c2)) := below_set4 (HB1.out.trans (kg.mono HB1.out.size)) (by have := HXX.out; omega)
  have far : ∀ k, w3.heap.size ≤ k → (G.set4 w4 X (.slice A l.length c) (.string st) (.int .i64 ex) (.slice A2 rs.length c2)).heap[k]? = w4.heap[k]? := fun k hk => set4_far k (by have := HX1.out.lt; omega)
  have ka5 := R_past ka far
  have kb5 := R_past kb far
  unfold G.set4 at hx5 hb5 ka5 kb5
  generalize hW5 : (((w4.setCell ⟨X, 0, none⟩ (.slice A l.length c)).setCell ⟨X, 1, none⟩ (.string st)).setCell ⟨X, 2, none⟩ (.int .i64 ex)).setCell ⟨X, 3, none⟩ (.slice A2 rs.length c2) = W5 at *
  clear hW5 far ka kb kg hx4 z0 z1 z2 z3 y0 y1 y2 y3
  have HX5 := Aside0.mk hx5
  have HB5 := Aside0.mk hb5
  have HK5 := Aside0.mk (And.intro ka5 (And.intro kb5 (And.intro ke kf)))
  clear hx5 hb5 ka5 kb5 ke kf HX1
  obtain ⟨n1, n2, n3⟩ := Kd.R_reads' HK5.out.1
  obtain ⟨_, n4, n5⟩ := Kd.R_reads' HK5.out.2.1
  have HC5 := Aside0.mk (And.intro n3 (And.intro n2 (And.intro n5 n4)))
  clear n1 n2 n3 n4 n5
  have x0 := HX5.out.c0
  have x1 := HX5.out.c1
  have x2 := HX5.out.c2
  have x3 := HX5.out.c3
  go_cut [27] (fun v27 wx => ∃ b : Bool, v27 = .bool b ∧ (b = false → mayB l st ex rs = true ∧ 0 ≤ at_ ∧ Nm name = true) ∧ Below W5.heap.size W5 wx)
  case first =>
    go_wp2_with fail
    go_at_call 11
    refine (donatusref4_May.calls A c l st ex A2 c2 rs _ W5 HC5.out.1 HC5.out.2.1 HC5.out.2.2.1 HC5.out.2.2.2 (rmay_f HK5.out.2.2.1 HK5.out.2.2.2)).mono ?_
    rintro e w6 ⟨rfl, hb6⟩
    have HB6 := Aside0.mk hb6
    clear hb6
    cases hm : mayB l st ex rs with
    | false =>
      go_wp2_with fail
      go_meet
      exact ⟨true, rfl, fun h => (by cases h), HB6.out⟩
    | true =>
      by_cases hat : at_ < 0
      · have d1 := decide_eq_true hat
        go_wp2_with fail
        go_meet
        exact ⟨true, rfl, fun h => (by cases h), HB6.out⟩
      · have d1 := decide_eq_false hat
        go_wp2_with fail
        go_at_call 17
        refine (rname_calls name (by have := HN.out; omega) w6).mono ?_
        rintro e w7 ⟨rfl, hb7⟩
        have HB7 := Aside0.mk (HB6.out.trans (hb7.mono HB6.out.size))
        clear hb7
        go_wp2_with fail
        go_meet
        exact ⟨_, rfl, fun h => ⟨hm, by omega, by simpa using h⟩, HB7.out⟩
  case rest =>
    obtain ⟨b, rfl, hc, hb⟩ := hcut
    cases b with
    | true =>
      have HB6 := Aside0.mk (HB5.out.trans (hb.mono HB5.out.size))
      clear hb
      go_wp2_with fail
      go_ret
      exact ⟨rfl, HB6.out⟩
    | false =>
      obtain ⟨hmay, hat, hnm⟩ := hc rfl
      have HF := Aside0.mk (And.intro hmay (And.intro hat hnm))
      have HW6 := Aside0.mk hb
      have HX6 := Aside0.mk (HX5.out.move hb HX5.out.lt)
      have HB6 := Aside0.mk (HB5.out.trans (hb.mono HB5.out.size))
      have HC6 := Aside0.mk (And.intro (Kd.C_below HC5.out.1 hb) (And.intro HC5.out.2.1 (And.intro (Kd.C_below HC5.out.2.2.1 hb) HC5.out.2.2.2)))
      clear hb hc hmay hat hnm x0 x1 x2 x3
      have x0 := HX6.out.c0
      have x1 := HX6.out.c1
      have x2 := HX6.out.c2
      have x3 := HX6.out.c3
      go_wp2_with fail
      go_at_call 9
      refine (cut_callsS wc A c l st ex A2 c2 rs HC6.out.1 HC6.out.2.1 HC6.out.2.2.1 HC6.out.2.2.2).mono ?_
      rintro e w7 ⟨B, d, B2, d2, m, su, ey, qs, rfl, ja, jb, je, jf, jg⟩
      have HX7 := Aside0.mk (HX6.out.move jg HX6.out.lt)
      have HB7 := Aside0.mk (HB6.out.trans (jg.mono HB6.out.size))
      have HC7 := Aside0.mk (And.intro (Kd.C_below HC6.out.1 jg) (And.intro HC6.out.2.1 (And.intro (Kd.C_below HC6.out.2.2.1 jg) HC6.out.2.2.2)))
      have HJ7 := Aside0.mk (And.intro ja (And.intro jb (And.intro je jf)))
      have HW7 := Aside0.mk (HW6.out.trans (jg.mono HW6.out.size))
      have HW7' := Aside0.mk (show wc.heap.size ≤ w7.heap.size from jg.size)
      clear ja jb je jf jg x0 x1 x2 x3 HX6 HB6 HC6
      go_upto_block 0 with fail
      have hy := HBox.new w7 (Value.slice B m.length d) (Value.string su) (Value.int IntKind.i64 ey) (Value.slice B2 qs.length d2)
      have hb8 : Below w7.heap.size w7 (w7.alloc (Obj.cells #[Value.slice B m.length d, Value.string su, Value.int IntKind.i64 ey, Value.slice B2 qs.length d2] 25)) := below_alloc (Below.refl w7.heap.size w7) _
      generalize hW8 : w7.alloc (Obj.cells #[Value.slice B m.length d, Value.string su, Value.int IntKind.i64 ey, Value.slice B2 qs.length d2] 25) = W8 at *
      clear hW8
      obtain ⟨Y, hY⟩ : ∃ Y, Y = w7.heap.size := ⟨_, rfl⟩
      rw [← hY] at hy
      rw [← hY]
      have HX8 := Aside0.mk (HX7.out.move hb8 HX7.out.lt)
      have HY8 := Aside0.mk hy
      have HYY := Aside0.mk hY
      have HB8 := Aside0.mk (HB7.out.trans (hb8.mono HB7.out.size))
      have HC8 := Aside0.mk (And.intro (Kd.C_below HC7.out.1 hb8) (And.intro HC7.out.2.1 (And.intro (Kd.C_below HC7.out.2.2.1 hb8) HC7.out.2.2.2)))
      have HJ8 := Aside0.mk (And.intro (Kd.R_below HJ7.out.1 hb8) (And.intro (Kd.S_below HJ7.out.2.1 hb8) HJ7.out.2.2))
      have HW8 := Aside0.mk (HW7.out.trans (hb8.mono HW7.out.size))
      clear hy hb8 hY HX7 HB7 HC7 HJ7
      go_cut [8] (fun v8 wx => v8 = .bool false ∧ TurnIs X Y w wx A c A2 c2 l st ex rs)
      case first =>
        go_upto_if 30 with fail
        obtain ⟨z, hz⟩ : ∃ z, bits BinOp.and IntKind.i64 wh 3 = z := ⟨_, rfl⟩
        rw [hz]
        have HZ : Aside0 (W5.heap.size ≤ Y ∧ W5.heap.size ≤ wc.heap.size) := ⟨by
          have h1 := HW6.out.size
          have h2 := HYY.out
          have h3 := HX8.out.lt
          have h4 := HW7'.out
          omega⟩
        have y0 := HY8.out.c0
        have y1 := HY8.out.c1
        have y3 := HY8.out.c3
        have y4 := HY8.out.fz 1
        have K5 := Aside0.mk (And.intro HC5.out.1 HC5.out.2.2.1)
        cases t0 : (z == 0) with
        | true =>
          go_wp2_with fail
          go_meet
          exact ⟨rfl, turn_start HX5.out K5.out HB5.out HW8.out HZ.out.1 HY8.out HJ8.out.1 HJ8.out.2.1 HJ8.out.2.2.1 HJ8.out.2.2.2 HF.out.2.2⟩
        | false =>
          by_cases q0 : 0 < qs.length
          · have e0 : decide ((qs.length : Int) > 0) = true := by simpa using q0
            cases t1 : (z == 1) with
            | true =>
              obtain ⟨g, cap, eB, _, _, _⟩ := Kd.R_form (Kd.S_R HJ8.out.2.1) q0
              cases eB
              obtain ⟨i, hi, hil⟩ : ∃ i : Nat, Int.tmod at_ (qs.length : Int) = (i : Int) ∧ i < qs.length := tmod_in HF.out.2.1 q0
              obtain ⟨p1, p1', p2, p2', p3, p3'⟩ := put_rule HJ8.out.2.1 i hil name
              have q2 : ¬ ((qs.length : Int) = 0) := by omega
              have q6 : ¬ qs.length = 0 := by omega
              have q7 : ¬ qs = [] := by intro h; rw [h] at q6; exact q6 rfl
              have q3 : ((qs.length : Int) == 0) = false := by simpa using q2
              have q4 : (0 : Int) ≤ (i : Int) := by omega
              have q5 : (i : Int) < (qs.length : Int) := by omega
              clear p1 p1'
              go_upto_region 11 with fail
              go_region_with fail
              all_goals (go_wp2_with fail; go_meet; exact ⟨rfl, turn_drew ((turn_rule HX5.out K5.out HB5.out HW8.out HZ.out.2 HY8.out HJ8.out.1 HJ8.out.2.1 HJ8.out.2.2.1 HJ8.out.2.2.2 HF.out.2.2 i hil).1)⟩)
            | false =>
              cases t2 : (z == 2) with
              | true =>
                obtain ⟨g, cap, eB, _, _, _⟩ := Kd.R_form (Kd.S_R HJ8.out.2.1) q0
                cases eB
                obtain ⟨i, hi, hil⟩ : ∃ i : Nat, Int.tmod at_ (qs.length : Int) = (i : Int) ∧ i < qs.length := tmod_in HF.out.2.1 q0
                obtain ⟨p1, p1', p2, p2', p3, p3'⟩ := put_rule HJ8.out.2.1 i hil name
                have q2 : ¬ ((qs.length : Int) = 0) := by omega
                have q6 : ¬ qs.length = 0 := by omega
                have q7 : ¬ qs = [] := by intro h; rw [h] at q6; exact q6 rfl
                have q3 : ((qs.length : Int) == 0) = false := by simpa using q2
                have q4 : (0 : Int) ≤ (i : Int) := by omega
                have q5 : (i : Int) < (qs.length : Int) := by omega
                clear p1 p1'
                go_upto_region 13 with fail
                go_region_with fail
                all_goals (go_wp2_with fail; go_meet; exact ⟨rfl, turn_drew ((turn_rule HX5.out K5.out HB5.out HW8.out HZ.out.2 HY8.out HJ8.out.1 HJ8.out.2.1 HJ8.out.2.2.1 HJ8.out.2.2.2 HF.out.2.2 i hil).2)⟩)
              | false =>
                by_cases q1 : 0 < m.length
                · have e1 : decide ((m.length : Int) > 0) = true := by simpa using q1
                  obtain ⟨g, cap, eB, _, _, _⟩ := Kd.R_form HJ8.out.1 q1
                  cases eB
                  obtain ⟨i, hi, hil⟩ : ∃ i : Nat, Int.tmod at_ (m.length : Int) = (i : Int) ∧ i < m.length := tmod_in HF.out.2.1 q1
                  obtain ⟨p1, p2, p3⟩ := put_tok HJ8.out.1 i hil name
                  have q2 : ¬ ((m.length : Int) = 0) := by omega
                  have q6 : ¬ m.length = 0 := by omega
                  have q7 : ¬ m = [] := by intro h; rw [h] at q6; exact q6 rfl
                  have q3 : ((m.length : Int) == 0) = false := by simpa using q2
                  have q4 : (0 : Int) ≤ (i : Int) := by omega
                  have q5 : (i : Int) < (m.length : Int) := by omega
                  have HP := Aside0.mk (And.intro p1 hil)
                  clear p1
                  go_upto_region 15 with fail
                  go_region_with fail
                  all_goals (go_wp2_with fail; go_meet; exact ⟨rfl, turn_drew (turn_tok HX5.out K5.out HB5.out HW8.out HZ.out.2 HY8.out HJ8.out.1 HJ8.out.2.1 HJ8.out.2.2.1 HJ8.out.2.2.2 HF.out.2.2 i hil)⟩)
                · have e1 : decide ((m.length : Int) > 0) = false := by simpa using q1
                  go_wp2_with fail
                  go_meet
                  exact ⟨rfl, turn_is HX5.out K5.out HB5.out HW8.out HY8.out HJ8.out.1 HJ8.out.2.1 HJ8.out.2.2.1 HJ8.out.2.2.2⟩
          · have e0 : decide ((qs.length : Int) > 0) = false := by simpa using q0
            cases t1 : (z == 1) with
            | true =>
              cases t2 : (z == 2) with
              | true =>
                by_cases q1 : 0 < m.length
                · have e1 : decide ((m.length : Int) > 0) = true := by simpa using q1
                  obtain ⟨g, cap, eB, _, _, _⟩ := Kd.R_form HJ8.out.1 q1
                  cases eB
                  obtain ⟨i, hi, hil⟩ : ∃ i : Nat, Int.tmod at_ (m.length : Int) = (i : Int) ∧ i < m.length := tmod_in HF.out.2.1 q1
                  obtain ⟨p1, p2, p3⟩ := put_tok HJ8.out.1 i hil name
                  have q2 : ¬ ((m.length : Int) = 0) := by omega
                  have q6 : ¬ m.length = 0 := by omega
                  have q7 : ¬ m = [] := by intro h; rw [h] at q6; exact q6 rfl
                  have q3 : ((m.length : Int) == 0) = false := by simpa using q2
                  have q4 : (0 : Int) ≤ (i : Int) := by omega
                  have q5 : (i : Int) < (m.length : Int) := by omega
                  have HP := Aside0.mk (And.intro p1 hil)
                  clear p1
                  go_upto_region 15 with fail
                  go_region_with fail
                  all_goals (go_wp2_with fail; go_meet; exact ⟨rfl, turn_drew (turn_tok HX5.out K5.out HB5.out HW8.out HZ.out.2 HY8.out HJ8.out.1 HJ8.out.2.1 HJ8.out.2.2.1 HJ8.out.2.2.2 HF.out.2.2 i hil)⟩)
                · have e1 : decide ((m.length : Int) > 0) = false := by simpa using q1
                  go_wp2_with fail
                  go_meet
                  exact ⟨rfl, turn_is HX5.out K5.out HB5.out HW8.out HY8.out HJ8.out.1 HJ8.out.2.1 HJ8.out.2.2.1 HJ8.out.2.2.2⟩
              | false =>
                by_cases q1 : 0 < m.length
                · have e1 : decide ((m.length : Int) > 0) = true := by simpa using q1
                  obtain ⟨g, cap, eB, _, _, _⟩ := Kd.R_form HJ8.out.1 q1
                  cases eB
                  obtain ⟨i, hi, hil⟩ : ∃ i : Nat, Int.tmod at_ (m.length : Int) = (i : Int) ∧ i < m.length := tmod_in HF.out.2.1 q1
                  obtain ⟨p1, p2, p3⟩ := put_tok HJ8.out.1 i hil name
                  have q2 : ¬ ((m.length : Int) = 0) := by omega
                  have q6 : ¬ m.length = 0 := by omega
                  have q7 : ¬ m = [] := by intro h; rw [h] at q6; exact q6 rfl
                  have q3 : ((m.length : Int) == 0) = false := by simpa using q2
                  have q4 : (0 : Int) ≤ (i : Int) := by omega
                  have q5 : (i : Int) < (m.length : Int) := by omega
                  have HP := Aside0.mk (And.intro p1 hil)
                  clear p1
                  go_upto_region 15 with fail
                  go_region_with fail
                  all_goals (go_wp2_with fail; go_meet; exact ⟨rfl, turn_drew (turn_tok HX5.out K5.out HB5.out HW8.out HZ.out.2 HY8.out HJ8.out.1 HJ8.out.2.1 HJ8.out.2.2.1 HJ8.out.2.2.2 HF.out.2.2 i hil)⟩)
                · have e1 : decide ((m.length : Int) > 0) = false := by simpa using q1
                  go_wp2_with fail
                  go_meet
                  exact ⟨rfl, turn_is HX5.out K5.out HB5.out HW8.out HY8.out HJ8.out.1 HJ8.out.2.1 HJ8.out.2.2.1 HJ8.out.2.2.2⟩
            | false =>
              cases t2 : (z == 2) with
              | true =>
                by_cases q1 : 0 < m.length
                · have e1 : decide ((m.length : Int) > 0) = true := by simpa using q1
                  obtain ⟨g, cap, eB, _, _, _⟩ := Kd.R_form HJ8.out.1 q1
                  cases eB
                  obtain ⟨i, hi, hil⟩ : ∃ i : Nat, Int.tmod at_ (m.length : Int) = (i : Int) ∧ i < m.length := tmod_in HF.out.2.1 q1
                  obtain ⟨p1, p2, p3⟩ := put_tok HJ8.out.1 i hil name
                  have q2 : ¬ ((m.length : Int) = 0) := by omega
                  have q6 : ¬ m.length = 0 := by omega
                  have q7 : ¬ m = [] := by intro h; rw [h] at q6; exact q6 rfl
                  have q3 : ((m.length : Int) == 0) = false := by simpa using q2
                  have q4 : (0 : Int) ≤ (i : Int) := by omega
                  have q5 : (i : Int) < (m.length : Int) := by omega
                  have HP := Aside0.mk (And.intro p1 hil)
                  clear p1
                  go_upto_region 15 with fail
                  go_region_with fail
                  all_goals (go_wp2_with fail; go_meet; exact ⟨rfl, turn_drew (turn_tok HX5.out K5.out HB5.out HW8.out HZ.out.2 HY8.out HJ8.out.1 HJ8.out.2.1 HJ8.out.2.2.1 HJ8.out.2.2.2 HF.out.2.2 i hil)⟩)
                · have e1 : decide ((m.length : Int) > 0) = false := by simpa using q1
                  go_wp2_with fail
                  go_meet
                  exact ⟨rfl, turn_is HX5.out K5.out HB5.out HW8.out HY8.out HJ8.out.1 HJ8.out.2.1 HJ8.out.2.2.1 HJ8.out.2.2.2⟩
              | false =>
                by_cases q1 : 0 < m.length
                · have e1 : decide ((m.length : Int) > 0) = true := by simpa using q1
                  obtain ⟨g, cap, eB, _, _, _⟩ := Kd.R_form HJ8.out.1 q1
                  cases eB
                  obtain ⟨i, hi, hil⟩ : ∃ i : Nat, Int.tmod at_ (m.length : Int) = (i : Int) ∧ i < m.length := tmod_in HF.out.2.1 q1
                  obtain ⟨p1, p2, p3⟩ := put_tok HJ8.out.1 i hil name
                  have q2 : ¬ ((m.length : Int) = 0) := by omega
                  have q6 : ¬ m.length = 0 := by omega
                  have q7 : ¬ m = [] := by intro h; rw [h] at q6; exact q6 rfl
                  have q3 : ((m.length : Int) == 0) = false := by simpa using q2
                  have q4 : (0 : Int) ≤ (i : Int) := by omega
                  have q5 : (i : Int) < (m.length : Int) := by omega
                  have HP := Aside0.mk (And.intro p1 hil)
                  clear p1
                  go_upto_region 15 with fail
                  go_region_with fail
                  all_goals (go_wp2_with fail; go_meet; exact ⟨rfl, turn_drew (turn_tok HX5.out K5.out HB5.out HW8.out HZ.out.2 HY8.out HJ8.out.1 HJ8.out.2.1 HJ8.out.2.2.1 HJ8.out.2.2.2 HF.out.2.2 i hil)⟩)
                · have e1 : decide ((m.length : Int) > 0) = false := by simpa using q1
                  go_wp2_with fail
                  go_meet
                  exact ⟨rfl, turn_is HX5.out K5.out HB5.out HW8.out HY8.out HJ8.out.1 HJ8.out.2.1 HJ8.out.2.2.1 HJ8.out.2.2.2⟩
      case rest =>
        obtain ⟨rfl, B', d', B2', d2', m', su', ey', qs', b1, b2, f1, f3, f7, f8, f9, g1, g2, g3, g4⟩ := hcut
        have g0 := HF.out
        have f5 := HK5.out.2.2.1
        have f6 := HK5.out.2.2.2
        have f2 := HC8.out.2.1
        have f4 := HC8.out.2.2.2
        have y0 := b2.c0
        have y1 := b2.c1
        have y2 := b2.c2
        have y3 := b2.c3
        go_wp2_with fail
        go_at_call 11
        refine (donatusref4_May.calls B' d' m' su' ey' B2' d2' qs' _ wc f7 f8 f9 g1 (rmay_f g2 g3)).mono ?_
        rintro e w9 ⟨rfl, hb9⟩
        have B1 := Aside0.mk (b1.move hb9 b1.lt)
        have B2_ := Aside0.mk (b2.move hb9 b2.lt)
        have F1 := Kd.C_below f1 hb9
        have F3 := Kd.C_below f3 hb9
        have F7 := Kd.C_below f7 hb9
        have F9 := Kd.C_below f9 hb9
        have HB9 := Aside0.mk (g4.trans (hb9.mono g4.size))
        clear b1 b2 f1 f3 f7 f9 g4 hb9 y0 y1 y2 y3
        have x0 := B1.out.c0
        have x1 := B1.out.c1
        have x2 := B1.out.c2
        have x3 := B1.out.c3
        have y0 := B2_.out.c0
        have y1 := B2_.out.c1
        have y2 := B2_.out.c2
        have y3 := B2_.out.c3
        cases hm : mayB m' su' ey' qs' with
        | false =>
          have hT : mkS (textL m' su' ey' qs') = ⟨#[]⟩ := by unfold textL; rw [hm]; rfl
          have HC := Aside0.mk (gram_Text.calls B' d' m' su' ey' B2' d2' qs' _ w9 (HT.out.move HB9.out) F7 f8 F9 g1 (text_f g2))
          rw [hT] at HC
          go_wp2_with fail
          go_at_call 12
          refine HC.out.mono ?_
          rintro e wa ⟨rfl, hba⟩
          have HBa := Aside0.mk (HB9.out.trans (hba.mono HB9.out.size))
          clear hba
          go_wp2_with fail
          go_ret
          exact ⟨rfl, HBa.out⟩
        | true =>
          have C12 : Aside0 (∀ w', Below w9.heap.size w9 w' → Calls Tryd.prog 12 #[.agg #[.slice A l.length c, .string st, .int .i64 ex, .slice A2 rs.length c2]] w' fun e w'' => e = .returned (.string (mkS (textL l st ex rs))) ∧ Below w'.heap.size w' w'') := ⟨fun w' hb => gram_Text.calls A c l st ex A2 c2 rs _ w' (HT.out.move (HB9.out.trans (hb.mono HB9.out.size))) (Kd.C_below F1 hb) f2 (Kd.C_below F3 hb) f4 (text_f f5)⟩
          have C13 : Aside0 (∀ w', Below w9.heap.size w9 w' → Calls Tryd.prog 12 #[.agg #[.slice B' m'.length d', .string su', .int .i64 ey', .slice B2' qs'.length d2']] w' fun e w'' => e = .returned (.string (mkS (textL m' su' ey' qs'))) ∧ Below w'.heap.size w' w'') := ⟨fun w' hb => gram_Text.calls B' d' m' su' ey' B2' d2' qs' _ w' (HT.out.move (HB9.out.trans (hb.mono HB9.out.size))) (Kd.C_below F7 hb) f8 (Kd.C_below F9 hb) g1 (text_f g2)⟩
          have C14 : Aside0 (∀ w', Below w9.heap.size w9 w' → Calls Tryd.prog 14 #[.agg #[.slice A l.length c, .string st, .int .i64 ex, .slice A2 rs.length c2], .agg #[.slice B' m'.length d', .string su', .int .i64 ey', .slice B2' qs'.length d2']] w' fun e w'' => e = .returned (.bool (geqB l st ex rs m' su' ey' qs')) ∧ Below w'.heap.size w' w'') := ⟨fun w' hb => gram_Eq.calls A c l st ex A2 c2 rs B' d' m' su' ey' B2' d2' qs' _ w' (Kd.C_below F1 hb) f2 (Kd.C_below F3 hb) f4 (Kd.C_below F7 hb) f8 (Kd.C_below F9 hb) g1 (by unfold gram_Eq.f; rw [if_pos f5])⟩
          have C15 : Aside0 (∀ w', Below w9.heap.size w9 w' → Calls Tryd.prog 15 #[.agg #[.slice A l.length c, .string st, .int .i64 ex, .slice A2 rs.length c2], .agg #[.slice B' m'.length d', .string su', .int .i64 ey', .slice B2' qs'.length d2']] w' fun e w'' => e = .returned (.bool (geqB l st ex rs m' su' ey' qs')) ∧ Below w'.heap.size w' w'') := ⟨fun w' hb => donatusref4_Eq.calls A c l st ex A2 c2 rs B' d' m' su' ey' B2' d2' qs' _ w' (Kd.C_below F1 hb) f2 (Kd.C_below F3 hb) f4 (Kd.C_below F7 hb) f8 (Kd.C_below F9 hb) g1 (by unfold donatusref4_Eq.f; rw [if_pos f5])⟩
          have key : (mkS (textL l st ex rs) = mkS (textL m' su' ey' qs')) ↔ geqB l st ex rs m' su' ey' qs' = true := by
            constructor
            · intro h
              have h2 : textL l st ex rs = textL m' su' ey' qs' := by
                have := congrArg (fun s : ByteArray => s.data.toList) h
                simpa only [mkS_list] using this
              obtain ⟨rfl, rfl, rfl, rfl⟩ := text_inj g0.1 hm h2
              simp [geqB]
            · intro h
              unfold geqB at h
              simp only [Bool.and_eq_true, decide_eq_true_eq] at h
              rw [h.2, h.1.1.2, h.1.2, h.1.1.1]
          clear F1 F3 F7 F9 f2 f4 f5 f6 f8 g1 g2 g3 hm HR0 HR3 HE HC8 HJ8 HK5 HT
          generalize mkS (textL l st ex rs) = bt at *
          generalize mkS (textL m' su' ey' qs') = bs at *
          generalize geqB l st ex rs m' su' ey' qs' = bq at *
          have keep0 : Aside0 (∀ w', Below w9.heap.size w9 w' → (w'.cell? ⟨X, 0, none⟩ = some (.slice A l.length c) ∧ w'.cell? ⟨X, 1, none⟩ = some (.string st) ∧ w'.cell? ⟨X, 2, none⟩ = some (.int .i64 ex) ∧ w'.cell? ⟨X, 3, none⟩ = some (.slice A2 rs.length c2) ∧ w'.cell? ⟨Y, 0, none⟩ = some (.slice B' m'.length d') ∧ w'.cell? ⟨Y, 1, none⟩ = some (.string su') ∧ w'.cell? ⟨Y, 2, none⟩ = some (.int .i64 ey') ∧ w'.cell? ⟨Y, 3, none⟩ = some (.slice B2' qs'.length d2') ∧ Below w9.heap.size w9 w')) := ⟨fun w' hb => ⟨(hb.cell (World.block_lt_of_cell? _ _ x0)).trans x0, (hb.cell (World.block_lt_of_cell? _ _ x1)).trans x1, (hb.cell (World.block_lt_of_cell? _ _ x2)).trans x2, (hb.cell (World.block_lt_of_cell? _ _ x3)).trans x3, (hb.cell (World.block_lt_of_cell? _ _ y0)).trans y0, (hb.cell (World.block_lt_of_cell? _ _ y1)).trans y1, (hb.cell (World.block_lt_of_cell? _ _ y2)).trans y2, (hb.cell (World.block_lt_of_cell? _ _ y3)).trans y3, hb⟩⟩
          have pick : Aside0 (∀ w', (w'.cell? ⟨X, 0, none⟩ = some (.slice A l.length c) ∧ w'.cell? ⟨X, 1, none⟩ = some (.string st) ∧ w'.cell? ⟨X, 2, none⟩ = some (.int .i64 ex) ∧ w'.cell? ⟨X, 3, none⟩ = some (.slice A2 rs.length c2) ∧ w'.cell? ⟨Y, 0, none⟩ = some (.slice B' m'.length d') ∧ w'.cell? ⟨Y, 1, none⟩ = some (.string su') ∧ w'.cell? ⟨Y, 2, none⟩ = some (.int .i64 ey') ∧ w'.cell? ⟨Y, 3, none⟩ = some (.slice B2' qs'.length d2') ∧ Below w9.heap.size w9 w') → Below w9.heap.size w9 w') := ⟨fun w' h => h.2.2.2.2.2.2.2.2⟩
          have stepS : Aside0 (∀ w' w'', Below w'.heap.size w' w'' → (w'.cell? ⟨X, 0, none⟩ = some (.slice A l.length c) ∧ w'.cell? ⟨X, 1, none⟩ = some (.string st) ∧ w'.cell? ⟨X, 2, none⟩ = some (.int .i64 ex) ∧ w'.cell? ⟨X, 3, none⟩ = some (.slice A2 rs.length c2) ∧ w'.cell? ⟨Y, 0, none⟩ = some (.slice B' m'.length d') ∧ w'.cell? ⟨Y, 1, none⟩ = some (.string su') ∧ w'.cell? ⟨Y, 2, none⟩ = some (.int .i64 ey') ∧ w'.cell? ⟨Y, 3, none⟩ = some (.slice B2' qs'.length d2') ∧ Below w9.heap.size w9 w') → (w''.cell? ⟨X, 0, none⟩ = some (.slice A l.length c) ∧ w''.cell? ⟨X, 1, none⟩ = some (.string st) ∧ w''.cell? ⟨X, 2, none⟩ = some (.int .i64 ex) ∧ w''.cell? ⟨X, 3, none⟩ = some (.slice A2 rs.length c2) ∧ w''.cell? ⟨Y, 0, none⟩ = some (.slice B' m'.length d') ∧ w''.cell? ⟨Y, 1, none⟩ = some (.string su') ∧ w''.cell? ⟨Y, 2, none⟩ = some (.int .i64 ey') ∧ w''.cell? ⟨Y, 3, none⟩ = some (.slice B2' qs'.length d2') ∧ Below w9.heap.size w9 w'')) := ⟨fun w' w'' k h => keep0.out _ ((pick.out _ h).trans (k.mono (pick.out _ h).size))⟩
          cases bq with
          | true =>
            obtain rfl := key.2 rfl
            go_upto_region 18 with fail
            go_region_held3 (fun w' => w'.cell? ⟨X, 0, none⟩ = some (.slice A l.length c) ∧ w'.cell? ⟨X, 1, none⟩ = some (.string st) ∧ w'.cell? ⟨X, 2, none⟩ = some (.int .i64 ex) ∧ w'.cell? ⟨X, 3, none⟩ = some (.slice A2 rs.length c2) ∧ w'.cell? ⟨Y, 0, none⟩ = some (.slice B' m'.length d') ∧ w'.cell? ⟨Y, 1, none⟩ = some (.string su') ∧ w'.cell? ⟨Y, 2, none⟩ = some (.int .i64 ey') ∧ w'.cell? ⟨Y, 3, none⟩ = some (.slice B2' qs'.length d2') ∧ Below w9.heap.size w9 w')
              (first | exact keep0.out _ (below_drew1 (Below.refl _ _)) | exact stepS.out _ _ (by assumption) (by assumption))
              (first
                | (go_at_call 12; (with_reducible refine Calls.mono (C12.out _ (pick.out _ (by assumption))) ?_); rintro e wa ⟨rfl, hh⟩)
                | (go_at_call 12; (with_reducible refine Calls.mono (C13.out _ (pick.out _ (by assumption))) ?_); rintro e wa ⟨rfl, hh⟩)
                | (go_at_call 14; (with_reducible refine Calls.mono (C14.out _ (pick.out _ (by assumption))) ?_); rintro e wa ⟨rfl, hh⟩)
                | (go_at_call 15; (with_reducible refine Calls.mono (C15.out _ (pick.out _ (by assumption))) ?_); rintro e wa ⟨rfl, hh⟩))
            have hBa := Aside0.mk (pick.out wa (by assumption))
            go_wp2_with fail
            go_ret
            exact ⟨rfl, HB9.out.trans (hBa.out.mono HB9.out.size)⟩
          | false =>
            have hne : bt ≠ bs := fun h => by have := key.1 h; cases this
            have d1 : ¬ bt.toList = bs.toList := fun h => hne (toList_eq.1 h)
            have d2 : decide (bt.toList = bs.toList) = false := decide_eq_false d1
            have d3 : decide (bt = bs) = false := decide_eq_false hne
            have d4 : (bt.toList == bs.toList) = false := by simpa using d1
            go_upto_region 18 with fail
            go_region_held3 (fun w' => w'.cell? ⟨X, 0, none⟩ = some (.slice A l.length c) ∧ w'.cell? ⟨X, 1, none⟩ = some (.string st) ∧ w'.cell? ⟨X, 2, none⟩ = some (.int .i64 ex) ∧ w'.cell? ⟨X, 3, none⟩ = some (.slice A2 rs.length c2) ∧ w'.cell? ⟨Y, 0, none⟩ = some (.slice B' m'.length d') ∧ w'.cell? ⟨Y, 1, none⟩ = some (.string su') ∧ w'.cell? ⟨Y, 2, none⟩ = some (.int .i64 ey') ∧ w'.cell? ⟨Y, 3, none⟩ = some (.slice B2' qs'.length d2') ∧ Below w9.heap.size w9 w')
              (first | exact keep0.out _ (below_drew1 (Below.refl _ _)) | exact stepS.out _ _ (by assumption) (by assumption))
              (first
                | (go_at_call 12; (with_reducible refine Calls.mono (C12.out _ (pick.out _ (by assumption))) ?_); rintro e wa ⟨rfl, hh⟩)
                | (go_at_call 12; (with_reducible refine Calls.mono (C13.out _ (pick.out _ (by assumption))) ?_); rintro e wa ⟨rfl, hh⟩)
                | (go_at_call 14; (with_reducible refine Calls.mono (C14.out _ (pick.out _ (by assumption))) ?_); rintro e wa ⟨rfl, hh⟩)
                | (go_at_call 15; (with_reducible refine Calls.mono (C15.out _ (pick.out _ (by assumption))) ?_); rintro e wa ⟨rfl, hh⟩))
            have hBa := Aside0.mk (pick.out wa (by assumption))
            go_wp2_with fail
            go_ret
            exact ⟨rfl, HB9.out.trans (hBa.out.mono HB9.out.size)⟩
end Go.Proofs.YteonnadhdmcloaaDoor.G
