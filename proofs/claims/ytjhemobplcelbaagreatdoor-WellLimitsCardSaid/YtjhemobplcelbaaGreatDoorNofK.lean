/- wof: the law WellNames (printed by mk_nk.py). -/
import Derived.Test.YtjhemobplcelbaaGreatDoorNofJ
import Derived.Test.YtjhemobplcelbaaGreatDoorEvY7
namespace Go.Proofs.YtjhemobplcelbaaGreatDoor.O
open Go.RowKit Go.Proofs.YtjhemobplcelbaaGreatDoorW.PrintWords Go.Proofs.YtjhemobplcelbaaGreatDoorW.PrintLast Go.Proofs.YtjhemobplcelbaaGreatDoorW.PrintMore
open Go.Proofs.YtjhemobplcelbaaGreatDoor.U (SR kSR)
open Go.Proofs.YtjhemobplcelbaaGreatDoor.M (Nm rname_calls)
set_option linter.unusedVariables false
set_option linter.unusedSimpArgs false
theorem begun7_yes (w : World) : Calls Tryz.prog 34 #[] w fun e w' => e = .returned (.bool true) ∧ Below w.heap.size w w' := V.yes_Y7 w
theorem C_none {α : Type} (d : Kd α) (w : World) : Kd.C d w none 0 [] := ⟨rfl, by decide, fun h => absurd h (by decide)⟩
/-- Two answers of Of at one grammar are the same to EqSpec. -/
theorem same_specs {w : World} {ts : List STk} {st : ByteArray} {ex : Int} {rs : List SRu} {v v' : Value} {e e' : Int} (h1 : OfIs ts st ex rs e) (h2 : e ≠ 0 → v = zeroSp) (h3 : e = 0 → SpecAt w ts st ex rs v) (g1 : OfIs ts st ex rs e') (g2 : e' ≠ 0 → v' = zeroSp) (g3 : e' = 0 → SpecAt w ts st ex rs v') :
    e = e' ∧ ∀ w', Below w.heap.size w w' → Calls Tryz.prog 39 #[v, v'] w' fun e w'' => e = .returned (.bool true) ∧ Below w'.heap.size w' w'' := by
  have he := ofIs_one h1 g1
  subst he
  refine ⟨rfl, ?_⟩
  by_cases h : e = 0
  · obtain ⟨A4, A5, A6, A7, c4, c5, c6, c7, rfl, p4, _, p5, _, p6, _, p7, _⟩ := h3 h
    obtain ⟨B4, B5, B6, B7, d4, d5, d6, d7, rfl, q4, _, q5, _, q6, _, q7, _⟩ := g3 h
    refine fun w' hb => ?_
    have k := eqspec_same w' ts.length (leftsF rs).length (startF ts st rs) ex A4 A5 A6 A7 B4 B5 B6 B7 c4 c5 c6 c7 d4 d5 d6 d7 (namesF ts rs) (ts.map STk.f1) (ts.map STk.f2) (rulesF ts st rs) (Kd.C_below p4 hb) (Kd.C_below q4 hb) (by rw [List.length_map]; exact Kd.C_below p5 hb) (by rw [List.length_map]; exact Kd.C_below q5 hb) (by rw [List.length_map]; exact Kd.C_below p6 hb) (by rw [List.length_map]; exact Kd.C_below q6 hb) (Kd.C_below p7 hb) (Kd.C_below q7 hb)
    rw [List.length_map, List.length_map] at k
    exact k
  · rw [h2 h, g2 h]
    refine fun w' hb => ?_
    exact eqspec_same w' 0 0 0 0 none none none none none none none none 0 0 0 0 0 0 0 0 [] [] [] [] (C_none _ _) (C_none _ _) (C_none _ _) (C_none _ _) (C_none _ _) (C_none _ _) (C_none _ _) (C_none _ _)
theorem of_agg {w : World} {ts : List STk} {st : ByteArray} {ex : Int} {rs : List SRu} {v : Value} {e : Int} (h2 : e ≠ 0 → v = zeroSp) (h3 : e = 0 → SpecAt w ts st ex rs v) : ∃ (x0 x1 x2 x3 : Int) (A4 A5 A6 A7 : Option Addr) (n4 c4 n5 c5 n6 c6 n7 c7 : Nat), v = .agg #[.int .i64 x0, .int .i64 x1, .int .i64 x2, .int .i64 x3, .slice A4 n4 c4, .slice A5 n5 c5, .slice A6 n6 c6, .slice A7 n7 c7] := by
  by_cases h : e = 0
  · obtain ⟨A4, A5, A6, A7, c4, c5, c6, c7, rfl, _⟩ := h3 h
    exact ⟨_, _, _, _, _, _, _, _, _, _, _, _, _, _, _, _, rfl⟩
  · rw [h2 h]
    exact ⟨_, _, _, _, _, _, _, _, _, _, _, _, _, _, _, _, rfl⟩
theorem SpecAt.below {w w' : World} {ts : List STk} {st : ByteArray} {ex : Int} {rs : List SRu} {v : Value} (h : SpecAt w ts st ex rs v) (hb : Below w.heap.size w w') : SpecAt w' ts st ex rs v := by
  obtain ⟨A4, A5, A6, A7, c4, c5, c6, c7, e, p4, l4, p5, l5, p6, l6, p7, l7⟩ := h
  exact ⟨A4, A5, A6, A7, c4, c5, c6, c7, e, Kd.C_below p4 hb, l4, Kd.C_below p5 hb, l5, Kd.C_below p6 hb, l6, Kd.C_below p7 hb, l7⟩
def smallR (r : SRu) : Prop := r.f0.size ≤ 1000 ∧ r.f2.size ≤ 1000 ∧ r.f1.length ≤ 100000 ∧ ∀ s ∈ r.f1, s.size ≤ 1000
/-- What the law asks well.Of about. -/
def NmRel (w : World) (G : Nat) (wx : World) : Prop := ∃ (a f : Nat) (st : ByteArray) (rs : List SRu), Bx wx G #[.slice (some ⟨a, 0, none⟩) 3 3, .string st, .int .i64 0, .slice (some ⟨f, 0, none⟩) 3 3] 25 ∧ Kd.C kTk wx (some ⟨a, 0, none⟩) 3 sumTs ∧ Kd.C kRu wx (some ⟨f, 0, none⟩) 3 rs ∧ rs.length = 3 ∧ st.size ≤ 1000 ∧ (∀ r ∈ rs, r.f0.size ≤ 1000 ∧ r.f2.size ≤ 1000 ∧ r.f1.length ≤ 100000 ∧ ∀ s ∈ r.f1, s.size ≤ 1000) ∧ Below w.heap.size w wx
theorem nm_rel {w wx : World} {G a f : Nat} {st : ByteArray} (x y z : SRu) {A1 A2 A3 : Option Addr} {c1 c2 c3 : Nat} (ha : wx.heap[a]? = some (.cells #[.string sN, .int .i64 0, .int .i64 0, .string sP, .int .i64 1, .int .i64 1, .string sM, .int .i64 2, .int .i64 1] 71 (0, 0))) (hG : Bx wx G #[.slice (some ⟨a, 0, none⟩) 3 3, .string st, .int .i64 0, .slice (some ⟨f, 0, none⟩) 3 3] 25)
    (hf : wx.heap[f]? = some (.cells #[.string x.f0, .slice A1 x.f1.length c1, .string x.f2, .string y.f0, .slice A2 y.f1.length c2, .string y.f2, .string z.f0, .slice A3 z.f1.length c3, .string z.f2] 73 (0, 0)))
    (l1 : x.f1.length ≤ c1) (l2 : y.f1.length ≤ c2) (l3 : z.f1.length ≤ c3) (h1 : Kd.C Kd.string wx A1 x.f1.length x.f1) (h2 : Kd.C Kd.string wx A2 y.f1.length y.f1) (h3 : Kd.C Kd.string wx A3 z.f1.length z.f1) (hst : st.size ≤ 1000) (sx : smallR x) (sy : smallR y) (sz : smallR z) (hb : Below w.heap.size w wx) : NmRel w G wx :=
  ⟨a, f, st, [x, y, z], hG, C_tok sumTs (by decide) ha, C_rule3 x y z hf l1 l2 l3 h1 h2 h3, rfl, hst, fun r hr => by
    simp only [List.mem_cons, List.not_mem_nil, or_false] at hr
    rcases hr with rfl | rfl | rfl
    · exact sx
    · exact sy
    · exact sz, hb⟩
theorem rows_of {w wx : World} {b c d : Nat} (hb : wx.heap[b]? = some (.cells #[.string sE, .string sP, .string sE] 9 (0, 0))) (hc : wx.heap[c]? = some (.cells #[.string sE, .string sM, .string sE] 9 (0, 0))) (hd : wx.heap[d]? = some (.cells #[.string sN] 9 (0, 0))) : Kd.C Kd.string wx (some ⟨b, 0, none⟩) 3 [sE, sP, sE] ∧ Kd.C Kd.string wx (some ⟨c, 0, none⟩) 3 [sE, sM, sE] ∧ Kd.C Kd.string wx (some ⟨d, 0, none⟩) 1 [sN] :=
  ⟨C_str [sE, sP, sE] (by decide) hb, C_str [sE, sM, sE] (by decide) hc, C_str [sN] (by decide) hd⟩
theorem sum_small : ∀ t ∈ sumTs, t.f0.size ≤ 1000 := by
  intro t ht
  simp only [sumTs, List.mem_cons, List.not_mem_nil, or_false] at ht
  rcases ht with rfl | rfl | rfl <;> decide
set_option maxRecDepth 100000 in
set_option maxHeartbeats 8000000 in
theorem wellnames_walk (w : World) (which : Int) (hwh : (Lit.int .i64 which).wf = true) (name : ByteArray) {ok : Prop} (hok : ok) :
    Calls Tryz.prog 12 #[.int .i64 which, .string name] w fun e w' => e = .returned (.bool true) ∧ Below w.heap.size w w' := by
  clear hok hwh
  go_enter Tryz.func12, Tryz.ntmps12
  go_upto_region 4 with (first
    | (go_at_call 34; (with_reducible refine Calls.mono (begun7_yes _) ?_); rintro e w3 ⟨rfl, hb3⟩; have HB3 := Aside0.mk hb3; clear hb3))
  go_upto_region 5 with (first
    | (go_at_call 32; (with_reducible refine Calls.mono (sums_calls _) ?_); rintro e w4 ⟨a, b, c, d, f, rfl, hS, hl, hb4⟩; have HS := Aside0.mk (And.intro hS hl); have HB4 := Aside0.mk (HB3.out.trans (hb4.mono HB3.out.size)); clear hS hl hb4))
  have hbA := below_alloc (Below.refl w4.heap.size w4) (.cells #[.slice (some ⟨a, 0, none⟩) 3 3, .string ⟨#[]⟩, .int .i64 0, .slice (some ⟨f, 0, none⟩) 3 3] 25)
  have hxG := Bx.new w4 #[.slice (some ⟨a, 0, none⟩) 3 3, .string ⟨#[]⟩, .int .i64 0, .slice (some ⟨f, 0, none⟩) 3 3] 25
  obtain ⟨G, hG⟩ : ∃ G, G = w4.heap.size := ⟨_, rfl⟩
  rw [← hG] at hxG
  rw [← hG]
  have HG := Aside0.mk (And.intro hxG (And.intro hbA hG))
  generalize w4.alloc (.cells #[.slice (some ⟨a, 0, none⟩) 3 3, .string ⟨#[]⟩, .int .i64 0, .slice (some ⟨f, 0, none⟩) 3 3] 25) = W5 at *
  clear hbA hxG hG
  have HB5 := Aside0.mk (HB4.out.trans (HG.out.2.1.mono HB4.out.size))
  have HS5 : Aside0 (Sm W5 a b c d f (rc0 b c d)) := ⟨HS.out.1.move (fun k hk => HG.out.2.1.block k (by have := HS.out.2; omega))⟩
  have HLT : Aside0 (a < G ∧ b < G ∧ c < G ∧ d < G ∧ f < G ∧ a ≠ f ∧ b ≠ f ∧ c ≠ f ∧ d ≠ f ∧ w.heap.size ≤ f ∧ w.heap.size ≤ G ∧ G < W5.heap.size) := ⟨by have h1 := HS.out.2; have h2 := HG.out.2.2; have h3 := HB3.out.size; have h4 := HG.out.1.lt; have h5 := HB4.out.size; omega⟩
  by_cases hlen : 12 < name.size
  · have t1 : decide ((name.size : Int) > 12) = true := by simp; omega
    clear hlen
    go_wp2_with fail
    go_ret
    exact ⟨rfl, HB5.out⟩
  have t1 : decide ((name.size : Int) > 12) = false := by simp; omega
  have HN12 := Aside0.mk hlen
  have CNM := Aside0.mk (rname_calls name (by omega) W5)
  clear hlen
  obtain ⟨bn, hbn⟩ : ∃ b, Nm name = b := ⟨_, rfl⟩
  rw [hbn] at CNM
  clear hbn
  cases bn with
  | false =>
    go_wp2_with (first
      | (go_at_call 38; (with_reducible refine Calls.mono CNM.out ?_); rintro e w6 ⟨rfl, hd⟩; have HD := Aside0.mk (HB5.out.trans (hd.mono HB5.out.size)); clear hd))
    go_ret
    exact ⟨rfl, HD.out⟩
  | true =>
    go_upto_region 7 with (first
      | (go_at_call 38; (with_reducible refine Calls.mono CNM.out ?_); rintro e w6 ⟨rfl, hd⟩; have HD6 := Aside0.mk hd; clear hd))
    have HG6 := Aside0.mk (HG.out.1.move HD6.out HG.out.1.lt)
    have HS6 : Aside0 (Sm w6 a b c d f (rc0 b c d)) := ⟨HS5.out.move (fun k hk => HD6.out.block k (by have := HLT.out; omega))⟩
    have HB6 := Aside0.mk (HB5.out.trans (HD6.out.mono HB5.out.size))
    have HLT6 : Aside0 (G < w6.heap.size) := ⟨HG6.out.lt⟩
    clear HG HS HS5 HB5 HD6 t1
    go_cut [24] (fun v wx => ∃ k : Int, v = .int .i64 k ∧ wx = w6)
    case first =>
      go_wp2_with fail
      go_meet
      exact ⟨_, rfl, rfl⟩
    case rest =>
    obtain ⟨k, rfl, hwc⟩ := hcut
    have hw2 := hwc.symm
    subst hw2
    have g3 := HG6.out.c 3 rfl
    have gf := fun k => HG6.out.fz k
    have g1 := HG6.out.c 1 rfl
    go_upto_block 0 with fail
    go_cut [24] (fun v wx => v = .int .i64 k ∧ NmRel w G wx)
    case first =>
      have HF6 : Aside0 (Bx w6 f (rc0 b c d) 73) := ⟨⟨HS6.out.he⟩⟩
      have hGf : G ≠ f := by have := HLT.out; omega
      have hfG : f ≠ G := by have := HLT.out; omega
      by_cases h0 : k = 0
      · subst h0
        have f7 := fun o => (HF6.out.onto o).c 7 rfl
        have ff := fun o => (HF6.out.onto o).fz 7
        obtain ⟨r, hr⟩ : ∃ r, r = w6.heap.size := ⟨_, rfl⟩
        have hro : (w6.alloc (.cells #[.string sN, .string name] 9)).heap[r]? = some (.cells #[.string sN, .string name] 9 (0, 0)) := by rw [hr]; exact heap_alloc_new w6 _
        have hkeep : ∀ k, k < w6.heap.size → k ≠ f → ∀ v, ((w6.alloc (.cells #[.string sN, .string name] 9)).setCell ⟨f, 7, none⟩ v).heap[k]? = w6.heap[k]? := fun k h1 h2 v => (Below.heap_setCell _ _ _ _ h2).trans (Below.heap_alloc _ _ _ h1)
        have hrow : ∀ v, ((w6.alloc (.cells #[.string sN, .string name] 9)).setCell ⟨f, 7, none⟩ v).heap[r]? = some (.cells #[.string sN, .string name] 9 (0, 0)) := fun v => (Below.heap_setCell _ _ _ _ (by have := HLT.out; have := HLT6.out; show r ≠ f; omega)).trans hro
        have HE : Aside0 (NmRel w G ((w6.alloc (.cells #[.string sN, .string name] 9)).setCell ⟨f, 7, none⟩ (.slice (some ⟨r, 0, none⟩) 2 2))) := ⟨by
          have hx := HLT.out
          have hy := HLT6.out
          have hs := HS6.out
          obtain ⟨e1, e2, e3⟩ := rows_of (w := w6) ((hkeep b (by omega) (by omega) (.slice (some ⟨r, 0, none⟩) 2 2)).trans hs.hb) ((hkeep c (by omega) (by omega) (.slice (some ⟨r, 0, none⟩) 2 2)).trans hs.hc) ((hkeep d (by omega) (by omega) (.slice (some ⟨r, 0, none⟩) 2 2)).trans hs.hd)
          exact nm_rel ⟨sE, [sE, sP, sE], ⟨#[]⟩⟩ ⟨sE, [sE, sM, sE], ⟨#[]⟩⟩ ⟨sE, [sN, name], ⟨#[]⟩⟩ (A1 := some ⟨b, 0, none⟩) (A2 := some ⟨c, 0, none⟩) (A3 := some ⟨r, 0, none⟩) (c1 := 3) (c2 := 3) (c3 := 2) ((hkeep a (by omega) (by omega) _).trans hs.ha) ⟨(hkeep G (by omega) (by omega) _).trans HG6.out.heap⟩ ((HF6.out.onto (.cells #[.string sN, .string name] 9)).put 7 (.slice (some ⟨r, 0, none⟩) 2 2)).heap (by first | decide | (simp; done) | (show sE.size ≤ 1000; decide) | (show (⟨#[]⟩ : ByteArray).size ≤ 1000; decide) | (show ∀ s ∈ [sE, sM, sE], s.size ≤ 1000; decide) | (show ∀ s ∈ [sN], s.size ≤ 1000; decide)) (by first | decide | (simp; done) | (show sE.size ≤ 1000; decide) | (show (⟨#[]⟩ : ByteArray).size ≤ 1000; decide) | (show ∀ s ∈ [sE, sM, sE], s.size ≤ 1000; decide) | (show ∀ s ∈ [sN], s.size ≤ 1000; decide)) (by first | decide | (simp; done) | (show sE.size ≤ 1000; decide) | (show (⟨#[]⟩ : ByteArray).size ≤ 1000; decide) | (show ∀ s ∈ [sE, sM, sE], s.size ≤ 1000; decide) | (show ∀ s ∈ [sN], s.size ≤ 1000; decide)) e1 e2 (C_str [sN, name] (by first | decide | (simp; done) | (show sE.size ≤ 1000; decide) | (show (⟨#[]⟩ : ByteArray).size ≤ 1000; decide) | (show ∀ s ∈ [sE, sM, sE], s.size ≤ 1000; decide) | (show ∀ s ∈ [sN], s.size ≤ 1000; decide)) (hrow _)) (by first | decide | (simp; done) | (show sE.size ≤ 1000; decide) | (show (⟨#[]⟩ : ByteArray).size ≤ 1000; decide) | (show ∀ s ∈ [sE, sM, sE], s.size ≤ 1000; decide) | (show ∀ s ∈ [sN], s.size ≤ 1000; decide)) ⟨(by first | decide | (simp; done) | (show sE.size ≤ 1000; decide) | (show (⟨#[]⟩ : ByteArray).size ≤ 1000; decide) | (show ∀ s ∈ [sE, sM, sE], s.size ≤ 1000; decide) | (show ∀ s ∈ [sN], s.size ≤ 1000; decide)), (by first | decide | (simp; done) | (show sE.size ≤ 1000; decide) | (show (⟨#[]⟩ : ByteArray).size ≤ 1000; decide) | (show ∀ s ∈ [sE, sM, sE], s.size ≤ 1000; decide) | (show ∀ s ∈ [sN], s.size ≤ 1000; decide)), (by first | decide | (simp; done) | (show sE.size ≤ 1000; decide) | (show (⟨#[]⟩ : ByteArray).size ≤ 1000; decide) | (show ∀ s ∈ [sE, sM, sE], s.size ≤ 1000; decide) | (show ∀ s ∈ [sN], s.size ≤ 1000; decide)), (by first | decide | (simp; done) | (show sE.size ≤ 1000; decide) | (show (⟨#[]⟩ : ByteArray).size ≤ 1000; decide) | (show ∀ s ∈ [sE, sM, sE], s.size ≤ 1000; decide) | (show ∀ s ∈ [sN], s.size ≤ 1000; decide))⟩ ⟨(by first | decide | (simp; done) | (show sE.size ≤ 1000; decide) | (show (⟨#[]⟩ : ByteArray).size ≤ 1000; decide) | (show ∀ s ∈ [sE, sM, sE], s.size ≤ 1000; decide) | (show ∀ s ∈ [sN], s.size ≤ 1000; decide)), (by first | decide | (simp; done) | (show sE.size ≤ 1000; decide) | (show (⟨#[]⟩ : ByteArray).size ≤ 1000; decide) | (show ∀ s ∈ [sE, sM, sE], s.size ≤ 1000; decide) | (show ∀ s ∈ [sN], s.size ≤ 1000; decide)), (by first | decide | (simp; done) | (show sE.size ≤ 1000; decide) | (show (⟨#[]⟩ : ByteArray).size ≤ 1000; decide) | (show ∀ s ∈ [sE, sM, sE], s.size ≤ 1000; decide) | (show ∀ s ∈ [sN], s.size ≤ 1000; decide)), (by first | decide | (simp; done) | (show sE.size ≤ 1000; decide) | (show (⟨#[]⟩ : ByteArray).size ≤ 1000; decide) | (show ∀ s ∈ [sE, sM, sE], s.size ≤ 1000; decide) | (show ∀ s ∈ [sN], s.size ≤ 1000; decide))⟩ ⟨(by first | decide | (simp; done) | (show sE.size ≤ 1000; decide) | (show (⟨#[]⟩ : ByteArray).size ≤ 1000; decide) | (show ∀ s ∈ [sE, sM, sE], s.size ≤ 1000; decide) | (show ∀ s ∈ [sN], s.size ≤ 1000; decide)), (by first | decide | (simp; done) | (show sE.size ≤ 1000; decide) | (show (⟨#[]⟩ : ByteArray).size ≤ 1000; decide) | (show ∀ s ∈ [sE, sM, sE], s.size ≤ 1000; decide) | (show ∀ s ∈ [sN], s.size ≤ 1000; decide)), (by first | decide | (simp; done) | (show sE.size ≤ 1000; decide) | (show (⟨#[]⟩ : ByteArray).size ≤ 1000; decide) | (show ∀ s ∈ [sE, sM, sE], s.size ≤ 1000; decide) | (show ∀ s ∈ [sN], s.size ≤ 1000; decide)), fun s hs => by
            simp only [List.mem_cons, List.not_mem_nil, or_false] at hs
            have hn := HN12.out
            rcases hs with rfl | rfl
            · show sN.size ≤ 1000; decide
            · omega⟩ ((below_alloc HB6.out _).setCell (p := ⟨f, 7, none⟩) (by have := HLT.out; show w.heap.size ≤ f; omega) _)⟩
        rw [hr] at HE
        clear hr hro hkeep hrow hGf hfG
        go_wp2_with fail
        go_meet
        exact ⟨rfl, HE.out⟩
      have t0 : (k == 0) = false := beq_eq_false_iff_ne.2 h0
      clear h0
      by_cases h1 : k = 1
      · subst h1
        have f6 := HF6.out.c 6 rfl
        have f6' := fun k => HF6.out.fz k
        have hkeep : ∀ k, k < w6.heap.size → k ≠ f → k ≠ G → ∀ v u, ((w6.setCell ⟨f, 6, none⟩ v).setCell ⟨G, 1, none⟩ u).heap[k]? = w6.heap[k]? := fun k h1 h2 h3 v u => (Below.heap_setCell _ _ _ _ h3).trans (Below.heap_setCell _ _ _ _ h2)
        have HE : Aside0 (NmRel w G ((w6.setCell ⟨f, 6, none⟩ (.string name)).setCell ⟨G, 1, none⟩ (.string sE))) := ⟨by
          have hx := HLT.out
          have hy := HLT6.out
          have hs := HS6.out
          obtain ⟨e1, e2, e3⟩ := rows_of (w := w6) ((hkeep b (by omega) (by omega) (by omega) (.string name) (.string sE)).trans hs.hb) ((hkeep c (by omega) (by omega) (by omega) (.string name) (.string sE)).trans hs.hc) ((hkeep d (by omega) (by omega) (by omega) (.string name) (.string sE)).trans hs.hd)
          exact nm_rel ⟨sE, [sE, sP, sE], ⟨#[]⟩⟩ ⟨sE, [sE, sM, sE], ⟨#[]⟩⟩ ⟨name, [sN], ⟨#[]⟩⟩ (A1 := some ⟨b, 0, none⟩) (A2 := some ⟨c, 0, none⟩) (A3 := some ⟨d, 0, none⟩) (c1 := 3) (c2 := 3) (c3 := 1) ((hkeep a (by omega) (by omega) (by omega) _ _).trans hs.ha) ((HG6.out.far ⟨f, 6, none⟩ hGf (.string name)).put 1 (.string sE)) ((HF6.out.put 6 (.string name)).far ⟨G, 1, none⟩ hfG (.string sE)).heap (by first | decide | (simp; done) | (show sE.size ≤ 1000; decide) | (show (⟨#[]⟩ : ByteArray).size ≤ 1000; decide) | (show ∀ s ∈ [sE, sM, sE], s.size ≤ 1000; decide) | (show ∀ s ∈ [sN], s.size ≤ 1000; decide)) (by first | decide | (simp; done) | (show sE.size ≤ 1000; decide) | (show (⟨#[]⟩ : ByteArray).size ≤ 1000; decide) | (show ∀ s ∈ [sE, sM, sE], s.size ≤ 1000; decide) | (show ∀ s ∈ [sN], s.size ≤ 1000; decide)) (by first | decide | (simp; done) | (show sE.size ≤ 1000; decide) | (show (⟨#[]⟩ : ByteArray).size ≤ 1000; decide) | (show ∀ s ∈ [sE, sM, sE], s.size ≤ 1000; decide) | (show ∀ s ∈ [sN], s.size ≤ 1000; decide)) e1 e2 e3 (by first | decide | (simp; done) | (show sE.size ≤ 1000; decide) | (show (⟨#[]⟩ : ByteArray).size ≤ 1000; decide) | (show ∀ s ∈ [sE, sM, sE], s.size ≤ 1000; decide) | (show ∀ s ∈ [sN], s.size ≤ 1000; decide)) ⟨(by first | decide | (simp; done) | (show sE.size ≤ 1000; decide) | (show (⟨#[]⟩ : ByteArray).size ≤ 1000; decide) | (show ∀ s ∈ [sE, sM, sE], s.size ≤ 1000; decide) | (show ∀ s ∈ [sN], s.size ≤ 1000; decide)), (by first | decide | (simp; done) | (show sE.size ≤ 1000; decide) | (show (⟨#[]⟩ : ByteArray).size ≤ 1000; decide) | (show ∀ s ∈ [sE, sM, sE], s.size ≤ 1000; decide) | (show ∀ s ∈ [sN], s.size ≤ 1000; decide)), (by first | decide | (simp; done) | (show sE.size ≤ 1000; decide) | (show (⟨#[]⟩ : ByteArray).size ≤ 1000; decide) | (show ∀ s ∈ [sE, sM, sE], s.size ≤ 1000; decide) | (show ∀ s ∈ [sN], s.size ≤ 1000; decide)), (by first | decide | (simp; done) | (show sE.size ≤ 1000; decide) | (show (⟨#[]⟩ : ByteArray).size ≤ 1000; decide) | (show ∀ s ∈ [sE, sM, sE], s.size ≤ 1000; decide) | (show ∀ s ∈ [sN], s.size ≤ 1000; decide))⟩ ⟨(by first | decide | (simp; done) | (show sE.size ≤ 1000; decide) | (show (⟨#[]⟩ : ByteArray).size ≤ 1000; decide) | (show ∀ s ∈ [sE, sM, sE], s.size ≤ 1000; decide) | (show ∀ s ∈ [sN], s.size ≤ 1000; decide)), (by first | decide | (simp; done) | (show sE.size ≤ 1000; decide) | (show (⟨#[]⟩ : ByteArray).size ≤ 1000; decide) | (show ∀ s ∈ [sE, sM, sE], s.size ≤ 1000; decide) | (show ∀ s ∈ [sN], s.size ≤ 1000; decide)), (by first | decide | (simp; done) | (show sE.size ≤ 1000; decide) | (show (⟨#[]⟩ : ByteArray).size ≤ 1000; decide) | (show ∀ s ∈ [sE, sM, sE], s.size ≤ 1000; decide) | (show ∀ s ∈ [sN], s.size ≤ 1000; decide)), (by first | decide | (simp; done) | (show sE.size ≤ 1000; decide) | (show (⟨#[]⟩ : ByteArray).size ≤ 1000; decide) | (show ∀ s ∈ [sE, sM, sE], s.size ≤ 1000; decide) | (show ∀ s ∈ [sN], s.size ≤ 1000; decide))⟩ ⟨by have := HN12.out; show name.size ≤ 1000; omega, (by first | decide | (simp; done) | (show sE.size ≤ 1000; decide) | (show (⟨#[]⟩ : ByteArray).size ≤ 1000; decide) | (show ∀ s ∈ [sE, sM, sE], s.size ≤ 1000; decide) | (show ∀ s ∈ [sN], s.size ≤ 1000; decide)), (by first | decide | (simp; done) | (show sE.size ≤ 1000; decide) | (show (⟨#[]⟩ : ByteArray).size ≤ 1000; decide) | (show ∀ s ∈ [sE, sM, sE], s.size ≤ 1000; decide) | (show ∀ s ∈ [sN], s.size ≤ 1000; decide)), (by first | decide | (simp; done) | (show sE.size ≤ 1000; decide) | (show (⟨#[]⟩ : ByteArray).size ≤ 1000; decide) | (show ∀ s ∈ [sE, sM, sE], s.size ≤ 1000; decide) | (show ∀ s ∈ [sN], s.size ≤ 1000; decide))⟩ ((HB6.out.setCell (p := ⟨f, 6, none⟩) (by show w.heap.size ≤ f; omega) _).setCell (p := ⟨G, 1, none⟩) (by show w.heap.size ≤ G; omega) _)⟩
        clear hkeep
        go_wp2_with fail
        go_meet
        exact ⟨rfl, HE.out⟩
      have t1 : (k == 1) = false := beq_eq_false_iff_ne.2 h1
      clear h1
      by_cases h2 : k = 2
      · subst h2
        have f5 := HF6.out.c 5 rfl
        have f5' := fun k => HF6.out.fz k
        have hkeep : ∀ k, k < w6.heap.size → k ≠ f → ∀ v, (w6.setCell ⟨f, 5, none⟩ v).heap[k]? = w6.heap[k]? := fun k h1 h2 v => Below.heap_setCell _ _ _ _ h2
        have HE : Aside0 (NmRel w G (w6.setCell ⟨f, 5, none⟩ (.string name))) := ⟨by
          have hx := HLT.out
          have hy := HLT6.out
          have hs := HS6.out
          obtain ⟨e1, e2, e3⟩ := rows_of (w := w6) ((hkeep b (by omega) (by omega) (.string name)).trans hs.hb) ((hkeep c (by omega) (by omega) (.string name)).trans hs.hc) ((hkeep d (by omega) (by omega) (.string name)).trans hs.hd)
          exact nm_rel ⟨sE, [sE, sP, sE], ⟨#[]⟩⟩ ⟨sE, [sE, sM, sE], name⟩ ⟨sE, [sN], ⟨#[]⟩⟩ (A1 := some ⟨b, 0, none⟩) (A2 := some ⟨c, 0, none⟩) (A3 := some ⟨d, 0, none⟩) (c1 := 3) (c2 := 3) (c3 := 1) ((hkeep a (by omega) (by omega) _).trans hs.ha) (HG6.out.far ⟨f, 5, none⟩ hGf (.string name)) (HF6.out.put 5 (.string name)).heap (by first | decide | (simp; done) | (show sE.size ≤ 1000; decide) | (show (⟨#[]⟩ : ByteArray).size ≤ 1000; decide) | (show ∀ s ∈ [sE, sM, sE], s.size ≤ 1000; decide) | (show ∀ s ∈ [sN], s.size ≤ 1000; decide)) (by first | decide | (simp; done) | (show sE.size ≤ 1000; decide) | (show (⟨#[]⟩ : ByteArray).size ≤ 1000; decide) | (show ∀ s ∈ [sE, sM, sE], s.size ≤ 1000; decide) | (show ∀ s ∈ [sN], s.size ≤ 1000; decide)) (by first | decide | (simp; done) | (show sE.size ≤ 1000; decide) | (show (⟨#[]⟩ : ByteArray).size ≤ 1000; decide) | (show ∀ s ∈ [sE, sM, sE], s.size ≤ 1000; decide) | (show ∀ s ∈ [sN], s.size ≤ 1000; decide)) e1 e2 e3 (by first | decide | (simp; done) | (show sE.size ≤ 1000; decide) | (show (⟨#[]⟩ : ByteArray).size ≤ 1000; decide) | (show ∀ s ∈ [sE, sM, sE], s.size ≤ 1000; decide) | (show ∀ s ∈ [sN], s.size ≤ 1000; decide)) ⟨(by first | decide | (simp; done) | (show sE.size ≤ 1000; decide) | (show (⟨#[]⟩ : ByteArray).size ≤ 1000; decide) | (show ∀ s ∈ [sE, sM, sE], s.size ≤ 1000; decide) | (show ∀ s ∈ [sN], s.size ≤ 1000; decide)), (by first | decide | (simp; done) | (show sE.size ≤ 1000; decide) | (show (⟨#[]⟩ : ByteArray).size ≤ 1000; decide) | (show ∀ s ∈ [sE, sM, sE], s.size ≤ 1000; decide) | (show ∀ s ∈ [sN], s.size ≤ 1000; decide)), (by first | decide | (simp; done) | (show sE.size ≤ 1000; decide) | (show (⟨#[]⟩ : ByteArray).size ≤ 1000; decide) | (show ∀ s ∈ [sE, sM, sE], s.size ≤ 1000; decide) | (show ∀ s ∈ [sN], s.size ≤ 1000; decide)), (by first | decide | (simp; done) | (show sE.size ≤ 1000; decide) | (show (⟨#[]⟩ : ByteArray).size ≤ 1000; decide) | (show ∀ s ∈ [sE, sM, sE], s.size ≤ 1000; decide) | (show ∀ s ∈ [sN], s.size ≤ 1000; decide))⟩ ⟨(by first | decide | (simp; done) | (show sE.size ≤ 1000; decide) | (show (⟨#[]⟩ : ByteArray).size ≤ 1000; decide) | (show ∀ s ∈ [sE, sM, sE], s.size ≤ 1000; decide) | (show ∀ s ∈ [sN], s.size ≤ 1000; decide)), by have := HN12.out; show name.size ≤ 1000; omega, (by first | decide | (simp; done) | (show sE.size ≤ 1000; decide) | (show (⟨#[]⟩ : ByteArray).size ≤ 1000; decide) | (show ∀ s ∈ [sE, sM, sE], s.size ≤ 1000; decide) | (show ∀ s ∈ [sN], s.size ≤ 1000; decide)), (by first | decide | (simp; done) | (show sE.size ≤ 1000; decide) | (show (⟨#[]⟩ : ByteArray).size ≤ 1000; decide) | (show ∀ s ∈ [sE, sM, sE], s.size ≤ 1000; decide) | (show ∀ s ∈ [sN], s.size ≤ 1000; decide))⟩ ⟨(by first | decide | (simp; done) | (show sE.size ≤ 1000; decide) | (show (⟨#[]⟩ : ByteArray).size ≤ 1000; decide) | (show ∀ s ∈ [sE, sM, sE], s.size ≤ 1000; decide) | (show ∀ s ∈ [sN], s.size ≤ 1000; decide)), (by first | decide | (simp; done) | (show sE.size ≤ 1000; decide) | (show (⟨#[]⟩ : ByteArray).size ≤ 1000; decide) | (show ∀ s ∈ [sE, sM, sE], s.size ≤ 1000; decide) | (show ∀ s ∈ [sN], s.size ≤ 1000; decide)), (by first | decide | (simp; done) | (show sE.size ≤ 1000; decide) | (show (⟨#[]⟩ : ByteArray).size ≤ 1000; decide) | (show ∀ s ∈ [sE, sM, sE], s.size ≤ 1000; decide) | (show ∀ s ∈ [sN], s.size ≤ 1000; decide)), (by first | decide | (simp; done) | (show sE.size ≤ 1000; decide) | (show (⟨#[]⟩ : ByteArray).size ≤ 1000; decide) | (show ∀ s ∈ [sE, sM, sE], s.size ≤ 1000; decide) | (show ∀ s ∈ [sN], s.size ≤ 1000; decide))⟩ (HB6.out.setCell (p := ⟨f, 5, none⟩) (by show w.heap.size ≤ f; omega) _)⟩
        clear hkeep
        go_wp2_with fail
        go_meet
        exact ⟨rfl, HE.out⟩
      have t2 : (k == 2) = false := beq_eq_false_iff_ne.2 h2
      clear h2
      have hkeep : ∀ k, k < w6.heap.size → k ≠ G → ∀ v, (w6.setCell ⟨G, 1, none⟩ v).heap[k]? = w6.heap[k]? := fun k h1 h2 v => Below.heap_setCell _ _ _ _ h2
      have HE : Aside0 (NmRel w G (w6.setCell ⟨G, 1, none⟩ (.string name))) := ⟨by
        have hx := HLT.out
        have hy := HLT6.out
        have hs := HS6.out
        obtain ⟨e1, e2, e3⟩ := rows_of (w := w6) ((hkeep b (by omega) (by omega) (.string name)).trans hs.hb) ((hkeep c (by omega) (by omega) (.string name)).trans hs.hc) ((hkeep d (by omega) (by omega) (.string name)).trans hs.hd)
        exact nm_rel ⟨sE, [sE, sP, sE], ⟨#[]⟩⟩ ⟨sE, [sE, sM, sE], ⟨#[]⟩⟩ ⟨sE, [sN], ⟨#[]⟩⟩ (A1 := some ⟨b, 0, none⟩) (A2 := some ⟨c, 0, none⟩) (A3 := some ⟨d, 0, none⟩) (c1 := 3) (c2 := 3) (c3 := 1) ((hkeep a (by omega) (by omega) _).trans hs.ha) (HG6.out.put 1 (.string name)) (HF6.out.far ⟨G, 1, none⟩ hfG (.string name)).heap (by first | decide | (simp; done) | (show sE.size ≤ 1000; decide) | (show (⟨#[]⟩ : ByteArray).size ≤ 1000; decide) | (show ∀ s ∈ [sE, sM, sE], s.size ≤ 1000; decide) | (show ∀ s ∈ [sN], s.size ≤ 1000; decide)) (by first | decide | (simp; done) | (show sE.size ≤ 1000; decide) | (show (⟨#[]⟩ : ByteArray).size ≤ 1000; decide) | (show ∀ s ∈ [sE, sM, sE], s.size ≤ 1000; decide) | (show ∀ s ∈ [sN], s.size ≤ 1000; decide)) (by first | decide | (simp; done) | (show sE.size ≤ 1000; decide) | (show (⟨#[]⟩ : ByteArray).size ≤ 1000; decide) | (show ∀ s ∈ [sE, sM, sE], s.size ≤ 1000; decide) | (show ∀ s ∈ [sN], s.size ≤ 1000; decide)) e1 e2 e3 (by have := HN12.out; omega) ⟨(by first | decide | (simp; done) | (show sE.size ≤ 1000; decide) | (show (⟨#[]⟩ : ByteArray).size ≤ 1000; decide) | (show ∀ s ∈ [sE, sM, sE], s.size ≤ 1000; decide) | (show ∀ s ∈ [sN], s.size ≤ 1000; decide)), (by first | decide | (simp; done) | (show sE.size ≤ 1000; decide) | (show (⟨#[]⟩ : ByteArray).size ≤ 1000; decide) | (show ∀ s ∈ [sE, sM, sE], s.size ≤ 1000; decide) | (show ∀ s ∈ [sN], s.size ≤ 1000; decide)), (by first | decide | (simp; done) | (show sE.size ≤ 1000; decide) | (show (⟨#[]⟩ : ByteArray).size ≤ 1000; decide) | (show ∀ s ∈ [sE, sM, sE], s.size ≤ 1000; decide) | (show ∀ s ∈ [sN], s.size ≤ 1000; decide)), (by first | decide | (simp; done) | (show sE.size ≤ 1000; decide) | (show (⟨#[]⟩ : ByteArray).size ≤ 1000; decide) | (show ∀ s ∈ [sE, sM, sE], s.size ≤ 1000; decide) | (show ∀ s ∈ [sN], s.size ≤ 1000; decide))⟩ ⟨(by first | decide | (simp; done) | (show sE.size ≤ 1000; decide) | (show (⟨#[]⟩ : ByteArray).size ≤ 1000; decide) | (show ∀ s ∈ [sE, sM, sE], s.size ≤ 1000; decide) | (show ∀ s ∈ [sN], s.size ≤ 1000; decide)), (by first | decide | (simp; done) | (show sE.size ≤ 1000; decide) | (show (⟨#[]⟩ : ByteArray).size ≤ 1000; decide) | (show ∀ s ∈ [sE, sM, sE], s.size ≤ 1000; decide) | (show ∀ s ∈ [sN], s.size ≤ 1000; decide)), (by first | decide | (simp; done) | (show sE.size ≤ 1000; decide) | (show (⟨#[]⟩ : ByteArray).size ≤ 1000; decide) | (show ∀ s ∈ [sE, sM, sE], s.size ≤ 1000; decide) | (show ∀ s ∈ [sN], s.size ≤ 1000; decide)), (by first | decide | (simp; done) | (show sE.size ≤ 1000; decide) | (show (⟨#[]⟩ : ByteArray).size ≤ 1000; decide) | (show ∀ s ∈ [sE, sM, sE], s.size ≤ 1000; decide) | (show ∀ s ∈ [sN], s.size ≤ 1000; decide))⟩ ⟨(by first | decide | (simp; done) | (show sE.size ≤ 1000; decide) | (show (⟨#[]⟩ : ByteArray).size ≤ 1000; decide) | (show ∀ s ∈ [sE, sM, sE], s.size ≤ 1000; decide) | (show ∀ s ∈ [sN], s.size ≤ 1000; decide)), (by first | decide | (simp; done) | (show sE.size ≤ 1000; decide) | (show (⟨#[]⟩ : ByteArray).size ≤ 1000; decide) | (show ∀ s ∈ [sE, sM, sE], s.size ≤ 1000; decide) | (show ∀ s ∈ [sN], s.size ≤ 1000; decide)), (by first | decide | (simp; done) | (show sE.size ≤ 1000; decide) | (show (⟨#[]⟩ : ByteArray).size ≤ 1000; decide) | (show ∀ s ∈ [sE, sM, sE], s.size ≤ 1000; decide) | (show ∀ s ∈ [sN], s.size ≤ 1000; decide)), (by first | decide | (simp; done) | (show sE.size ≤ 1000; decide) | (show (⟨#[]⟩ : ByteArray).size ≤ 1000; decide) | (show ∀ s ∈ [sE, sM, sE], s.size ≤ 1000; decide) | (show ∀ s ∈ [sN], s.size ≤ 1000; decide))⟩ (HB6.out.setCell (p := ⟨G, 1, none⟩) (by show w.heap.size ≤ G; omega) _)⟩
      clear hkeep
      go_wp2_with fail
      go_meet
      exact ⟨rfl, HE.out⟩
    case rest =>
    obtain ⟨rfl, a', f', st, rs, hbx, hts, hrs, hr3, hst, hrn, hbw⟩ := hcut
    have C1 : Aside0 (∀ w', Below wc.heap.size wc w' → Calls Tryz.prog 37 #[.agg #[.slice (some ⟨a', 0, none⟩) 3 3, .string st, .int .i64 0, .slice (some ⟨f', 0, none⟩) 3 3]] w' (OfPost w' sumTs st 0 rs)) := ⟨fun w' hb => by
      have h := wof_calls w' (some ⟨a', 0, none⟩) 3 sumTs st 0 (some ⟨f', 0, none⟩) 3 rs (Kd.C_below hts hb) (by first | decide | (simp; done) | (show sE.size ≤ 1000; decide) | (show (⟨#[]⟩ : ByteArray).size ≤ 1000; decide) | (show ∀ s ∈ [sE, sM, sE], s.size ≤ 1000; decide) | (show ∀ s ∈ [sN], s.size ≤ 1000; decide)) (by rw [hr3]; exact Kd.C_below hrs hb) (by omega) (by first | decide | (simp; done) | (show sE.size ≤ 1000; decide) | (show (⟨#[]⟩ : ByteArray).size ≤ 1000; decide) | (show ∀ s ∈ [sE, sM, sE], s.size ≤ 1000; decide) | (show ∀ s ∈ [sN], s.size ≤ 1000; decide)) (by omega) (fun r hr => (hrn r hr).2.2.1)
      rw [hr3] at h
      exact h⟩
    have C2 : Aside0 (∀ w', Below wc.heap.size wc w' → Calls Tryz.prog 14 #[.agg #[.slice (some ⟨a', 0, none⟩) 3 3, .string st, .int .i64 0, .slice (some ⟨f', 0, none⟩) 3 3]] w' (OfPost w' sumTs st 0 rs)) := ⟨fun w' hb => by
      have h := of_calls w' (some ⟨a', 0, none⟩) 3 sumTs st 0 (some ⟨f', 0, none⟩) 3 rs (Kd.C_below hts hb) (by first | decide | (simp; done) | (show sE.size ≤ 1000; decide) | (show (⟨#[]⟩ : ByteArray).size ≤ 1000; decide) | (show ∀ s ∈ [sE, sM, sE], s.size ≤ 1000; decide) | (show ∀ s ∈ [sN], s.size ≤ 1000; decide)) (by rw [hr3]; exact Kd.C_below hrs hb) (by omega) (by first | decide | (simp; done) | (show sE.size ≤ 1000; decide) | (show (⟨#[]⟩ : ByteArray).size ≤ 1000; decide) | (show ∀ s ∈ [sE, sM, sE], s.size ≤ 1000; decide) | (show ∀ s ∈ [sN], s.size ≤ 1000; decide)) (by omega) hst sum_small hrn
      rw [hr3] at h
      exact h⟩
    have HGc := Aside0.mk hbx
    have HBc := Aside0.mk hbw
    clear hbx hts hrs hr3 hst hrn hbw g1 g3 gf HG6 HS6 HB6 HLT6 HLT
    have g0 := HGc.out.c 0 rfl
    have g1 := HGc.out.c 1 rfl
    have g2 := HGc.out.c 2 rfl
    have g3 := HGc.out.c 3 rfl
    go_upto_region 17 with (first
      | (go_at_call 37; (with_reducible refine Calls.mono (C1.out _ (Below.refl _ _)) ?_); rintro e w7 ⟨v, err, rfl, h1, h2, h3, hb7⟩; obtain ⟨x0, x1, x2, x3, P4, P5, P6, P7, n4, c4, n5, c5, n6, c6, n7, c7, ev⟩ := of_agg h2 h3; subst ev; have H7 := Aside0.mk (And.intro h1 (And.intro h2 (And.intro h3 hb7))); clear h1 h2 h3 hb7))
    have hbA := below_alloc (Below.refl w7.heap.size w7) (.cells #[.int .i64 x0, .int .i64 x1, .int .i64 x2, .int .i64 x3, .slice P4 n4 c4, .slice P5 n5 c5, .slice P6 n6 c6, .slice P7 n7 c7] 32)
    have hxS := Bx.new w7 #[.int .i64 x0, .int .i64 x1, .int .i64 x2, .int .i64 x3, .slice P4 n4 c4, .slice P5 n5 c5, .slice P6 n6 c6, .slice P7 n7 c7] 32
    obtain ⟨S1, hS1⟩ : ∃ S, S = w7.heap.size := ⟨_, rfl⟩
    rw [← hS1] at hxS
    rw [← hS1]
    have HS1 := Aside0.mk (And.intro hxS hbA)
    generalize w7.alloc (.cells #[.int .i64 x0, .int .i64 x1, .int .i64 x2, .int .i64 x3, .slice P4 n4 c4, .slice P5 n5 c5, .slice P6 n6 c6, .slice P7 n7 c7] 32) = W8 at *
    clear hbA hxS hS1 g0 g1 g2 g3
    have HB8 := Aside0.mk (H7.out.2.2.2.trans (HS1.out.2.mono H7.out.2.2.2.size))
    have HG8 := Aside0.mk (HGc.out.move HB8.out HGc.out.lt)
    have g0 := HG8.out.c 0 rfl
    have g1 := HG8.out.c 1 rfl
    have g2 := HG8.out.c 2 rfl
    have g3 := HG8.out.c 3 rfl
    go_upto_region 18 with (first
      | (go_at_call 14; (with_reducible refine Calls.mono (C2.out _ HB8.out) ?_); rintro e w9 ⟨v, err', rfl, h1, h2, h3, hb9⟩; obtain ⟨y0, y1, y2, y3, R4, R5, R6, R7, m4, d4, m5, d5, m6, d6, m7, d7, ev⟩ := of_agg h2 h3; subst ev; have H9 := Aside0.mk (And.intro h1 (And.intro h2 (And.intro h3 hb9))); clear h1 h2 h3 hb9))
    have hbA := below_alloc (Below.refl w9.heap.size w9) (.cells #[.int .i64 y0, .int .i64 y1, .int .i64 y2, .int .i64 y3, .slice R4 m4 d4, .slice R5 m5 d5, .slice R6 m6 d6, .slice R7 m7 d7] 32)
    have hxS := Bx.new w9 #[.int .i64 y0, .int .i64 y1, .int .i64 y2, .int .i64 y3, .slice R4 m4 d4, .slice R5 m5 d5, .slice R6 m6 d6, .slice R7 m7 d7] 32
    obtain ⟨S2, hS2⟩ : ∃ S, S = w9.heap.size := ⟨_, rfl⟩
    rw [← hS2] at hxS
    rw [← hS2]
    have HS2 := Aside0.mk (And.intro hxS hbA)
    generalize w9.alloc (.cells #[.int .i64 y0, .int .i64 y1, .int .i64 y2, .int .i64 y3, .slice R4 m4 d4, .slice R5 m5 d5, .slice R6 m6 d6, .slice R7 m7 d7] 32) = W10 at *
    clear hbA hxS hS2 g0 g1 g2 g3
    have HB79 : Aside0 (Below w7.heap.size w7 w9) := ⟨HS1.out.2.trans (H9.out.2.2.2.mono HS1.out.2.size)⟩
    obtain ⟨he, hq⟩ := same_specs H7.out.1 H7.out.2.1 (fun h => (H7.out.2.2.1 h).below HB79.out) H9.out.1 H9.out.2.1 H9.out.2.2.1
    subst he
    have CE := Aside0.mk (hq W10 HS2.out.2)
    have HB10 : Aside0 (Below w.heap.size w W10) := ⟨HBc.out.trans ((HB8.out.trans ((H9.out.2.2.2.trans (HS2.out.2.mono H9.out.2.2.2.size)).mono HB8.out.size)).mono HBc.out.size)⟩
    have HX1 := Aside0.mk (HS1.out.1.move (H9.out.2.2.2.trans (HS2.out.2.mono H9.out.2.2.2.size)) HS1.out.1.lt)
    clear hq
    have z0 := HX1.out.c 0 rfl
    have z1 := HX1.out.c 1 rfl
    have z2 := HX1.out.c 2 rfl
    have z3 := HX1.out.c 3 rfl
    have z4 := HX1.out.c 4 rfl
    have z5 := HX1.out.c 5 rfl
    have z6 := HX1.out.c 6 rfl
    have z7 := HX1.out.c 7 rfl
    have u0 := HS2.out.1.c 0 rfl
    have u1 := HS2.out.1.c 1 rfl
    have u2 := HS2.out.1.c 2 rfl
    have u3 := HS2.out.1.c 3 rfl
    have u4 := HS2.out.1.c 4 rfl
    have u5 := HS2.out.1.c 5 rfl
    have u6 := HS2.out.1.c 6 rfl
    have u7 := HS2.out.1.c 7 rfl
    go_wp2_with (first
      | (go_at_call 39; (with_reducible refine Calls.mono CE.out ?_); rintro e w11 ⟨rfl, hd⟩; have HD := Aside0.mk (HB10.out.trans (hd.mono HB10.out.size)); clear hd))
    go_ret
    exact ⟨rfl, HD.out⟩
end Go.Proofs.YtjhemobplcelbaaGreatDoor.O
