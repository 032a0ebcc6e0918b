/- oset: the statements' own begin; donatuslaw3.SetNone answers true. -/
import Derived.Test.YtldgofblflmcbaaSetK
namespace Go.Proofs.Ytldgofblflmcbaa.S
open Go.RowKit Go.Proofs.YtldgofblflmcbaaW.PrintWords Go.Proofs.YtldgofblflmcbaaW.PrintLast Go.Proofs.YtldgofblflmcbaaW.PrintMore
set_option linter.unusedVariables false
set_option linter.unusedSimpArgs false

theorem One.union {w0 w : World} {g g2 : Nat} {F2 : Nat → Prop} {xs ys zs : List Int} {b : Bool} (h : One w0 w g xs) (h2 : I9.St w g2 F2 ys) (hm : ys.length ≤ 100000) (hz : I9.adds xs ys = zs) (hb : decide (xs.length < zs.length) = b) (hl : zs.length ≤ 100000) :
    Calls Try.prog 16 #[.pointer (some ⟨g, 0, none⟩), .pointer (some ⟨g2, 0, none⟩)] w fun e w' => e = .returned (.bool b) ∧ One w0 w' g zs := by
  obtain ⟨F, hs, hf⟩ := h.st
  refine (I9.union_calls hs h.up (by have := h.len; omega) (by omega) _ (I9.list_calls h2 (by omega))).mono fun e w' ha => ?_
  rw [hz, hb] at ha
  exact h.after hf (by rw [← hz]; exact I9.adds_up h.up _) hl ha
theorem One.union0 {w0 w : World} {g : Nat} {xs : List Int} (h : One w0 w g xs) :
    Calls Try.prog 16 #[.pointer (some ⟨g, 0, none⟩), .pointer none] w fun e w' => e = .returned (.bool false) ∧ One w0 w' g xs := by
  obtain ⟨F, hs, hf⟩ := h.st
  refine (I9.union_calls (ys := []) hs h.up (by have := h.len; omega) (by simp) _ ((nil_list w).mono fun e w' ⟨he, hw⟩ => ⟨.slice none 0 0, he, Row.nil _ _ _ _, by rw [hw]; exact Below.refl _ _⟩)).mono fun e w' ha => ?_
  have e1 : I9.adds xs [] = xs := rfl
  rw [e1, decide_eq_false (by omega)] at ha
  exact h.after hf h.up h.len ha
set_option maxHeartbeats 4000000 in
set_option maxRecDepth 100000 in
theorem begun_calls (w : World) : Calls Try.prog 8 #[] w fun e w' => e = .returned (.bool true) ∧ Below w.heap.size w w' := by
  go_enter Try.func8, Try.ntmps8
  go_wp2_with fail
  go_at_call 17
  have hb0 : Below w.heap.size w (w.alloc (.cells #[.int .i64 5, .int .i64 1, .int .i64 5, .int .i64 3] 3)) := (Below.refl _ _).alloc (Nat.le_refl _) _
  refine (I9.of_calls _ (some ⟨w.heap.size, 0, none⟩) 4 [5, 1, 5, 3] (by decide) (lit4 w 5 1 5 3)).mono ?_
  rintro e w1 ⟨g, F, rfl, h1, hb1, hf1⟩
  have e1 : I9.adds [] [5, 1, 5, 3] = [1, 3, 5] := by decide +kernel
  rw [e1] at h1
  have H : Aside0 (I9.OneV w w1 g [1, 3, 5] (.slice none 0 0) []) := ⟨⟨F, fun _ => False, h1, fun k hk => by have := hf1 k hk; rw [World.size_alloc] at this; omega, VI.nil _, fun _ _ h => h, fun _ h => h.elim⟩, by rw [← e1]; exact I9.adds_up List.Pairwise.nil _, hb0.trans (hb1.mono (by rw [World.size_alloc]; omega)), by decide⟩
  clear h1 hb1 hf1 hb0 e1
  go_wp2_with (go_at_call 11; (with_reducible refine (nil_new _).mono ?_); rintro e w' ⟨rfl, hw⟩; obtain rfl := hw.symm)
  go_at_call 22
  refine H.out.list.mono ?_
  rintro e w2 ⟨v, rfl, hr, hb⟩
  obtain ⟨A, cp, rfl, hcp, hrd⟩ := hr.reads
  have h2 := H.out.listed hr hb
  clear H hr hrd hb
  have H := Aside0.mk h2
  clear h2
  go_wp2_with fail
  go_at_call 13
  refine (H.out.add 3 (ys := [1, 3, 5]) (b := true) (by decide +kernel) (by decide +kernel) (by decide)).mono ?_
  rintro e w3 ⟨rfl, h3⟩
  clear H
  have H := Aside0.mk h3
  clear h3
  go_wp2_with fail
  go_at_call 13
  refine (H.out.add 4 (ys := [1, 3, 4, 5]) (b := false) (by decide +kernel) (by decide +kernel) (by decide)).mono ?_
  rintro e w4 ⟨rfl, h3⟩
  clear H
  have H := Aside0.mk h3
  clear h3
  go_wp2_with fail
  go_at_call 15
  refine (H.out.del 9 (ys := [1, 3, 4, 5]) (b := false) (by decide +kernel) (by decide +kernel)).mono ?_
  rintro e w5 ⟨rfl, h3⟩
  clear H
  have H := Aside0.mk h3
  clear h3
  go_wp2_with fail
  go_at_call 18
  refine (H.out.at_ 2).mono ?_
  rintro e w6 ⟨he, hw⟩
  obtain rfl := hw.symm
  obtain rfl : e = .returned (.tuple #[.int .i64 4, .bool true]) := by rw [he]; rfl
  clear he
  obtain ⟨ad, e1, hx0⟩ := at_int H.out.reads.2.2 0 (by decide) rfl
  obtain ⟨ad', e2, hx2⟩ := at_int H.out.reads.2.2 2 (by decide) rfl
  subst e1
  obtain rfl : ad = ad' := by injection e2
  clear e2
  rw [show ([1, 3, 5] : List Int)[0] = 1 from rfl] at hx0
  rw [show ([1, 3, 5] : List Int)[2] = 5 from rfl] at hx2
  have hx00 : w5.cell? ad = some (.int .i64 1) := by
    rw [show ad.add 0 = ad from (by unfold Addr.add; split <;> simp_all)] at hx0
    exact hx0
  rw [show ad.add 2 = ⟨ad.block, ad.off + 2, none⟩ from (by unfold Addr.add; rw [if_neg (by omega)])] at hx2
  have HX2 := Aside0.mk hx2
  go_wp2_with fail
  go_at_call 19
  refine H.out.lenc.mono ?_
  rintro e w7 ⟨rfl, hw⟩
  obtain rfl := hw.symm
  go_wp2_with fail
  go_at_call 20
  refine (H.out.hasD 1 (b := true) (by decide +kernel)).mono ?_
  rintro e w8 ⟨rfl, hd⟩
  have h8 := H.out.move (drawn_below hd)
  clear H hd hx0 hx2 hx00 HX2
  have H := Aside0.mk h8
  clear h8
  go_wp2_with fail
  go_at_call 17
  refine ((H.out.move ((Below.refl _ _).alloc (Nat.le_refl _) _)).of (cp := 1) (lit1 w8 7) (by decide)).mono ?_
  rintro e w9 ⟨g2, F2, rfl, h2, h9⟩
  clear H
  have H := Aside0.mk h9
  have H2 := Aside0.mk h2
  clear h9 h2
  go_wp2_with fail
  go_at_call 16
  refine (H.out.union (ys := I9.adds [] [7]) (zs := [1, 3, 4, 5, 7]) (b := true) H2.out (by decide +kernel) (by decide +kernel) (by decide +kernel) (by decide)).mono ?_
  rintro e w10 ⟨rfl, h10⟩
  clear H
  have H := Aside0.mk h10
  clear h10 H2
  go_wp2_with fail
  go_at_call 20
  refine (H.out.hasD 7 (b := true) (by decide +kernel)).mono ?_
  rintro e w11 ⟨rfl, hd⟩
  have h8 := H.out.move (drawn_below hd)
  clear H hd
  have H := Aside0.mk h8
  clear h8
  go_wp2_with fail
  go_ret
  exact ⟨rfl, H.out.below⟩

set_option maxHeartbeats 4000000 in
set_option maxRecDepth 100000 in
theorem None_calls (w : World) : Calls Try.prog 6 #[] w fun e w' => e = .returned (.bool true) ∧ Below w.heap.size w w' := by
  go_enter Try.func6, Try.ntmps6
  go_wp2_with fail
  go_at_call 18
  refine (nil_at _).mono ?_
  rintro e w' ⟨rfl, hw⟩
  obtain rfl := hw.symm
  go_wp2_with fail
  go_at_call 17
  refine (nil_of ⟨w.heap.size, 0, none⟩ 1 1 _ (by simp [go_sem, Addr.add]) (by simp [go_sem])).mono ?_
  rintro e w' ⟨rfl, hw⟩
  obtain rfl := hw.symm
  go_wp2_with fail
  go_at_call 8
  refine (begun_calls _).mono ?_
  rintro e w1 ⟨rfl, hb⟩
  have HB := Aside0.mk (((Below.refl _ _).alloc (Nat.le_refl _) (.cells #[.int .i64 1] 3)).trans (hb.mono (by rw [World.size_alloc]; omega)))
  clear hb
  go_wp2_with (first
    | (go_at_call 13; (with_reducible refine (nil_add _ _).mono ?_); rintro e w' ⟨rfl, hw⟩; obtain rfl := hw.symm)
    | (go_at_call 15; (with_reducible refine (nil_del _ _).mono ?_); rintro e w' ⟨rfl, hw⟩; obtain rfl := hw.symm)
    | (go_at_call 20; (with_reducible refine (nil_has _ _).mono ?_); rintro e w' ⟨rfl, hw⟩; obtain rfl := hw.symm)
    | (go_at_call 19; (with_reducible refine (nil_len _).mono ?_); rintro e w' ⟨rfl, hw⟩; obtain rfl := hw.symm)
    | (go_at_call 22; (with_reducible refine (nil_list _).mono ?_); rintro e w' ⟨rfl, hw⟩; obtain rfl := hw.symm))
  go_at_call 17
  refine (I9.of_calls _ (some ⟨w1.heap.size, 0, none⟩) 1 [1] (by decide) (lit1 w1 1)).mono ?_
  rintro e w2 ⟨g, F, rfl, h1, hb1, hf1⟩
  have HB1 := Aside0.mk (HB.out.trans ((((Below.refl _ _).alloc (Nat.le_refl _) (.cells #[.int .i64 1] 3)).trans (hb1.mono (by rw [World.size_alloc]; omega))).mono HB.out.size))
  have H1 := Aside0.mk h1
  clear h1 hb1 hf1
  go_wp2_with fail
  go_at_call 16
  refine (nil_union H1.out (by decide +kernel)).mono ?_
  rintro e w3 ⟨rfl, hb⟩
  have HB2 := Aside0.mk (HB1.out.trans (hb.mono HB1.out.size))
  clear hb H1
  go_wp2_with fail
  go_at_call 17
  refine (I9.of_calls _ (some ⟨w3.heap.size, 0, none⟩) 1 [1] (by decide) (lit1 w3 1)).mono ?_
  rintro e w4 ⟨g2, F2, rfl, h1, hb1, hf1⟩
  have hb4 := HB2.out.trans ((((Below.refl _ _).alloc (Nat.le_refl _) (.cells #[.int .i64 1] 3)).trans (hb1.mono (by rw [World.size_alloc]; omega))).mono HB2.out.size)
  have e1 : I9.adds [] [1] = [1] := by decide +kernel
  rw [e1] at h1
  have H : Aside0 (One w w4 g2 [1]) := ⟨⟨F2, h1, fun k hk => by have := hf1 k hk; rw [World.size_alloc] at this; have := HB2.out.size; omega⟩, by rw [← e1]; exact I9.adds_up List.Pairwise.nil _, hb4, by decide⟩
  clear h1 hb1 hf1 hb4 e1
  go_wp2_with fail
  go_at_call 16
  refine H.out.union0.mono ?_
  rintro e w5 ⟨rfl, h5⟩
  have H5 := Aside0.mk h5
  clear h5 H
  go_wp2_with fail
  go_ret
  exact ⟨rfl, H5.out.below⟩
end Go.Proofs.Ytldgofblflmcbaa.S
