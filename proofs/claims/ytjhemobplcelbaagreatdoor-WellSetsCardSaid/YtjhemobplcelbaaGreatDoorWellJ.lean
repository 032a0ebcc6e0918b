/- well: the law WellSets answers true. -/
import Derived.Test.YtjhemobplcelbaaGreatDoorWellI
import Derived.Test.YtjhemobplcelbaaGreatDoorOfH
import Derived.Test.YtjhemobplcelbaaGreatDoorOfK
namespace Go.Proofs.YtjhemobplcelbaaGreatDoor.U
open Go.RowKit Go.Proofs.YtjhemobplcelbaaGreatDoorW.PrintWords Go.Proofs.YtjhemobplcelbaaGreatDoorW.PrintLast Go.Proofs.YtjhemobplcelbaaGreatDoorW.PrintMore
open Go.Proofs.YtjhemobplcelbaaGreatDoor.O (STk SRu kTk kRu Bx Good GoodPost good_calls CutPost cut_calls)
set_option linter.unusedVariables false
set_option linter.unusedSimpArgs false
set_option maxRecDepth 100000 in
set_option maxHeartbeats 4000000 in
theorem wellsets_walk (w : World) (A : Option Addr) (c : Nat) (ts : List STk) (st : ByteArray) (ex : Int) (A2 : Option Addr) (c2 : Nat) (rs : List SRu) (hts : Kd.C kTk w A ts.length ts) (hct : ts.length ≤ c) (hrs : Kd.C kRu w A2 rs.length rs) (hc2 : rs.length ≤ c2) {ok : Prop} (hok : ok) :
    Calls Tryz.prog 9 #[.agg #[.slice A ts.length c, .string st, .int .i64 ex, .slice A2 rs.length c2]] w fun e w' => e = .returned (.bool true) ∧ Below w.heap.size w w' := by
  have HL := Aside0.mk (And.intro hts (And.intro hct (And.intro hrs hc2)))
  have hb := below_alloc (Below.refl w.heap.size w) (.cells #[.slice A ts.length c, .string st, .int .i64 ex, .slice A2 rs.length c2] 25)
  have hx := Bx.new w #[.slice A ts.length c, .string st, .int .i64 ex, .slice A2 rs.length c2] 25
  clear hts hct hrs hc2 hok
  go_enter Tryz.func9, Tryz.ntmps9
  go_upto_region 1 with fail
  obtain ⟨X, hX⟩ : ∃ X, X = w.heap.size := ⟨_, rfl⟩
  rw [← hX] at hx
  rw [← hX]
  have HX := Aside0.mk hx
  have HB := Aside0.mk hb
  generalize w.alloc (.cells #[.slice A ts.length c, .string st, .int .i64 ex, .slice A2 rs.length c2] 25) = W1 at *
  clear hx hb hX
  go_upto_region 4 with (first
    | (go_at_call 34; refine (begun_yes _).mono ?_; rintro e w3 ⟨rfl, hb3⟩; have HB3 := Aside0.mk (HB.out.trans (hb3.mono HB.out.size)); have HX3 := Aside0.mk (HX.out.move hb3 HX.out.lt); clear hb3))
  have x0 := HX3.out.c 0 rfl
  have x1 := HX3.out.c 1 rfl
  have x2 := HX3.out.c 2 rfl
  have x3 := HX3.out.c 3 rfl
  have C1 := Aside0.mk (cut_calls w3 A c ts st ex A2 c2 rs (Kd.C_below HL.out.1 HB3.out) HL.out.2.1 (Kd.C_below HL.out.2.2.1 HB3.out) HL.out.2.2.2)
  go_upto_region 5 with (first
    | (go_at_call 15; (with_reducible refine Calls.mono C1.out ?_); rintro e w4 ⟨A', c', ts', st', ex', A2', c2', rs', rfl, g1, g2, g3, g4, g5, g6, g7, g8, g9, hb4⟩; have HB4 := Aside0.mk (HB3.out.trans (hb4.mono HB3.out.size)); have C2 := Aside0.mk (good_calls w4 A' c' ts' st' ex' A2' c2' rs' g1 g2 g3 g4 g5 g6 g7 g8 g9); clear g1 g2 g3 g4 g5 g6 g7 g8 g9 hb4)
    | (go_at_call 14; (with_reducible refine Calls.mono C2.out ?_); rintro e w5 ⟨t, n, sq, ex5, err, A4, c4, names, A5, c5, lv, A6, c6, sa, A7, c7, rs5, rfl, hg, hb5⟩; have HG := Aside0.mk hg; have HB5 := Aside0.mk (HB4.out.trans (hb5.mono HB4.out.size)); clear hg hb5))
  by_cases he : err = 0
  · subst he
    have hg := HG.out rfl
    have hbA := below_alloc (Below.refl w5.heap.size w5) (.cells #[.int .i64 (t : Int), .int .i64 (n : Int), .int .i64 (sq : Int), .int .i64 ex5, .slice A4 names.length c4, .slice A5 lv.length c5, .slice A6 sa.length c6, .slice A7 rs5.length c7] 32)
    have hxS := Bx.new w5 #[.int .i64 (t : Int), .int .i64 (n : Int), .int .i64 (sq : Int), .int .i64 ex5, .slice A4 names.length c4, .slice A5 lv.length c5, .slice A6 sa.length c6, .slice A7 rs5.length c7] 32
    obtain ⟨Y, hY⟩ : ∃ Y, Y = w5.heap.size := ⟨_, rfl⟩
    rw [← hY] at hxS
    rw [← hY]
    have HA := Aside0.mk hbA
    generalize w5.alloc (.cells #[.int .i64 (t : Int), .int .i64 (n : Int), .int .i64 (sq : Int), .int .i64 ex5, .slice A4 names.length c4, .slice A5 lv.length c5, .slice A6 sa.length c6, .slice A7 rs5.length c7] 32) = W6 at *
    have hg6 := hg.below hbA
    have C3 := Aside0.mk (sets_walk W6 t n sq ex5 A4 A5 A6 A7 names.length c4 lv.length c5 sa.length c6 c7 rs5 hg6.ru hg6.ruc hg6.ok ⟨_, hg6.head, by show (-1 : Int) < 0; decide⟩ hg6.all (by have := hg6.t12; have := hg6.n10; omega) hg6.str.2)
    have y0 := hxS.c 0 rfl
    have y1 := hxS.c 1 rfl
    have y2 := hxS.c 2 rfl
    have y3 := hxS.c 3 rfl
    have y4 := hxS.c 4 rfl
    have y5 := hxS.c 5 rfl
    have y6 := hxS.c 6 rfl
    have y7 := hxS.c 7 rfl
    clear hg hg6 hbA hxS hY x0 x1 x2 x3
    go_wp2_with (first
      | (go_at_call 35; (with_reducible refine Calls.mono C3.out ?_); rintro e w7 ⟨rfl, hb7⟩; have HB7 := Aside0.mk (HB5.out.trans ((HA.out.trans (hb7.mono HA.out.size)).mono HB5.out.size)); clear hb7))
    go_ret
    exact ⟨rfl, HB7.out⟩
  · have t1 : (!(err == 0)) = true := by simpa using he
    have t2 : (err == 0) = false := by simpa using he
    have hbA := below_alloc (Below.refl w5.heap.size w5) (.cells #[.int .i64 (t : Int), .int .i64 (n : Int), .int .i64 (sq : Int), .int .i64 ex5, .slice A4 names.length c4, .slice A5 lv.length c5, .slice A6 sa.length c6, .slice A7 rs5.length c7] 32)
    have HA := Aside0.mk (HB5.out.trans (hbA.mono HB5.out.size))
    clear hbA x0 x1 x2 x3
    go_wp2_with fail
    go_ret
    exact ⟨rfl, HA.out⟩
theorem wellsets_row (w : World) (A0 : Option Addr) (c0 : Nat) (A3 : Option Addr) (c3 : Nat) (x : O.SGr) (r0 : kTk.C w A0 x.f0.length x.f0) (e0 : x.f0.length ≤ c0) (r3 : kRu.C w A3 x.f3.length x.f3) (e3 : x.f3.length ≤ c3) {ok : Prop} (hok : ok) :
    Calls Tryz.prog 9 #[.agg #[.slice A0 x.f0.length c0, .string x.f1, .int .i64 x.f2, .slice A3 x.f3.length c3]] w fun e w' => e = .returned (.bool true) ∧ Below w.heap.size w w' := wellsets_walk w A0 c0 x.f0 x.f1 x.f2 A3 c3 x.f3 r0 e0 r3 e3 hok
end Go.Proofs.YtjhemobplcelbaaGreatDoor.U
