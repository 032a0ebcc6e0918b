/- wof: well.great, well.named (printed by wip/wof). -/
import Derived.Test.YtjhemobplcelbaaGreatDoorNofA
namespace Go.Proofs.YtjhemobplcelbaaGreatDoor.O
open Go.RowKit Go.Proofs.YtjhemobplcelbaaGreatDoorW.PrintWords Go.Proofs.YtjhemobplcelbaaGreatDoorW.PrintLast Go.Proofs.YtjhemobplcelbaaGreatDoorW.PrintMore
open Go.Proofs.YtjhemobplcelbaaGreatDoor.M (idxB idxB_at idxB_none idxB_any IRel)
set_option linter.unusedVariables false
set_option linter.unusedSimpArgs false
theorem infoFn : True := trivial
set_option maxHeartbeats 4000000 in
theorem wgreat_calls (w : World) (A : Option Addr) (c : Nat) (ts : List STk) (st : ByteArray) (ex : Int) (A2 : Option Addr) (c2 : Nat) (rs : List SRu) (hrs : Kd.C kRu w A2 rs.length rs) (hc : rs.length ≤ c2) (hl : rs.length ≤ 1000000) :
    Calls Tryz.prog 62 #[.agg #[.slice A ts.length c, .string st, .int .i64 ex, .slice A2 rs.length c2]] w fun e w' => e = .returned (.bool (longB ts rs)) ∧ Below w.heap.size w w' := by
  have hb := below_alloc (Below.refl w.heap.size w) (.cells #[.slice A ts.length c, .string st, .int .i64 ex, .slice A2 rs.length c2] 25)
  have hx : GBox (w.alloc (.cells #[.slice A ts.length c, .string st, .int .i64 ex, .slice A2 rs.length c2] 25)) w.heap.size _ _ _ _ := GBox.new w
  have HX := Aside0.mk hx
  have HB := Aside0.mk hb
  have HRS := Aside0.mk hrs
  have x3 := hx.c3
  obtain ⟨b1, hb1⟩ : ∃ b, rs.any (fun r => decide (6 < r.f1.length)) = b := ⟨_, rfl⟩
  obtain ⟨b2, hb2⟩ : ∃ b, decide (12 < ts.length) = b := ⟨_, rfl⟩
  obtain ⟨b3, hb3⟩ : ∃ b, decide (30 < rs.length) = b := ⟨_, rfl⟩
  obtain ⟨b4, hb4⟩ : ∃ b, decide (10 < (leftsF rs).length) = b := ⟨_, rfl⟩
  have HLB : Aside0 (longB ts rs = (b1 || (b2 || (b3 || b4)))) := ⟨by rw [← hb1, ← hb2, ← hb3, ← hb4]; rfl⟩
  have t2 : decide ((ts.length : Int) > 12) = b2 := by rw [← hb2]; exact decide_eq_decide.2 (by omega)
  have t3 : decide ((rs.length : Int) > 30) = b3 := by rw [← hb3]; exact decide_eq_decide.2 (by omega)
  have t4 : decide (((leftsF rs).length : Int) > 10) = b4 := by rw [← hb4]; exact decide_eq_decide.2 (by omega)
  have C1 := contains_wide (w.alloc (.cells #[.slice A ts.length c, .string st, .int .i64 ex, .slice A2 rs.length c2] 25)) A2 c2 rs (fun r => decide (6 < r.f1.length)) (Kd.C_below hrs hb) (fun w' _ x Ax cx _ _ _ => wide_calls w' x Ax cx)
  rw [hb1] at C1
  have C1' := Aside0.mk C1
  generalize longB ts rs = lb at *
  clear C1 hb1 hb2 hb3 hb4 hrs hx hb
  go_enter Tryz.func62, Tryz.ntmps62
  go_upto_region 1 with fail
  generalize hXe : w.heap.size = X at *
  generalize w.alloc (.cells #[.slice A ts.length c, .string st, .int .i64 ex, .slice A2 rs.length c2] 25) = W1 at *
  go_upto_region 2 with (first
    | (go_at_call 74; (with_reducible refine Calls.mono C1'.out ?_); rintro e w2 ⟨rfl, hd⟩; have HB2 := Aside0.mk (HB.out.trans (hd.mono (by rw [← hXe]; rw [← hXe] at HB; exact HB.out.size))); have HX2 := Aside0.mk (HX.out.move hd HX.out.lt); clear hd))
  have x3 := HX2.out.c3
  have x0 := HX2.out.c0
  have x1 := HX2.out.c1
  have x2 := HX2.out.c2
  cases b1 with
  | true =>
    go_wp2_with fail
    go_ret
    exact ⟨by rw [HLB.out]; rfl, by rw [hXe]; exact HB2.out⟩
  | false =>
    cases b2 with
    | true =>
      go_wp2_with fail
      go_ret
      exact ⟨by rw [HLB.out]; rfl, by rw [hXe]; exact HB2.out⟩
    | false =>
      cases b3 with
      | true =>
        go_wp2_with fail
        go_ret
        exact ⟨by rw [HLB.out]; rfl, by rw [hXe]; exact HB2.out⟩
      | false =>
        have C2 := Aside0.mk (wlefts_calls w2 A ts.length c st ex A2 c2 rs (Kd.C_below HRS.out (by rw [hXe]; exact HB2.out)) hc hl)
        go_wp2_with (first
          | (go_at_call 64; (with_reducible refine Calls.mono C2.out ?_); rintro e w3 ⟨v, rfl, hv, hd⟩; obtain ⟨Al, cl, rfl⟩ := Kd.R_slice hv; have HB3 := Aside0.mk (HB2.out.trans (hd.mono (by rw [← hXe]; rw [← hXe] at HB2; exact HB2.out.size))); clear hd hv))
        go_ret
        exact ⟨by rw [HLB.out]; rfl, by rw [hXe]; exact HB3.out⟩
/-- What the closures of well.named see. -/
structure NEnv (w : World) (X Y Z : Nat) (A : Option Addr) (c : Nat) (ts : List STk) (st : ByteArray) (ex : Int) (A2 : Option Addr) (n2 c2 : Nat) (Al : Option Addr) (cl : Nat) (l : List ByteArray) : Prop where
  gb : GBox w X (.slice A ts.length c) (.string st) (.int .i64 ex) (.slice A2 n2 c2)
  yb : Bx w Y #[.slice Al l.length cl] 28
  zb : Bx w Z #[.func (.func 82) #[] #[.pointer (some ⟨X, 0, none⟩), .pointer (some ⟨Y, 0, none⟩)]] 75
  ht : Kd.C kTk w A ts.length ts
  hl : Kd.C Kd.string w Al l.length l
  hc : l.length ≤ cl
theorem NEnv.move {w w' : World} {X Y Z : Nat} {A : Option Addr} {c : Nat} {ts : List STk} {st : ByteArray} {ex : Int} {A2 : Option Addr} {n2 c2 : Nat} {Al : Option Addr} {cl : Nat} {l : List ByteArray} (h : NEnv w X Y Z A c ts st ex A2 n2 c2 Al cl l) (hb : Below w.heap.size w w') : NEnv w' X Y Z A c ts st ex A2 n2 c2 Al cl l := ⟨h.gb.move hb h.gb.lt, h.yb.move hb h.yb.lt, h.zb.move hb h.zb.lt, Kd.C_below h.ht hb, Kd.C_below h.hl hb, h.hc⟩
def knownB (ts : List STk) (l : List ByteArray) (s : ByteArray) : Bool := decide (0 ≤ plc s (ts.map STk.f0) 0) || decide (0 ≤ plc s l 0)
def badB (ts : List STk) (l : List ByteArray) (r : SRu) : Bool := (!decide (r.f2 = ⟨#[]⟩) && decide (plc r.f2 (ts.map STk.f0) 0 < 0)) || r.f1.any fun s => !knownB ts l s
set_option maxHeartbeats 4000000 in
theorem known_calls (w : World) (X Y Z : Nat) (A : Option Addr) (c : Nat) (ts : List STk) (st : ByteArray) (ex : Int) (A2 : Option Addr) (n2 c2 : Nat) (Al : Option Addr) (cl : Nat) (l : List ByteArray) (h : NEnv w X Y Z A c ts st ex A2 n2 c2 Al cl l) (s : ByteArray) :
    Calls Tryz.prog 82 #[.string s, .pointer (some ⟨X, 0, none⟩), .pointer (some ⟨Y, 0, none⟩)] w fun e w' => e = .returned (.bool (knownB ts l s)) ∧ Below w.heap.size w w' := by
  have x0 := h.gb.c0
  have x1 := h.gb.c1
  have x2 := h.gb.c2
  have x3 := h.gb.c3
  have C1 := Aside0.mk (wtoken_calls w A c ts st ex A2 n2 c2 s h.ht)
  have H := Aside0.mk h
  have HK : Aside0 (knownB ts l s = (decide (0 ≤ plc s (ts.map STk.f0) 0) || decide (0 ≤ plc s l 0))) := ⟨rfl⟩
  have C2 : Aside0 (∀ w', Below w.heap.size w w' → Calls Tryz.prog 84 #[.slice Al l.length cl, .string s] w' fun e w'' => e = .returned (.bool (decide (0 ≤ plc s l 0))) ∧ w'' = w') := ⟨fun w' hb => contains_calls w' Al cl l s (Kd.C_below h.hl hb) h.hc⟩
  generalize knownB ts l s = b at *
  generalize plc s (ts.map STk.f0) 0 = q at *
  generalize decide (0 ≤ plc s l 0) = bl at *
  clear h
  by_cases hq : 0 ≤ q
  · have t1 : decide (q ≥ 0) = true := decide_eq_true hq
    have HK2 : Aside0 (b = true) := ⟨by rw [HK.out, decide_eq_true hq]; rfl⟩
    clear hq HK
    go_enter Tryz.func82, Tryz.ntmps82
    go_wp2_with (first
      | (go_at_call 83; (with_reducible refine Calls.mono C1.out ?_); rintro e w2 ⟨rfl, hd⟩; have HD := Aside0.mk hd; clear hd))
    go_ret
    exact ⟨by rw [HK2.out]; rfl, HD.out⟩
  · have t1 : decide (q ≥ 0) = false := decide_eq_false hq
    have HK2 : Aside0 (b = bl) := ⟨by rw [HK.out, decide_eq_false hq]; rfl⟩
    clear hq HK
    go_enter Tryz.func82, Tryz.ntmps82
    go_wp2_with (first
      | (go_at_call 83; (with_reducible refine Calls.mono C1.out ?_); rintro e w2 ⟨rfl, hd⟩; have HD := Aside0.mk hd; have y0 := (H.out.yb.move hd H.out.yb.lt).c 0 rfl; have C3 := Aside0.mk (C2.out w2 hd); clear hd)
      | (go_at_call 84; (with_reducible refine Calls.mono C3.out ?_); rintro e w3 ⟨rfl, rfl⟩))
    go_ret
    exact ⟨by rw [HK2.out]; rfl, HD.out⟩
theorem unknown_calls (w : World) (X Y Z : Nat) (A : Option Addr) (c : Nat) (ts : List STk) (st : ByteArray) (ex : Int) (A2 : Option Addr) (n2 c2 : Nat) (Al : Option Addr) (cl : Nat) (l : List ByteArray) (h : NEnv w X Y Z A c ts st ex A2 n2 c2 Al cl l) (s : ByteArray) :
    Calls Tryz.prog 86 #[.string s, .pointer (some ⟨Z, 0, none⟩)] w fun e w' => e = .returned (.bool (!knownB ts l s)) ∧ Below w.heap.size w w' := by
  have C1 := Aside0.mk (known_calls w X Y Z A c ts st ex A2 n2 c2 Al cl l h s)
  have z0 := h.zb.c 0 rfl
  generalize knownB ts l s = b at *
  clear h
  go_enter Tryz.func86, Tryz.ntmps86
  go_wp2_with fail
  go_at_call 82
  refine C1.out.mono ?_
  rintro e w2 ⟨rfl, hd⟩
  have HD := Aside0.mk hd
  clear hd z0 C1
  go_wp2_with fail
  go_ret
  exact ⟨rfl, HD.out⟩
set_option maxHeartbeats 2000000 in
theorem index_unk (w : World) (A : Option Addr) (c : Nat) (xs : List ByteArray) (p : ByteArray → Bool) (Z : Nat) (hr : Kd.C Kd.string w A xs.length xs) (hC : ∀ w', Below w.heap.size w w' → ∀ (x : ByteArray), Calls Tryz.prog 86 #[.string x, .pointer (some ⟨Z, 0, none⟩)] w' fun e w'' => e = .returned (.bool (p x)) ∧ Below w'.heap.size w' w'') :
    Calls Tryz.prog 96 #[.slice A xs.length c, .func (.func 86) #[] #[.pointer (some ⟨Z, 0, none⟩)]] w fun e w' => e = .returned (.int .i64 (idxB p xs)) ∧ Below w.heap.size w w' := by
  have HR := Aside0.mk hr
  have HC := Aside0.mk hC
  have hxl : xs.length ≤ 9223372036854775807 := hr.2.1
  clear hr hC
  go_enter Tryz.func96, Tryz.ntmps96
  go_wp2_with fail
  go_loopg [8] xs.length (fun kq v8 w' => IRel p xs w kq v8 w')
  case atStart => exact ⟨0, by omega, rfl, Below.refl _ _, fun j h => absurd h (Nat.not_lt_zero j)⟩
  case round =>
    obtain ⟨i, hi, rfl, hb, hp⟩ := hrel
    have HI := Aside0.mk hi
    have HB := Aside0.mk hb
    have HP := Aside0.mk hp
    clear hi hb hp
    by_cases hil : i < xs.length
    · have t1 : decide ((i : Int) < (xs.length : Int)) = true := by simp; omega
      obtain ⟨ad, e1, x0⟩ := str_at (Kd.C_below HR.out HB.out) i hil
      subst e1
      have CX := Aside0.mk (HC.out wr HB.out xs[i])
      go_wp2_with fail
      go_at_call 86
      refine CX.out.mono ?_
      rintro e w1 ⟨rfl, hd⟩
      have HB1 := Aside0.mk (HB.out.trans (hd.mono HB.out.size))
      clear hd x0 CX
      obtain ⟨b, hpb⟩ : ∃ b, p xs[i] = b := ⟨_, rfl⟩
      rw [hpb]
      have HPB := Aside0.mk hpb
      clear hpb
      cases b with
      | true =>
        go_wp2_with fail
        go_ret
        exact ⟨by rw [idxB_at hil HPB.out (fun j h => HP.out j h (by omega))]; rfl, HB1.out⟩
      | false =>
        go_wp2_with fail
        go_roundg (gk - 1)
        case measure => have := HI.out; omega
        case rel =>
          refine ⟨i + 1, by have := HI.out; omega, by go_num, HB1.out, fun j h h2 => ?_⟩
          by_cases hj : j < i
          · exact HP.out j hj h2
          · obtain rfl : j = i := by omega
            exact HPB.out
    · have t1 : decide ((i : Int) < (xs.length : Int)) = false := by simp; omega
      go_wp2_with fail
      go_ret
      exact ⟨by rw [idxB_none (fun j h => HP.out j (by have := HI.out; omega) h)]; rfl, HB.out⟩
theorem contains_unk (w : World) (A : Option Addr) (c : Nat) (xs : List ByteArray) (p : ByteArray → Bool) (Z : Nat) (hr : Kd.C Kd.string w A xs.length xs) (hC : ∀ w', Below w.heap.size w w' → ∀ (x : ByteArray), Calls Tryz.prog 86 #[.string x, .pointer (some ⟨Z, 0, none⟩)] w' fun e w'' => e = .returned (.bool (p x)) ∧ Below w'.heap.size w' w'') :
    Calls Tryz.prog 78 #[.slice A xs.length c, .func (.func 86) #[] #[.pointer (some ⟨Z, 0, none⟩)]] w fun e w' => e = .returned (.bool (xs.any p)) ∧ Below w.heap.size w w' := by
  have HC := Aside0.mk (index_unk w A c xs p Z hr hC)
  clear hr hC
  go_enter Tryz.func78, Tryz.ntmps78
  go_wp2_with fail
  go_at_call 96
  refine HC.out.mono ?_
  rintro e w1 ⟨rfl, hb⟩
  have HB := Aside0.mk hb
  clear hb
  go_wp2_with fail
  go_ret
  exact ⟨by rw [← idxB_any]; rfl, HB.out⟩
theorem isTok_calls (w : World) (X Y Z : Nat) (A : Option Addr) (c : Nat) (ts : List STk) (st : ByteArray) (ex : Int) (A2 : Option Addr) (n2 c2 : Nat) (Al : Option Addr) (cl : Nat) (l : List ByteArray) (h : NEnv w X Y Z A c ts st ex A2 n2 c2 Al cl l) (s : ByteArray) :
    Calls Tryz.prog 87 #[.string s, .pointer (some ⟨X, 0, none⟩)] w fun e w' => e = .returned (.bool (decide (0 ≤ plc s (ts.map STk.f0) 0))) ∧ Below w.heap.size w w' := by
  have x0 := h.gb.c0
  have x1 := h.gb.c1
  have x2 := h.gb.c2
  have x3 := h.gb.c3
  have C1 := Aside0.mk (wtoken_calls w A c ts st ex A2 n2 c2 s h.ht)
  clear h
  generalize plc s (ts.map STk.f0) 0 = q at *
  go_enter Tryz.func87, Tryz.ntmps87
  go_wp2_with (first
    | (go_at_call 83; (with_reducible refine Calls.mono C1.out ?_); rintro e w2 ⟨rfl, hd⟩; have HD := Aside0.mk hd; clear hd))
  go_ret
  exact ⟨rfl, HD.out⟩
set_option maxHeartbeats 2000000 in
theorem index_istok (w : World) (A : Option Addr) (c : Nat) (xs : List ByteArray) (p : ByteArray → Bool) (X : Nat) (hr : Kd.C Kd.string w A xs.length xs) (hC : ∀ w', Below w.heap.size w w' → ∀ (x : ByteArray), Calls Tryz.prog 87 #[.string x, .pointer (some ⟨X, 0, none⟩)] w' fun e w'' => e = .returned (.bool (p x)) ∧ Below w'.heap.size w' w'') :
    Calls Tryz.prog 96 #[.slice A xs.length c, .func (.func 87) #[] #[.pointer (some ⟨X, 0, none⟩)]] w fun e w' => e = .returned (.int .i64 (idxB p xs)) ∧ Below w.heap.size w w' := by
  have HR := Aside0.mk hr
  have HC := Aside0.mk hC
  have hxl : xs.length ≤ 9223372036854775807 := hr.2.1
  clear hr hC
  go_enter Tryz.func96, Tryz.ntmps96
  go_wp2_with fail
  go_loopg [8] xs.length (fun kq v8 w' => IRel p xs w kq v8 w')
  case atStart => exact ⟨0, by omega, rfl, Below.refl _ _, fun j h => absurd h (Nat.not_lt_zero j)⟩
  case round =>
    obtain ⟨i, hi, rfl, hb, hp⟩ := hrel
    have HI := Aside0.mk hi
    have HB := Aside0.mk hb
    have HP := Aside0.mk hp
    clear hi hb hp
    by_cases hil : i < xs.length
    · have t1 : decide ((i : Int) < (xs.length : Int)) = true := by simp; omega
      obtain ⟨ad, e1, x0⟩ := str_at (Kd.C_below HR.out HB.out) i hil
      subst e1
      have CX := Aside0.mk (HC.out wr HB.out xs[i])
      go_wp2_with fail
      go_at_call 87
      refine CX.out.mono ?_
      rintro e w1 ⟨rfl, hd⟩
      have HB1 := Aside0.mk (HB.out.trans (hd.mono HB.out.size))
      clear hd x0 CX
      obtain ⟨b, hpb⟩ : ∃ b, p xs[i] = b := ⟨_, rfl⟩
      rw [hpb]
      have HPB := Aside0.mk hpb
      clear hpb
      cases b with
      | true =>
        go_wp2_with fail
        go_ret
        exact ⟨by rw [idxB_at hil HPB.out (fun j h => HP.out j h (by omega))]; rfl, HB1.out⟩
      | false =>
        go_wp2_with fail
        go_roundg (gk - 1)
        case measure => have := HI.out; omega
        case rel =>
          refine ⟨i + 1, by have := HI.out; omega, by go_num, HB1.out, fun j h h2 => ?_⟩
          by_cases hj : j < i
          · exact HP.out j hj h2
          · obtain rfl : j = i := by omega
            exact HPB.out
    · have t1 : decide ((i : Int) < (xs.length : Int)) = false := by simp; omega
      go_wp2_with fail
      go_ret
      exact ⟨by rw [idxB_none (fun j h => HP.out j (by have := HI.out; omega) h)]; rfl, HB.out⟩
theorem contains_istok (w : World) (A : Option Addr) (c : Nat) (xs : List ByteArray) (p : ByteArray → Bool) (X : Nat) (hr : Kd.C Kd.string w A xs.length xs) (hC : ∀ w', Below w.heap.size w w' → ∀ (x : ByteArray), Calls Tryz.prog 87 #[.string x, .pointer (some ⟨X, 0, none⟩)] w' fun e w'' => e = .returned (.bool (p x)) ∧ Below w'.heap.size w' w'') :
    Calls Tryz.prog 78 #[.slice A xs.length c, .func (.func 87) #[] #[.pointer (some ⟨X, 0, none⟩)]] w fun e w' => e = .returned (.bool (xs.any p)) ∧ Below w.heap.size w w' := by
  have HC := Aside0.mk (index_istok w A c xs p X hr hC)
  clear hr hC
  go_enter Tryz.func78, Tryz.ntmps78
  go_wp2_with fail
  go_at_call 96
  refine HC.out.mono ?_
  rintro e w1 ⟨rfl, hb⟩
  have HB := Aside0.mk hb
  clear hb
  go_wp2_with fail
  go_ret
  exact ⟨by rw [← idxB_any]; rfl, HB.out⟩
set_option maxHeartbeats 4000000 in
theorem bad_calls (w : World) (X Y Z : Nat) (A : Option Addr) (c : Nat) (ts : List STk) (st : ByteArray) (ex : Int) (A2 : Option Addr) (n2 c2 : Nat) (Al : Option Addr) (cl : Nat) (l : List ByteArray) (h : NEnv w X Y Z A c ts st ex A2 n2 c2 Al cl l) (r : SRu) (A1 : Option Addr) (c1 : Nat) (hr : Kd.C Kd.string w A1 r.f1.length r.f1) :
    Calls Tryz.prog 85 #[.agg #[.string r.f0, .slice A1 r.f1.length c1, .string r.f2], .pointer (some ⟨X, 0, none⟩), .pointer (some ⟨Z, 0, none⟩)] w fun e w' => e = .returned (.bool (badB ts l r)) ∧ Below w.heap.size w w' := by
  obtain ⟨rf, rr, rp⟩ := r
  dsimp only at *
  have hb1 := below_alloc (Below.refl w.heap.size w) (.cells #[.string rf, .slice A1 rr.length c1, .string rp] 73)
  have hx1 := Bx.new w #[.string rf, .slice A1 rr.length c1, .string rp] 73
  have H := Aside0.mk (h.move hb1)
  have HB := Aside0.mk hb1
  have HX := Aside0.mk hx1
  have HR := Aside0.mk (Kd.C_below hr hb1)
  have HK : Aside0 (badB ts l ⟨rf, rr, rp⟩ = ((!decide (rp = ⟨#[]⟩) && decide (plc rp (ts.map STk.f0) 0 < 0)) || rr.any fun s => !knownB ts l s)) := ⟨rfl⟩
  generalize badB ts l ⟨rf, rr, rp⟩ = b at *
  clear hb1 hx1 h hr
  go_enter Tryz.func85, Tryz.ntmps85
  go_upto_region 1 with fail
  obtain ⟨V, hV⟩ : ∃ V, V = w.heap.size := ⟨_, rfl⟩
  rw [← hV]
  have hx := HX.out
  rw [← hV] at hx
  have HX1 := Aside0.mk hx
  clear hx hV HX
  generalize w.alloc (.cells #[.string rf, .slice A1 rr.length c1, .string rp] 73) = W1 at *
  have C3 : Aside0 (∀ w', Below W1.heap.size W1 w' → Calls Tryz.prog 78 #[.slice A1 rr.length c1, .func (.func 86) #[] #[.pointer (some ⟨Z, 0, none⟩)]] w' fun e w'' => e = .returned (.bool (rr.any fun s => !knownB ts l s)) ∧ Below w'.heap.size w' w'') := ⟨fun w' hb => contains_unk w' A1 c1 rr (fun s => !knownB ts l s) Z (Kd.C_below HR.out hb) (fun w'' hb2 x => unknown_calls w'' X Y Z A c ts st ex A2 n2 c2 Al cl l ((H.out.move hb).move hb2) x)⟩
  have C1 := Aside0.mk (wtoken_calls W1 A c ts st ex A2 n2 c2 rp H.out.ht)
  generalize (rr.any fun s => !knownB ts l s) = ba at *
  generalize plc rp (ts.map STk.f0) 0 = q at *
  have v1 := HX1.out.c 1 rfl
  have v2 := HX1.out.c 2 rfl
  by_cases h5 : rp.toList = []
  · have t5 : (!rp.toList.isEmpty) = false := by rw [h5]; rfl
    have HK2 : Aside0 (b = ba) := ⟨by rw [HK.out, decide_eq_true (show rp = ⟨#[]⟩ from toList_eq.1 (by rw [h5, toList_nil]))]; rfl⟩
    have C4 := Aside0.mk (C3.out W1 (Below.refl _ _))
    clear h5 HK
    go_wp2_with (first
      | (go_at_call 78; (with_reducible refine Calls.mono C4.out ?_); rintro e w3 ⟨rfl, hd⟩; have HD := Aside0.mk (HB.out.trans (hd.mono HB.out.size)); clear hd))
    go_ret
    exact ⟨by rw [HK2.out]; rfl, HD.out⟩
  · have t5 : (!rp.toList.isEmpty) = true := by simpa using h5
    have HK2 : Aside0 (b = (decide (q < 0) || ba)) := ⟨by rw [HK.out, decide_eq_false (show ¬ rp = ⟨#[]⟩ from fun e => h5 (by rw [e, toList_nil]))]; rfl⟩
    have x0 := H.out.gb.c0
    have x1 := H.out.gb.c1
    have x2 := H.out.gb.c2
    have x3 := H.out.gb.c3
    clear h5 HK
    obtain ⟨bq, hbq⟩ : ∃ bq, decide (q < 0) = bq := ⟨_, rfl⟩
    rw [hbq] at HK2
    cases bq with
    | true =>
      go_wp2_with (first
        | (go_at_call 83; (with_reducible refine Calls.mono C1.out ?_); rintro e w2 ⟨rfl, hd⟩; have HD := Aside0.mk (HB.out.trans (hd.mono HB.out.size)); clear hd))
      go_ret
      exact ⟨by rw [HK2.out]; rfl, HD.out⟩
    | false =>
      go_wp2_with (first
        | (go_at_call 83; (with_reducible refine Calls.mono C1.out ?_); rintro e w2 ⟨rfl, hd⟩; have HD := Aside0.mk (HB.out.trans (hd.mono HB.out.size)); have v1 := (HX1.out.move hd HX1.out.lt).c 1 rfl; have C4 := Aside0.mk (C3.out w2 hd); clear hd)
        | (go_at_call 78; (with_reducible refine Calls.mono C4.out ?_); rintro e w3 ⟨rfl, hd⟩; have HD3 := Aside0.mk (HD.out.trans (hd.mono HD.out.size)); clear hd))
      go_ret
      exact ⟨by rw [HK2.out]; rfl, HD3.out⟩
set_option maxHeartbeats 2000000 in
theorem index_bad (w : World) (A : Option Addr) (c : Nat) (xs : List SRu) (p : SRu → Bool) (X : Nat) (Z : Nat) (hr : Kd.C kRu w A xs.length xs) (hC : ∀ w', Below w.heap.size w w' → ∀ (x : SRu) (Ax : Option Addr) (cx : Nat), x ∈ xs → Kd.C Kd.string w' Ax x.f1.length x.f1 → x.f1.length ≤ cx → Calls Tryz.prog 85 #[.agg #[.string x.f0, .slice Ax x.f1.length cx, .string x.f2], .pointer (some ⟨X, 0, none⟩), .pointer (some ⟨Z, 0, none⟩)] w' fun e w'' => e = .returned (.bool (p x)) ∧ Below w'.heap.size w' w'') :
    Calls Tryz.prog 92 #[.slice A xs.length c, .func (.func 85) #[] #[.pointer (some ⟨X, 0, none⟩), .pointer (some ⟨Z, 0, none⟩)]] w fun e w' => e = .returned (.int .i64 (idxB p xs)) ∧ Below w.heap.size w w' := by
  have HR := Aside0.mk hr
  have HC := Aside0.mk hC
  have hxl : xs.length ≤ 9223372036854775807 := hr.2.1
  clear hr hC
  go_enter Tryz.func92, Tryz.ntmps92
  go_wp2_with fail
  go_loopg [8] xs.length (fun kq v8 w' => IRel p xs w kq v8 w')
  case atStart => exact ⟨0, by omega, rfl, Below.refl _ _, fun j h => absurd h (Nat.not_lt_zero j)⟩
  case round =>
    obtain ⟨i, hi, rfl, hb, hp⟩ := hrel
    have HI := Aside0.mk hi
    have HB := Aside0.mk hb
    have HP := Aside0.mk hp
    clear hi hb hp
    by_cases hil : i < xs.length
    · have t1 : decide ((i : Int) < (xs.length : Int)) = true := by simp; omega
      obtain ⟨ad, A1, c1, e1, x0, x1, x2, l1, g1⟩ := M.at_rule (Kd.C_below HR.out HB.out) i hil rfl
      subst e1
      have HG := Aside0.mk (And.intro g1 l1)
      clear g1 l1
      have CX := Aside0.mk (HC.out wr HB.out xs[i] A1 c1 (List.getElem_mem hil) HG.out.1 HG.out.2)
      go_wp2_with fail
      go_at_call 85
      refine CX.out.mono ?_
      rintro e w1 ⟨rfl, hd⟩
      have HB1 := Aside0.mk (HB.out.trans (hd.mono HB.out.size))
      clear hd x0 x1 x2 CX
      obtain ⟨b, hpb⟩ : ∃ b, p xs[i] = b := ⟨_, rfl⟩
      rw [hpb]
      have HPB := Aside0.mk hpb
      clear hpb
      cases b with
      | true =>
        go_wp2_with fail
        go_ret
        exact ⟨by rw [idxB_at hil HPB.out (fun j h => HP.out j h (by omega))]; rfl, HB1.out⟩
      | false =>
        go_wp2_with fail
        go_roundg (gk - 1)
        case measure => have := HI.out; omega
        case rel =>
          refine ⟨i + 1, by have := HI.out; omega, by go_num, HB1.out, fun j h h2 => ?_⟩
          by_cases hj : j < i
          · exact HP.out j hj h2
          · obtain rfl : j = i := by omega
            exact HPB.out
    · have t1 : decide ((i : Int) < (xs.length : Int)) = false := by simp; omega
      go_wp2_with fail
      go_ret
      exact ⟨by rw [idxB_none (fun j h => HP.out j (by have := HI.out; omega) h)]; rfl, HB.out⟩
theorem contains_bad (w : World) (A : Option Addr) (c : Nat) (xs : List SRu) (p : SRu → Bool) (X : Nat) (Z : Nat) (hr : Kd.C kRu w A xs.length xs) (hC : ∀ w', Below w.heap.size w w' → ∀ (x : SRu) (Ax : Option Addr) (cx : Nat), x ∈ xs → Kd.C Kd.string w' Ax x.f1.length x.f1 → x.f1.length ≤ cx → Calls Tryz.prog 85 #[.agg #[.string x.f0, .slice Ax x.f1.length cx, .string x.f2], .pointer (some ⟨X, 0, none⟩), .pointer (some ⟨Z, 0, none⟩)] w' fun e w'' => e = .returned (.bool (p x)) ∧ Below w'.heap.size w' w'') :
    Calls Tryz.prog 74 #[.slice A xs.length c, .func (.func 85) #[] #[.pointer (some ⟨X, 0, none⟩), .pointer (some ⟨Z, 0, none⟩)]] w fun e w' => e = .returned (.bool (xs.any p)) ∧ Below w.heap.size w w' := by
  have HC := Aside0.mk (index_bad w A c xs p X Z hr hC)
  clear hr hC
  go_enter Tryz.func74, Tryz.ntmps74
  go_wp2_with fail
  go_at_call 92
  refine HC.out.mono ?_
  rintro e w1 ⟨rfl, hb⟩
  have HB := Aside0.mk hb
  clear hb
  go_wp2_with fail
  go_ret
  exact ⟨by rw [← idxB_any]; rfl, HB.out⟩
end Go.Proofs.YtjhemobplcelbaaGreatDoor.O
