/- of: named of donatusref4. -/
import Derived.Test.YtjhemobplcelbaaGreatDoorOfC
namespace Go.Proofs.YtjhemobplcelbaaGreatDoor.O
open Go.RowKit Go.Proofs.YtjhemobplcelbaaGreatDoorW.PrintWords Go.Proofs.YtjhemobplcelbaaGreatDoorW.PrintLast Go.Proofs.YtjhemobplcelbaaGreatDoorW.PrintMore
set_option linter.unusedVariables false
set_option linter.unusedSimpArgs false
def known (ts : List STk) (rs : List SRu) (s : ByteArray) : Prop := 0 ≤ plc s (leftsF rs) 0 ∨ 0 ≤ plc s (ts.map STk.f0) 0
def ruleOk (ts : List STk) (rs : List SRu) (r : SRu) : Prop := (∀ s ∈ r.f1, known ts rs s) ∧ (r.f2 = ⟨#[]⟩ ∨ 0 ≤ plc r.f2 (ts.map STk.f0) 0)
def namedOk (ts : List STk) (st : ByteArray) (rs : List SRu) : Prop := (∀ t ∈ ts, plc t.f0 (leftsF rs) 0 < 0) ∧ 1 ≤ rs.length ∧ (∀ r ∈ rs, ruleOk ts rs r) ∧ (st = ⟨#[]⟩ ∨ 0 ≤ plc st (leftsF rs) 0)
structure RBox (W : World) (X : Nat) (a b c : Value) : Prop where
  heap : W.heap[X]? = some (.cells #[a, b, c] 73 (0, 0))
section
variable {W W' : World} {X B : Nat} {a b c : Value}
theorem RBox.lt (h : RBox W X a b c) : X < W.heap.size := (Array.getElem?_eq_some_iff.1 h.heap).1
theorem RBox.c0 (h : RBox W X a b c) : W.cell? ⟨X, 0, none⟩ = some a := by simp [World.cell?, h.heap]
theorem RBox.c1 (h : RBox W X a b c) : W.cell? ⟨X, 1, none⟩ = some b := by simp [World.cell?, h.heap]
theorem RBox.c2 (h : RBox W X a b c) : W.cell? ⟨X, 2, none⟩ = some c := by simp [World.cell?, h.heap]
theorem RBox.move (h : RBox W X a b c) (hb : Below B W W') (hX : X < B) : RBox W' X a b c := ⟨(hb.block X hX).trans h.heap⟩
end
theorem toList_nil : (⟨#[]⟩ : ByteArray).toList = [] := by rw [Lib.toList_data]
def NtRel (W3 : World) (ts : List STk) (rs : List SRu) (kq : Nat) (v : Value) (w' : World) : Prop := ∃ i : Nat, i + kq = ts.length ∧ v = .int .i64 (i : Int) ∧ w' = W3 ∧ ∀ t ∈ ts.take i, plc t.f0 (leftsF rs) 0 < 0
def NrRel (W3 : World) (ts : List STk) (rs : List SRu) (kq : Nat) (v : Value) (w' : World) : Prop := ∃ i : Nat, i + kq = rs.length ∧ v = .int .i64 (i : Int) ∧ Below W3.heap.size W3 w' ∧ ∀ r ∈ rs.take i, ruleOk ts rs r
def NsRel (W6 : World) (ts : List STk) (rs : List SRu) (l : List ByteArray) (kq : Nat) (v : Value) (w' : World) : Prop := ∃ i : Nat, i + kq = l.length ∧ v = .int .i64 (i : Int) ∧ Below W6.heap.size W6 w' ∧ ∀ s ∈ l.take i, known ts rs s
set_option maxRecDepth 100000 in
set_option maxHeartbeats 4000000 in
theorem named_calls (w : World) (A : Option Addr) (c : Nat) (ts : List STk) (st : ByteArray) (ex : Int) (A2 : Option Addr) (c2 : Nat) (rs : List SRu) (hts : Kd.C kTk w A ts.length ts) (hct : ts.length ≤ c) (hrs : Kd.C kRu w A2 rs.length rs) (hc : rs.length ≤ c2) (hl : rs.length ≤ 1000000) :
    Calls Tryz.prog 43 #[.agg #[.slice A ts.length c, .string st, .int .i64 ex, .slice A2 rs.length c2]] w fun e w' => ∃ b, e = .returned (.bool b) ∧ (b = true ↔ namedOk ts st rs) ∧ Below w.heap.size w w' := by
  have hb := below_alloc (Below.refl w.heap.size w) (.cells #[.slice A ts.length c, .string st, .int .i64 ex, .slice A2 rs.length c2] 25)
  have hx : GBox (w.alloc (.cells #[.slice A ts.length c, .string st, .int .i64 ex, .slice A2 rs.length c2] 25)) w.heap.size _ _ _ _ := GBox.new w
  have HX := Aside0.mk (And.intro (Kd.C_below hrs hb) (And.intro hb (And.intro hl (Kd.C_below hts hb))))
  have CL := Aside0.mk (lefts_calls (w.alloc (.cells #[.slice A ts.length c, .string st, .int .i64 ex, .slice A2 rs.length c2] 25)) A ts.length c st ex A2 c2 rs HX.out.1 hc hl)
  have CT : Aside0 (∀ w' s, Below w.heap.size w w' → Calls Tryz.prog 69 #[.agg #[.slice A ts.length c, .string st, .int .i64 ex, .slice A2 rs.length c2], .string s] w' fun e w'' => e = .returned (.int .i64 (plc s (ts.map STk.f0) 0)) ∧ Below w'.heap.size w' w'') := ⟨fun w' s hb => token_calls w' A c ts st ex A2 rs.length c2 s (Kd.C_below hts hb) hct⟩
  clear hrs hl hts
  go_enter Tryz.func43, Tryz.ntmps43
  go_upto_region 1 with fail
  generalize w.alloc (.cells #[.slice A ts.length c, .string st, .int .i64 ex, .slice A2 rs.length c2] 25) = W1 at *
  generalize hXe : w.heap.size = X at hx ⊢
  have HG := Aside0.mk hx
  have x0 := hx.c0
  have x1 := hx.c1
  have x2 := hx.c2
  have x3 := hx.c3
  clear hx hb
  go_wp2_with fail
  go_at_call 44
  refine CL.out.mono ?_
  rintro e w3 ⟨v, rfl, ho, hbl⟩
  obtain ⟨Al, cl, rfl, hcl, hrd⟩ := Kd.R_reads ho
  have HL := Aside0.mk (And.intro hrd (And.intro hcl hbl))
  have HG3 := Aside0.mk (HG.out.move hbl HG.out.lt)
  have HB3 : Aside0 (Below w.heap.size w w3) := ⟨HX.out.2.1.trans (hbl.mono HX.out.2.1.size)⟩
  clear ho hbl hrd x0 x1 x2 x3 CL
  have x0 := HG3.out.c0
  have CP : Aside0 (∀ w' s, Below w3.heap.size w3 w' → Calls Tryz.prog 45 #[.slice Al (leftsF rs).length cl, .string s] w' fun e w'' => e = .returned (.int .i64 (plc s (leftsF rs) 0)) ∧ w'' = w') := ⟨fun w' s hb => place_calls w' Al cl (leftsF rs) s (Kd.C_below HL.out.1 hb) HL.out.2.1⟩
  go_wp2_with fail
  go_loopg [4] ts.length (fun kq v4 w' => NtRel w3 ts rs kq v4 w')
  case atStart => exact ⟨0, by omega, rfl, rfl, fun t ht => (by cases ht)⟩
  case round =>
    obtain ⟨i, hi, rfl, rfl, hts⟩ := hrel
    have HI := Aside0.mk hi
    have HTS := Aside0.mk hts
    clear hi hts
    by_cases hil : i < ts.length
    · have t1 : decide ((i : Int) < (ts.length : Int)) = true := by simp; omega
      have hin : (i : Int) < (ts.length : Int) := by omega
      obtain ⟨ad, rfl, hcx, _, _⟩ := tok_at (Kd.C_below HX.out.2.2.2 HL.out.2.2) i hil
      have hql : ts.length ≤ 9223372036854775807 := HX.out.2.2.2.2.1
      have HIL := Aside0.mk hil
      have HMEM : Aside0 (∃ t ∈ ts, t.f0 = ts[i].f0) := ⟨⟨ts[i], List.getElem_mem _, rfl⟩⟩
      have HSTEP : Aside0 (plc ts[i].f0 (leftsF rs) 0 < 0 → ∀ t ∈ ts.take (i + 1), plc t.f0 (leftsF rs) 0 < 0) := ⟨fun hp t ht => by
        rw [List.take_succ_eq_append_getElem hil] at ht
        rcases List.mem_append.1 ht with h | h
        · exact HTS.out t h
        · rw [List.mem_singleton.1 h]; exact hp⟩
      generalize ts[i].f0 = s at *
      go_wp2_with fail
      go_at_call 45
      refine (CP.out _ s (Below.refl _ _)).mono ?_
      rintro e w4 ⟨rfl, rfl⟩
      by_cases hp : plc s (leftsF rs) 0 ≥ 0
      · have t5 := decide_eq_true hp
        go_wp2_with fail
        go_ret
        exact ⟨false, rfl, ⟨fun h => (by cases h), fun h => (by obtain ⟨t, ht, he⟩ := HMEM.out; have := h.1 t ht; rw [he] at this; omega)⟩, HB3.out⟩
      · have t5 := decide_eq_false hp
        have HNP := Aside0.mk hp
        go_wp2_with fail
        go_roundg (gk - 1)
        case measure => have := HI.out; have := HIL.out; omega
        case rel => exact ⟨i + 1, by have := HI.out; have := HIL.out; omega, by have h1 := HIL.out; first | rfl | (congr 1; unfold wrap64; omega), rfl, HSTEP.out (by have := HNP.out; omega)⟩
    · have t1 : decide ((i : Int) < (ts.length : Int)) = false := by simp; omega
      obtain ⟨W3, rfl⟩ : ∃ x, x = wr := ⟨_, rfl⟩
      have x3 := HG3.out.c3
      have HTA : Aside0 (∀ t ∈ ts, plc t.f0 (leftsF rs) 0 < 0) := ⟨by have h := HTS.out; rwa [List.take_of_length_le (by omega)] at h⟩
      clear HI HTS
      go_wp2_with fail
      clear t1 x0 hil
      go_loopg [5] rs.length (fun kq v5 w' => NrRel W3 ts rs kq v5 w')
      case atStart => exact ⟨0, by omega, rfl, Below.refl _ _, fun r hr => (by cases hr)⟩
      case round =>
        obtain ⟨i, hi, rfl, hb, hs⟩ := hrel
        have HI := Aside0.mk hi
        have HR := Aside0.mk (And.intro hb hs)
        have HB0 : Aside0 (Below w.heap.size w wr) := ⟨HB3.out.trans (hb.mono HB3.out.size)⟩
        have HGr := Aside0.mk (HG3.out.move hb HG3.out.lt)
        have y0 := HGr.out.c0
        have y1 := HGr.out.c1
        have y2 := HGr.out.c2
        have y3 := HGr.out.c3
        clear hi hb hs x3
        by_cases hil : i < rs.length
        · have t1 : decide ((i : Int) < (rs.length : Int)) = true := by simp; omega
          have hin : (i : Int) < (rs.length : Int) := by omega
          obtain ⟨ad, A1, c1, e1, r0, r1, r2, hl1, hrr⟩ := ru_at HX.out.1 i hil
          have HTK : Aside0 (rs.take (i + 1) = rs.take i ++ [rs[i]]) := ⟨by rw [List.take_succ_eq_append_getElem hil]⟩
          have HRM : Aside0 (rs[i] ∈ rs) := ⟨List.getElem_mem _⟩
          have HB1r : Aside0 (Below W1.heap.size W1 wr) := ⟨HL.out.2.2.trans (HR.out.1.mono HL.out.2.2.size)⟩
          have r0 := pw_cell_below HB1r.out r0
          have r1 := pw_cell_below HB1r.out r1
          have r2 := pw_cell_below HB1r.out r2
          have HIL := Aside0.mk hil
          generalize rs[i] = rr at *
          obtain ⟨rl, rt, rp⟩ := rr
          simp only at r0 r1 r2 hl1 hrr
          subst e1
          have HRR := Aside0.mk (Kd.C_below hrr HB1r.out)
          clear hrr
          have hb6 := below_alloc (Below.refl wr.heap.size wr) (.cells #[.string rl, .slice A1 rt.length c1, .string rp] 73)
          have hx6 : RBox (wr.alloc (.cells #[.string rl, .slice A1 rt.length c1, .string rp] 73)) wr.heap.size (.string rl) (.slice A1 rt.length c1) (.string rp) := ⟨heap_alloc_new wr _⟩
          have HX6 := Aside0.mk hx6
          obtain ⟨gko, hgko⟩ : ∃ x, x = gk := ⟨_, rfl⟩
          have HGO := Aside0.mk hgko
          have HB06 : Aside0 (Below w.heap.size w (wr.alloc (.cells #[.string rl, .slice A1 rt.length c1, .string rp] 73))) := ⟨HB0.out.trans (hb6.mono HB0.out.size)⟩
          have HB36 : Aside0 (Below W3.heap.size W3 (wr.alloc (.cells #[.string rl, .slice A1 rt.length c1, .string rp] 73))) := ⟨HR.out.1.trans (hb6.mono HR.out.1.size)⟩
          have HG6 := Aside0.mk (HGr.out.move hb6 HGr.out.lt)
          have HR6 := Aside0.mk (Kd.C_below HRR.out hb6)
          clear hgko hb6 hil
          go_upto_region 11 with fail
          generalize wr.alloc (.cells #[.string rl, .slice A1 rt.length c1, .string rp] 73) = W6 at *
          generalize wr.heap.size = R at *
          clear hx6
          have r1 := HX6.out.c1
          clear y0 y1 y2 y3
          go_wp2_with fail
          go_loopg [7] rt.length (fun kq v7 w' => NsRel W6 ts rs rt kq v7 w')
          case atStart => exact ⟨0, by omega, rfl, Below.refl _ _, fun s hs => (by cases hs)⟩
          case round =>
            obtain ⟨k, hk, rfl, hb, hs⟩ := hrel
            have HK := Aside0.mk hk
            have HS := Aside0.mk (And.intro hb hs)
            have HB0k : Aside0 (Below w.heap.size w wr) := ⟨HB06.out.trans (hb.mono HB06.out.size)⟩
            have HB3k : Aside0 (Below W3.heap.size W3 wr) := ⟨HB36.out.trans (hb.mono HB36.out.size)⟩
            have HXk := Aside0.mk (HX6.out.move hb HX6.out.lt)
            have HGk := Aside0.mk (HG6.out.move hb HG6.out.lt)
            have r1 := HXk.out.c1
            have hrl := HR6.out.2.1
            clear hk hb hs
            by_cases hkl : k < rt.length
            · have t2 : decide ((k : Int) < (rt.length : Int)) = true := by simp; omega
              have hkn : (k : Int) < (rt.length : Int) := by omega
              obtain ⟨bd, e2, hcx⟩ := str_at HR6.out k hkl
              subst e2
              have hcx2 := pw_cell_below HS.out.1 hcx
              have HTS : Aside0 (rt.take (k + 1) = rt.take k ++ [rt[k]]) := ⟨by rw [List.take_succ_eq_append_getElem hkl]⟩
              have HSM : Aside0 (rt[k] ∈ rt) := ⟨List.getElem_mem _⟩
              have HKL := Aside0.mk hkl
              generalize rt[k] = s at *
              have y0 := HGk.out.c0
              have y1 := HGk.out.c1
              have y2 := HGk.out.c2
              have y3 := HGk.out.c3
              have hd : Below wr.heap.size wr wr.drew := below_drew1 (Below.refl _ _)
              obtain ⟨zp, hzp⟩ : ∃ z, z = plc s (leftsF rs) 0 := ⟨_, rfl⟩
              obtain ⟨zt, hzt⟩ : ∃ z, z = plc s (ts.map STk.f0) 0 := ⟨_, rfl⟩
              have CP2 := Aside0.mk (CP.out wr.drew s (HB3k.out.trans (hd.mono HB3k.out.size)))
              have CT2 := Aside0.mk (CT.out wr.drew s (HB0k.out.trans (hd.mono HB0k.out.size)))
              rw [← hzp] at CP2
              rw [← hzt] at CT2
              have HZ := Aside0.mk (And.intro hzp hzt)
              have HD := Aside0.mk hd
              clear hd hcx hzp hzt
              go_upto_region 14 with fail
              go_cut [62] (fun v62 wx => ∃ b, v62 = .bool b ∧ (b = false ↔ known ts rs s) ∧ Below wr.heap.size wr wx)
              case first =>
                by_cases hp : zp < 0
                · have t5 : decide (zp < 0) = true := decide_eq_true hp
                  have HNP := Aside0.mk hp
                  by_cases hq : zt < 0
                  · have t6 : decide (zt < 0) = true := decide_eq_true hq
                    have HNQ := Aside0.mk hq
                    clear hp hq
                    first
                      | (go_region_with (first
                          | (go_at_call 45; (with_reducible refine Calls.mono CP2.out ?_); rintro e w4 ⟨rfl, rfl⟩)
                          | (go_at_call 69; (with_reducible refine Calls.mono CT2.out ?_); rintro e w5 ⟨rfl, hb5⟩; have HB5 := Aside0.mk (HD.out.trans (hb5.mono HD.out.size)); clear hb5)))
                      | fail
                    all_goals (go_wp2_with fail; go_meet; exact ⟨_, rfl, ⟨fun h => (by cases h), fun h => (by unfold known at h; rw [← HZ.out.1, ← HZ.out.2] at h; have := HNP.out; have := HNQ.out; omega)⟩, HB5.out⟩)
                  · have t6 : decide (zt < 0) = false := decide_eq_false hq
                    have HNQ := Aside0.mk hq
                    clear hp hq
                    first
                      | (go_region_with (first
                          | (go_at_call 45; (with_reducible refine Calls.mono CP2.out ?_); rintro e w4 ⟨rfl, rfl⟩)
                          | (go_at_call 69; (with_reducible refine Calls.mono CT2.out ?_); rintro e w5 ⟨rfl, hb5⟩; have HB5 := Aside0.mk (HD.out.trans (hb5.mono HD.out.size)); clear hb5)))
                      | fail
                    all_goals (go_wp2_with fail; go_meet; exact ⟨_, rfl, ⟨fun _ => .inr (by rw [← HZ.out.2]; have := HNQ.out; omega), fun _ => rfl⟩, HB5.out⟩)
                · have t5 : decide (zp < 0) = false := decide_eq_false hp
                  have HNP := Aside0.mk hp
                  clear hp
                  first
                    | (go_region_with (first
                        | (go_at_call 45; (with_reducible refine Calls.mono CP2.out ?_); rintro e w4 ⟨rfl, rfl⟩)))
                    | fail
                  all_goals (go_wp2_with fail; go_meet; exact ⟨_, rfl, ⟨fun _ => .inl (by rw [← HZ.out.1]; have := HNP.out; omega), fun _ => rfl⟩, HD.out⟩)
              case rest =>
                obtain ⟨b, rfl, hkn2, hbc⟩ := hcut
                have HBC := Aside0.mk hbc
                have HKN := Aside0.mk hkn2
                clear hbc hkn2 r1 y0 y1 y2 y3
                cases b with
                | true =>
                  go_wp2_with fail
                  go_ret
                  exact ⟨false, rfl, ⟨fun h => (by cases h), fun h => absurd ((h.2.2.1 _ HRM.out).1 _ HSM.out) (fun hk => by have := HKN.out.2 hk; cases this)⟩, HB0k.out.trans (HBC.out.mono HB0k.out.size)⟩
                | false =>
                  go_wp2_with fail
                  go_roundg (gk - 1)
                  case measure => have := HK.out; have := HKL.out; omega
                  case rel => exact ⟨k + 1, by have := HK.out; have := HKL.out; omega, by have h1 := HKL.out; first | rfl | (congr 1; unfold wrap64; omega), HS.out.1.trans (HBC.out.mono HS.out.1.size), fun z hz => by
                    rw [HTS.out] at hz
                    rcases List.mem_append.1 hz with h | h
                    · exact HS.out.2 z h
                    · rw [List.mem_singleton.1 h]; exact HKN.out.1 trivial⟩
            · have t2 : decide ((k : Int) < (rt.length : Int)) = false := by simp; omega
              have HSA : Aside0 (∀ s ∈ rt, known ts rs s) := ⟨by have h := HS.out.2; rwa [List.take_of_length_le (by omega)] at h⟩
              have HBk : Aside0 (Below W3.heap.size W3 wr) := HB3k
              have r2 := HXk.out.c2
              have y0 := HGk.out.c0
              have y1 := HGk.out.c1
              have y2 := HGk.out.c2
              have y3 := HGk.out.c3
              have CT2 := Aside0.mk (CT.out wr rp HB0k.out)
              obtain ⟨zt, hzt⟩ : ∃ z, z = plc rp (ts.map STk.f0) 0 := ⟨_, rfl⟩
              rw [← hzt] at CT2
              have HZ := Aside0.mk hzt
              clear hzt HS HK
              by_cases h5 : rp.toList = []
              · have t5 : (!rp.toList.isEmpty) = false := by rw [h5]; rfl
                have HP5 : Aside0 (rp = ⟨#[]⟩) := ⟨toList_eq.1 (by rw [h5, toList_nil])⟩
                clear h5
                go_wp2_with fail
                go_roundg (gko - 1)
                case measure => have := HI.out; have := HIL.out; have := HGO.out; omega
                case rel => exact ⟨i + 1, by have := HI.out; have := HIL.out; have := HGO.out; omega, by have h1 := HIL.out; have h2 := HX.out.2.2.1; first | rfl | (congr 1; unfold wrap64; omega), HBk.out, fun z hz => by
                    rw [HTK.out] at hz
                    rcases List.mem_append.1 hz with h | h
                    · exact HR.out.2 z h
                    · rw [List.mem_singleton.1 h]; exact ⟨HSA.out, .inl HP5.out⟩⟩
              · have t5 : (!rp.toList.isEmpty) = true := by simpa using h5
                have HP5 : Aside0 (rp ≠ ⟨#[]⟩) := ⟨fun h => h5 (by rw [h, toList_nil])⟩
                clear h5
                by_cases hq : zt < 0
                · have t6 : decide (zt < 0) = true := decide_eq_true hq
                  have HNQ := Aside0.mk hq
                  clear hq
                  go_wp2_with (first
                    | (go_at_call 69; (with_reducible refine Calls.mono CT2.out ?_); rintro e w5 ⟨rfl, hb5⟩; have HB5 := Aside0.mk hb5; clear hb5))
                  go_ret
                  exact ⟨false, rfl, ⟨fun h => (by cases h), fun h => by
                    rcases (h.2.2.1 _ HRM.out).2 with h | h
                    · exact absurd h HP5.out
                    · have h1 := HNQ.out; rw [HZ.out] at h1; simp only at h; omega⟩, HB0k.out.trans (HB5.out.mono HB0k.out.size)⟩
                · have t6 : decide (zt < 0) = false := decide_eq_false hq
                  have HNQ := Aside0.mk hq
                  clear hq
                  go_wp2_with (first
                    | (go_at_call 69; (with_reducible refine Calls.mono CT2.out ?_); rintro e w5 ⟨rfl, hb5⟩; have HB5 := Aside0.mk hb5; clear hb5))
                  go_roundg (gko - 1)
                  case measure => have := HI.out; have := HIL.out; have := HGO.out; omega
                  case rel => exact ⟨i + 1, by have := HI.out; have := HIL.out; have := HGO.out; omega, by have h1 := HIL.out; have h2 := HX.out.2.2.1; first | rfl | (congr 1; unfold wrap64; omega), HBk.out.trans (HB5.out.mono HBk.out.size), fun z hz => by
                    rw [HTK.out] at hz
                    rcases List.mem_append.1 hz with h | h
                    · exact HR.out.2 z h
                    · rw [List.mem_singleton.1 h]; exact ⟨HSA.out, .inr (by have h1 := HNQ.out; rw [HZ.out] at h1; simp only; omega)⟩⟩
        · have t1 : decide ((i : Int) < (rs.length : Int)) = false := by simp; omega
          have HRA : Aside0 (∀ r ∈ rs, ruleOk ts rs r) := ⟨by have h := HR.out.2; rwa [List.take_of_length_le (by omega)] at h⟩
          have HBW : Aside0 (Below W3.heap.size W3 wr) := ⟨HR.out.1⟩
          clear HI HR
          have CP2 := Aside0.mk (CP.out wr st HBW.out)
          obtain ⟨zp, hzp⟩ : ∃ z, z = plc st (leftsF rs) 0 := ⟨_, rfl⟩
          rw [← hzp] at CP2
          have HZ := Aside0.mk hzp
          clear hzp
          by_cases h0 : 0 < rs.length
          · have t2 : decide (0 < rs.length) = true := decide_eq_true h0
            have HN0 := Aside0.mk h0
            by_cases h5 : st.toList = []
            · have t5 : st.toList.isEmpty = true := by rw [h5]; rfl
              have HP5 : Aside0 (st = ⟨#[]⟩) := ⟨toList_eq.1 (by rw [h5, toList_nil])⟩
              clear h5
              go_wp2_with fail
              go_ret
              exact ⟨true, rfl, ⟨fun _ => ⟨HTA.out, HN0.out, HRA.out, .inl HP5.out⟩, fun _ => rfl⟩, HB0.out⟩
            · have t5 : st.toList.isEmpty = false := by simpa using h5
              have HP5 : Aside0 (st ≠ ⟨#[]⟩) := ⟨fun h => h5 (by rw [h, toList_nil])⟩
              clear h5
              go_wp2_with (first
                | (go_at_call 45; (with_reducible refine Calls.mono CP2.out ?_); rintro e w4 ⟨rfl, rfl⟩))
              go_ret
              refine ⟨decide (zp ≥ 0), rfl, ⟨fun h => ⟨HTA.out, HN0.out, HRA.out, .inr (by rw [← HZ.out]; exact of_decide_eq_true h)⟩, fun h => decide_eq_true ?_⟩, HB0.out⟩
              rcases h.2.2.2 with h | h
              · exact absurd h HP5.out
              · rw [HZ.out]; exact h
          · have t2 : decide (0 < rs.length) = false := decide_eq_false h0
            have HN0 := Aside0.mk h0
            go_wp2_with fail
            go_ret
            exact ⟨false, rfl, ⟨fun h => (by cases h), fun h => (by have := h.2.1; have := HN0.out; omega)⟩, HB0.out⟩
end Go.Proofs.YtjhemobplcelbaaGreatDoor.O
