/- well: the program's Yields, walked. -/
import Derived.Test.YtjhemobplcelbaaGreatDoorWellD
namespace Go.Proofs.YtjhemobplcelbaaGreatDoor.U
open Go.RowKit Go.Proofs.YtjhemobplcelbaaGreatDoorW.PrintWords Go.Proofs.YtjhemobplcelbaaGreatDoorW.PrintLast Go.Proofs.YtjhemobplcelbaaGreatDoorW.PrintMore
set_option linter.unusedVariables false
set_option linter.unusedSimpArgs false
def stepW (q : List Bool × Bool) (r : SR) : List Bool × Bool := if r.f0 < 0 then q else stepY q r
theorem foldl_W : ∀ (rs : List SR) (q : List Bool × Bool), (∀ r ∈ rs, 0 ≤ r.f0) → rs.foldl stepW q = rs.foldl stepY q := by
  intro rs
  induction rs with
  | nil => intro q _; rfl
  | cons r rs ih =>
    intro q h
    rw [List.foldl_cons, List.foldl_cons, ih _ (fun r hr => h r (List.mem_cons_of_mem _ hr))]
    have := h r List.mem_cons_self
    unfold stepW
    rw [if_neg (by omega)]
theorem pass_W {rs : List SR} {m : Nat} (y : List Bool) (h0 : ∃ r0, rs.head? = some r0 ∧ r0.f0 < 0) (hok : ∀ r ∈ rs.tail, okRule m r) : rs.foldl stepW (y, false) = passY rs.tail y := by
  obtain ⟨r0, h0, hn⟩ := h0
  cases rs with
  | nil => cases h0
  | cons r rs =>
    cases h0
    rw [List.foldl_cons, List.tail_cons, foldl_W rs _ (fun r hr => (hok r hr).1.1)]
    unfold stepW
    rw [if_pos hn]
    rfl
theorem head_or {rs : List SR} {m : Nat} (h0 : ∃ r0, rs.head? = some r0 ∧ r0.f0 < 0) (hok : ∀ r ∈ rs.tail, okRule m r) : ∀ r ∈ rs, r.f0 < 0 ∨ okRule m r := by
  obtain ⟨r0, h0, hn⟩ := h0
  cases rs with
  | nil => cases h0
  | cons r rs =>
    cases h0
    intro x hx
    rcases List.mem_cons.1 hx with rfl | hx
    · exact .inl hn
    · exact .inr (hok x hx)
theorem cell_new (w : World) (cs : Array Value) (t k : Nat) : (w.alloc (.cells cs t)).cell? ⟨w.heap.size, k, none⟩ = cs[k]? := by
  unfold World.cell?
  rw [heap_alloc_new]
  simp
set_option maxRecDepth 100000 in
set_option maxHeartbeats 4000000 in
theorem well_yields (w : World) (t n st : Nat) (ex : Int) (A4 A5 A6 A : Option Addr) (n4 c4 n5 c5 n6 c6 c : Nat) (rs : List SR) (hrs : Kd.C kSR w A rs.length rs) (hc : rs.length ≤ c) (hok : ∀ r ∈ rs.tail, okRule (t + 1 + n) r) (h0 : ∃ r0, rs.head? = some r0 ∧ r0.f0 < 0) (hall : ∀ r ∈ rs, ∀ x ∈ r.f1, 0 ≤ x ∧ x < ((t + 1 + n : Nat) : Int)) (ht : t + n ≤ 1000000) (res : List Bool) (hres : FixP (passY rs.tail) (y0 t n) res) :
    Calls Tryz.prog 58 #[.agg #[.int .i64 (t : Int), .int .i64 (n : Int), .int .i64 (st : Int), .int .i64 ex, .slice A4 n4 c4, .slice A5 n5 c5, .slice A6 n6 c6, .slice A rs.length c]] w fun e w' => ∃ g d, e = .returned (.slice (some ⟨g, 0, none⟩) (t + 1 + n) d) ∧ RowB w' w.heap.size g (t + 1 + n) d res ∧ Below w.heap.size w w' := by
  have hb := below_alloc (Below.refl w.heap.size w) (.cells #[.int .i64 (t : Int), .int .i64 (n : Int), .int .i64 (st : Int), .int .i64 ex, .slice A4 n4 c4, .slice A5 n5 c5, .slice A6 n6 c6, .slice A rs.length c] 32)
  have hx : SBox (w.alloc (.cells #[.int .i64 (t : Int), .int .i64 (n : Int), .int .i64 (st : Int), .int .i64 ex, .slice A4 n4 c4, .slice A5 n5 c5, .slice A6 n6 c6, .slice A rs.length c] 32)) w.heap.size t n st ex _ _ _ _ := SBox.new w
  obtain ⟨m, hm⟩ : ∃ m, m = t + 1 + n := ⟨_, rfl⟩
  have hw1 : IntKind.i64.wrap ((t : Int) + 1) = ((t + 1 : Nat) : Int) := by rw [IntKind.wrap_i64]; omega
  have hw2 : IntKind.i64.wrap (((t + 1 : Nat) : Int) + (n : Int)) = (m : Int) := by rw [IntKind.wrap_i64]; omega
  have hw3 : IntKind.i64.wrap ((t : Int) + 1 + (n : Int)) = (m : Int) := by rw [IntKind.wrap_i64]; omega
  have HC := Aside0.mk (Kd.C_below hrs hb)
  rw [← hm] at hall
  have HOK := Aside0.mk (And.intro hok (And.intro h0 (And.intro ht (And.intro hall hres))))
  have HM := Aside0.mk hm
  rw [← hm]
  clear hok h0 ht hres hrs hm hall
  go_enter Tryz.func58, Tryz.ntmps58
  go_upto_region 1 with fail
  generalize w.alloc (.cells #[.int .i64 (t : Int), .int .i64 (n : Int), .int .i64 (st : Int), .int .i64 ex, .slice A4 n4 c4, .slice A5 n5 c5, .slice A6 n6 c6, .slice A rs.length c] 32) = W1 at *
  obtain ⟨X, hX⟩ : ∃ X, X = w.heap.size := ⟨_, rfl⟩
  rw [← hX] at hx
  rw [← hX]
  have HX := Aside0.mk hx
  have HB := Aside0.mk hb
  have HXX := Aside0.mk hX
  have x0 := hx.c0
  have x1 := hx.c1
  clear hX hb hx
  go_upto_region 2 with (first
    | ((with_reducible refine gate_dst (N := 15) rfl ?_); refine Kd.R_make Kd.bool (w0 := W1) W1.heap.size 4 rfl (N := 15) rfl 83 (.tmp 14) (.tmp 14) rfl (m : Int) ?hx1 ?hx2 Tryz.underlying83 (.bool false) 1 info4 rfl (by decide) (by decide) false (ok := fun _ => True) (okp := fun _ => True) rfl (fun _ h => h) trivial (by omega) (by have := HM.out; have := HOK.out.2.2.1; omega) (Below.refl _ _) (Nat.le_refl _) ?_; (case hx1 => go_simp); (case hx2 => go_simp); intro v1 w2 ho2 hb2 hg2 hn2; clear hg2 hn2; have HO := Aside0.mk ho2; have HB2 := Aside0.mk hb2; clear ho2 hb2; obtain ⟨g, cap, ev, _, _, _⟩ := Kd.R_form (show Kd.R Kd.bool 4 w2 W1.heap.size (fun _ => True) v1 (List.replicate m false) by simpa using HO.out) (by have := HM.out; simp; omega); subst ev; simp only [List.length_replicate] at HO ⊢))
  have hR0 : RowB w2 W1.heap.size g m cap (List.replicate m false) := by have h := HO.out; rw [Int.toNat_natCast] at h; exact h
  have hbA := below_alloc (Below.refl w2.heap.size w2) (.cells #[.slice (some ⟨g, 0, none⟩) m cap] 83)
  have HR3 : Aside0 (RowB (w2.alloc (.cells #[.slice (some ⟨g, 0, none⟩) m cap] 83)) W1.heap.size g m cap (List.replicate m false) ∧ LBox (w2.alloc (.cells #[.slice (some ⟨g, 0, none⟩) m cap] 83)) w2.heap.size g m cap ∧ Below W1.heap.size W1 (w2.alloc (.cells #[.slice (some ⟨g, 0, none⟩) m cap] 83))) := ⟨hR0.below hbA, ⟨heap_alloc_new w2 _⟩, HB2.out.trans (hbA.mono HB2.out.size)⟩
  generalize w2.alloc (.cells #[.slice (some ⟨g, 0, none⟩) m cap] 83) = W3 at *
  generalize w2.heap.size = L at *
  clear hR0 hbA HO x0 x1
  have x0 := (HX.out.move HR3.out.2.2 HX.out.lt).c0
  have HTN := Aside0.mk HOK.out.2.2.1
  have htn := HTN.out
  go_wp2_with fail
  go_loopg [18] t (fun kq v18 w' => TokRel W1 g m cap t kq v18 w' ∧ LBox w' L g m cap)
  case atStart => exact ⟨⟨0, by omega, rfl, by simpa using HR3.out.1, HR3.out.2.2⟩, HR3.out.2.1⟩
  case round =>
    obtain ⟨⟨i, hi, rfl, hr, hb⟩, hL⟩ := hrel
    have HI := Aside0.mk hi
    have HR := Aside0.mk (And.intro hr (And.intro hb hL))
    have hmt := HM.out
    have zL := hL.ce
    clear x0
    by_cases hil : i < t
    · have t1 : decide ((i : Int) < (t : Int)) = true := by simp; omega
      obtain ⟨p1, p2⟩ := hr.at_ i (by simp; omega)
      have him : (i : Int) < (m : Int) := by omega
      clear hb
      go_wp2_with fail
      go_roundg (gk - 1)
      case measure => have := HI.out; omega
      case rel => exact ⟨⟨i + 1, by have := HI.out; omega, by go_num, by rw [← tok_step i m (by omega)]; exact HR.out.1.set i (by simp; omega) true, HR.out.2.1.setCell (p := ⟨g, i, none⟩) HR.out.1.low _⟩, HR.out.2.2.far (HR.out.2.2.ne HR.out.1) i _⟩
    · have t1 : decide ((i : Int) < (t : Int)) = false := by simp; omega
      have hit : i = t := by omega
      have hy0 : List.replicate i true ++ List.replicate (m - i) false = y0 t n := by rw [hit, hmt, show t + 1 + n - t = 1 + n by omega]; rfl
      rw [hy0] at hr
      have HY0 := Aside0.mk (And.intro hr (And.intro hb hL))
      clear hi hr hb hL hy0 HR HI hit hmt zL
      go_wp2_with fail
      clear t1 hil
      go_loopg [5] (cnt (y0 t n) + 1) (fun kq v5 w' => OutRel W1 g m cap (passY rs.tail) res kq v5 w' ∧ LBox w' L g m cap)
      case atStart => exact ⟨⟨y0 t n, true, rfl, HY0.out.1, fun _ => ⟨Nat.le_refl _, HOK.out.2.2.2.2⟩, fun h => (by cases h), HY0.out.2.1⟩, HY0.out.2.2⟩
      case round =>
        obtain ⟨⟨y, more, rfl, hr, hm1, hm2, hb⟩, hL⟩ := hrel
        have HY := Aside0.mk (And.intro hr (And.intro hb hL))
        cases more with
        | false =>
          have hy := hm2 rfl
          subst hy
          have zL := hL.ce
          clear hr hm1 hm2 hb hL
          go_wp2_with fail
          go_ret
          exact ⟨g, cap, rfl, Kd.R_lower HY.out.1 HB.out.size, HB.out.trans (HY.out.2.1.mono HB.out.size)⟩
        | true =>
          obtain ⟨hm3, hm4⟩ := hm1 rfl
          have HF := Aside0.mk (And.intro hm3 hm4)
          obtain ⟨gko, hgko⟩ : ∃ x, x = gk := ⟨_, rfl⟩
          have HGO := Aside0.mk hgko
          clear hgko
          have z7 := (HX.out.move hb HX.out.lt).c7
          clear hr hm1 hm2 hb hm3 hm4 hL
          go_wp2_with fail
          go_loopg [5, 29] rs.length (fun kq v5 v29 w' => RulesRel W1 g m cap stepW rs (passY rs.tail y) 0 kq v29 v5 w' ∧ LBox w' L g m cap)
          case atStart => exact ⟨⟨0, (y, false), by omega, rfl, rfl, HY.out.1, (pass_W y HOK.out.2.1 HOK.out.1).symm, HY.out.2.1⟩, HY.out.2.2⟩
          case round =>
            obtain ⟨⟨i, q, hi, hv, rfl, hr, hp, hb⟩, hL⟩ := hrel
            rw [Nat.add_zero] at hv
            subst hv
            have HI := Aside0.mk hi
            have HQ := Aside0.mk (And.intro hr (And.intro hp (And.intro hb hL)))
            clear z7 hi hr hp hb hL
            by_cases hil : i < rs.length
            · have t1 : decide ((i : Int) < (rs.length : Int)) = true := by simp; omega
              have hin : (i : Int) < (rs.length : Int) := by omega
              obtain ⟨ad, A1, c1, rfl, r0, r1, r2, r3, hl1, hrr⟩ := rule_at HC.out i hil
              have hor := head_or HOK.out.2.1 HOK.out.1 rs[i] (List.getElem_mem hil)
              have hfx := HOK.out.2.2.2.1 rs[i] (List.getElem_mem hil)
              have HST : Aside0 (passY rs.tail y = (rs.drop (i + 1)).foldl stepW (stepW q rs[i])) := ⟨by rw [HQ.out.2.1, List.drop_eq_getElem_cons hil, List.foldl_cons]⟩
              generalize rs[i] = rr at *
              obtain ⟨rl, rt, rv, ra⟩ := rr
              simp only at r0 r1 r2 r3 hl1 hrr hor hfx
              have r0 := pw_cell_below HQ.out.2.2.1 r0
              have r1 := pw_cell_below HQ.out.2.2.1 r1
              have r2 := pw_cell_below HQ.out.2.2.1 r2
              have r3 := pw_cell_below HQ.out.2.2.1 r3
              have hb6 := below_alloc (Below.refl wr.heap.size wr) (.cells #[.int .i64 rl, .slice A1 rt.length c1, .int .i64 rv, .int .i64 ra] 81)
              have k0 := cell_new wr #[.int .i64 rl, .slice A1 rt.length c1, .int .i64 rv, .int .i64 ra] 81 0
              have k1 := cell_new wr #[.int .i64 rl, .slice A1 rt.length c1, .int .i64 rv, .int .i64 ra] 81 1
              simp only [List.getElem?_toArray, List.getElem?_cons_zero, List.getElem?_cons_succ] at k0 k1
              have hrl2 : rl < 0 ∨ 0 ≤ rl ∧ rl < (m : Int) := by
                rcases hor with h | h
                · exact .inl h
                · have := HM.out; have := h.1; simp only at this; omega
              have C := Aside0.mk (contains_calls (wr.alloc (.cells #[.int .i64 rl, .slice A1 rt.length c1, .int .i64 rv, .int .i64 ra] 81)) L g m cap W1.heap.size q.1 (HQ.out.2.2.2.move hb6 HQ.out.2.2.2.lt) (HQ.out.1.below hb6) A1 c1 rt (Kd.C_below (Kd.C_below hrr HQ.out.2.2.1) hb6) hfx)
              have H6 := Aside0.mk (And.intro (HQ.out.1.below hb6) (And.intro (HQ.out.2.2.1.trans (hb6.mono HQ.out.2.2.1.size)) (HQ.out.2.2.2.move hb6 HQ.out.2.2.2.lt)))
              clear hb6 hrr hfx hor hl1
              go_wp2_with fail
              generalize wr.alloc (.cells #[.int .i64 rl, .slice A1 rt.length c1, .int .i64 rv, .int .i64 ra] 81) = W6 at *
              go_at_call 71
              refine C.out.mono ?_
              rintro e w7 ⟨rfl, rfl⟩
              have HIL := Aside0.mk hil
              have zL := H6.out.2.2.ce
              have hql := HC.out.2.1
              clear hil
              by_cases hneg : rl < 0
              · have t3 : decide (rl ≥ 0) = false := by simp; omega
                have HS : Aside0 (stepW q ⟨rl, rt, rv, ra⟩ = q) := ⟨by unfold stepW; rw [if_pos hneg]⟩
                clear hrl2 hneg
                go_wp2_with fail
                go_roundg (gk - 1)
                case measure => have := HI.out; have := HIL.out; omega
                case rel => exact ⟨⟨i + 1, q, by have := HI.out; have := HIL.out; omega, by have h3 := HIL.out; first | rfl | (congr 1; unfold wrap64; omega), rfl, H6.out.1, by rw [HST.out, HS.out], H6.out.2.1⟩, H6.out.2.2⟩
              · obtain ⟨l0, rfl⟩ : ∃ l0 : Nat, rl = (l0 : Int) := ⟨rl.toNat, by omega⟩
                have t3 : decide ((l0 : Int) ≥ 0) = true := by simp
                have hl02 : (l0 : Int) < (m : Int) := by omega
                have hql0 : l0 < q.1.length := by have := H6.out.1.len; omega
                obtain ⟨p1, p2⟩ := H6.out.1.at_ l0 hql0
                have HG := Aside0.mk (gt_at (y := q.1) l0 rfl hql0)
                generalize q.1[l0] = bl at *
                have HS : Aside0 (stepW q ⟨(l0 : Int), rt, rv, ra⟩ = if (rt.all (gt q.1) && !bl) = true then (q.1.set l0 true, true) else q) := ⟨by unfold stepW stepY; rw [if_neg (by omega), HG.out]; rfl⟩
                clear hrl2 hneg
                generalize rt.all (gt q.1) = b at *
                cases bl with
                | true =>
                  go_wp2_with fail
                  go_roundg (gk - 1)
                  case measure => have := HI.out; have := HIL.out; omega
                  case rel => exact ⟨⟨i + 1, q, by have := HI.out; have := HIL.out; omega, by have h3 := HIL.out; first | rfl | (congr 1; unfold wrap64; omega), rfl, H6.out.1, by rw [HST.out, HS.out]; simp, H6.out.2.1⟩, H6.out.2.2⟩
                | false =>
                  cases b with
                  | false =>
                    go_wp2_with fail
                    go_roundg (gk - 1)
                    case measure => have := HI.out; have := HIL.out; omega
                    case rel => exact ⟨⟨i + 1, q, by have := HI.out; have := HIL.out; omega, by have h3 := HIL.out; first | rfl | (congr 1; unfold wrap64; omega), rfl, H6.out.1, by rw [HST.out, HS.out]; rfl, H6.out.2.1⟩, H6.out.2.2⟩
                  | true =>
                    go_wp2_with fail
                    go_roundg (gk - 1)
                    case measure => have := HI.out; have := HIL.out; omega
                    case rel => exact ⟨⟨i + 1, (q.1.set l0 true, true), by have := HI.out; have := HIL.out; omega, by have h3 := HIL.out; first | rfl | (congr 1; unfold wrap64; omega), rfl, H6.out.1.set l0 hql0 true, by rw [HST.out, HS.out]; rfl, H6.out.2.1.setCell (p := ⟨g, l0, none⟩) H6.out.1.low _⟩, H6.out.2.2.far (H6.out.2.2.ne H6.out.1) l0 _⟩
            · have t1 : decide ((i : Int) < (rs.length : Int)) = false := by simp; omega
              have hq : passY rs.tail y = q := by rw [HQ.out.2.1, List.drop_of_length_le (by omega)]; rfl
              have HP := Aside0.mk hq
              clear hq
              go_wp2_with fail
              go_roundg (gko - 1)
              case measure => have := HF.out.1; have := HGO.out; omega
              case rel =>
                have hk := keptY HOK.out.1 y (by have := HY.out.1.len; have := HM.out; omega)
                obtain ⟨i1, i2⟩ := HF.out.2.inv
                rw [HP.out] at hk i1 i2
                refine ⟨⟨q.1, q.2, rfl, HQ.out.1, fun h => ⟨?_, i2 h⟩, fun h => (i1 h).symm, HQ.out.2.2.1⟩, HQ.out.2.2.2⟩
                have h1 := HF.out.1
                have h2 := HGO.out
                rcases hk.2.2.2 h with h3 | h3
                · cases h3
                · simp only at h3; omega
end Go.Proofs.YtjhemobplcelbaaGreatDoor.U
