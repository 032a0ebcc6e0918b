/- may: gram: slices.DeleteFunc at gram.level's predicate; gram.level (turned by mkmay.py out of wip/gram). -/
import Derived.Test.YtjhemobplcelbaaGreatDoorMayE
import Derived.Deep.RegionHeld3
import Derived.Deep.CutBlock
import Derived.Deep.DeepCutAuto
import Derived.Deep.MidRow
import Derived.Lib.LazyBuf
namespace Go.Proofs.YtjhemobplcelbaaGreatDoor.M
open Go.RowKit Go.Proofs.YtjhemobplcelbaaGreatDoorW.PrintWords Go.Proofs.YtjhemobplcelbaaGreatDoorW.PrintLast Go.Proofs.YtjhemobplcelbaaGreatDoorW.PrintMore
open Go.Proofs.YtjhemobplcelbaaGreatDoor.O (STk SRu kTk kRu zTk zRu kTk_open kRu_open kTk_openM kTk_mkM kTk_mk kRu_mk)
set_option linter.unusedVariables false
set_option linter.unusedSimpArgs false
set_option maxHeartbeats 2000000 in
theorem index_off (w : World) (A : Option Addr) (c : Nat) (xs : List STk) (X : Nat) (n : Int) (hr : Kd.C kTk w A xs.length xs) (hxl : xs.length ≤ 17592186044416) (ht : X < w.heap.size ∧ w.cell? ⟨X, 0, none⟩ = some (.int .i64 n)) :
    Calls Tryz.prog 101 #[.slice A xs.length c, .func (.func 110) #[] #[.pointer (some ⟨X, 0, none⟩)]] w fun e w' => e = .returned (.int .i64 (idxB (offB n) xs)) ∧ Below w.heap.size w w' := by
  have HR := Aside0.mk hr
  have HT := Aside0.mk ht
  clear hr ht
  go_enter Tryz.func101, Tryz.ntmps101
  go_wp2_with fail
  go_loopg [8] xs.length (fun kq v8 w' => IRel (offB n) xs w kq v8 w')
  case atStart => exact ⟨0, by omega, rfl, Below.refl _ _, fun j h => absurd h (Nat.not_lt_zero j)⟩
  case round =>
    obtain ⟨i, hi, rfl, hb, hp⟩ := hrel
    have HI := Aside0.mk hi
    have HB := Aside0.mk hb
    have HP := Aside0.mk hp
    clear hi hb hp
    by_cases hil : i < xs.length
    · have t1 : decide ((i : Int) < (xs.length : Int)) = true := by simp; omega
      obtain ⟨ad, e1, x0, x1, x2⟩ := at_tok (Kd.C_below HR.out HB.out) i hil rfl
      subst e1
      go_wp2_with fail
      go_at_call 110
      refine (off_calls _ n xs[i] X ⟨Nat.lt_of_lt_of_le HT.out.1 HB.out.size, (HB.out.cell (p := ⟨X, 0, none⟩) HT.out.1).trans HT.out.2⟩).mono ?_
      rintro e w1 ⟨rfl, hd⟩
      have HB1 := Aside0.mk (HB.out.trans (hd.mono HB.out.size))
      clear hd x0 x1 x2
      obtain ⟨b, hpb⟩ : ∃ b, (offB n) xs[i] = b := ⟨_, rfl⟩
      rw [show offB n xs[i] = b from hpb]
      have HPB := Aside0.mk hpb
      clear hpb
      cases b with
      | true =>
        go_wp2_with fail
        go_ret
        exact ⟨by rw [idxB_at hil HPB.out (fun j h => HP.out j h (by omega))]; rfl, HB1.out⟩
      | false =>
        go_wp2_with fail
        go_roundg (gk - 1)
        case measure => have := HI.out; omega
        case rel =>
          refine ⟨i + 1, by have := HI.out; omega, by go_num, HB1.out, fun j h h2 => ?_⟩
          by_cases hj : j < i
          · exact HP.out j hj h2
          · obtain rfl : j = i := by omega
            exact HPB.out
    · have t1 : decide ((i : Int) < (xs.length : Int)) = false := by simp; omega
      go_wp2_with fail
      go_ret
      exact ⟨by rw [idxB_none (fun j h => HP.out j (by have := HI.out; omega) h)]; rfl, HB.out⟩
theorem run_clear_tok (w : World) (b o n c : Nat) (hn : 0 < n) (hc : ∀ j, j < n * 3 → (w.cell? ⟨b, o + j, none⟩).isSome = true) (hf : ∀ j, j < n * 3 → w.frozen? ⟨b, o + j, none⟩ = false) :
    ∃ zs : List Value, zs.length = n * 3 ∧ ∀ ty : TypeId, (Builtin.clear_ #[22] ty #[.slice (some ⟨b, o, none⟩) n c]).run Tryz.prog w = .ok (.tuple #[]) (w.setCells b o zs) := by
  have hv : ∀ w, (zeroValue 71).run Tryz.prog w = .ok (.agg #[(.string ⟨#[]⟩), (.int .i64 0), (.int .i64 0)]) w := Tryz.zeroValue71
  obtain ⟨zs, hzs⟩ : ∃ zs, zs = (Builtin.zeroCells (Value.agg #[(.string ⟨#[]⟩), (.int .i64 0), (.int .i64 0)]).cells n).toList := ⟨_, rfl⟩
  have hl : zs.length = n * 3 := by rw [hzs]; simp [Builtin.zeroCells, Value.cells]
  have h1 : ∀ u ∈ zs, u.oneCell' = true := by
    intro u hu
    rw [hzs] at hu
    simp only [Builtin.zeroCells, Value.cells, Array.toList_map, List.mem_map] at hu
    obtain ⟨j, _, rfl⟩ := hu
    have h3 : j % 3 < 3 := Nat.mod_lt _ (by decide)
    show (#[(Value.string ⟨#[]⟩), (.int .i64 0), (.int .i64 0)][j % 3]!).oneCell' = true
    rcases (show j % 3 = 0 ∨ j % 3 = 1 ∨ j % 3 = 2 by omega) with h | h | h <;> rw [h] <;> rfl
  have hst := run_storeCells_cells (P := Tryz.prog) b o zs 0 w (by rw [hl]; simpa using hc) (by rw [hl]; simpa using hf) h1
  simp only [Nat.add_zero] at hst
  refine ⟨zs, hl, fun ty => ?_⟩
  obtain ⟨m, rfl⟩ : ∃ m, n = m + 1 := ⟨n - 1, by omega⟩
  rw [hzs] at hst ⊢
  simp [Builtin.clear_, run_underlying Tryz.underlying22, hv, hst]
def keepB (n : Int) (l : List STk) : List STk := l.filter fun u => !offB n u
def DRel (n : Int) (l : List STk) (w : World) (B : Nat) (v : Value) (kq : Nat) (v5 v6 : Value) (w' : World) : Prop :=
  ∃ i j : Nat, ∃ cur : List STk, j + kq = l.length ∧ v5 = .int .i64 (i : Int) ∧ v6 = .int .i64 (j : Int) ∧ i < j ∧ cur.length = l.length ∧ cur.take i = keepB n (l.take j) ∧ cur.drop j = l.drop j ∧ Below B w w' ∧ Kd.Q kTk 71 w' B (own v) v cur
theorem keep_snoc {n : Int} {l : List STk} {j : Nat} (hj : j < l.length) : keepB n (l.take (j + 1)) = keepB n (l.take j) ++ (if offB n l[j] then [] else [l[j]]) := by
  unfold keepB
  rw [List.take_succ_eq_append_getElem hj, List.filter_append]
  cases h : offB n l[j] <;> simp [List.filter_cons, h]
theorem keep_all {n : Int} {l : List STk} (h : ∀ (j : Nat) (hj : j < l.length), offB n l[j] = false) : keepB n l = l := by
  unfold keepB
  rw [List.filter_eq_self]
  intro a ha
  obtain ⟨j, hj, rfl⟩ := List.getElem_of_mem ha
  rw [h j hj]; rfl
theorem at_new (W : World) (b o n c i : Nat) (hi : i < n) (hc : n ≤ c) (hn : n ≤ 17592186044416) :
    (Instr.slice 22 (.slice (some ⟨b, o, none⟩) n c) (some (.int .i64 (i : Int))) none none).run Tryz.prog W = .ok (.slice (some ⟨b, o + i * 3, none⟩) (n - i) (c - i)) W := by
  obtain ⟨i0, hi0, _, hsz, _⟩ := info_parts infoTk
  have hc2 := cut_from (P := Tryz.prog) 22 71 .i64 Tryz.underlying22 hi0 3 hsz (some ⟨b, o, none⟩) n c (i : Int) (by omega) (by omega)
  rw [Int.toNat_natCast, if_neg (by omega)] at hc2
  have e := hc2 W
  rw [show Option.map (fun x : Addr => x.add (i * 3)) (some ⟨b, o, none⟩) = some ⟨b, o + i * 3, none⟩ from (by simp [Addr.add])] at e
  exact e
theorem C_before {w : World} {g o : Nat} {xs : List STk} (h : Kd.C kTk w (some ⟨g, o, none⟩) xs.length xs) (zs : List Value) (p : Nat) (hp : o + xs.length * 3 ≤ p) : Kd.C kTk (w.setCells g p zs) (some ⟨g, o, none⟩) xs.length xs := by
  refine ⟨h.1, h.2.1, fun hn => ?_⟩
  obtain ⟨ad, e, hc⟩ := h.2.2 hn
  injection e with e
  subst e
  refine ⟨_, rfl, fun j q hj => ?_⟩
  obtain ⟨c, hl, hR, hu⟩ := hc j q hj
  obtain rfl := kTk_open hR
  refine ⟨_, hl, kTk_mk _ _, fun i u hi => ?_⟩
  have hjl : j < xs.length := (List.getElem?_eq_some_iff.1 hj).1
  have hil : i < 3 := (List.getElem?_eq_some_iff.1 hi).1
  have h1 := hu i u hi
  rw [add_at] at h1 ⊢
  have h3 : w.rangeAt g (o + (j * kTk.sz + i)) [u] := by
    intro k v hk
    cases k with
    | zero => simp only [List.getElem?_cons_zero] at hk; injection hk with hk; subst hk; exact h1
    | succ k => simp at hk
  have h4 := World.rangeAt_setCells_apart h3 g p zs (.inr (.inl (by show o + (j * 3 + i) + 1 ≤ p; omega)))
  exact h4 0 u rfl
set_option maxHeartbeats 8000000 in
set_option maxRecDepth 100000 in
theorem delete_calls (w : World) (B : Nat) (A : Option Addr) (c : Nat) (l : List STk) (X : Nat) (n : Int) (hq : Kd.Q kTk 71 w B (own (.slice A l.length c)) (.slice A l.length c) l) (hcl : l.length ≤ c) (hl : l.length ≤ 100000) (hB : B ≤ w.heap.size) (hX : X < B ∧ w.cell? ⟨X, 0, none⟩ = some (.int .i64 n)) :
    Calls Tryz.prog 108 #[.slice A l.length c, .func (.func 110) #[] #[.pointer (some ⟨X, 0, none⟩)]] w fun e w' => ∃ A' c', e = .returned (.slice A' (keepB n l).length c') ∧ (keepB n l).length ≤ c' ∧ Kd.C kTk w' A' (keepB n l).length (keepB n l) ∧ Below B w w' := by
  have HQ := Aside0.mk hq
  have HX := Aside0.mk hX
  have HBW := Aside0.mk hB
  clear hq hX hB
  go_enter Tryz.func108, Tryz.ntmps108
  go_wp2_with fail
  go_at_call 101
  refine (index_off w A c l X n (Kd.Q_reads' HQ.out).2.2 (by omega) ⟨Nat.lt_of_lt_of_le HX.out.1 HBW.out, HX.out.2⟩).mono ?_
  rintro e w1 ⟨rfl, hb⟩
  have HB1 := Aside0.mk (hb.mono HBW.out)
  have HQ1 := Aside0.mk (Kd.Q_below HQ.out hb)
  clear hb HQ
  by_cases hany : l.any (offB n) = true
  · obtain ⟨i0, hi0, e0⟩ : ∃ i0 : Nat, i0 < l.length ∧ l.findIdx (offB n) = i0 := by
      obtain ⟨x, hx, hp⟩ := List.any_eq_true.1 hany
      exact ⟨_, List.findIdx_lt_length_of_exists ⟨x, hx, hp⟩, rfl⟩
    have hix : idxB (offB n) l = (i0 : Int) := by unfold idxB; rw [if_pos hany, e0]
    rw [hix]
    have hp0 := ((List.findIdx_eq hi0).1 e0)
    have t0 : ((i0 : Int) == -1) = false := by simp
    have h0 : Aside0 (l.take i0 = keepB n (l.take (i0 + 1))) := ⟨by
      rw [keep_snoc hi0, hp0.1, keep_all, if_pos rfl, List.append_nil]
      intro j hj
      rw [List.length_take] at hj
      rw [List.getElem_take]
      exact hp0.2 j (by omega)⟩
    clear hp0 e0 hix hany
    obtain ⟨g, o, c2, ev, hgB, hgl, _⟩ := Kd.Q_form HQ1.out (by omega)
    injection ev with ev1 ev2 ev3
    subst ev1
    clear ev2 ev3
    go_wp2_with fail
    go_loopg [5, 6] (l.length - (i0 + 1)) (fun kq v5 v6 w' => DRel n l w B (.slice (some ⟨g, o, none⟩) l.length c) kq v5 v6 w')
    case atStart => exact ⟨i0, i0 + 1, l, by omega, rfl, by go_num, by omega, rfl, h0.out, rfl, HB1.out, HQ1.out⟩
    case round =>
      obtain ⟨i, j, cur, hj, rfl, rfl, hij, hcl2, htk, hdr, hb, hq⟩ := hrel
      clear HQ1 HB1 h0
      have HJ := Aside0.mk hj
      have HTK := Aside0.mk htk
      have HDR := Aside0.mk hdr
      have HB := Aside0.mk hb
      have HQ := Aside0.mk hq
      have HL2 := Aside0.mk hcl2
      have hxc := (hb.cell (p := ⟨X, 0, none⟩) HX.out.1).trans HX.out.2
      have HXC := Aside0.mk hxc
      clear hj htk hdr hb hq hcl2 hxc
      by_cases hjl : j < l.length
      · have hcj : j < cur.length := by have := HL2.out; omega
        have hje : cur[j]'hcj = l[j] := by
          have h := congrArg (fun t => t[0]?) HDR.out
          simp only [List.getElem?_drop, Nat.add_zero] at h
          rw [List.getElem?_eq_getElem hcj, List.getElem?_eq_getElem hjl] at h
          exact Option.some.inj h
        obtain ⟨hn0, hnc, hC0⟩ := Kd.Q_reads' HQ.out
        obtain ⟨ad, e1, x0, x1, x2⟩ := at_tok hC0 j hcj rfl
        injection e1 with e1
        subst e1
        rw [hje] at x0 x1 x2
        simp only [add_at] at x0 x1 x2
        have t1 : decide ((j : Int) < (l.length : Int)) = true := by simp; omega
        have HJE := Aside0.mk hje
        have HSZ := Aside0.mk (Nat.le_trans HBW.out HB.out.size)
        clear hje hC0 hn0
        have hbv := below_alloc (Below.refl wr.heap.size wr) (.cells #[.string l[j].f0, .int .i64 l[j].f1, .int .i64 l[j].f2] 71)
        have HV := Aside0.mk (TBox.new wr l[j])
        have hxv := (hbv.cell (p := ⟨X, 0, none⟩) (Nat.lt_of_lt_of_le HX.out.1 HSZ.out)).trans HXC.out
        have HXV := Aside0.mk hxv
        have HBV := Aside0.mk hbv
        clear hxv hbv
        go_wp2_with fail
        go_at_call 110
        refine (off_calls _ n l[j] X ⟨by have := HX.out.1; have := HSZ.out; simp; omega, HXV.out⟩).mono ?_
        rintro e w2 ⟨rfl, hd⟩
        have HT2 := Aside0.mk (HV.out.move hd)
        have HS2 := Aside0.mk (HBV.out.trans (hd.mono HBV.out.size))
        clear hd HV HXV HBV x0 x1 x2
        have HB2 := Aside0.mk (HB.out.trans (HS2.out.mono HSZ.out))
        have HQ2 := Aside0.mk (Kd.Q_below HQ.out HS2.out)
        clear HB HQ HXC
        obtain ⟨b, hpb⟩ : ∃ b, offB n l[j] = b := ⟨_, rfl⟩
        have hks := keep_snoc (n := n) hjl
        rw [hpb] at hks
        have HKS := Aside0.mk hks
        rw [hpb]
        clear hpb hks
        cases b with
        | true =>
          go_wp2_with fail
          go_roundg (gk - 1)
          case measure => have := HJ.out; omega
          case rel =>
            exact ⟨i, j + 1, cur, by have := HJ.out; omega, by go_num, by go_num, by omega, HL2.out, by rw [HKS.out, HTK.out]; simp, by rw [← List.drop_drop, HDR.out, List.drop_drop], HB2.out, HQ2.out⟩
        | false =>
          obtain ⟨cc, hcc1, hcc2, hcc3, hcc4⟩ := Kd.Q_elem HQ2.out zTk (i : Int) (by omega) (by omega)
          obtain rfl := kTk_openM hcc2
          have hin : ((i : Int)).toNat = i := Int.toNat_natCast i
          have y0 := hcc3 0 _ rfl
          have y1 := hcc3 1 _ rfl
          have y2 := hcc3 2 _ rfl
          have g0 := hcc4 0
          have g1 := hcc4 1
          have g2 := hcc4 2
          rw [hin, show kTk.sz = 3 from rfl, Nat.add_zero] at y0 g0
          rw [hin, show kTk.sz = 3 from rfl] at y1 y2 g1 g2
          obtain ⟨hq3, hg3⟩ := Kd.Q_seg HQ2.out (i : Int) (by omega) (by omega) (seg := [.string l[j].f0, .int .i64 l[j].f1, .int .i64 l[j].f2]) (j := 0) (x' := l[j]) (okp := fun k => own (Value.slice (some { block := g, off := o }) l.length c) k ∧ k ≠ g) hcc1 hcc3 (by simp [show kTk.sz = 3 from rfl]) (by simpa using kTk_mkM _ _ _ l[j]) (fun _ hk => hk)
          rw [hin, show kTk.sz = 3 from rfl, Nat.add_zero] at hq3 hg3
          have HQ3 := Aside0.mk hq3
          have HB3 := Aside0.mk (pw_below_grown HB2.out (some g) (Nat.le_trans HSZ.out HS2.out.size) hg3 (fun k hk => by injection hk with hk; omega))
          have v0 := HT2.out.c0
          have v1 := HT2.out.c1
          have v2 := HT2.out.c2
          have s1 : decide ((i : Int) < (l.length : Int)) = true := by simp; omega
          clear hcc1 hcc2 hcc3 hcc4 hin hq3 hg3 HQ2 HB2
          go_wp2_with fail
          go_roundg (gk - 1)
          case measure => have := HJ.out; omega
          case rel =>
            refine ⟨i + 1, j + 1, cur.set i l[j], by have := HJ.out; omega, by go_num, by go_num, by omega, by rw [List.length_set]; exact HL2.out, ?_, ?_, HB3.out, HQ3.out⟩
            · rw [HKS.out, ← HTK.out, if_neg (by decide), List.take_set, List.take_succ_eq_append_getElem (by omega), List.set_append_right _ _ (by rw [List.length_take]; omega)]
              simp [List.length_take, Nat.min_eq_left (show i ≤ cur.length by omega)]
            · rw [List.drop_set_of_lt (by omega), ← List.drop_drop, HDR.out, List.drop_drop]
      · have hjl2 : j = l.length := by have := HJ.out; omega
        subst hjl2
        have t1 : decide ((l.length : Int) < (l.length : Int)) = false := by simp
        have hce : ∀ k, k < (l.length - i) * 3 → (wr.cell? ⟨g, o + i * 3 + k, none⟩).isSome = true ∧ wr.frozen? ⟨g, o + i * 3 + k, none⟩ = false := by
          intro k hk
          obtain ⟨cc, hcc1, hcc2, hcc3, hcc4⟩ := Kd.Q_elem HQ.out zTk ((i + k / 3 : Nat) : Int) (by omega) (by omega)
          have e3 : o + (((i + k / 3 : Nat) : Int)).toNat * kTk.sz + k % 3 = o + i * 3 + k := by rw [Int.toNat_natCast, show kTk.sz = 3 from rfl]; omega
          refine ⟨?_, by rw [← e3]; exact hcc4 _⟩
          have hlt : k % 3 < cc.length := by rw [hcc1]; exact Nat.mod_lt _ (by decide)
          rw [← e3, hcc3 (k % 3) _ (List.getElem?_eq_getElem hlt)]
          rfl
        obtain ⟨zs, hzl, hcl⟩ := run_clear_tok wr g (o + i * 3) (l.length - i) (c - i) (by omega) (fun k hk => (hce k hk).1) (fun k hk => (hce k hk).2)
        have hsl := fun W => at_new W g o l.length c i (by omega) (by omega) (by omega)
        have hCi : Kd.C kTk wr (some ⟨g, o, none⟩) (cur.take i).length (cur.take i) := Kd.C_take (Kd.Q_reads' HQ.out).2.2 (by have := HL2.out; omega)
        have htl : (cur.take i).length = i := by rw [List.length_take]; have := HL2.out; omega
        have HC := Aside0.mk (C_before hCi zs (o + i * 3) (by rw [htl]; omega))
        have HK : Aside0 (keepB n l = cur.take i) := ⟨by rw [HTK.out, List.take_length]⟩
        have HTL := Aside0.mk htl
        have HBZ := Aside0.mk (Go.below_setCells (B := B) (a := w) (b := g) hgB zs (o + i * 3) wr HB.out)
        clear hce hCi htl hzl HQ HB HTK HDR
        go_wp2_with fail
        go_ret
        exact ⟨some ⟨g, o, none⟩, c, by rw [HK.out, HTL.out]; rfl, by rw [HK.out, HTL.out]; omega, by rw [HK.out]; exact HC.out, HBZ.out⟩
  · have hix : idxB (offB n) l = -1 := by unfold idxB; rw [if_neg hany]
    have HK : Aside0 (keepB n l = l) := ⟨keep_all fun j hj => by
      have h2 := hany
      rw [Bool.not_eq_true, List.any_eq_false] at h2
      have := h2 l[j] (List.getElem_mem hj)
      simpa using this⟩
    rw [hix]
    clear hix hany
    go_wp2_with fail
    go_ret
    exact ⟨A, c, by rw [HK.out]; rfl, by rw [HK.out]; exact hcl, by rw [HK.out]; exact (Kd.Q_reads' HQ1.out).2.2, HB1.out⟩
def KeptPost (n : Int) (l : List STk) (B : Nat) (w : World) (e : Ending) (w' : World) : Prop := ∃ A' c', e = .returned (.slice A' (keepB n l).length c') ∧ (keepB n l).length ≤ c' ∧ Kd.C kTk w' A' (keepB n l).length (keepB n l) ∧ Below B w w'
set_option maxHeartbeats 4000000 in
theorem level_calls (w : World) (A : Option Addr) (c : Nat) (l : List STk) (st : ByteArray) (ex n : Int) (A2 : Option Addr) (n2 c2 : Nat) (hr : Kd.C kTk w A l.length l) (hcl : l.length ≤ c) (hl : l.length ≤ 100000) :
    Calls Tryz.prog 100 #[.agg #[.slice A l.length c, .string st, .int .i64 ex, .slice A2 n2 c2], .int .i64 n] w (KeptPost n l w.heap.size w) := by
  have HB := Aside0.mk (below_alloc (below_alloc (Below.refl w.heap.size w) (.cells #[.slice A l.length c, .string st, .int .i64 ex, .slice A2 n2 c2] 25)) (.cells #[.int .i64 n] 3))
  have HR := Aside0.mk (Kd.C_below hr HB.out)
  clear hr
  go_enter Tryz.func100, Tryz.ntmps100
  go_wp2_with fail
  generalize hW1 : (w.alloc (.cells #[.slice A l.length c, .string st, .int .i64 ex, .slice A2 n2 c2] 25)).alloc (.cells #[.int .i64 n] 3) = W1 at *
  have hx1 : w.heap.size + 1 < W1.heap.size ∧ W1.cell? ⟨w.heap.size + 1, 0, none⟩ = some (.int .i64 n) := by subst hW1; exact ⟨by simp, by simp [go_sem]⟩
  have HX := Aside0.mk hx1
  clear hW1 hx1
  go_at_call 109
  refine (clone_tok l A c W1 (by omega) HR.out hcl).mono ?_
  rintro e w1 ⟨v, rfl, hrow, hb⟩
  obtain ⟨A1, c1, rfl, hc1, _⟩ := Kd.Q_reads (Kd.Q_of_R hrow)
  have HQ := Aside0.mk (Kd.Q_of_R hrow)
  have HX1 := Aside0.mk ((hb.cell (p := ⟨w.heap.size + 1, 0, none⟩) HX.out.1).trans HX.out.2)
  have HB1 := Aside0.mk hb
  clear hb hrow HR
  go_wp2_with fail
  go_at_call 108
  refine (delete_calls w1 W1.heap.size A1 c1 l (w.heap.size + 1) n HQ.out hc1 hl HB1.out.size ⟨HX.out.1, HX1.out⟩).mono ?_
  rintro e w2 ⟨A3, c3, rfl, h3, hC3, hb3⟩
  have HC3 := Aside0.mk hC3
  have HB3 := Aside0.mk (HB.out.trans ((HB1.out.trans hb3).mono HB.out.size))
  clear hC3 hb3 HQ HX HX1 HB HB1
  go_wp2_with fail
  go_ret
  exact ⟨A3, c3, rfl, h3, HC3.out, HB3.out⟩
end Go.Proofs.YtjhemobplcelbaaGreatDoor.M
