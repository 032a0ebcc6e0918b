/- tree: the law TreeEq answers true. -/
import Derived.Test.YtjhemobplcelbaaGreatDoorTreeJ
import Derived.Test.YtjhemobplcelbaaGreatDoorTreeE
namespace Go.Proofs.YtjhemobplcelbaaGreatDoor.T
open Go.RowKit Go.Proofs.YtjhemobplcelbaaGreatDoorW.PrintWords Go.Proofs.YtjhemobplcelbaaGreatDoorW.PrintLast Go.Proofs.YtjhemobplcelbaaGreatDoorW.PrintMore
set_option linter.unusedVariables false
set_option linter.unusedSimpArgs false
theorem C_take {w : World} {A : Option Addr} {l : List S87} (h : Kd.C k87 w A l.length l) (n : Nat) : Kd.C k87 w A (l.take n).length (l.take n) := by
  refine ⟨rfl, by have := h.2.1; rw [List.length_take]; omega, fun hp => ?_⟩
  obtain ⟨ad, e, hc⟩ := h.2.2 (by rw [List.length_take] at hp; omega)
  refine ⟨ad, e, fun j p hj => hc j p ?_⟩
  rw [List.getElem?_take] at hj
  split at hj
  · exact hj
  · cases hj
theorem C_tail {w : World} {ad : Addr} {n : Nat} {X : Nat} {qs : List Nat} (h : Kd.C kP w (some ad) n (X :: qs)) : Kd.C kP w (some (ad.add 1)) qs.length qs := by
  have hn : qs.length + 1 = n := h.1
  refine ⟨rfl, by have := h.2.1; omega, fun hp => ?_⟩
  obtain ⟨ad', e, hc⟩ := h.2.2 (by omega)
  cases e
  refine ⟨_, rfl, fun j p hj => ?_⟩
  obtain ⟨cs, h1, h2, h3⟩ := hc (j + 1) p hj
  refine ⟨cs, h1, h2, fun i u hu => ?_⟩
  have hs : kP.sz = 1 := rfl
  have := h3 i u hu
  rw [hs] at this ⊢
  rw [show (j + 1) * 1 + i = 1 + (j * 1 + i) by omega, ← add_add] at this
  exact this
theorem Node3.put0 {W : World} {X : Nat} {a b c : Value} (h : Node3 W X a b c) (v : Value) : Node3 (W.setCell ⟨X, 0, none⟩ v) X v b c := by
  refine ⟨?_⟩
  rw [setCell_eq_setRow W X 0 #[a, b, c] 61 (0, 0) v h.heap]
  exact setRow_heap W X #[a, b, c] _ 61 (0, 0) h.heap
theorem Node3.put1 {W : World} {X : Nat} {a b c : Value} (h : Node3 W X a b c) (v : Value) : Node3 (W.setCell ⟨X, 1, none⟩ v) X a v c := by
  refine ⟨?_⟩
  rw [setCell_eq_setRow W X 1 #[a, b, c] 61 (0, 0) v h.heap]
  exact setRow_heap W X #[a, b, c] _ 61 (0, 0) h.heap
theorem len_nodes : ∀ f : F, f.len ≤ f.nodes := by
  intro f
  induction f with
  | nil => exact Nat.le_refl _
  | cons r k kids rest _ ih => simp only [F.len, F.nodes]; omega
theorem reset {w9 W' : World} {Z c1 : Nat} {A1 : Option Addr} {qs : List Nat} {SZ S3 : Nat → Prop} {kids1 : F} {r' k' : Int} (hr : Kd.R kP 37 w9 0 (fun b => SZ b ∧ b ≠ Z) (.slice A1 qs.length c1) qs) (hk : (∀ b, S3 b → SZ b ∧ b ≠ Z ∧ some b ≠ (Value.slice A1 qs.length c1).ownBlock) ∧ OwnF w9 kids1 S3 qs)
    (hW : ∀ b, b ≠ Z → W'.heap[b]? = w9.heap[b]?) (hn : Node3 W' Z (.int .i64 r') (.int .i64 k') (.slice A1 qs.length c1)) : IsF W' [Z] (.cons r' k' kids1 .nil) := by
  obtain ⟨_, g1, g2⟩ := Kd.R_reads' (Kd.R_move hr (fun b hb => hW b hb.2))
  exact ⟨⟨A1, c1, qs, hn.heap, g2, g1, (hk.2.move _ _ _ (fun b hb => hW b (hk.1 b hb).2.1)).isF⟩, trivial⟩
theorem IsF.tail {w : World} {X : Nat} {qs : List Nat} {f : F} (h : IsF w (X :: qs) f) : IsF w qs (f.drop 1) ∧ (f.drop 1).nodes < f.nodes := by
  cases f with
  | nil => exact h.elim
  | cons r k kids rest => exact ⟨h.2, by simp only [F.drop, F.nodes]; omega⟩
/-- Two trees in memory that are not the same. -/
def Unlike (w wx : World) (X Y : Nat) : Prop := ∃ (r k : Int) (f : F) (r' k' : Int) (f' : F), IsF wx [X] (.cons r k f .nil) ∧ IsF wx [Y] (.cons r' k' f' .nil) ∧ (F.cons r k f .nil).eqB (.cons r' k' f' .nil) = false ∧ (F.cons r' k' f' .nil).eqB (.cons r k f .nil) = false ∧ Below w.heap.size w wx
theorem unlike {w w4 w7 W' : World} {S SZ : Nat → Prop} {X Y Z : Nat} {r k r1 k1 r' k' : Int} {f kids1 kids' : F} (hx : IsF w4 [X] (.cons r k f .nil)) (hw : Below w.heap.size w w4) (h4 : Below w4.heap.size w4 W')
    (m3 : ∀ (w' : World) (r' k' : Int) (kids' : F), (∀ b, S b → ¬ SZ b → w'.heap[b]? = w7.heap[b]?) → IsF w' [Z] (.cons r' k' kids' .nil) → ∃ f', IsF w' [Y] f' ∧ (f' = .cons r k f .nil → r' = r1 ∧ k' = k1 ∧ kids' = kids1))
    (hag : ∀ b, S b → ¬ SZ b → W'.heap[b]? = w7.heap[b]?) (hz : IsF W' [Z] (.cons r' k' kids' .nil)) (hne : ¬ (r' = r1 ∧ k' = k1 ∧ kids' = kids1)) : Unlike w W' X Y := by
  obtain ⟨f', p1, p2⟩ := m3 W' r' k' kids' hag hz
  have hne' : f' ≠ .cons r k f .nil := fun e => hne (p2 e)
  cases f' with
  | nil => exact p1.elim
  | cons r2 k2 f2 rest =>
    cases rest with
    | cons _ _ _ _ => exact p1.2.elim
    | nil =>
      refine ⟨r, k, f, r2, k2, f2, hx.below h4 _ _, p1, ?_, ?_, hw.trans (h4.mono hw.size)⟩
      · cases h : (F.cons r k f .nil).eqB (.cons r2 k2 f2 .nil) with
        | false => rfl
        | true => exact absurd ((eqB_iff _ _).1 h).symm hne'
      · cases h : (F.cons r2 k2 f2 .nil).eqB (.cons r k f .nil) with
        | false => rfl
        | true => exact absurd ((eqB_iff _ _).1 h) hne'
set_option maxRecDepth 100000 in
set_option maxHeartbeats 4000000 in
theorem treq_walk (w : World) (A : Option Addr) (c : Nat) (l : List S87) (hr : Kd.C k87 w A l.length l) (hc : l.length ≤ c) {ok : Prop} (hok : ok) (at_ : Int) (ha : (Lit.int .i64 at_).wf = true) (how : Int) (hh : (Lit.int .i64 how).wf = true) :
    Calls Tryz.prog 7 #[.slice A l.length c, .int .i64 at_, .int .i64 how] w fun e w' => e = .returned (.bool true) ∧ Below w.heap.size w w' := by
  have HR := Aside0.mk (And.intro hr hc)
  clear hr hok ha hh
  obtain ⟨m, hm⟩ : ∃ m, m = (l.take 30).length := ⟨_, rfl⟩
  have hq : (min (l.length : Int) 30).toNat = m := by rw [hm, List.length_take]; omega
  have HM := Aside0.mk hm
  clear hm
  go_enter Tryz.func7, Tryz.ntmps7
  go_wp2_with fail
  go_at_call 13
  refine (begun_yes _).mono ?_
  rintro e w3 ⟨rfl, hb⟩
  have HB := Aside0.mk hb
  clear hb
  go_upto_region 4 with fail
  go_wp2_with fail
  rw [HM.out]
  have HC : Aside0 (∀ w', Below w.heap.size w w' → BuildC (l.take 30) A c 13 ∧ Kd.C k87 w' A (l.take 30).length (l.take 30)) := ⟨fun w' hb => ⟨build_calls (l.take 30) A c 13, C_take (Kd.C_below HR.out.1 hb) 30⟩⟩
  have HLE := Aside0.mk (bld_le (l.take 30) 13 0 (by decide))
  generalize l.take 30 = q at *
  refine ((HC.out w3 HB.out).1 0 0 rfl (by decide) w3 (HC.out w3 HB.out).2).mono ?_
  rintro e w4 ⟨X, rfl, hO, hb4⟩
  have HX := Aside0.mk (And.intro hO.isF (HB.out.trans (hb4.mono HB.out.size)))
  clear hO hb4
  go_upto_region 5 with fail
  go_wp2_with fail
  rw [HM.out]
  refine ((HC.out w4 HX.out.2).1 0 0 rfl (by decide) w4 (HC.out w4 HX.out.2).2).mono ?_
  rintro e w5 ⟨Y, rfl, hO, hb5⟩
  have HY := Aside0.mk (And.intro hO hb5)
  clear hO hb5 hq HC
  generalize bld q 13 0 = T at *
  obtain ⟨⟨r, k, f⟩, i'⟩ := T
  have hsz : (F.cons r k f .nil).Size = (1 + f.nodes, 1 + f.height) := by
    have := HLE.out
    simp only at this
    rw [Size_ok _ (by simp only [F.nodes]; omega) (by simp only [F.height]; omega)]
    simp only [F.nodes, F.height, Nat.add_zero, Nat.max_zero]
  have CS := Size_calls w5 Y r k f HY.out.1.isF
  rw [hsz] at CS
  obtain ⟨n, hn⟩ : ∃ n, n = 1 + f.nodes := ⟨_, rfl⟩
  obtain ⟨hgt, hhgt⟩ : ∃ hgt, hgt = 1 + f.height := ⟨_, rfl⟩
  simp only [← hn, ← hhgt] at CS
  have HN : Aside0 (n = 1 + f.nodes ∧ 1 ≤ n ∧ n ≤ 60) := ⟨hn, by omega, by have := HLE.out; simp only at this; omega⟩
  have HCS := Aside0.mk CS
  clear CS hsz hn hhgt
  go_upto_region 6 with fail
  go_wp2_with fail
  go_at_call 18
  refine HCS.out.mono ?_
  rintro e w6 ⟨rfl, hb6⟩
  have HB6 := Aside0.mk hb6
  clear hb6 HCS
  have HB46 : Aside0 (Below w4.heap.size w4 w6) := ⟨HY.out.2.trans (HB6.out.mono HY.out.2.size)⟩
  have HBw6 : Aside0 (Below w.heap.size w w6) := ⟨HX.out.2.trans (HB46.out.mono HX.out.2.size)⟩
  go_upto_region 7 with fail
  have hn0 : ¬ n = 0 := by have := HN.out; omega
  have t0 : ((n : Int) == 0) = false := by simpa using hn0
  by_cases hat : at_ < 0
  · have t1 := decide_eq_true hat
    have t2 : decide ((n : Int) > 0) = true := by simp; omega
    have hn1 : 0 < n := by omega
    go_wp2_with fail
    go_ret
    exact ⟨rfl, HBw6.out⟩
  · have t1 := decide_eq_false hat
    have CE := Aside0.mk ((eq_calls w6 (.cons r k f .nil)).1 X Y r k f (HX.out.1.below HB46.out _ _) (HY.out.1.isF.below HB6.out _ _) w6 (Below.refl _ _))
    rw [eqB_self] at CE
    go_wp2_with fail
    go_at_call 26
    refine CE.out.mono ?_
    rintro e w7 ⟨rfl, hd⟩
    have HB7 := Aside0.mk (drew_below hd)
    clear hd CE
    have hq1 : (0 : Int) < (n : Int) := by omega
    obtain ⟨i, hi, hil⟩ : ∃ i : Nat, Int.tmod at_ (n : Int) = (i : Int) ∧ i < n := ⟨(Int.tmod at_ (n : Int)).toNat, by have := Int.tmod_nonneg (n : Int) (show 0 ≤ at_ by omega); omega, by have := Int.tmod_lt_of_pos at_ hq1; have := Int.tmod_nonneg (n : Int) (show 0 ≤ at_ by omega); omega⟩
    have HB47 : Aside0 (Below w4.heap.size w4 w7) := ⟨HB46.out.trans (HB7.out.mono HB46.out.size)⟩
    have HYF : Aside0 (OwnF w7 (.cons r k f .nil) (fun b => w4.heap.size ≤ b ∧ b < w5.heap.size) [Y]) := ⟨⟨Y, [], rfl, _, fun _ => False, fun _ h => h, fun _ h => h.elim, fun _ _ h => h, HY.out.1.move (fun b hb => (HB7.out.block b (by have := HB6.out.size; omega)).trans (HB6.out.block b hb.2)), rfl⟩⟩
    have HK8 : Aside0 (Cell1 (w7.alloc (.cells #[.int .i64 (i : Int)] 3)) w7.heap.size 3 (.int .i64 (i : Int)) ∧ Below w7.heap.size w7 (w7.alloc (.cells #[.int .i64 (i : Int)] 3))) := ⟨Cell1.new w7 _ 3, below_alloc (Below.refl _ _) _⟩
    have HI := Aside0.mk hil
    clear hil
    go_upto_region 10 with fail
    generalize w7.alloc (.cells #[.int .i64 (i : Int)] 3) = W8 at *
    have CF := Aside0.mk ((find_calls w7 (.cons r k f .nil)).1 Y HYF.out.isF W8 w7.heap.size i HK8.out.2 HK8.out.1 (Nat.le_refl _) (by have := HI.out; have := HN.out; omega))
    go_wp2_with fail
    go_at_call 33
    refine CF.out.mono ?_
    rintro e w9 ⟨hb9, hz⟩
    rcases hz with ⟨_, Z, rfl, hz⟩ | ⟨hge, _⟩
    case inr => have := HI.out; have := HN.out; omega
    case inl =>
      obtain ⟨r1, k1, kids1, SZ, m1, m2, m0, m3⟩ := hole _ _ _ _ HYF.out hz
      have HB49 : Aside0 (Below w4.heap.size w4 w9) := ⟨HB47.out.trans (hb9.mono HB47.out.size)⟩
      have hs57 : w5.heap.size ≤ w7.heap.size := Nat.le_trans HB6.out.size HB7.out.size
      have HSZ : Aside0 (∀ b, SZ b → w4.heap.size ≤ b ∧ b < w7.heap.size ∧ b < w9.heap.size) := ⟨fun b hb => ⟨(m1 b hb).1, Nat.lt_of_lt_of_le (m1 b hb).2 hs57, Nat.lt_of_lt_of_le (Nat.lt_of_lt_of_le (m1 b hb).2 hs57) hb9.size⟩⟩
      have hZ0 := m2.move (w' := w9) (fun b hb => hb9.block b (HSZ.out b hb).2.1)
      obtain ⟨hZS, A1, c1, qs, S3, hzx, hzr, hz3, hzk⟩ := hZ0
      have HZN : Aside0 (Node3 w9 Z (.int .i64 r1) (.int .i64 k1) (.slice A1 qs.length c1)) := ⟨⟨hzx⟩⟩
      have HZ4 : Aside0 (w4.heap.size ≤ Z ∧ Z < w9.heap.size ∧ SZ Z) := ⟨(HSZ.out Z hZS).1, HZN.out.lt, hZS⟩
      have HZR : Aside0 (Kd.R kP 37 w9 0 (fun b => SZ b ∧ b ≠ Z) (.slice A1 qs.length c1) qs) := ⟨hzr⟩
      have HZK : Aside0 ((∀ b, S3 b → SZ b ∧ b ≠ Z ∧ some b ≠ (Value.slice A1 qs.length c1).ownBlock) ∧ OwnF w9 kids1 S3 qs) := ⟨hz3, hzk⟩
      have HS97 : Aside0 (∀ b, (w4.heap.size ≤ b ∧ b < w5.heap.size) → w9.heap[b]? = w7.heap[b]? ∧ b < w9.heap.size) := ⟨fun b hb => ⟨hb9.block b (by omega), by have := hb9.size; omega⟩⟩
      have HM3 := Aside0.mk m3
      have HX4 := HX
      have hql : qs.length ≤ 100 := by
        have h1 := (hzk.isF).length
        have h2 := len_nodes kids1
        have h3 := HN.out
        rw [nodes_one] at m0
        simp only [F.nodes] at m0
        omega
      clear hb9 hz m0 m1 m2 m3 hzx hzr hz3 hzk hZS CF
      have z0 := HZN.out.c0
      have z1 := HZN.out.c1
      have z2 := HZN.out.c2
      have z3 := HZN.out.fz 0
      have z4 := HZN.out.fz 1
      have z5 := HZN.out.fz 2
      go_upto_block 0 with fail
      obtain ⟨z, hz⟩ : ∃ z, bits BinOp.and IntKind.i64 how 3 = z := ⟨_, rfl⟩
      rw [hz]
      go_cut [] (fun wx => Unlike w wx X Y)
      case first =>
        have hag : ∀ W' : World, (∀ b, b ≠ Z → W'.heap[b]? = w9.heap[b]?) → ∀ b, (w4.heap.size ≤ b ∧ b < w5.heap.size) → ¬ SZ b → W'.heap[b]? = w7.heap[b]? := fun W' hW b hb hn => (hW b (fun e => hn (e ▸ HZ4.out.2.2))).trans (HS97.out b hb).1
        have HAG := Aside0.mk hag
        clear hag
        cases t0 : (z == 0) with
        | true =>
          go_wp2_with fail
          go_meet
          have hW : ∀ b, b ≠ Z → (w9.setCell ⟨Z, 1, none⟩ (.int .i64 (wrap64 (k1 + 1)))).heap[b]? = w9.heap[b]? := fun b hb => Below.heap_setCell w9 ⟨Z, 1, none⟩ _ b hb
          exact unlike HX.out.1 HX.out.2 (HB49.out.setCell (p := ⟨Z, 1, none⟩) HZ4.out.1 _) HM3.out (HAG.out _ hW) (reset HZR.out HZK.out hW (HZN.out.put1 _)) (fun h => by have h2 := h.2.1; unfold wrap64 at h2; omega)
        | false =>
          cases t1 : (z == 1) with
          | true =>
            go_wp2_with fail
            go_meet
            have hW : ∀ b, b ≠ Z → (w9.setCell ⟨Z, 0, none⟩ (.int .i64 (wrap64 (r1 + 1)))).heap[b]? = w9.heap[b]? := fun b hb => Below.heap_setCell w9 ⟨Z, 0, none⟩ _ b hb
            exact unlike HX.out.1 HX.out.2 (HB49.out.setCell (p := ⟨Z, 0, none⟩) HZ4.out.1 _) HM3.out (HAG.out _ hW) (reset HZR.out HZK.out hW (HZN.out.put0 _)) (fun h => by have h2 := h.1; unfold wrap64 at h2; omega)
          | false =>
            cases t2 : (z == 2) with
            | true =>
              have hb10 : Below w9.heap.size w9 (w9.alloc (.cells #[.int .i64 (-1), .int .i64 0, .slice none 0 0] 61)) := below_alloc (Below.refl _ _) _
              have HB10 := Aside0.mk hb10
              have HLF : Aside0 (LeafBox (w9.alloc (.cells #[.int .i64 (-1), .int .i64 0, .slice none 0 0] 61)) w9.heap.size 0) := ⟨heap_alloc_new w9 _⟩
              clear hb10
              go_wp2_with (first
                | (at_builtin; refine Kd.R_append kP (w0 := w9) 0 rfl (.tmp 107) (.tmp 110) 59 37 (.pointer none) 8 rfl Tryz.underlying59 infoP rfl (by decide) (by omega) _ qs w9.heap.size [.pointer (some ⟨w9.heap.size, 0, none⟩)] (fun b => b ≠ Z) (fun _ => False) rfl (by rw [World.size_alloc]; rfl) (show Kd.M kP _ _ _ _ [pv w9.heap.size] from rfl) (fun _ h => h.elim) (fun k hk => by have := HZ4.out.2.1; rw [World.size_alloc] at hk; omega) (Kd.R_mono (Kd.R_below HZR.out HB10.out) (fun b hb => hb.2)) (HB10.out.mono (Nat.zero_le _)) (Nat.zero_le _) (by omega) ?_; intro v2 w11 ho2 hb2 hg2 hn2; obtain ⟨A5, c5, e5⟩ := Kd.R_slice ho2; subst e5; have H5 := Aside0.mk (And.intro ho2 hg2); have HN5 : Aside0 (Node3 w11 Z (.int .i64 r1) (.int .i64 k1) (.slice A1 qs.length c1)) := ⟨⟨(hg2.block Z (by rw [World.size_alloc]; have := HZ4.out.2.1; omega) (fun he => (HZR.out.1 Z he.symm).2 rfl)).trans (HZN.out.move HB10.out HZ4.out.2.1).heap⟩⟩; have z6 := HN5.out.fz 2; have z7 := HN5.out.c2; clear ho2 hb2 hg2 hn2))
              go_meet
              rw [show qs.length + 1 = (qs ++ [w9.heap.size]).length by simp]
              obtain ⟨p1, p3⟩ := H5.out
              have hZlt := HZ4.out.2.1
              have hown := Kd.R_lt HZR.out
              have hsz10 : (w9.alloc (.cells #[.int .i64 (-1), .int .i64 0, .slice none 0 0] 61)).heap.size = w9.heap.size + 1 := World.size_alloc ..
              have hW : ∀ b, b ≠ Z → b < w9.heap.size → some b ≠ (Value.slice A1 qs.length c1).ownBlock → (w11.setCell ⟨Z, 2, none⟩ (.slice A5 (qs ++ [w9.heap.size]).length c5)).heap[b]? = w9.heap[b]? := fun b hb hlt ho => ((Below.heap_setCell w11 ⟨Z, 2, none⟩ _ b hb).trans (p3.block b (by omega) ho)).trans (HB10.out.block b hlt)
              have hleaf : LeafBox (w11.setCell ⟨Z, 2, none⟩ (.slice A5 (qs ++ [w9.heap.size]).length c5)) w9.heap.size 0 := ((Below.heap_setCell w11 ⟨Z, 2, none⟩ _ _ (by show w9.heap.size ≠ Z; omega)).trans (p3.block w9.heap.size (by omega) (fun he => by have := hown _ he.symm; omega))).trans HLF.out
              obtain ⟨_, g1, g2⟩ := Kd.R_reads' (Kd.R_move (w1 := w11.setCell ⟨Z, 2, none⟩ (.slice A5 (qs ++ [w9.heap.size]).length c5)) p1 (fun b hb => Below.heap_setCell w11 ⟨Z, 2, none⟩ _ b hb))
              have hkids := (HZK.out.2.move (w' := w11.setCell ⟨Z, 2, none⟩ (.slice A5 (qs ++ [w9.heap.size]).length c5)) _ _ _ (fun b hb => hW b (HZK.out.1 b hb).2.1 (HSZ.out b (HZK.out.1 b hb).1).2.2 (HZK.out.1 b hb).2.2)).isF
              refine unlike HX.out.1 HX.out.2 (Below.setCell (p := ⟨Z, 2, none⟩) ?_ HZ4.out.1 _) HM3.out (fun b hb hn => (hW b (fun e => hn (e ▸ HZ4.out.2.2)) (HS97.out b hb).2 (fun he => hn (HZR.out.1 b he.symm).1)).trans (HS97.out b hb).1) (kids' := kids1.app (.cons (-1) 0 .nil .nil)) ⟨⟨A5, c5, _, (HN5.out.put2 _).heap, g2, g1, IsF.app _ _ _ _ hkids hleaf.isF⟩, trivial⟩ (fun h => by have h2 := congrArg F.nodes h.2.2; rw [app_nodes] at h2; simp only [F.nodes] at h2; omega)
              exact HB49.out.trans ((show Below w4.heap.size w9 w11 from ⟨p3.os.trans HB10.out.os, p3.tape.trans HB10.out.tape, p3.output.trans HB10.out.output, Nat.le_trans HB10.out.size p3.size, fun b hb => (p3.block b (by have := HB49.out.size; omega) (fun he => by have := HSZ.out b (HZR.out.1 b he.symm).1; omega)).trans (HB10.out.block b (by have := HB49.out.size; omega))⟩))
            | false =>
              cases qs with
              | nil =>
                go_wp2_with fail
                go_ret
                exact ⟨rfl, HX.out.2.trans (HB49.out.mono HX.out.2.size)⟩
              | cons q0 qs =>
                obtain ⟨g, cap, eV, _, _, _⟩ := Kd.R_form HZR.out (Nat.zero_lt_succ _)
                cases eV
                obtain ⟨_, hcap, hrow⟩ := Kd.R_reads' HZR.out
                have hl1 : ((q0 :: qs).length : Int) = (qs.length : Int) + 1 := by simp
                have HTL := Aside0.mk ((HZK.out.2.isF).tail)
                have HCAP := Aside0.mk hcap
                clear hcap hrow
                by_cases hc1 : c1 = 1
                · subst hc1
                  obtain rfl : qs = [] := List.eq_nil_of_length_eq_zero (by have := HCAP.out; rw [List.length_cons] at this; omega)
                  go_wp2_with fail
                  go_meet
                  have hW : ∀ (v : Value) b, b ≠ Z → (w9.setCell ⟨Z, 2, none⟩ v).heap[b]? = w9.heap[b]? := fun v b hb => Below.heap_setCell w9 ⟨Z, 2, none⟩ _ b hb
                  refine unlike HX.out.1 HX.out.2 (HB49.out.setCell (p := ⟨Z, 2, none⟩) HZ4.out.1 _) HM3.out (HAG.out _ (hW _)) (kids' := kids1.drop 1) ⟨⟨_, _, [], (HZN.out.put2 _).heap, ⟨rfl, by decide, fun h => absurd h (Nat.lt_irrefl 0)⟩, Nat.zero_le _, ((HZK.out.2.move _ _ _ (fun b hb => hW _ b (HZK.out.1 b hb).2.1)).isF).tail.1⟩, trivial⟩ (fun h => by have h2 := congrArg F.nodes h.2.2; have := HTL.out.2; omega)
                · have hc2 : 2 ≤ c1 := by have := HCAP.out; simp at this; omega
                  go_wp2_with fail
                  go_meet
                  have hW : ∀ (v : Value) b, b ≠ Z → (w9.setCell ⟨Z, 2, none⟩ v).heap[b]? = w9.heap[b]? := fun v b hb => Below.heap_setCell w9 ⟨Z, 2, none⟩ _ b hb
                  have hrow : ∀ v, Kd.C kP (w9.setCell ⟨Z, 2, none⟩ v) (some ⟨g, 0, none⟩) (q0 :: qs).length (q0 :: qs) := fun v => (Kd.R_reads' (Kd.R_move HZR.out (fun b hb => hW v b hb.2))).2.2
                  refine unlike HX.out.1 HX.out.2 (HB49.out.setCell (p := ⟨Z, 2, none⟩) HZ4.out.1 _) HM3.out (HAG.out _ (hW _)) (kids' := kids1.drop 1) ⟨⟨_, _, qs, (HZN.out.put2 _).heap, C_tail (hrow _), by have := HCAP.out; simp at this; omega, ((HZK.out.2.move _ _ _ (fun b hb => hW _ b (HZK.out.1 b hb).2.1)).isF).tail.1⟩, trivial⟩ (fun h => by have h2 := congrArg F.nodes h.2.2; have := HTL.out.2; omega)
      case rest =>
        obtain ⟨r', k', f', r2, k2, f2, u1, u2, u3, u4, u5⟩ := hcut
        have CE1 := Aside0.mk ((eq_calls wc (.cons r' k' f' .nil)).1 X Y r2 k2 f2 u1 u2 wc (Below.refl _ _))
        have CE2 : Aside0 (∀ w', Below wc.heap.size wc w' → Calls Tryz.prog 26 #[.pointer (some ⟨Y, 0, none⟩), .pointer (some ⟨X, 0, none⟩)] w' fun e w'' => e = .returned (.bool false) ∧ ∃ m, w'' = w'.drewN m) := ⟨fun w' hb => by rw [← u4]; exact (eq_calls wc (.cons r2 k2 f2 .nil)).1 Y X r' k' f' u2 u1 w' hb⟩
        rw [u3] at CE1
        have HU := Aside0.mk u5
        clear u1 u2 u3 u4 u5 HM3 HZK HZR HZN HYF HX4
        go_wp2_with fail
        go_at_call 26
        refine CE1.out.mono ?_
        rintro e wd ⟨rfl, hd⟩
        have HD := Aside0.mk (drew_below hd)
        clear hd CE1
        go_wp2_with fail
        go_at_call 26
        refine (CE2.out _ HD.out).mono ?_
        rintro e we ⟨rfl, hd⟩
        have HE := Aside0.mk (HU.out.trans ((HD.out.trans ((drew_below hd).mono HD.out.size)).mono HU.out.size))
        clear hd CE2
        go_wp2_with fail
        go_ret
        exact ⟨rfl, HE.out⟩
end Go.Proofs.YtjhemobplcelbaaGreatDoor.T
