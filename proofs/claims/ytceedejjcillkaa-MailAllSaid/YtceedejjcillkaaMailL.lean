/- mail: donatuslaw28.MailAll answers true. -/
import Derived.Test.YtceedejjcillkaaMailK
import Derived.Deep.CutBlock
import Derived.Deep.DeepCutAuto
import Derived.Deep.RegionHeld3
import Derived.Deep.RegionLaw
import Derived.Deep.QuietTactic
import Derived.BigQuiet
namespace Go.Proofs.Ytceedejjcillkaa.M
open Go.Conc Go.RowKit Go.Proofs.YtceedejjcillkaaW.PrintWords Go.Proofs.YtceedejjcillkaaW.PrintLast Go.Proofs.YtceedejjcillkaaW.PrintMore
set_option linter.unusedVariables false
set_option linter.unusedSimpArgs false
theorem two_newI {w0 w w1 w2 : World} {na nb : Nat} (hb : Below w0.heap.size w0 w) (h1 : w1 = (w.alloc (.chan na #[] false 0 0 false)).alloc (.cells #[.chan (some w.heap.size)] 50 (0, 0)))
    (h2 : w2 = (w1.alloc (.chan nb #[] false 0 0 false)).alloc (.cells #[.chan (some w1.heap.size)] 50 (0, 0))) : Two w0 (w.heap.size + 1) w.heap.size na (w1.heap.size + 1) w1.heap.size nb (is []) (is []) w2 ∧ w2.heap.size = w1.heap.size + 2 ∧ w1.heap.size = w.heap.size + 2 := by
  refine ⟨two_new2 hb h1 h2, ?_, ?_⟩
  · rw [h2, size_alloc_one, size_alloc_one]
  · rw [h1, size_alloc_one, size_alloc_one]
theorem room_of (n : Int) : ∃ q : Int, (if 64 < n then 64 else n) = q ∧ ∃ r : Nat, (if 1 < q then q else 1) = (r : Int) ∧ (max 1 (min n 64)).toNat = r ∧ r ≤ 64 := by
  refine ⟨_, rfl, (max 1 (min n 64)).toNat, ?_, rfl, ?_⟩
  · split <;> split <;> omega
  · omega
/-- The lists' begin. -/
theorem St.start {w0 w2 : World} {a ca na b cb nb : Nat} (h : Two w0 a ca na b cb nb (is []) (is []) w2) :
    St w0 (w2.heap.size + 3) w2.heap.size (w2.heap.size + 1) (w2.heap.size + 2) a ca na b cb nb [] [] (.slice none 0 0) (.slice none 0 0) [] [] (((w2.alloc (.cells #[.pointer (some ⟨a, 0, none⟩), .pointer (some ⟨b, 0, none⟩)] 24 (0, 0))).alloc (.cells #[.int .i64 (na : Int), .int .i64 (nb : Int)] 3 (0, 0))).alloc (.cells #[.slice none 0 0, .slice none 0 0] 28 (0, 0))) := by
  have hA := h.a.lt
  have hB := h.b.lt
  have hz := h.below.size
  refine ⟨((h.alloc _).alloc _).alloc _, ?_, ?_, ?_, Kd.Q_nil _ _ _ _ _, Kd.Q_nil _ _ _ _ _, fun k hk => by simp [Value.ownBlock] at hk, ?_⟩
  · rw [Below.heap_alloc _ _ _ (by simp only [size_alloc_one]; omega), Below.heap_alloc _ _ _ (by simp only [size_alloc_one]; omega)]
    exact heap_alloc_new _ _
  · rw [Below.heap_alloc _ _ _ (by simp only [size_alloc_one]; omega)]
    have := heap_alloc_new (w2.alloc (.cells #[.pointer (some ⟨a, 0, none⟩), .pointer (some ⟨b, 0, none⟩)] 24 (0, 0))) (.cells #[.int .i64 (na : Int), .int .i64 (nb : Int)] 3 (0, 0))
    rw [size_alloc_one] at this
    exact this
  · have := heap_alloc_new ((w2.alloc (.cells #[.pointer (some ⟨a, 0, none⟩), .pointer (some ⟨b, 0, none⟩)] 24 (0, 0))).alloc (.cells #[.int .i64 (na : Int), .int .i64 (nb : Int)] 3 (0, 0))) (.cells #[.slice none 0 0, .slice none 0 0] 28 (0, 0))
    rw [size_alloc_one, size_alloc_one] at this
    exact this
  · simp only [size_alloc_one]
    omega
theorem and_one (x : Int) : bits BinOp.and IntKind.i64 x 1 = 0 ∨ bits BinOp.and IntKind.i64 x 1 = 1 := by
  unfold bits
  have h : (BitVec.ofInt 64 x &&& BitVec.ofInt 64 1).toNat = (BitVec.ofInt 64 x).toNat % 2 := by
    rw [BitVec.toNat_and, show (BitVec.ofInt 64 1).toNat = 1 from rfl, Nat.and_one_is_mod]
  rcases Nat.mod_two_eq_zero_or_one (BitVec.ofInt 64 x).toNat with h2 | h2
  · refine .inl ?_
    rw [h2] at h
    show IntKind.wrap _ ((BitVec.ofInt 64 x &&& BitVec.ofInt 64 1).toNat : Int) = 0
    rw [h]
    rfl
  · refine .inr ?_
    rw [h2] at h
    show IntKind.wrap _ ((BitVec.ofInt 64 x &&& BitVec.ofInt 64 1).toNat : Int) = 1
    rw [h]
    rfl
theorem infoI : (Try.prog.info? 3).map (fun i => (i.zero, i.size, i.bytes)) = some (some (.int .i64 0), 1, 8) := by kernel_rfl
theorem own_lt2 {w0 w : World} {B bb rm L a ca na b cb nb : Nat} {p q : List Int} {v u : Value} {l m : List Int} (h : St w0 B bb rm L a ca na b cb nb p q v u l m w) {k : Nat} (hk : k < B) : v.ownBlock ≠ some k ∧ u.ownBlock ≠ some k :=
  ⟨fun e => by have := (qown h.qv k e.symm).1; omega, fun e => by have := (qown h.qu k e.symm).1; omega⟩
theorem St.Llt {w0 w : World} {B bb rm L a ca na b cb nb : Nat} {p q : List Int} {v u : Value} {l m : List Int} (h : St w0 B bb rm L a ca na b cb nb p q v u l m w) : L < B ∧ L < w.heap.size ∧ B ≤ w.heap.size := by
  obtain ⟨_, _, _, _, _, _, h7, _, _, h10⟩ := h.lt
  omega
theorem cutQ {w : World} {B : Nat} {A : Option Addr} {n c : Nat} {x : Int} {l : List Int} (h : QI w B (own (.slice A n c)) (.slice A n c) (x :: l)) :
    n = l.length + 1 ∧ ∃ A1 c1, (∀ W, (Instr.slice 27 (.slice A (l.length + 1) c) (some (.int .i64 1)) none none).run Try.prog W = .ok (.slice A1 l.length c1) W) ∧ QI w B (own (.slice A1 l.length c1)) (.slice A1 l.length c1) l ∧ (Value.slice A1 l.length c1).ownBlock = (Value.slice A n c).ownBlock := by
  have hn : n = l.length + 1 := by have := (Kd.Q_reads' h).1; simpa using this
  subst hn
  obtain ⟨i0, hi, _, hsz, _⟩ := info_parts infoI
  have hc := cut_from (P := Try.prog) 27 3 .i64 Try.underlying27 hi 1 hsz A (l.length + 1) c 1 (by decide) (by omega)
  have hq := Kd.Q_drop (k := 1) h (by simp)
  have ho : (Value.slice (if c = 1 then A else A.map (·.add (1 * 1))) (l.length + 1 - 1) (c - 1)).ownBlock = (Value.slice A (l.length + 1) c).ownBlock := by
    split
    · cases A <;> rfl
    · cases A with
      | none => rfl
      | some a => simp [Value.ownBlock]; unfold Addr.add; split <;> rfl
  refine ⟨rfl, _, _, hc, ?_, ho⟩
  refine Kd.Q_mono hq (fun k hk => ?_)
  have hk' : own (.slice A (l.length + 1) c) k := hk
  unfold own at hk' ⊢
  rw [hk']
  exact ho.symm
theorem headQ {w : World} {B : Nat} {A : Option Addr} {n c : Nat} {x : Int} {l : List Int} (h : QI w B (own (.slice A n c)) (.slice A n c) (x :: l)) : ∃ ad, A = some ad ∧ w.cell? ad = some (.int .i64 x) := by
  obtain ⟨ad, cs, e, _, hK, hc⟩ := Kd.C_get (Kd.Q_reads' h).2.2 0 0 (by omega) (by simp)
  obtain rfl : cs = [.int .i64 x] := hK
  have := hc 0 _ rfl
  rw [show ad.add ((0 : Int).toNat * (Kd.int .i64).sz + 0) = ad from (by show ad.add 0 = ad; unfold Addr.add; split <;> simp_all)] at this
  exact ⟨ad, e, this⟩
def AllRel (w0 : World) (B bb rm L a ca na b cb nb : Nat) (kq : Nat) (v11 : Value) (w' : World) : Prop :=
  ∃ (i : Nat) (p q : List Int) (v u : Value), i + kq = 200 ∧ v11 = .int .i64 (i : Int) ∧ p.length ≤ na ∧ q.length ≤ nb ∧ St w0 B bb rm L a ca na b cb nb p q v u p q w'
def MidRel (w0 : World) (B bb rm L a ca na b cb nb : Nat) (w' : World) : Prop :=
  ∃ (p q : List Int) (v u : Value), p.length ≤ na ∧ q.length ≤ nb ∧ St w0 B bb rm L a ca na b cb nb p q v u p q w'
set_option maxHeartbeats 40000000 in
set_option maxRecDepth 100000 in
theorem All_calls (w : World) (n : Int) (ok0 : (Lit.int .i64 n).wf = true) (m : Int) (ok1 : (Lit.int .i64 m).wf = true) (A0 : Option Addr) (c0 : Nat) (xs : List S30) (hr0 : Kd.C k30 w A0 xs.length xs) (le0 : xs.length ≤ c0) (ok2 : xs.length ≤ 17592186044000) :
    Calls Try.prog 3 #[.int .i64 n, .int .i64 m, .slice A0 xs.length c0] w fun e w' => e = .returned (.bool true) ∧ Below w.heap.size w w' := by
  obtain ⟨q1, hq1, ra, ha1, ha2, ha3⟩ := room_of n
  obtain ⟨q2, hq2, rb, hb1, hb2, hb3⟩ := room_of m
  have HA2 := Aside0.mk ha2
  have HB2 := Aside0.mk hb2
  have HR0 := Aside0.mk hr0
  clear ok0 ok1 ha2 hb2 hr0
  go_enter Try.func3, Try.ntmps3
  go_wp2_with fail
  go_at_call 7
  refine (begun_calls _).mono ?_
  rintro e w1 ⟨rfl, hb⟩
  have HB := Aside0.mk hb
  clear hb
  go_wp2_with fail
  go_at_call 8
  refine (new_calls n _).mono ?_
  rintro e w2 ⟨rfl, h2⟩
  rw [HA2.out] at h2
  have H2 := Aside0.mk h2
  clear h2
  go_wp2_with fail
  go_at_call 8
  refine (new_calls m _).mono ?_
  rintro e w3 ⟨rfl, h3⟩
  rw [HB2.out] at h3
  have HT := Aside0.mk (two_newI HB.out H2.out h3)
  clear h3 H2 HB HA2 HB2
  go_wp2_with fail
  clear hq1 ha1 hq2 hb1
  have HS := Aside0.mk (St.start HT.out.1)
  clear HT
  generalize w1.heap.size + 1 = a at *
  generalize w1.heap.size = ca at *
  generalize w2.heap.size + 1 = b at *
  generalize w2.heap.size = cb at *
  rw [show w3.heap.size + 1 + 1 = w3.heap.size + 2 from rfl]
  go_loopg [11] 200 (fun kq v11 w' => AllRel w (w3.heap.size + 3) w3.heap.size (w3.heap.size + 1) (w3.heap.size + 2) a ca ra b cb rb kq v11 w')
  case atStart => exact ⟨0, [], [], _, _, by omega, rfl, by simp, by simp, HS.out⟩
  case round =>
    clear HS
    obtain ⟨i, p, q, v, u, hi, rfl, hp, hq, h⟩ := hrel
    generalize w3.heap.size + 3 = B at *
    generalize w3.heap.size + 2 = L at *
    generalize w3.heap.size + 1 = rm at *
    generalize w3.heap.size = bb at *
    have HI := Aside0.mk hi
    have HS := Aside0.mk h
    clear hi h
    by_cases hx : i < xs.length
    · have t1 : decide ((i : Int) < (xs.length : Int)) = true := by simp; omega
      by_cases h200 : i < 200
      · have t2 : decide ((i : Int) < 200) = true := by simp; omega
        obtain ⟨ad, o, e1, x0, x1, x2⟩ := at_T30 (Kd.C_below HR0.out HS.out.two.below) i hx
        subst e1
        obtain ⟨f0, f1, f2⟩ := o
        dsimp only at x0 x1 x2
        rcases and_one f1 with hk | hk
        · have h3 : True := trivial
          have hS1 := HS.out.keep (below_alloc (Below.refl _ _) (.cells #[.int .i64 f0, .int .i64 f1, .int .i64 f2] 30))
          have y2 : (wr.alloc (.cells #[.int .i64 f0, .int .i64 f1, .int .i64 f2] 30)).cell? ⟨wr.heap.size, 2, none⟩ = some (.int .i64 f2) := by simp [go_sem]
          have hX : wr.heap.size < (wr.alloc (.cells #[.int .i64 f0, .int .i64 f1, .int .i64 f2] 30)).heap.size := by rw [size_alloc_one]; omega
          have hxv : v.ownBlock ≠ some wr.heap.size := fun e => by have := (qown HS.out.qv _ e.symm).2; omega
          have hxu : u.ownBlock ≠ some wr.heap.size := fun e => by have := (qown HS.out.qu _ e.symm).2; omega
          have HS1 := Aside0.mk hS1
          have Y2 := Aside0.mk y2
          have HX := Aside0.mk hX
          have HXV := Aside0.mk hxv
          have HXU := Aside0.mk hxu
          clear hS1 y2 hX hxv hxu h3
          go_upto_block 2 with fail
          go_cut [] (fun wx => MidRel w B bb rm L a ca ra b cb rb wx)
          case first =>
            clear hk x0 x1 x2
            generalize wr.alloc (.cells #[.int .i64 f0, .int .i64 f1, .int .i64 f2] 30) = W1 at *
            generalize wr.heap.size = X at *
            clear HS
            have HS := HS1
            clear HS1
            obtain ⟨Av, cv, rfl, hcv⟩ := Kd.Q_slice HS.out.qv
            obtain ⟨Au, cu, rfl, hcu⟩ := Kd.Q_slice HS.out.qu
            by_cases hf0 : f0 = 0
            · as_aux_lemma =>
              subst hf0
              obtain ⟨cb0, cb1, cr0, cr1, cl0, cl1, fl0, fl1⟩ := HS.out.c
              have y2 := Y2.out
              by_cases hroom : p.length < ra
              · have hdr : decide ((p.length : Int) < (ra : Int)) = true := by simp; omega
                have hdr2 : decide (p.length < ra) = true := by simp; omega
                have hr0 := Aside0.mk hroom
                clear hroom
                go_wp2_with fail
                go_region_held3 (fun w' => w'.cell? ⟨bb, 0, none⟩ = some (.pointer (some ⟨a, 0, none⟩)) ∧ w'.cell? ⟨rm, 0, none⟩ = some (.int .i64 (ra : Int)) ∧ w'.cell? ⟨L, 0, none⟩ = some (.slice Av p.length cv) ∧ w'.cell? ⟨X, 2, none⟩ = some (.int .i64 f2))
                  (first | go_keep | (simp only [hc5, World.cell?_drew]; go_keep))
                  (first | (go_at_call 9; refine ((HS.out.keep (below_drew (Below.refl _ _))).putA f2 hr0.out).mono ?_; rintro e w5 ⟨rfl, hh, hc5, hz5⟩))
                have HS' := Aside0.mk (hh)
                have Y' := Aside0.mk (by rw [hc5, World.cell?_drew]; exact Y2.out : w5.cell? ⟨X, 2, none⟩ = some (.int .i64 f2))
                have HX' := Aside0.mk (by rw [hz5]; exact HX.out : X < w5.heap.size)
                clear HS Y2 HX cb0 cb1 cr0 cr1 cl0 cl1 fl0 fl1 y2 hh hc5 hz5
                have HS := HS'
                have Y2 := Y'
                have HX := HX'
                clear HS' Y' HX'
                obtain ⟨cb0, cb1, cr0, cr1, cl0, cl1, fl0, fl1⟩ := HS.out.c
                have y2 := Y2.out
                go_wp2_with fail
                go_quiet (fail)
                have hd : Below w5.heap.size w5 (w5.drewN nq) := pw_below_drewN (Below.refl _ _) nq
                have HS' := Aside0.mk (HS.out.keep hd)
                have Y' := Aside0.mk ((hd.cell (p := ⟨X, 2, none⟩) HX.out).trans Y2.out)
                have HX' := Aside0.mk (Nat.lt_of_lt_of_le HX.out hd.size)
                clear HS Y2 HX cb0 cb1 cr0 cr1 cl0 cl1 fl0 fl1 y2 hd
                have HS := HS'
                have Y2 := Y'
                have HX := HX'
                clear HS' Y' HX'
                generalize w5.drewN nq = W5 at *
                obtain ⟨cb0, cb1, cr0, cr1, cl0, cl1, fl0, fl1⟩ := HS.out.c
                have y2 := Y2.out
                have hln := (own_lt2 HS.out HS.out.Llt.1).1
                have hlL := HS.out.Llt.2.1
                go_wp2_with fail
                go_region_law
                  ((refine Kd.Q_append_step (Kd.int .i64) (w0 := W5.drew) (W := W5.drew) B (by rfl) (.tmp 140) (.tmp 143) 27 3 (.int .i64 0) 8 rfl Try.underlying27 infoI rfl (by decide) (by omega) (.slice Av p.length cv) p f2 _ (fun k => own (.slice Av p.length cv) k ∨ W5.heap.size ≤ k) (fun _ => False) (by rfl) (by rfl) (show Kd.M (Kd.int .i64) _ _ _ f2 [.int .i64 f2] from rfl) (fun _ h => h.elim) (fun k hk => .inr hk) (Kd.Q_drew (Kd.Q_mono HS.out.qv (fun k hk => .inl hk))) ((Below.refl _ _).mono HS.out.Llt.2.2) HS.out.Llt.2.2 (by omega) ?_; intro v1 w1' hq1 hb1 hg1 hat1; obtain ⟨A1, cc1, rfl, hcc1⟩ := Kd.Q_slice hq1; have flw : w1'.frozen? ⟨L, 0, none⟩ = false := (hg1.frozen_far ⟨L, 0, none⟩ hlL (fun e => hln e.symm)).trans fl0; have clw := (hg1.cell_far ⟨L, 0, none⟩ hlL (fun e => hln e.symm)).trans cl0))
                all_goals
                  have HF := Aside0.mk ((HS.out.keep (below_drew (Below.refl _ _))).setV (Kd.Q_tight rfl hq1) hg1 hat1 ((HS.out.keep (below_drew (Below.refl _ _))).two.below.trans (hb1.mono HS.out.lt.2.2.2.2.2.2.2.2.1)))
                  simp only [List.length_append, List.length_cons, List.length_nil, Nat.zero_add] at HF
                  clear cb0 cb1 cr0 cr1 cl0 cl1 fl0 fl1 y2 flw clw hq1 hb1 hg1 hat1 hcc1
                  go_wp2_with fail
                  go_meet
                  exact ⟨p ++ [f2], q, _, _, by simp; have := hr0.out; omega, hq, HF.out⟩
              · have hdr : decide ((p.length : Int) < (ra : Int)) = false := by simp; omega
                have hdr2 : decide (p.length < ra) = false := by simp; omega
                have hr0 := Aside0.mk hroom
                clear hroom
                go_wp2_with fail
                go_region_held3 (fun w' => w'.cell? ⟨bb, 0, none⟩ = some (.pointer (some ⟨a, 0, none⟩)) ∧ w'.cell? ⟨rm, 0, none⟩ = some (.int .i64 (ra : Int)) ∧ w'.cell? ⟨L, 0, none⟩ = some (.slice Av p.length cv) ∧ w'.cell? ⟨X, 2, none⟩ = some (.int .i64 f2))
                  (first | go_keep | (simp only [hc5, World.cell?_drew]; go_keep))
                  (first | (go_at_call 9; refine ((HS.out.keep (below_drew (Below.refl _ _))).fullA f2 hr0.out).mono ?_; rintro e w5 ⟨rfl, hh, hc5, hz5⟩))
                have HS' := Aside0.mk (hh)
                have Y' := Aside0.mk (by rw [hc5, World.cell?_drew]; exact Y2.out : w5.cell? ⟨X, 2, none⟩ = some (.int .i64 f2))
                have HX' := Aside0.mk (by rw [hz5]; exact HX.out : X < w5.heap.size)
                clear HS Y2 HX cb0 cb1 cr0 cr1 cl0 cl1 fl0 fl1 y2 hh hc5 hz5
                have HS := HS'
                have Y2 := Y'
                have HX := HX'
                clear HS' Y' HX'
                obtain ⟨cb0, cb1, cr0, cr1, cl0, cl1, fl0, fl1⟩ := HS.out.c
                have y2 := Y2.out
                go_wp2_with fail
                go_quiet (fail)
                have hd : Below w5.heap.size w5 (w5.drewN nq) := pw_below_drewN (Below.refl _ _) nq
                have HS' := Aside0.mk (HS.out.keep hd)
                have Y' := Aside0.mk ((hd.cell (p := ⟨X, 2, none⟩) HX.out).trans Y2.out)
                have HX' := Aside0.mk (Nat.lt_of_lt_of_le HX.out hd.size)
                clear HS Y2 HX cb0 cb1 cr0 cr1 cl0 cl1 fl0 fl1 y2 hd
                have HS := HS'
                have Y2 := Y'
                have HX := HX'
                clear HS' Y' HX'
                generalize w5.drewN nq = W5 at *
                go_wp2_with fail
                go_meet
                exact ⟨p, q, _, _, hp, hq, HS.out⟩
            by_cases hf1 : f0 = 1
            · as_aux_lemma =>
              subst hf1
              clear hf0
              cases p with
              | nil =>
                obtain ⟨cb0, cb1, cr0, cr1, cl0, cl1, fl0, fl1⟩ := HS.out.c
                have y2 := Y2.out
                rw [show ([] : List Int).length = 0 from rfl] at cl0
                go_wp2_with fail
                go_at_call 10
                refine HS.out.noneA.mono ?_
                rintro e w5 ⟨rfl, h5⟩
                obtain rfl := h5.symm
                go_wp2_with fail
                go_meet
                exact ⟨[], q, _, _, by simp, hq, HS.out⟩
              | cons y p =>
                obtain ⟨ad1, e1, hh1⟩ := headQ HS.out.qv
                subst e1
                obtain ⟨hn1, A1, cc1, hcut, hq1, ho1⟩ := cutQ HS.out.qv
                obtain ⟨cb0, cb1, cr0, cr1, cl0, cl1, fl0, fl1⟩ := HS.out.c
                have y2 := Y2.out
                rw [hn1] at cl0
                clear hn1
                have HQ1 := Aside0.mk hq1
                have HO1 := Aside0.mk ho1
                have HH1 := Aside0.mk hh1
                clear hq1 ho1 hh1
                go_wp2_with fail
                go_at_call 10
                refine HS.out.takeA.mono ?_
                rintro e w5 ⟨rfl, hh, hc5, hz5⟩
                have hh1 : w5.cell? ad1 = some (.int .i64 y) := by rw [hc5]; exact HH1.out
                have HQ5 := Aside0.mk (cutQ hh.qv)
                have HS' := Aside0.mk (hh)
                have Y' := Aside0.mk (by rw [hc5]; exact Y2.out : w5.cell? ⟨X, 2, none⟩ = some (.int .i64 f2))
                have HX' := Aside0.mk (by rw [hz5]; exact HX.out : X < w5.heap.size)
                clear HS Y2 HX cb0 cb1 cr0 cr1 cl0 cl1 fl0 fl1 y2 hh hc5 hz5 HQ1 HO1 HH1 hcut
                have HS := HS'
                have Y2 := Y'
                have HX := HX'
                clear HS' Y' HX'
                obtain ⟨hn1, A1, cc1, hcut, hq1, ho1⟩ := HQ5.out
                clear HQ5
                obtain ⟨cb0, cb1, cr0, cr1, cl0, cl1, fl0, fl1⟩ := HS.out.c
                have y2 := Y2.out
                rw [hn1] at cl0
                have HQ1 := Aside0.mk hq1
                have HO1 := Aside0.mk ho1
                have HN1 := Aside0.mk hn1
                clear hq1 ho1 hn1
                go_wp2_with fail
                go_meet
                have HF := HS.out.setV HQ1.out (World.grownBy.refl _ _) (.inl HO1.out) HS.out.two.below
                exact ⟨p, q, _, _, by simp at hp; omega, hq, HF⟩
            as_aux_lemma =>
            have u0 : (f0 == 0) = false := beq_eq_false_iff_ne.mpr hf0
            have u1 : (f0 == 1) = false := beq_eq_false_iff_ne.mpr hf1
            clear hf0 hf1
            have hwk : IntKind.i64.wrap (1 - 0) = 1 := rfl
            have hwa : IntKind.i64.wrap 1 = 1 := rfl
            have hwb : IntKind.i64.wrap 0 = 0 := rfl
            cases p with
            | cons y p =>
              obtain ⟨cb0, cb1, cr0, cr1, cl0, cl1, fl0, fl1⟩ := HS.out.c
              have y2 := Y2.out
              go_wp2_with fail
              go_region_held3 (fun w' => w'.cell? ⟨bb, 0, none⟩ = some (.pointer (some ⟨a, 0, none⟩)) ∧ w'.cell? ⟨bb, 1, none⟩ = some (.pointer (some ⟨b, 0, none⟩)))
                (first | go_keep | (simp only [hc5, World.cell?_drew]; go_keep))
                (first | (go_at_call 11; refine (St.first1 (HS.out.keep (below_drew (below_alloc (Below.refl _ _) _))) (⟨W1.heap.size, 0, none⟩ : Addr) 2 rfl (by simp [go_sem]) (by simp [go_sem, Addr.add])).mono ?_; rintro e w5 ⟨rfl, hh, hc5, hz5⟩))
              obtain ⟨ad1, e1, hh1⟩ := headQ hh.qv
              subst e1
              obtain ⟨hn1, A1, cc1, hcut, hq1, ho1⟩ := cutQ hh.qv
              clear HS Y2 HX cb0 cb1 cr0 cr1 cl0 cl1 fl0 fl1 y2 hc5 hz5
              have HS := Aside0.mk hh
              clear hh
              obtain ⟨cb0, cb1, cr0, cr1, cl0, cl1, fl0, fl1⟩ := HS.out.c
              rw [hn1] at cl0
              have HQ1 := Aside0.mk hq1
              have HO1 := Aside0.mk ho1
              clear hq1 ho1 hn1
              go_wp2_with fail
              go_meet
              have HF := HS.out.setV HQ1.out (World.grownBy.refl _ _) (.inl HO1.out) HS.out.two.below
              exact ⟨_, _, _, _, by simp at hp; omega, hq, HF⟩
            | nil =>
              cases q with
              | cons y q =>
                obtain ⟨cb0, cb1, cr0, cr1, cl0, cl1, fl0, fl1⟩ := HS.out.c
                have y2 := Y2.out
                go_wp2_with fail
                go_region_held3 (fun w' => w'.cell? ⟨bb, 0, none⟩ = some (.pointer (some ⟨a, 0, none⟩)) ∧ w'.cell? ⟨bb, 1, none⟩ = some (.pointer (some ⟨b, 0, none⟩)))
                  (first | go_keep | (simp only [hc5, World.cell?_drew]; go_keep))
                  (first | (go_at_call 11; refine (St.first2 (HS.out.keep (below_drew (below_alloc (Below.refl _ _) _))) (⟨W1.heap.size, 0, none⟩ : Addr) 2 rfl (by simp [go_sem]) (by simp [go_sem, Addr.add])).mono ?_; rintro e w5 ⟨rfl, hh, hc5, hz5⟩))
                obtain ⟨ad1, e1, hh1⟩ := headQ hh.qu
                subst e1
                obtain ⟨hn1, A1, cc1, hcut, hq1, ho1⟩ := cutQ hh.qu
                clear HS Y2 HX cb0 cb1 cr0 cr1 cl0 cl1 fl0 fl1 y2 hc5 hz5
                have HS := Aside0.mk hh
                clear hh
                obtain ⟨cb0, cb1, cr0, cr1, cl0, cl1, fl0, fl1⟩ := HS.out.c
                rw [hn1] at cl1
                have HQ1 := Aside0.mk hq1
                have HO1 := Aside0.mk ho1
                clear hq1 ho1 hn1
                rw [show ([] : List Int).length = 0 from rfl] at cl0
                go_wp2_with fail
                go_meet
                have HF := HS.out.setU HQ1.out (World.grownBy.refl _ _) (.inl HO1.out) HS.out.two.below
                exact ⟨_, _, _, _, hp, by simp at hq; omega, HF⟩
              | nil =>
                obtain ⟨cb0, cb1, cr0, cr1, cl0, cl1, fl0, fl1⟩ := HS.out.c
                have y2 := Y2.out
                go_wp2_with fail
                go_region_held3 (fun w' => w'.cell? ⟨bb, 0, none⟩ = some (.pointer (some ⟨a, 0, none⟩)) ∧ w'.cell? ⟨bb, 1, none⟩ = some (.pointer (some ⟨b, 0, none⟩)))
                  (first | go_keep | (simp only [hc5, World.cell?_drew]; go_keep))
                  (first | (go_at_call 11; refine (St.first0 (HS.out.keep (below_drew (below_alloc (Below.refl _ _) _))) (⟨W1.heap.size, 0, none⟩ : Addr) 2 rfl a b _ _ _ _ (HS.out.keep (below_drew (below_alloc (Below.refl _ _) _))).two.a (HS.out.keep (below_drew (below_alloc (Below.refl _ _) _))).two.b (by simp [go_sem]) (by simp [go_sem, Addr.add])).mono ?_; rintro e w5 ⟨rfl, rfl⟩))
                clear cb0 cb1 cr0 cr1 cl0 cl1 fl0 fl1 y2
                obtain ⟨cb0, cb1, cr0, cr1, cl0, cl1, fl0, fl1⟩ := (HS.out.keep (below_drew (below_alloc (Below.refl _ _) (.cells #[.pointer (some ⟨a, 0, none⟩), .pointer (some ⟨b, 0, none⟩)] 24 (0, 0))))).c
                rw [show ([] : List Int).length = 0 from rfl] at cl0 cl1
                have HF := Aside0.mk (HS.out.keep (below_drew (below_alloc (Below.refl _ _) (.cells #[.pointer (some ⟨a, 0, none⟩), .pointer (some ⟨b, 0, none⟩)] 24 (0, 0)))))
                go_wp2_with fail
                go_meet
                exact ⟨[], [], _, _, by simp, by simp, HF.out⟩
          case rest =>
            as_aux_lemma =>
            clear HS HS1 Y2 HX HXV HXU hk x0 x1 x2 hp hq
            obtain ⟨p, q, v, u, hp, hq, h⟩ := hcut
            obtain ⟨Av, cv, rfl, hcv⟩ := Kd.Q_slice h.qv
            obtain ⟨Au, cu, rfl, hcu⟩ := Kd.Q_slice h.qu
            have HS := Aside0.mk h
            clear h
            obtain ⟨cb0, cb1, cr0, cr1, cl0, cl1, fl0, fl1⟩ := HS.out.c
            have HA := fun n => Aside0.mk (St.lenA (HS.out.keep (pw_below_drewN (Below.refl _ _) n)))
            have HB := fun n => Aside0.mk (St.lenB (HS.out.keep (pw_below_drewN (Below.refl _ _) n)))
            go_wp2_with fail
            go_quiet ((first | (go_at_call 12; with_reducible exact Calls.quiet_of_same (HA _).out) | (go_at_call 12; with_reducible exact Calls.quiet_of_same (HB _).out)))
            go_wp2_with fail
            go_roundg (gk - 1)
            case measure => have := HI.out; omega
            case rel => exact ⟨i + 1, p, q, _, _, by have := HI.out; omega, by go_num, hp, hq, HS.out.keep (pw_below_drewN (Below.refl _ _) _)⟩
        · have h3 : True := trivial
          have hS1 := HS.out.keep (below_alloc (Below.refl _ _) (.cells #[.int .i64 f0, .int .i64 f1, .int .i64 f2] 30))
          have y2 : (wr.alloc (.cells #[.int .i64 f0, .int .i64 f1, .int .i64 f2] 30)).cell? ⟨wr.heap.size, 2, none⟩ = some (.int .i64 f2) := by simp [go_sem]
          have hX : wr.heap.size < (wr.alloc (.cells #[.int .i64 f0, .int .i64 f1, .int .i64 f2] 30)).heap.size := by rw [size_alloc_one]; omega
          have hxv : v.ownBlock ≠ some wr.heap.size := fun e => by have := (qown HS.out.qv _ e.symm).2; omega
          have hxu : u.ownBlock ≠ some wr.heap.size := fun e => by have := (qown HS.out.qu _ e.symm).2; omega
          have HS1 := Aside0.mk hS1
          have Y2 := Aside0.mk y2
          have HX := Aside0.mk hX
          have HXV := Aside0.mk hxv
          have HXU := Aside0.mk hxu
          clear hS1 y2 hX hxv hxu h3
          go_upto_block 2 with fail
          go_cut [] (fun wx => MidRel w B bb rm L a ca ra b cb rb wx)
          case first =>
            clear hk x0 x1 x2
            generalize wr.alloc (.cells #[.int .i64 f0, .int .i64 f1, .int .i64 f2] 30) = W1 at *
            generalize wr.heap.size = X at *
            clear HS
            have HS := HS1
            clear HS1
            obtain ⟨Av, cv, rfl, hcv⟩ := Kd.Q_slice HS.out.qv
            obtain ⟨Au, cu, rfl, hcu⟩ := Kd.Q_slice HS.out.qu
            by_cases hf0 : f0 = 0
            · as_aux_lemma =>
              subst hf0
              obtain ⟨cb0, cb1, cr0, cr1, cl0, cl1, fl0, fl1⟩ := HS.out.c
              have y2 := Y2.out
              by_cases hroom : q.length < rb
              · have hdr : decide ((q.length : Int) < (rb : Int)) = true := by simp; omega
                have hdr2 : decide (q.length < rb) = true := by simp; omega
                have hr0 := Aside0.mk hroom
                clear hroom
                go_wp2_with fail
                go_region_held3 (fun w' => w'.cell? ⟨bb, 1, none⟩ = some (.pointer (some ⟨b, 0, none⟩)) ∧ w'.cell? ⟨rm, 1, none⟩ = some (.int .i64 (rb : Int)) ∧ w'.cell? ⟨L, 1, none⟩ = some (.slice Au q.length cu) ∧ w'.cell? ⟨X, 2, none⟩ = some (.int .i64 f2))
                  (first | go_keep | (simp only [hc5, World.cell?_drew]; go_keep))
                  (first | (go_at_call 9; refine ((HS.out.keep (below_drew (Below.refl _ _))).putB f2 hr0.out).mono ?_; rintro e w5 ⟨rfl, hh, hc5, hz5⟩))
                have HS' := Aside0.mk (hh)
                have Y' := Aside0.mk (by rw [hc5, World.cell?_drew]; exact Y2.out : w5.cell? ⟨X, 2, none⟩ = some (.int .i64 f2))
                have HX' := Aside0.mk (by rw [hz5]; exact HX.out : X < w5.heap.size)
                clear HS Y2 HX cb0 cb1 cr0 cr1 cl0 cl1 fl0 fl1 y2 hh hc5 hz5
                have HS := HS'
                have Y2 := Y'
                have HX := HX'
                clear HS' Y' HX'
                obtain ⟨cb0, cb1, cr0, cr1, cl0, cl1, fl0, fl1⟩ := HS.out.c
                have y2 := Y2.out
                go_wp2_with fail
                go_quiet (fail)
                have hd : Below w5.heap.size w5 (w5.drewN nq) := pw_below_drewN (Below.refl _ _) nq
                have HS' := Aside0.mk (HS.out.keep hd)
                have Y' := Aside0.mk ((hd.cell (p := ⟨X, 2, none⟩) HX.out).trans Y2.out)
                have HX' := Aside0.mk (Nat.lt_of_lt_of_le HX.out hd.size)
                clear HS Y2 HX cb0 cb1 cr0 cr1 cl0 cl1 fl0 fl1 y2 hd
                have HS := HS'
                have Y2 := Y'
                have HX := HX'
                clear HS' Y' HX'
                generalize w5.drewN nq = W5 at *
                obtain ⟨cb0, cb1, cr0, cr1, cl0, cl1, fl0, fl1⟩ := HS.out.c
                have y2 := Y2.out
                have hln := (own_lt2 HS.out HS.out.Llt.1).2
                have hlL := HS.out.Llt.2.1
                go_wp2_with fail
                go_region_law
                  ((refine Kd.Q_append_step (Kd.int .i64) (w0 := W5.drew) (W := W5.drew) B (by rfl) (.tmp 140) (.tmp 143) 27 3 (.int .i64 0) 8 rfl Try.underlying27 infoI rfl (by decide) (by omega) (.slice Au q.length cu) q f2 _ (fun k => own (.slice Au q.length cu) k ∨ W5.heap.size ≤ k) (fun _ => False) (by rfl) (by rfl) (show Kd.M (Kd.int .i64) _ _ _ f2 [.int .i64 f2] from rfl) (fun _ h => h.elim) (fun k hk => .inr hk) (Kd.Q_drew (Kd.Q_mono HS.out.qu (fun k hk => .inl hk))) ((Below.refl _ _).mono HS.out.Llt.2.2) HS.out.Llt.2.2 (by omega) ?_; intro v1 w1' hq1 hb1 hg1 hat1; obtain ⟨A1, cc1, rfl, hcc1⟩ := Kd.Q_slice hq1; have flw : w1'.frozen? ⟨L, 1, none⟩ = false := (hg1.frozen_far ⟨L, 1, none⟩ hlL (fun e => hln e.symm)).trans fl1; have clw := (hg1.cell_far ⟨L, 1, none⟩ hlL (fun e => hln e.symm)).trans cl1))
                all_goals
                  have HF := Aside0.mk ((HS.out.keep (below_drew (Below.refl _ _))).setU (Kd.Q_tight rfl hq1) hg1 hat1 ((HS.out.keep (below_drew (Below.refl _ _))).two.below.trans (hb1.mono HS.out.lt.2.2.2.2.2.2.2.2.1)))
                  simp only [List.length_append, List.length_cons, List.length_nil, Nat.zero_add] at HF
                  clear cb0 cb1 cr0 cr1 cl0 cl1 fl0 fl1 y2 flw clw hq1 hb1 hg1 hat1 hcc1
                  go_wp2_with fail
                  go_meet
                  exact ⟨p, q ++ [f2], _, _, hp, by simp; have := hr0.out; omega, HF.out⟩
              · have hdr : decide ((q.length : Int) < (rb : Int)) = false := by simp; omega
                have hdr2 : decide (q.length < rb) = false := by simp; omega
                have hr0 := Aside0.mk hroom
                clear hroom
                go_wp2_with fail
                go_region_held3 (fun w' => w'.cell? ⟨bb, 1, none⟩ = some (.pointer (some ⟨b, 0, none⟩)) ∧ w'.cell? ⟨rm, 1, none⟩ = some (.int .i64 (rb : Int)) ∧ w'.cell? ⟨L, 1, none⟩ = some (.slice Au q.length cu) ∧ w'.cell? ⟨X, 2, none⟩ = some (.int .i64 f2))
                  (first | go_keep | (simp only [hc5, World.cell?_drew]; go_keep))
                  (first | (go_at_call 9; refine ((HS.out.keep (below_drew (Below.refl _ _))).fullB f2 hr0.out).mono ?_; rintro e w5 ⟨rfl, hh, hc5, hz5⟩))
                have HS' := Aside0.mk (hh)
                have Y' := Aside0.mk (by rw [hc5, World.cell?_drew]; exact Y2.out : w5.cell? ⟨X, 2, none⟩ = some (.int .i64 f2))
                have HX' := Aside0.mk (by rw [hz5]; exact HX.out : X < w5.heap.size)
                clear HS Y2 HX cb0 cb1 cr0 cr1 cl0 cl1 fl0 fl1 y2 hh hc5 hz5
                have HS := HS'
                have Y2 := Y'
                have HX := HX'
                clear HS' Y' HX'
                obtain ⟨cb0, cb1, cr0, cr1, cl0, cl1, fl0, fl1⟩ := HS.out.c
                have y2 := Y2.out
                go_wp2_with fail
                go_quiet (fail)
                have hd : Below w5.heap.size w5 (w5.drewN nq) := pw_below_drewN (Below.refl _ _) nq
                have HS' := Aside0.mk (HS.out.keep hd)
                have Y' := Aside0.mk ((hd.cell (p := ⟨X, 2, none⟩) HX.out).trans Y2.out)
                have HX' := Aside0.mk (Nat.lt_of_lt_of_le HX.out hd.size)
                clear HS Y2 HX cb0 cb1 cr0 cr1 cl0 cl1 fl0 fl1 y2 hd
                have HS := HS'
                have Y2 := Y'
                have HX := HX'
                clear HS' Y' HX'
                generalize w5.drewN nq = W5 at *
                go_wp2_with fail
                go_meet
                exact ⟨p, q, _, _, hp, hq, HS.out⟩
            by_cases hf1 : f0 = 1
            · as_aux_lemma =>
              subst hf1
              clear hf0
              cases q with
              | nil =>
                obtain ⟨cb0, cb1, cr0, cr1, cl0, cl1, fl0, fl1⟩ := HS.out.c
                have y2 := Y2.out
                rw [show ([] : List Int).length = 0 from rfl] at cl1
                go_wp2_with fail
                go_at_call 10
                refine HS.out.noneB.mono ?_
                rintro e w5 ⟨rfl, h5⟩
                obtain rfl := h5.symm
                go_wp2_with fail
                go_meet
                exact ⟨p, [], _, _, hp, by simp, HS.out⟩
              | cons y q =>
                obtain ⟨ad1, e1, hh1⟩ := headQ HS.out.qu
                subst e1
                obtain ⟨hn1, A1, cc1, hcut, hq1, ho1⟩ := cutQ HS.out.qu
                obtain ⟨cb0, cb1, cr0, cr1, cl0, cl1, fl0, fl1⟩ := HS.out.c
                have y2 := Y2.out
                rw [hn1] at cl1
                clear hn1
                have HQ1 := Aside0.mk hq1
                have HO1 := Aside0.mk ho1
                have HH1 := Aside0.mk hh1
                clear hq1 ho1 hh1
                go_wp2_with fail
                go_at_call 10
                refine HS.out.takeB.mono ?_
                rintro e w5 ⟨rfl, hh, hc5, hz5⟩
                have hh1 : w5.cell? ad1 = some (.int .i64 y) := by rw [hc5]; exact HH1.out
                have HQ5 := Aside0.mk (cutQ hh.qu)
                have HS' := Aside0.mk (hh)
                have Y' := Aside0.mk (by rw [hc5]; exact Y2.out : w5.cell? ⟨X, 2, none⟩ = some (.int .i64 f2))
                have HX' := Aside0.mk (by rw [hz5]; exact HX.out : X < w5.heap.size)
                clear HS Y2 HX cb0 cb1 cr0 cr1 cl0 cl1 fl0 fl1 y2 hh hc5 hz5 HQ1 HO1 HH1 hcut
                have HS := HS'
                have Y2 := Y'
                have HX := HX'
                clear HS' Y' HX'
                obtain ⟨hn1, A1, cc1, hcut, hq1, ho1⟩ := HQ5.out
                clear HQ5
                obtain ⟨cb0, cb1, cr0, cr1, cl0, cl1, fl0, fl1⟩ := HS.out.c
                have y2 := Y2.out
                rw [hn1] at cl1
                have HQ1 := Aside0.mk hq1
                have HO1 := Aside0.mk ho1
                have HN1 := Aside0.mk hn1
                clear hq1 ho1 hn1
                go_wp2_with fail
                go_meet
                have HF := HS.out.setU HQ1.out (World.grownBy.refl _ _) (.inl HO1.out) HS.out.two.below
                exact ⟨p, q, _, _, hp, by simp at hq; omega, HF⟩
            as_aux_lemma =>
            have u0 : (f0 == 0) = false := beq_eq_false_iff_ne.mpr hf0
            have u1 : (f0 == 1) = false := beq_eq_false_iff_ne.mpr hf1
            clear hf0 hf1
            have hwk : IntKind.i64.wrap (1 - 1) = 0 := rfl
            have hwa : IntKind.i64.wrap 1 = 1 := rfl
            have hwb : IntKind.i64.wrap 0 = 0 := rfl
            cases q with
            | cons y q =>
              obtain ⟨cb0, cb1, cr0, cr1, cl0, cl1, fl0, fl1⟩ := HS.out.c
              have y2 := Y2.out
              go_wp2_with fail
              go_region_held3 (fun w' => w'.cell? ⟨bb, 0, none⟩ = some (.pointer (some ⟨a, 0, none⟩)) ∧ w'.cell? ⟨bb, 1, none⟩ = some (.pointer (some ⟨b, 0, none⟩)))
                (first | go_keep | (simp only [hc5, World.cell?_drew]; go_keep))
                (first | (go_at_call 11; refine (St.first1' (HS.out.keep (below_drew (below_alloc (Below.refl _ _) _))) (⟨W1.heap.size, 0, none⟩ : Addr) 2 rfl (by simp [go_sem]) (by simp [go_sem, Addr.add])).mono ?_; rintro e w5 ⟨rfl, hh, hc5, hz5⟩))
              obtain ⟨ad1, e1, hh1⟩ := headQ hh.qu
              subst e1
              obtain ⟨hn1, A1, cc1, hcut, hq1, ho1⟩ := cutQ hh.qu
              clear HS Y2 HX cb0 cb1 cr0 cr1 cl0 cl1 fl0 fl1 y2 hc5 hz5
              have HS := Aside0.mk hh
              clear hh
              obtain ⟨cb0, cb1, cr0, cr1, cl0, cl1, fl0, fl1⟩ := HS.out.c
              rw [hn1] at cl1
              have HQ1 := Aside0.mk hq1
              have HO1 := Aside0.mk ho1
              clear hq1 ho1 hn1
              go_wp2_with fail
              go_meet
              have HF := HS.out.setU HQ1.out (World.grownBy.refl _ _) (.inl HO1.out) HS.out.two.below
              exact ⟨_, _, _, _, hp, by simp at hq; omega, HF⟩
            | nil =>
              cases p with
              | cons y p =>
                obtain ⟨cb0, cb1, cr0, cr1, cl0, cl1, fl0, fl1⟩ := HS.out.c
                have y2 := Y2.out
                go_wp2_with fail
                go_region_held3 (fun w' => w'.cell? ⟨bb, 0, none⟩ = some (.pointer (some ⟨a, 0, none⟩)) ∧ w'.cell? ⟨bb, 1, none⟩ = some (.pointer (some ⟨b, 0, none⟩)))
                  (first | go_keep | (simp only [hc5, World.cell?_drew]; go_keep))
                  (first | (go_at_call 11; refine (St.first2' (HS.out.keep (below_drew (below_alloc (Below.refl _ _) _))) (⟨W1.heap.size, 0, none⟩ : Addr) 2 rfl (by simp [go_sem]) (by simp [go_sem, Addr.add])).mono ?_; rintro e w5 ⟨rfl, hh, hc5, hz5⟩))
                obtain ⟨ad1, e1, hh1⟩ := headQ hh.qv
                subst e1
                obtain ⟨hn1, A1, cc1, hcut, hq1, ho1⟩ := cutQ hh.qv
                clear HS Y2 HX cb0 cb1 cr0 cr1 cl0 cl1 fl0 fl1 y2 hc5 hz5
                have HS := Aside0.mk hh
                clear hh
                obtain ⟨cb0, cb1, cr0, cr1, cl0, cl1, fl0, fl1⟩ := HS.out.c
                rw [hn1] at cl0
                have HQ1 := Aside0.mk hq1
                have HO1 := Aside0.mk ho1
                clear hq1 ho1 hn1
                rw [show ([] : List Int).length = 0 from rfl] at cl1
                go_wp2_with fail
                go_meet
                have HF := HS.out.setV HQ1.out (World.grownBy.refl _ _) (.inl HO1.out) HS.out.two.below
                exact ⟨_, _, _, _, by simp at hp; omega, hq, HF⟩
              | nil =>
                obtain ⟨cb0, cb1, cr0, cr1, cl0, cl1, fl0, fl1⟩ := HS.out.c
                have y2 := Y2.out
                go_wp2_with fail
                go_region_held3 (fun w' => w'.cell? ⟨bb, 0, none⟩ = some (.pointer (some ⟨a, 0, none⟩)) ∧ w'.cell? ⟨bb, 1, none⟩ = some (.pointer (some ⟨b, 0, none⟩)))
                  (first | go_keep | (simp only [hc5, World.cell?_drew]; go_keep))
                  (first | (go_at_call 11; refine (St.first0 (HS.out.keep (below_drew (below_alloc (Below.refl _ _) _))) (⟨W1.heap.size, 0, none⟩ : Addr) 2 rfl b a _ _ _ _ (HS.out.keep (below_drew (below_alloc (Below.refl _ _) _))).two.b (HS.out.keep (below_drew (below_alloc (Below.refl _ _) _))).two.a (by simp [go_sem]) (by simp [go_sem, Addr.add])).mono ?_; rintro e w5 ⟨rfl, rfl⟩))
                clear cb0 cb1 cr0 cr1 cl0 cl1 fl0 fl1 y2
                obtain ⟨cb0, cb1, cr0, cr1, cl0, cl1, fl0, fl1⟩ := (HS.out.keep (below_drew (below_alloc (Below.refl _ _) (.cells #[.pointer (some ⟨b, 0, none⟩), .pointer (some ⟨a, 0, none⟩)] 24 (0, 0))))).c
                rw [show ([] : List Int).length = 0 from rfl] at cl0 cl1
                have HF := Aside0.mk (HS.out.keep (below_drew (below_alloc (Below.refl _ _) (.cells #[.pointer (some ⟨b, 0, none⟩), .pointer (some ⟨a, 0, none⟩)] 24 (0, 0)))))
                go_wp2_with fail
                go_meet
                exact ⟨[], [], _, _, by simp, by simp, HF.out⟩
          case rest =>
            as_aux_lemma =>
            clear HS HS1 Y2 HX HXV HXU hk x0 x1 x2 hp hq
            obtain ⟨p, q, v, u, hp, hq, h⟩ := hcut
            obtain ⟨Av, cv, rfl, hcv⟩ := Kd.Q_slice h.qv
            obtain ⟨Au, cu, rfl, hcu⟩ := Kd.Q_slice h.qu
            have HS := Aside0.mk h
            clear h
            obtain ⟨cb0, cb1, cr0, cr1, cl0, cl1, fl0, fl1⟩ := HS.out.c
            have HA := fun n => Aside0.mk (St.lenA (HS.out.keep (pw_below_drewN (Below.refl _ _) n)))
            have HB := fun n => Aside0.mk (St.lenB (HS.out.keep (pw_below_drewN (Below.refl _ _) n)))
            go_wp2_with fail
            go_quiet ((first | (go_at_call 12; with_reducible exact Calls.quiet_of_same (HA _).out) | (go_at_call 12; with_reducible exact Calls.quiet_of_same (HB _).out)))
            go_wp2_with fail
            go_roundg (gk - 1)
            case measure => have := HI.out; omega
            case rel => exact ⟨i + 1, p, q, _, _, by have := HI.out; omega, by go_num, hp, hq, HS.out.keep (pw_below_drewN (Below.refl _ _) _)⟩
      · have t2 : decide ((i : Int) < 200) = false := by simp; omega
        go_wp2_with fail
        go_ret
        exact ⟨rfl, HS.out.two.below⟩
    · have t1 : decide ((i : Int) < (xs.length : Int)) = false := by simp; omega
      go_wp2_with fail
      go_ret
      exact ⟨rfl, HS.out.two.below⟩
theorem All_row (w : World) (n : Int) (ok0 : (Lit.int .i64 n).wf = true) (m : Int) (ok1 : (Lit.int .i64 m).wf = true) (A0 : Option Addr) (c0 : Nat) (xs : List S30) (hr0 : Kd.C k30 w A0 xs.length xs) (le0 : xs.length ≤ c0) {P : S30 → Prop} (ok2 : xs.length ≤ maxLen ∧ xs.length * 24 ≤ 140737488351232 ∧ ∀ x ∈ xs, P x) :
    Calls Try.prog 3 #[.int .i64 n, .int .i64 m, .slice A0 xs.length c0] w fun e w' => e = .returned (.bool true) ∧ Below w.heap.size w w' := All_calls w n ok0 m ok1 A0 c0 xs hr0 le0 (by have := ok2.2.1; omega)
end Go.Proofs.Ytceedejjcillkaa.M
