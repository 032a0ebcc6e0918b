/- gram: the reference's Name and token. gram: the reference's May. gram: the reference's Eq. -/
import Derived.Test.YteonnadhdmcloaaDoorGramS2
import Derived.Test.YteonnadhdmcloaaDoorGx7
import Derived.Deep.RegionHeld3
namespace Go.Proofs.YteonnadhdmcloaaDoor.G
open Go.RowKit Go.Proofs.YteonnadhdmcloaaDoorW.PrintWords Go.Proofs.YteonnadhdmcloaaDoorW.PrintLast Go.Proofs.YteonnadhdmcloaaDoorW.PrintMore
set_option linter.unusedVariables false
set_option linter.unusedSimpArgs false
theorem ev_pos {α : Type} {c : Prop} [Decidable c] {g f : Nat → Option α} {r : α} (h : c) (k : Ev g r) : Ev (fun n => if c then g n else f n) r := Ev.congr (fun _ => if_pos h) k
theorem ev_neg {α : Type} {c : Prop} [Decidable c] {g f : Nat → Option α} {r : α} (h : ¬ c) (k : Ev f r) : Ev (fun n => if c then g n else f n) r := Ev.congr (fun _ => if_neg h) k
theorem ev_now {α : Type} {a r : α} (h : a = r) : Ev (fun _ => some a) r := h ▸ Ev.now _
theorem ref_letter (c : Int) : donatusref4_letter.f c = some (letterB c) := by
  unfold donatusref4_letter.f letterB
  (repeat' split) <;> (rw [Option.some.injEq, Bool.eq_iff_iff]; simp only [Bool.or_eq_true, Bool.and_eq_true, decide_eq_true_eq, beq_iff_eq, true_iff, false_iff, Bool.false_eq_true]; omega)
theorem ref_digit (c : Int) : donatusref4_digit.f c = some (digitB c) := by
  unfold donatusref4_digit.f digitB
  (repeat' split) <;> (rw [Option.some.injEq, Bool.eq_iff_iff]; simp only [Bool.and_eq_true, decide_eq_true_eq, true_iff, false_iff, Bool.false_eq_true]; omega)
def restOk : Nat → List UInt8 → Bool
  | _, [] => true
  | i, c :: r => (letterB (c.toNat : Int) || (decide (i ≠ 0) && digitB (c.toNat : Int))) && restOk (i + 1) r
theorem restOk_pos : ∀ (l : List UInt8) (i : Nat), restOk (i + 1) l = l.all fun b => partB (b.toNat : Int) := by
  intro l
  induction l with
  | nil => intro i; rfl
  | cons c l ih => intro i; rw [List.all_cons, ← ih (i + 1)]; simp [restOk, partB]
theorem ref_name_ev (s : ByteArray) (hs : s.size ≤ 9223372036854775806) (d : Nat) : ∀ i : Nat, i + d = s.size → Ev (fun k => donatusref4_Name.l0 k s (i : Int)) (restOk i (s.data.toList.drop i) && (decide (1 ≤ s.size) && decide (s.size ≤ 12))) := by
  have hl := size_list s
  induction d with
  | zero =>
    intro i hi
    rw [List.drop_eq_nil_of_le (by omega)]
    refine Ev.step (fun k => by rw [donatusref4_Name.l0]) (ev_neg (by omega) ?_)
    by_cases h : (s.size : Int) ≥ 1
    · exact ev_pos h (ev_now (by rw [Bool.eq_iff_iff]; simp [restOk]; omega))
    · exact ev_neg h (ev_now (by rw [Bool.eq_iff_iff]; simp [restOk]; omega))
  | succ d ih =>
    intro i hi
    have hlt : i < s.data.toList.length := by omega
    have hw : wrap64 ((i : Int) + 1) = ((i + 1 : Nat) : Int) := by unfold wrap64; omega
    have hn := ih (i + 1) (by omega)
    refine Ev.step (fun k => by rw [donatusref4_Name.l0]) (ev_pos (by omega) (ev_pos (by omega) ?_))
    rw [bt_at s i hlt, hw, ref_letter, ref_digit, List.drop_eq_getElem_cons hlt]
    generalize s.data.toList[i] = c
    simp only [Option.bind_some, restOk]
    cases h1 : letterB (c.toNat : Int) with
    | true => exact ev_pos rfl (by simpa using hn)
    | false =>
      refine ev_neg (by decide) ?_
      by_cases h0 : (i : Int) = 0
      · refine ev_pos h0 (ev_now ?_)
        rw [decide_eq_false (by omega)]
        rfl
      · refine ev_neg h0 ?_
        rw [decide_eq_true (by omega)]
        cases h2 : digitB (c.toNat : Int) with
        | true => exact ev_pos rfl (by simpa using hn)
        | false => exact ev_neg (by decide) (ev_now rfl)
theorem ref_name (s : ByteArray) (hs : s.size ≤ 9223372036854775806) : Ev (fun k => donatusref4_Name.f k s) (nameB s.data.toList) := by
  have h := ref_name_ev s hs s.size 0 (by omega)
  have hl := size_list s
  have e : nameB s.data.toList = (restOk 0 (s.data.toList.drop 0) && (decide (1 ≤ s.size) && decide (s.size ≤ 12))) := by
    rw [List.drop_zero, ← hl]
    cases s.data.toList with
    | nil => rfl
    | cons c r =>
      simp only [nameB, restOk, restOk_pos, List.length_cons, Bool.or_eq_true]
      rw [decide_eq_true (show 1 ≤ r.length + 1 by omega), Bool.true_and, show decide (r.length + 1 ≤ 12) = decide (r.length < 12) from decide_eq_decide.2 (by omega)]
      cases letterB (c.toNat : Int) <;> cases decide (r.length < 12) <;> simp
  rw [e]
  exact h
theorem rname_calls (s : ByteArray) (hs : s.size ≤ 9223372036854775806) (w : World) : Calls Tryd.prog 17 #[.string s] w fun e w' => e = .returned (.bool (Nm s)) ∧ Below w.heap.size w w' := by
  obtain ⟨k, hk⟩ := (ref_name s hs).rounds
  exact (donatusref4_Name.calls k s _ w hk).mono fun e w' h => ⟨h.1, drawn_below h.2⟩
/-- The place of a token; -1. -/
def placeB (l : List S35) (s : ByteArray) : Int := idxB (fun t => decide (t.f0 = s)) l
theorem ref_token_ev (l : List S35) (st : ByteArray) (ex : Int) (rs : List S39) (s : ByteArray) (hl : l.length ≤ 17592186044416) (d : Nat) : ∀ i : Nat, i + d = l.length → (∀ j (h : j < l.length), j < i → l[j].f0 ≠ s) → Ev (fun k => donatusref4_token.l0 k s (i : Int) l st ex rs) (placeB l s) := by
  induction d with
  | zero =>
    intro i hi hb
    refine Ev.step (fun k => by rw [donatusref4_token.l0]) (ev_neg (by omega) (ev_now ?_))
    exact (idxB_none (xs := l) fun j h => decide_eq_false (hb j h (by omega))).symm
  | succ d ih =>
    intro i hi hb
    have hlt : i < l.length := by omega
    refine Ev.step (fun k => by rw [donatusref4_token.l0]) (ev_pos (by omega) (ev_pos (by omega) ?_))
    unfold rd_T35
    rw [rd_at _ _ _ hlt, wrap_one (by omega)]
    by_cases h : l[i].f0 = s
    · refine ev_pos (by rw [h]) (ev_now ?_)
      exact (idxB_at hlt (decide_eq_true h) (fun j hj => decide_eq_false (hb j (by omega) hj))).symm
    · refine ev_neg (fun e => h (toList_eq.1 e)) (ih (i + 1) (by omega) fun j hj h2 => ?_)
      by_cases h3 : j < i
      · exact hb j hj h3
      · obtain rfl : j = i := by omega
        exact h
theorem rtoken_calls (w : World) (A : Option Addr) (c : Nat) (l : List S35) (st : ByteArray) (ex : Int) (A2 : Option Addr) (c2 : Nat) (rs : List S39) (s : ByteArray) (hr : Kd.C k35 w A l.length l) (hcl : l.length ≤ c) (hl : l.length ≤ 17592186044416) (hr2 : Kd.C k39 w A2 rs.length rs) (hc2 : rs.length ≤ c2) :
    Calls Tryd.prog 27 #[.agg #[.slice A l.length c, .string st, .int .i64 ex, .slice A2 rs.length c2], .string s] w fun e w' => e = .returned (.int .i64 (placeB l s)) ∧ Below w.heap.size w w' := by
  obtain ⟨k, hk⟩ := (ref_token_ev l st ex rs s hl l.length 0 (by omega) (fun j _ h => absurd h (Nat.not_lt_zero j))).rounds
  exact donatusref4_token.calls k A c l st ex A2 c2 rs s _ w hr hcl hr2 hc2 hk
end Go.Proofs.YteonnadhdmcloaaDoor.G
namespace Go.Proofs.YteonnadhdmcloaaDoor.G
open Go.RowKit Go.Proofs.YteonnadhdmcloaaDoorW.PrintWords Go.Proofs.YteonnadhdmcloaaDoorW.PrintLast Go.Proofs.YteonnadhdmcloaaDoorW.PrintMore
set_option linter.unusedVariables false
set_option linter.unusedSimpArgs false
def lastA (l : List S35) (k : Int) : Int := l.foldl (fun a t => if t.f1 = k then t.f2 else a) 0
def basicB (l : List S35) (i : Nat) (t : S35) : Bool := Nm t.f0 && decide (placeB l t.f0 = (i : Int)) && decide (0 ≤ t.f1) && decide (t.f1 ≤ 8) && (!decide (t.f1 = 0) || decide (t.f2 = 0)) && (!decide (0 < t.f1) || (decide (1 ≤ t.f2) && decide (t.f2 ≤ 3)))
def fitB (l : List S35) (t : S35) : Bool := !decide (0 < t.f1) || decide (lastA l t.f1 = 0) || decide (lastA l t.f1 = t.f2)
def rnewB (l : List S35) (i : Nat) (t : S35) : Bool := basicB l i t && fitB (l.take i) t
def rnewsB (l : List S35) : Bool := (List.range l.length).all fun i => match l[i]? with | some t => rnewB l i t | none => true
def rlevelsB (l : List S35) : Bool := (List.range (mostB l).toNat).all fun k => !decide (lastA l ((k : Int) + 1) = 0)
def rheadB (l : List S35) (st : ByteArray) (ex : Int) (rs : List S39) : Bool := decide (l.length ≤ 40) && decide (rs.length ≤ 100) && decide (0 ≤ ex) && decide (ex ≤ 9999) && orB st
def rmayB (l : List S35) (st : ByteArray) (ex : Int) (rs : List S39) : Bool := rheadB l st ex rs && rnewsB l && rlevelsB l && !rs.any ruleBad
theorem rnewsB_iff {l : List S35} : rnewsB l = true ↔ ∀ i (h : i < l.length), rnewB l i l[i] = true := by
  unfold rnewsB
  rw [List.all_eq_true]
  constructor
  · intro h i hi
    have := h i (List.mem_range.2 hi)
    rw [List.getElem?_eq_getElem hi] at this
    exact this
  · intro h i hi
    have hi := List.mem_range.1 hi
    rw [List.getElem?_eq_getElem hi]
    exact h i hi
theorem lastA_snoc {l : List S35} {i : Nat} (h : i < l.length) (k : Int) : lastA (l.take (i + 1)) k = if l[i].f1 = k then l[i].f2 else lastA (l.take i) k := by
  unfold lastA
  rw [List.take_succ_eq_append_getElem h, List.foldl_append]
  rfl
/-- The array of the levels' kinds. -/
structure ARow (W : World) (Y : Nat) (l : List S35) : Prop where
  row : ∃ cs : Array Value, W.heap[Y]? = some (.cells cs 47 (0, 0)) ∧ cs.size = 9 ∧ ∀ k, k < 9 → cs[k]? = some (.int .i64 (lastA l (k : Int)))
theorem ARow.move {W W' : World} {Y B : Nat} {l : List S35} (h : ARow W Y l) (hb : Below B W W') (hY : Y < B) : ARow W' Y l := by
  obtain ⟨cs, h1, h2, h3⟩ := h.row
  exact ⟨cs, (hb.block Y hY).trans h1, h2, h3⟩
theorem ARow.lt {W : World} {Y : Nat} {l : List S35} (h : ARow W Y l) : Y < W.heap.size := by
  obtain ⟨cs, h1, h2, h3⟩ := h.row
  exact blk_lt h1
theorem ARow.get {W : World} {Y : Nat} {l : List S35} (h : ARow W Y l) (k : Nat) (hk : k < 9) : W.cell? ⟨Y, k, none⟩ = some (.int .i64 (lastA l (k : Int))) ∧ W.frozen? ⟨Y, k, none⟩ = false := by
  obtain ⟨cs, h1, h2, h3⟩ := h.row
  exact ⟨(blk_cell h1 k).trans (h3 k hk), blk_frozen h1 k⟩
theorem ARow.set {W : World} {Y : Nat} {l l' : List S35} (h : ARow W Y l) (k : Nat) (hk : k < 9) (a : Int) (hl : ∀ j : Nat, j < 9 → lastA l' (j : Int) = if (k : Int) = (j : Int) then a else lastA l (j : Int)) : ARow (W.setCell ⟨Y, k, none⟩ (.int .i64 a)) Y l' := by
  obtain ⟨cs, h1, h2, h3⟩ := h.row
  refine ⟨_, blk_set h1 k _, by simpa using h2, fun j hj => ?_⟩
  rw [hl j hj, Array.getElem?_setIfInBounds]
  by_cases e : k = j
  · subst e
    rw [if_pos rfl, if_pos (by omega), if_pos rfl]
  · rw [if_neg e, if_neg (by omega), h3 j hj]
theorem Box4.set {W : World} {X : Nat} {a b c d : Value} (h : Box4 W X a b c d) {p : Addr} (hne : X ≠ p.block) (u : Value) : Box4 (W.setCell p u) X a b c d := by
  have hc : ∀ k, (W.setCell p u).cell? ⟨X, k, none⟩ = W.cell? ⟨X, k, none⟩ := fun k => World.cell?_of_block (Below.heap_setCell W p u X hne)
  have hs : (W.setCell p u).heap.size = W.heap.size := by simp
  exact ⟨by rw [hs]; exact h.lt, (hc 0).trans h.c0, (hc 1).trans h.c1, (hc 2).trans h.c2, (hc 3).trans h.c3⟩
theorem TBox.set {W : World} {X : Nat} {t : S35} (h : TBox W X t) {p : Addr} (hne : X ≠ p.block) (u : Value) : TBox (W.setCell p u) X t := by
  have hc : ∀ k, (W.setCell p u).cell? ⟨X, k, none⟩ = W.cell? ⟨X, k, none⟩ := fun k => World.cell?_of_block (Below.heap_setCell W p u X hne)
  have hs : (W.setCell p u).heap.size = W.heap.size := by simp
  exact ⟨by rw [hs]; exact h.lt, (hc 0).trans h.c0, (hc 1).trans h.c1, (hc 2).trans h.c2⟩
def PRel (rs : List S39) (w : World) (X : Nat) (a b c d : Value) (kq : Nat) (v8 : Value) (w' : World) : Prop :=
  ∃ i : Nat, i + kq = rs.length ∧ v8 = .int .i64 (i : Int) ∧ Below w.heap.size w w' ∧ Box4 w' X a b c d ∧ ∀ j (h : j < i) (h2 : j < rs.length), ruleBad rs[j] = false
def KRel (xs : List ByteArray) (W : World) (kq : Nat) (v10 : Value) (w' : World) : Prop :=
  ∃ k : Nat, k + kq = xs.length ∧ v10 = .int .i64 (k : Int) ∧ Below W.heap.size W w' ∧ ∀ j (h : j < k) (h2 : j < xs.length), Nm xs[j] = true
def topB (r : S39) : Bool := Nm r.f0 && decide (r.f1.length ≤ 20) && orB r.f2
theorem ruleBad_eq (r : S39) : ruleBad r = (!topB r || r.f1.any fun s => !Nm s) := by
  unfold ruleBad topB
  rw [show decide (20 < r.f1.length) = !decide (r.f1.length ≤ 20) from by rw [← decide_not]; exact decide_eq_decide.2 (by omega)]
  cases Nm r.f0 <;> cases orB r.f2 <;> cases decide (r.f1.length ≤ 20) <;> simp
def HRel (b : Bool) (w : World) (X : Nat) (a b' c d : Value) (v : Value) (w' : World) : Prop := v = .bool b ∧ Below w.heap.size w w' ∧ Box4 w' X a b' c d
def QRel (b : Bool) (W : World) (v : Value) (w' : World) : Prop := v = .bool b ∧ Below W.heap.size W w'
def NRel (l : List S35) (w : World) (X Y : Nat) (a b c d : Value) (kq : Nat) (v4 v5 : Value) (w' : World) : Prop :=
  ∃ i : Nat, i + kq = l.length ∧ v5 = .int .i64 (i : Int) ∧ v4 = .int .i64 (mostB (l.take i)) ∧ Below w.heap.size w w' ∧ Box4 w' X a b c d ∧ ARow w' Y (l.take i) ∧ ∀ j (h : j < i) (h2 : j < l.length), rnewB l j l[j] = true
set_option maxHeartbeats 16000000 in
set_option maxRecDepth 100000 in
theorem rmay_calls (w : World) (A : Option Addr) (c : Nat) (l : List S35) (st : ByteArray) (ex : Int) (A2 : Option Addr) (c2 : Nat) (rs : List S39) (hr : Kd.C k35 w A l.length l) (hcl : l.length ≤ c) (hl : l.length ≤ 100000) (hr2 : Kd.C k39 w A2 rs.length rs) (hc2 : rs.length ≤ c2) (hl2 : rs.length ≤ 100000)
    (hst : st.size ≤ 1000) (hnm : ∀ t ∈ l, t.f0.size ≤ 1000) (hrs : ∀ r ∈ rs, r.f0.size ≤ 1000 ∧ r.f2.size ≤ 1000 ∧ r.f1.length ≤ 100000 ∧ ∀ s ∈ r.f1, s.size ≤ 1000) :
    Calls Tryd.prog 11 #[.agg #[.slice A l.length c, .string st, .int .i64 ex, .slice A2 rs.length c2]] w fun e w' => e = .returned (.bool (rmayB l st ex rs)) ∧ Below w.heap.size w w' := by
  have HX := Aside0.mk (Box4.new w (.slice A l.length c) (.string st) (.int .i64 ex) (.slice A2 rs.length c2) 25)
  have HB := Aside0.mk (below_alloc (Below.refl w.heap.size w) (.cells #[.slice A l.length c, .string st, .int .i64 ex, .slice A2 rs.length c2] 25))
  have HR := Aside0.mk hr
  have HR2 := Aside0.mk hr2
  have HNM := Aside0.mk hnm
  have HRS := Aside0.mk hrs
  clear hr hr2 hnm hrs
  obtain ⟨X, hX⟩ : ∃ X, X = w.heap.size := ⟨_, rfl⟩
  rw [← hX] at HX
  have HXE := Aside0.mk hX
  have hmb : rmayB l st ex rs = (rheadB l st ex rs && rnewsB l && rlevelsB l && !rs.any ruleBad) := rfl
  have HMB := Aside0.mk hmb
  clear hmb
  go_enter Tryd.func11, Tryd.ntmps11
  go_upto_region 1 with fail
  generalize hW1 : w.alloc (.cells #[.slice A l.length c, .string st, .int .i64 ex, .slice A2 rs.length c2] 25) = W1 at *
  rw [← hX]
  clear hW1 hX
  go_cut [41] (fun v41 wx => HRel (!rheadB l st ex rs) w X (.slice A l.length c) (.string st) (.int .i64 ex) (.slice A2 rs.length c2) v41 wx)
  case first =>
    have x0 := HX.out.c0
    have x1 := HX.out.c1
    have x2 := HX.out.c2
    have x3 := HX.out.c3
    have hhd : rheadB l st ex rs = (decide (l.length ≤ 40) && decide (rs.length ≤ 100) && decide (0 ≤ ex) && decide (ex ≤ 9999) && orB st) := rfl
    by_cases h1 : 40 < l.length
    · have HE : Aside0 (rheadB l st ex rs = false) := ⟨by rw [hhd, decide_eq_false (show ¬ l.length ≤ 40 by omega)]; rfl⟩
      have t1 : decide ((40 : Int) < (l.length : Int)) = true := by simp; omega
      clear hhd h1
      go_wp2_with fail
      go_meet
      exact ⟨by rw [HE.out]; simp, HB.out, HX.out⟩
    · have t1 : decide ((40 : Int) < (l.length : Int)) = false := by simp; omega
      rw [decide_eq_true (show l.length ≤ 40 by omega), Bool.true_and] at hhd
      by_cases h2 : 100 < rs.length
      · have HE : Aside0 (rheadB l st ex rs = false) := ⟨by rw [hhd, decide_eq_false (show ¬ rs.length ≤ 100 by omega)]; rfl⟩
        have t2 : decide ((100 : Int) < (rs.length : Int)) = true := by simp; omega
        clear hhd h1 h2
        go_wp2_with fail
        go_meet
        exact ⟨by rw [HE.out]; simp, HB.out, HX.out⟩
      · have t2 : decide ((100 : Int) < (rs.length : Int)) = false := by simp; omega
        rw [decide_eq_true (show rs.length ≤ 100 by omega), Bool.true_and] at hhd
        by_cases h3 : ex < 0
        · have HE : Aside0 (rheadB l st ex rs = false) := ⟨by rw [hhd, decide_eq_false (show ¬ 0 ≤ ex by omega)]; rfl⟩
          have t3 : decide (ex < 0) = true := decide_eq_true h3
          clear hhd h1 h2 h3
          go_wp2_with fail
          go_meet
          exact ⟨by rw [HE.out]; simp, HB.out, HX.out⟩
        · have t3 : decide (ex < 0) = false := decide_eq_false h3
          rw [decide_eq_true (show 0 ≤ ex by omega), Bool.true_and] at hhd
          by_cases h4 : 9999 < ex
          · have HE : Aside0 (rheadB l st ex rs = false) := ⟨by rw [hhd, decide_eq_false (show ¬ ex ≤ 9999 by omega)]; rfl⟩
            have t4 : decide (9999 < ex) = true := decide_eq_true h4
            clear hhd h1 h2 h3 h4
            go_wp2_with fail
            go_meet
            exact ⟨by rw [HE.out]; simp, HB.out, HX.out⟩
          · have t4 : decide (9999 < ex) = false := decide_eq_false h4
            rw [decide_eq_true (show ex ≤ 9999 by omega), Bool.true_and] at hhd
            by_cases h5 : st.toList = []
            · have HE : Aside0 (rheadB l st ex rs = true) := ⟨by rw [hhd]; unfold orB; rw [decide_eq_true (by rw [← Lib.toList_data]; exact h5)]; rfl⟩
              have t5 : (!st.toList.isEmpty) = false := by rw [h5]; rfl
              clear hhd h1 h2 h3 h4
              go_wp2_with fail
              go_meet
              exact ⟨by rw [HE.out]; simp, HB.out, HX.out⟩
            · have t5 : (!st.toList.isEmpty) = true := by simpa using h5
              have HE : Aside0 (rheadB l st ex rs = Nm st) := ⟨by rw [hhd]; unfold orB; rw [decide_eq_false (by rw [← Lib.toList_data]; exact h5)]; rfl⟩
              clear hhd h1 h2 h3 h4
              go_wp2_with fail
              go_at_call 17
              refine (rname_calls st (by omega) W1).mono ?_
              rintro e w2 ⟨rfl, hd⟩
              have HX2 := Aside0.mk (HX.out.move hd HX.out.lt)
              have HB2 := Aside0.mk (HB.out.trans (hd.mono HB.out.size))
              clear hd HX HB x0 x1 x2 x3
              obtain ⟨b, hb⟩ : ∃ b, Nm st = b := ⟨_, rfl⟩
              rw [hb] at HE ⊢
              clear hb
              cases b with
              | true =>
                go_wp2_with fail
                go_meet
                exact ⟨by rw [HE.out]; simp [h5], HB2.out, HX2.out⟩
              | false =>
                go_wp2_with fail
                go_meet
                exact ⟨by rw [HE.out]; simp [h5], HB2.out, HX2.out⟩
  case rest =>
    obtain ⟨rfl, hb, hx⟩ := hcut
    clear HB HX
    have HB := Aside0.mk hb
    have HX := Aside0.mk hx
    clear hb hx
    obtain ⟨b1, hb1⟩ : ∃ b, rheadB l st ex rs = b := ⟨_, rfl⟩
    rw [hb1]
    have HE1 := Aside0.mk hb1
    clear hb1
    cases b1 with
    | false =>
      go_wp2_with fail
      go_ret
      exact ⟨by rw [HMB.out, HE1.out]; simp, HB.out⟩
    | true =>
      obtain ⟨Y, hY⟩ : ∃ Y, Y = wc.heap.size := ⟨_, rfl⟩
      have HYE := Aside0.mk hY
      have hXY : X < Y := by rw [hY]; exact HX.out.lt
      have hwY : w.heap.size ≤ Y := by rw [hY]; exact HB.out.size
      clear hY
      go_wp2_with fail
      rw [← HYE.out]
      go_loopg [4, 5] l.length (fun kq v4 v5 w' => NRel l w X Y (.slice A l.length c) (.string st) (.int .i64 ex) (.slice A2 rs.length c2) kq v4 v5 w')
      case atStart =>
        refine ⟨0, by omega, rfl, rfl, below_alloc HB.out _, HX.out.move (below_alloc (Below.refl _ wc) _) HX.out.lt, ⟨_, by rw [HYE.out]; exact blk_new _ _, rfl, fun k hk => ?_⟩, fun j h => absurd h (Nat.not_lt_zero j)⟩
        rcases (show k = 0 ∨ k = 1 ∨ k = 2 ∨ k = 3 ∨ k = 4 ∨ k = 5 ∨ k = 6 ∨ k = 7 ∨ k = 8 by omega) with rfl | rfl | rfl | rfl | rfl | rfl | rfl | rfl | rfl <;> rfl
      case round =>
        obtain ⟨i, hi, rfl, rfl, hb, hx, ha, hn⟩ := hrel
        clear HB HX
        have HI := Aside0.mk hi
        have HB := Aside0.mk hb
        have HX := Aside0.mk hx
        have HA := Aside0.mk ha
        have HN := Aside0.mk hn
        clear hi hb hx ha hn
        have x0 := HX.out.c0
        have x1 := HX.out.c1
        have x2 := HX.out.c2
        have x3 := HX.out.c3
        by_cases hil : i < l.length
        · have t1 : decide ((i : Int) < (l.length : Int)) = true := by simp; omega
          obtain ⟨ad, e1, y0, y1, y2⟩ := at_tok (Kd.C_below HR.out HB.out) i hil rfl
          subst e1
          have HV := Aside0.mk (TBox.new wr l[i])
          have hbv := below_alloc (Below.refl wr.heap.size wr) (.cells #[.string l[i].f0, .int .i64 l[i].f1, .int .i64 l[i].f2] 35)
          have HBV := Aside0.mk hbv
          have HMS := Aside0.mk (mostB_snoc hil)
          have HLA := Aside0.mk (lastA_snoc hil)
          have hts := HNM.out l[i] (List.getElem_mem hil)
          have HRN := Aside0.mk (show rnewB l i l[i] = (basicB l i l[i] && fitB (l.take i) l[i]) from rfl)
          clear hbv
          go_upto_region 9 with fail
          generalize hW1 : wr.alloc (.cells #[.string l[i].f0, .int .i64 l[i].f1, .int .i64 l[i].f2] 35) = W1 at *
          have hT : wr.heap.size < W1.heap.size := HV.out.lt
          obtain ⟨T, hT2⟩ : ∃ T, T = wr.heap.size := ⟨_, rfl⟩
          rw [← hT2] at HV hT
          rw [← hT2]
          have HTE := Aside0.mk hT2
          have hYT : Y < T := by rw [hT2]; exact HA.out.lt
          clear hW1 y0 y1 y2 x0 x1 x2 x3 hT2
          obtain ⟨t, hti⟩ : ∃ t, l[i] = t := ⟨_, rfl⟩
          rw [hti] at HV HMS HLA hts HRN
          have HTI := Aside0.mk hti
          simp only [hti]
          clear hti
          have HX1 := Aside0.mk (HX.out.move HBV.out HX.out.lt)
          have HA1 := Aside0.mk (HA.out.move HBV.out HA.out.lt)
          have HB1 := Aside0.mk (HB.out.trans (HBV.out.mono HB.out.size))
          have HW := Aside0.mk (Below.refl W1.heap.size W1)
          clear HX HA HB HBV
          go_cut [100] (fun v100 wx => QRel (!basicB l i t) W1 v100 wx)
          case first =>
            have y0 := HV.out.c0
            have hbd : basicB l i t = (Nm t.f0 && decide (placeB l t.f0 = (i : Int)) && decide (0 ≤ t.f1) && decide (t.f1 ≤ 8) && (!decide (t.f1 = 0) || decide (t.f2 = 0)) && (!decide (0 < t.f1) || (decide (1 ≤ t.f2) && decide (t.f2 ≤ 3)))) := rfl
            have HNC := Aside0.mk (rname_calls t.f0 (by omega) W1)
            obtain ⟨b2, hb2⟩ : ∃ b, Nm t.f0 = b := ⟨_, rfl⟩
            rw [hb2] at hbd HNC
            clear hb2
            have HBD := Aside0.mk hbd
            clear hbd
            go_wp2_with fail
            go_at_call 17
            refine HNC.out.mono ?_
            rintro e w2 ⟨rfl, hd⟩
            have HV2 := Aside0.mk (HV.out.move hd)
            have HX2 := Aside0.mk (HX1.out.move hd HX1.out.lt)
            have HB2 := Aside0.mk hd
            clear hd HV HX1 HA1 HNC y0 HW
            cases b2 with
            | false =>
              go_wp2_with fail
              go_meet
              exact ⟨by rw [HBD.out]; simp, HB2.out⟩
            | true =>
              have y0 := HV2.out.c0
              have x0 := HX2.out.c0
              have x1 := HX2.out.c1
              have x2 := HX2.out.c2
              have x3 := HX2.out.c3
              go_wp2_with fail
              go_at_call 27
              refine (rtoken_calls w2 (some ad) c l st ex A2 c2 rs t.f0 (Kd.C_below HR.out (HB1.out.trans (HB2.out.mono HB1.out.size))) hcl (by omega) (Kd.C_below HR2.out (HB1.out.trans (HB2.out.mono HB1.out.size))) hc2).mono ?_
              rintro e w3 ⟨rfl, hd⟩
              have HV3 := Aside0.mk (HV2.out.move hd)
              have HB3 := Aside0.mk (HB2.out.trans (hd.mono HB2.out.size))
              clear hd HV2 HX2 y0 x0 x1 x2 x3 HB2
              have y1 := HV3.out.c1
              have y2 := HV3.out.c2
              obtain ⟨pl, hpl⟩ : ∃ p, placeB l t.f0 = p := ⟨_, rfl⟩
              rw [hpl] at HBD ⊢
              clear hpl
              by_cases h1 : pl = (i : Int)
              · subst h1
                have HBD1 := Aside0.mk HBD.out
                rw [decide_eq_true rfl, Bool.and_true, Bool.true_and] at HBD1
                by_cases h2 : t.f1 < 0
                · have HE : Aside0 (basicB l i t = false) := ⟨by rw [HBD1.out, decide_eq_false (show ¬ 0 ≤ t.f1 by omega)]; rfl⟩
                  have t2 : decide (t.f1 < 0) = true := decide_eq_true h2
                  clear h2
                  go_wp2_with fail
                  go_meet
                  exact ⟨by rw [HE.out]; rfl, HB3.out⟩
                · have t2 : decide (t.f1 < 0) = false := decide_eq_false h2
                  rw [decide_eq_true (show 0 ≤ t.f1 by omega), Bool.true_and] at HBD1
                  by_cases h3 : 8 < t.f1
                  · have HE : Aside0 (basicB l i t = false) := ⟨by rw [HBD1.out, decide_eq_false (show ¬ t.f1 ≤ 8 by omega)]; rfl⟩
                    have t3 : decide (8 < t.f1) = true := decide_eq_true h3
                    clear h2 h3
                    go_wp2_with fail
                    go_meet
                    exact ⟨by rw [HE.out]; rfl, HB3.out⟩
                  · have t3 : decide (8 < t.f1) = false := decide_eq_false h3
                    rw [decide_eq_true (show t.f1 ≤ 8 by omega), Bool.true_and] at HBD1
                    by_cases h4 : t.f1 = 0
                    · rw [decide_eq_true h4, decide_eq_false (show ¬ 0 < t.f1 by omega)] at HBD1
                      have t4 : (t.f1 == 0) = true := beq_iff_eq.2 h4
                      have t5 : decide (0 < t.f1) = false := decide_eq_false (by omega)
                      by_cases h5 : t.f2 = 0
                      · have HE : Aside0 (basicB l i t = true) := ⟨by rw [HBD1.out, decide_eq_true h5]; rfl⟩
                        have t6 : (t.f2 == 0) = true := beq_iff_eq.2 h5
                        have t6' : (t.f2 != 0) = false := by rw [h5]; rfl
                        clear h2 h3 h4 h5
                        go_wp2_with fail
                        go_meet
                        exact ⟨by rw [HE.out]; rfl, HB3.out⟩
                      · have HE : Aside0 (basicB l i t = false) := ⟨by rw [HBD1.out, decide_eq_false h5]; rfl⟩
                        have t6 : (t.f2 == 0) = false := beq_eq_false_iff_ne.2 h5
                        have t6' : (t.f2 != 0) = true := bne_iff_ne.2 h5
                        clear h2 h3 h4 h5
                        go_wp2_with fail
                        go_meet
                        exact ⟨by rw [HE.out]; rfl, HB3.out⟩
                    · rw [decide_eq_false h4, decide_eq_true (show 0 < t.f1 by omega)] at HBD1
                      have t4 : (t.f1 == 0) = false := beq_eq_false_iff_ne.2 h4
                      have t5 : decide (0 < t.f1) = true := decide_eq_true (by omega)
                      by_cases h5 : t.f2 < 1
                      · have HE : Aside0 (basicB l i t = false) := ⟨by rw [HBD1.out, decide_eq_false (show ¬ 1 ≤ t.f2 by omega)]; rfl⟩
                        have t6 : decide (t.f2 < 1) = true := decide_eq_true h5
                        clear h2 h3 h4 h5
                        go_wp2_with fail
                        go_meet
                        exact ⟨by rw [HE.out]; rfl, HB3.out⟩
                      · have t6 : decide (t.f2 < 1) = false := decide_eq_false h5
                        rw [decide_eq_true (show 1 ≤ t.f2 by omega)] at HBD1
                        by_cases h6 : 3 < t.f2
                        · have HE : Aside0 (basicB l i t = false) := ⟨by rw [HBD1.out, decide_eq_false (show ¬ t.f2 ≤ 3 by omega)]; rfl⟩
                          have t7 : decide (3 < t.f2) = true := decide_eq_true h6
                          clear h2 h3 h4 h5 h6
                          go_wp2_with fail
                          go_meet
                          exact ⟨by rw [HE.out]; rfl, HB3.out⟩
                        · have t7 : decide (3 < t.f2) = false := decide_eq_false h6
                          have HE : Aside0 (basicB l i t = true) := ⟨by rw [HBD1.out, decide_eq_true (show t.f2 ≤ 3 by omega)]; rfl⟩
                          clear h2 h3 h4 h5 h6
                          go_wp2_with fail
                          go_meet
                          exact ⟨by rw [HE.out]; rfl, HB3.out⟩
              · have HE : Aside0 (basicB l i t = false) := ⟨by rw [HBD.out, decide_eq_false h1]; simp⟩
                have t2 : (pl == (i : Int)) = false := beq_eq_false_iff_ne.2 h1
                have t2' : (pl != (i : Int)) = true := bne_iff_ne.2 h1
                clear h1
                go_wp2_with fail
                go_meet
                exact ⟨by rw [HE.out]; rfl, HB3.out⟩
          case rest =>
            obtain ⟨rfl, hb⟩ := hcut
            have HX2 := Aside0.mk (HX1.out.move hb HX1.out.lt)
            have HA2 := Aside0.mk (HA1.out.move hb HA1.out.lt)
            have HV2 := Aside0.mk (HV.out.move hb)
            have HB2 := Aside0.mk (HB1.out.trans (hb.mono HB1.out.size))
            clear hb HX1 HA1 HV HB1 HW
            obtain ⟨b2, hb2⟩ : ∃ b, basicB l i t = b := ⟨_, rfl⟩
            have HE2 := Aside0.mk hb2
            rw [hb2]
            cases b2 with
            | false =>
              clear hb2
              have HF : Aside0 (rnewsB l = false) := ⟨by
                rw [← Bool.not_eq_true, rnewsB_iff]
                intro h
                have := h i hil
                rw [HTI.out, HRN.out, HE2.out] at this
                cases this⟩
              go_wp2_with fail
              go_ret
              exact ⟨by rw [HMB.out, HF.out]; simp, HB2.out⟩
            | true =>
              have hb0 : 0 ≤ t.f1 ∧ t.f1 ≤ 8 := by
                unfold basicB at hb2
                simp only [Bool.and_eq_true, decide_eq_true_eq] at hb2
                exact ⟨hb2.1.1.1.2, hb2.1.1.2⟩
              obtain ⟨lv, hlv⟩ : ∃ lv : Nat, t.f1 = (lv : Int) := ⟨t.f1.toNat, by omega⟩
              have hlv9 : (lv : Int) < 9 := by omega
              have hlv8 : lv < 9 := by omega
              clear hb2 hb0
              have HLV := Aside0.mk hlv
              have y1 := HV2.out.c1
              have y2 := HV2.out.c2
              rw [hlv] at y1
              have a0 := (HA2.out.get lv hlv8).1
              have hft : fitB (l.take i) t = (!decide (0 < (lv : Int)) || decide (lastA (l.take i) (lv : Int) = 0) || decide (lastA (l.take i) (lv : Int) = t.f2)) := by unfold fitB; rw [hlv]
              have HFT := Aside0.mk hft
              clear hft hlv
              go_upto_region 11 with fail
              have HW := Aside0.mk (Below.refl wc.heap.size wc)
              go_cut [119] (fun v119 wx => QRel (!fitB (l.take i) t) wc v119 wx)
              case first =>
                obtain ⟨la, hla⟩ : ∃ a, lastA (l.take i) (lv : Int) = a := ⟨_, rfl⟩
                rw [hla] at a0 HFT
                clear hla
                by_cases h1 : lv = 0
                · have HE : Aside0 (fitB (l.take i) t = true) := ⟨by rw [HFT.out, decide_eq_false (show ¬ 0 < (lv : Int) by omega)]; rfl⟩
                  have t5 : decide (0 < (lv : Int)) = false := decide_eq_false (by omega)
                  have t5' : decide (0 < lv) = false := decide_eq_false (by omega)
                  clear h1
                  go_quiet (fail)
                  go_wp2_with fail
                  go_meet
                  exact ⟨by rw [HE.out]; rfl, by repeat (first | exact HW.out | apply pw_below_drewN)⟩
                · have t5 : decide (0 < (lv : Int)) = true := decide_eq_true (by omega)
                  have t5' : decide (0 < lv) = true := decide_eq_true (by omega)
                  have hf2 : fitB (l.take i) t = (decide (la = 0) || decide (la = t.f2)) := by rw [HFT.out, t5]; rfl
                  by_cases h2 : la = 0
                  · have HE : Aside0 (fitB (l.take i) t = true) := ⟨by rw [hf2, decide_eq_true h2]; rfl⟩
                    have t6 : (la == 0) = true := beq_iff_eq.2 h2
                    have t6' : (la != 0) = false := by rw [h2]; rfl
                    clear hf2 h2 h1
                    go_quiet (fail)
                    go_wp2_with fail
                    go_meet
                    exact ⟨by rw [HE.out]; rfl, by repeat (first | exact HW.out | apply pw_below_drewN)⟩
                  · have t6 : (la == 0) = false := beq_eq_false_iff_ne.2 h2
                    have t6' : (la != 0) = true := bne_iff_ne.2 h2
                    rw [decide_eq_false h2, Bool.false_or] at hf2
                    by_cases h3 : la = t.f2
                    · have HE : Aside0 (fitB (l.take i) t = true) := ⟨by rw [hf2, decide_eq_true h3]⟩
                      have t7 : (la == t.f2) = true := beq_iff_eq.2 h3
                      have t7' : (la != t.f2) = false := by rw [h3]; simp
                      clear hf2 h2 h1 h3
                      go_quiet (fail)
                      go_wp2_with fail
                      go_meet
                      exact ⟨by rw [HE.out]; rfl, by repeat (first | exact HW.out | apply pw_below_drewN)⟩
                    · have HE : Aside0 (fitB (l.take i) t = false) := ⟨by rw [hf2, decide_eq_false h3]⟩
                      have t7 : (la == t.f2) = false := beq_eq_false_iff_ne.2 h3
                      have t7' : (la != t.f2) = true := bne_iff_ne.2 h3
                      clear hf2 h2 h1 h3
                      go_quiet (fail)
                      go_wp2_with fail
                      go_meet
                      exact ⟨by rw [HE.out]; rfl, by repeat (first | exact HW.out | apply pw_below_drewN)⟩
              case rest =>
                obtain ⟨rfl, hb⟩ := hcut
                have HX3 := Aside0.mk (HX2.out.move hb HX2.out.lt)
                have HA3 := Aside0.mk (HA2.out.move hb HA2.out.lt)
                have HV3 := Aside0.mk (HV2.out.move hb)
                have HB3 := Aside0.mk (HB2.out.trans (hb.mono HB2.out.size))
                clear hb HX2 HA2 HV2 HB2 HW a0 y1 y2
                obtain ⟨b3, hb3⟩ : ∃ b, fitB (l.take i) t = b := ⟨_, rfl⟩
                have HE3 := Aside0.mk hb3
                rw [hb3]
                clear hb3
                cases b3 with
                | false =>
                  have HF : Aside0 (rnewsB l = false) := ⟨by
                    rw [← Bool.not_eq_true, rnewsB_iff]
                    intro h
                    have := h i hil
                    rw [HTI.out, HRN.out, HE2.out, HE3.out] at this
                    cases this⟩
                  go_wp2_with fail
                  go_ret
                  exact ⟨by rw [HMB.out, HF.out]; simp, HB3.out⟩
                | true =>
                  have y1 := HV3.out.c1
                  have y2 := HV3.out.c2
                  rw [HLV.out] at y1
                  obtain ⟨a0, a1⟩ := HA3.out.get lv hlv8
                  have HA4 := Aside0.mk (HA3.out.set (l' := l.take (i + 1)) lv hlv8 t.f2 (fun j hj => by rw [HLA.out, HLV.out]))
                  have HX4 := Aside0.mk (HX3.out.set (p := ⟨Y, lv, none⟩) (by show X ≠ Y; omega) (.int .i64 t.f2))
                  have HV4 := Aside0.mk (HV3.out.set (p := ⟨Y, lv, none⟩) (by show T ≠ Y; omega) (.int .i64 t.f2))
                  have HB4 := Aside0.mk (HB3.out.setCell (p := ⟨Y, lv, none⟩) hwY (.int .i64 t.f2))
                  have z1 := HV4.out.c1
                  rw [HLV.out] at z1
                  clear HA3 HX3 HV3 HB3
                  go_wp2_with fail
                  go_roundg (gk - 1)
                  case measure => have := HI.out; omega
                  case rel =>
                    refine ⟨i + 1, by have := HI.out; omega, by go_num, by rw [HMS.out, HLV.out], HB4.out, HX4.out, HA4.out, fun j h h2 => ?_⟩
                    by_cases hj : j < i
                    · exact HN.out j hj h2
                    · obtain rfl : j = i := by omega
                      rw [HTI.out, HRN.out, HE2.out, HE3.out]; rfl
        · have hi2 : i = l.length := by have := HI.out; omega
          subst hi2
          rw [List.take_length] at HA ⊢
          have t1 : decide ((l.length : Int) < (l.length : Int)) = false := by simp
          have HNW : Aside0 (rnewsB l = true) := ⟨rnewsB_iff.2 fun j hj => HN.out j hj hj⟩
          have hle8 : ∀ t ∈ l, t.f1 ≤ 8 := by
            intro t ht
            obtain ⟨j, hj, rfl⟩ := List.getElem_of_mem ht
            have := HN.out j hj hj
            unfold rnewB basicB at this
            simp only [Bool.and_eq_true, decide_eq_true_eq] at this
            exact this.1.1.1.2
          have hmb := mostB_le l hle8
          obtain ⟨m, hm⟩ : ∃ m : Nat, mostB l = (m : Int) := ⟨(mostB l).toNat, by omega⟩
          rw [hm]
          have hm8 : m ≤ 8 := by omega
          have HM := Aside0.mk hm
          clear hle8 hmb hm HN
          go_wp2_with fail
          clear x0 x1 x2 x3
          go_loopg [7] m (fun kq v7 w' => ∃ j : Nat, j + kq = m ∧ v7 = .int .i64 ((j : Int) + 1) ∧ Below w.heap.size w w' ∧ Box4 w' X (.slice A l.length c) (.string st) (.int .i64 ex) (.slice A2 rs.length c2) ∧ ARow w' Y l ∧ ∀ k : Nat, k < j → lastA l ((k : Int) + 1) ≠ 0)
          case atStart => exact ⟨0, by omega, rfl, HB.out, HX.out, HA.out, fun k h => absurd h (Nat.not_lt_zero k)⟩
          case round =>
            obtain ⟨j, hj, rfl, hb, hx, ha, hn⟩ := hrel
            clear HB HX HA
            have HJ := Aside0.mk hj
            have HB := Aside0.mk hb
            have HX := Aside0.mk hx
            have HA := Aside0.mk ha
            have HN := Aside0.mk hn
            clear hj hb hx ha hn
            by_cases hjm : j < m
            · have t2 : decide ((j : Int) + 1 ≤ (m : Int)) = true := by simp; omega
              have a0 := (HA.out.get (j + 1) (by omega)).1
              have e1 : ((j + 1 : Nat) : Int) = (j : Int) + 1 := by omega
              rw [e1] at a0
              have hj9 : (j : Int) + 1 < 9 := by omega
              obtain ⟨la, hla⟩ : ∃ a, lastA l ((j : Int) + 1) = a := ⟨_, rfl⟩
              rw [hla] at a0
              have HLA := Aside0.mk hla
              clear hla e1
              by_cases h1 : la = 0
              · subst h1
                have HF : Aside0 (rlevelsB l = false) := ⟨by
                  unfold rlevelsB
                  rw [← Bool.not_eq_true, List.all_eq_true]
                  intro h
                  have := h j (List.mem_range.2 (by rw [HM.out]; omega))
                  rw [HLA.out] at this
                  cases this⟩
                go_wp2_with fail
                go_ret
                exact ⟨by rw [HMB.out, HF.out]; simp, HB.out⟩
              · have t3 : (la == 0) = false := beq_eq_false_iff_ne.2 h1
                have H1 := Aside0.mk h1
                clear h1
                go_wp2_with fail
                go_roundg (gk - 1)
                case measure => have := HJ.out; omega
                case rel =>
                  refine ⟨j + 1, by have := HJ.out; omega, by go_num, HB.out, HX.out, HA.out, fun k h => ?_⟩
                  by_cases hk : k < j
                  · exact HN.out k hk
                  · obtain rfl : k = j := by omega
                    rw [HLA.out]; exact H1.out
            · have hjm2 : j = m := by have := HJ.out; omega
              subst hjm2
              have t2 : decide ((j : Int) + 1 ≤ (j : Int)) = false := by simp; omega
              have HLV : Aside0 (rlevelsB l = true) := ⟨by
                unfold rlevelsB
                rw [List.all_eq_true]
                intro k hk
                have hk := List.mem_range.1 hk
                rw [HM.out, Int.toNat_natCast] at hk
                rw [decide_eq_false (HN.out k hk)]; rfl⟩
              have HMB2 : Aside0 (rmayB l st ex rs = !rs.any ruleBad) := ⟨by rw [HMB.out, HE1.out, HNW.out, HLV.out]; rfl⟩
              clear HN HA
              go_wp2_with fail
              go_loopg [8] rs.length (fun kq v8 w' => PRel rs w X (.slice A l.length c) (.string st) (.int .i64 ex) (.slice A2 rs.length c2) kq v8 w')
              case atStart => exact ⟨0, by omega, rfl, HB.out, HX.out, fun k h => absurd h (Nat.not_lt_zero k)⟩
              case round =>
                obtain ⟨i, hi, rfl, hb, hx, hn⟩ := hrel
                clear HB HX
                have HI2 := Aside0.mk hi
                have HB := Aside0.mk hb
                have HX := Aside0.mk hx
                have HN := Aside0.mk hn
                clear hi hb hx hn
                have x3 := HX.out.c3
                by_cases hil : i < rs.length
                · have t1 : decide ((i : Int) < (rs.length : Int)) = true := by simp; omega
                  obtain ⟨ad, A1, c1, e1, y0, y1, y2, l1, g1⟩ := at_rule (Kd.C_below HR2.out HB.out) i hil rfl
                  subst e1
                  have HV := Aside0.mk (RBox.new wr rs[i] A1 c1)
                  have hbv := below_alloc (Below.refl wr.heap.size wr) (.cells #[.string rs[i].f0, .slice A1 rs[i].f1.length c1, .string rs[i].f2] 39)
                  have HG := Aside0.mk (Kd.C_below g1 hbv)
                  have HBV := Aside0.mk hbv
                  have HSZ := Aside0.mk (HRS.out rs[i] (List.getElem_mem hil))
                  have HL1 := Aside0.mk l1
                  clear hbv g1 l1
                  go_upto_region 24 with fail
                  generalize hW1 : wr.alloc (.cells #[.string rs[i].f0, .slice A1 rs[i].f1.length c1, .string rs[i].f2] 39) = W1 at *
                  obtain ⟨T, hT2⟩ : ∃ T, T = wr.heap.size := ⟨_, rfl⟩
                  rw [← hT2] at HV
                  rw [← hT2]
                  have HTE := Aside0.mk hT2
                  clear hW1 y0 y1 y2 x3 hT2
                  obtain ⟨r, hri⟩ : ∃ r, rs[i] = r := ⟨_, rfl⟩
                  rw [hri] at HV HG HSZ HL1
                  have HRI := Aside0.mk hri
                  simp only [hri]
                  clear hri
                  have HX1 := Aside0.mk (HX.out.move HBV.out HX.out.lt)
                  have HB1 := Aside0.mk (HB.out.trans (HBV.out.mono HB.out.size))
                  have HW := Aside0.mk (Below.refl W1.heap.size W1)
                  have hrl : r.f1.length ≤ 100000 := HSZ.out.2.2.1
                  clear HX HB HBV
                  go_cut [170] (fun v170 wx => QRel (!topB r) W1 v170 wx)
                  case first =>
                    have y0 := HV.out.c0
                    have htp : topB r = (Nm r.f0 && decide (r.f1.length ≤ 20) && orB r.f2) := rfl
                    have HNC := Aside0.mk (rname_calls r.f0 (by have := HSZ.out.1; omega) W1)
                    obtain ⟨b2, hb2⟩ : ∃ b, Nm r.f0 = b := ⟨_, rfl⟩
                    rw [hb2] at htp HNC
                    clear hb2
                    have HTP := Aside0.mk htp
                    clear htp
                    go_wp2_with fail
                    go_at_call 17
                    refine HNC.out.mono ?_
                    rintro e w2 ⟨rfl, hd⟩
                    have HV2 := Aside0.mk (HV.out.move hd)
                    have HB2 := Aside0.mk hd
                    clear hd HV HX1 HNC y0 HW HG
                    cases b2 with
                    | false =>
                      go_wp2_with fail
                      go_meet
                      exact ⟨by rw [HTP.out]; simp, HB2.out⟩
                    | true =>
                      have y1 := HV2.out.c1
                      have y2 := HV2.out.c2
                      by_cases h2 : 20 < r.f1.length
                      · have HE : Aside0 (topB r = false) := ⟨by rw [HTP.out, decide_eq_false (show ¬ r.f1.length ≤ 20 by omega)]; rfl⟩
                        have t2 : decide ((20 : Int) < (r.f1.length : Int)) = true := by simp; omega
                        clear h2
                        go_wp2_with fail
                        go_meet
                        exact ⟨by rw [HE.out]; rfl, HB2.out⟩
                      · have t2 : decide ((20 : Int) < (r.f1.length : Int)) = false := by simp; omega
                        have HE1 : Aside0 (topB r = orB r.f2) := ⟨by rw [HTP.out, decide_eq_true (show r.f1.length ≤ 20 by omega)]; rfl⟩
                        clear h2
                        by_cases h5 : r.f2.toList = []
                        · have HE : Aside0 (topB r = true) := ⟨by rw [HE1.out]; unfold orB; rw [decide_eq_true (by rw [← Lib.toList_data]; exact h5)]; rfl⟩
                          have t5 : (!r.f2.toList.isEmpty) = false := by rw [h5]; rfl
                          go_wp2_with fail
                          go_meet
                          exact ⟨by rw [HE.out]; simp, HB2.out⟩
                        · have t5 : (!r.f2.toList.isEmpty) = true := by simpa using h5
                          have HE : Aside0 (topB r = Nm r.f2) := ⟨by rw [HE1.out]; unfold orB; rw [decide_eq_false (by rw [← Lib.toList_data]; exact h5)]; rfl⟩
                          have HNC := Aside0.mk (rname_calls r.f2 (by have := HSZ.out.2.1; omega) w2)
                          obtain ⟨b, hb⟩ : ∃ b, Nm r.f2 = b := ⟨_, rfl⟩
                          rw [hb] at HE HNC
                          clear hb
                          go_wp2_with fail
                          go_at_call 17
                          refine HNC.out.mono ?_
                          rintro e w3 ⟨rfl, hd⟩
                          have HB3 := Aside0.mk (HB2.out.trans (hd.mono HB2.out.size))
                          clear hd HNC HV2 y1 y2 HB2
                          cases b with
                          | true =>
                            go_wp2_with fail
                            go_meet
                            exact ⟨by rw [HE.out]; simp [h5], HB3.out⟩
                          | false =>
                            go_wp2_with fail
                            go_meet
                            exact ⟨by rw [HE.out]; simp [h5], HB3.out⟩
                  case rest =>
                    obtain ⟨rfl, hb⟩ := hcut
                    have HX2 := Aside0.mk (HX1.out.move hb HX1.out.lt)
                    have HV2 := Aside0.mk (HV.out.move hb)
                    have HG2 := Aside0.mk (Kd.C_below HG.out hb)
                    have HB2 := Aside0.mk (HB1.out.trans (hb.mono HB1.out.size))
                    clear hb HX1 HV HG HB1 HW
                    obtain ⟨b3, hb3⟩ : ∃ b, topB r = b := ⟨_, rfl⟩
                    have HE3 := Aside0.mk hb3
                    rw [hb3]
                    clear hb3
                    cases b3 with
                    | false =>
                      have HF : Aside0 (rs.any ruleBad = true) := ⟨by
                        rw [List.any_eq_true]
                        exact ⟨rs[i], List.getElem_mem hil, by rw [HRI.out, ruleBad_eq, HE3.out]; rfl⟩⟩
                      go_wp2_with fail
                      go_ret
                      exact ⟨by rw [HMB2.out, HF.out]; rfl, HB2.out⟩
                    | true =>
                      have HW := Aside0.mk (Below.refl wc.heap.size wc)
                      obtain ⟨gko, hgko⟩ : ∃ g, g = gk := ⟨_, rfl⟩
                      have HGK := Aside0.mk hgko
                      clear hgko
                      go_wp2_with fail
                      go_loopg [10] r.f1.length (fun kq v10 w' => KRel r.f1 wc kq v10 w')
                      case atStart => exact ⟨0, by omega, rfl, HW.out, fun k h => absurd h (Nat.not_lt_zero k)⟩
                      case round =>
                        obtain ⟨k, hk, rfl, hb, hn2⟩ := hrel
                        clear HW
                        have HK := Aside0.mk hk
                        have HB3 := Aside0.mk hb
                        have HN2 := Aside0.mk hn2
                        have HV3 := Aside0.mk (HV2.out.move hb)
                        clear hk hb hn2
                        have y1 := HV3.out.c1
                        by_cases hkl : k < r.f1.length
                        · have t2 : decide ((k : Int) < (r.f1.length : Int)) = true := by simp; omega
                          obtain ⟨bd, e1, z0⟩ := at_str (Kd.C_below HG2.out HB3.out) k hkl rfl
                          subst e1
                          have hsk := HSZ.out.2.2.2 r.f1[k] (List.getElem_mem hkl)
                          have HNC := Aside0.mk (rname_calls r.f1[k] (by omega) wr)
                          obtain ⟨b4, hb4⟩ : ∃ b, Nm r.f1[k] = b := ⟨_, rfl⟩
                          rw [hb4] at HNC
                          have HE4 := Aside0.mk hb4
                          clear hb4
                          go_wp2_with fail
                          go_at_call 17
                          refine HNC.out.mono ?_
                          rintro e w3 ⟨rfl, hd⟩
                          have HB4 := Aside0.mk (HB3.out.trans (hd.mono HB3.out.size))
                          clear hd HNC HV3 y1 z0 HB3
                          cases b4 with
                          | false =>
                            have HF : Aside0 (rs.any ruleBad = true) := ⟨by
                              rw [List.any_eq_true]
                              refine ⟨rs[i], List.getElem_mem hil, ?_⟩
                              rw [HRI.out, ruleBad_eq, HE3.out]
                              have : (r.f1.any fun s => !Nm s) = true := List.any_eq_true.2 ⟨r.f1[k], List.getElem_mem hkl, by rw [HE4.out]; rfl⟩
                              rw [this]; rfl⟩
                            go_wp2_with fail
                            go_ret
                            exact ⟨by rw [HMB2.out, HF.out]; rfl, HB2.out.trans (HB4.out.mono HB2.out.size)⟩
                          | true =>
                            go_wp2_with fail
                            go_roundg (gk - 1)
                            case measure => have := HK.out; omega
                            case rel =>
                              refine ⟨k + 1, by have := HK.out; omega, by go_num, HB4.out, fun j h h2 => ?_⟩
                              by_cases hj : j < k
                              · exact HN2.out j hj h2
                              · obtain rfl : j = k := by omega
                                exact HE4.out
                        · have t2 : decide ((k : Int) < (r.f1.length : Int)) = false := by simp; omega
                          have HRB : Aside0 (ruleBad r = false) := ⟨by
                            rw [ruleBad_eq, HE3.out]
                            rw [show (r.f1.any fun s => !Nm s) = false from by
                              rw [List.any_eq_false]
                              intro s hs
                              obtain ⟨j, hj, rfl⟩ := List.getElem_of_mem hs
                              rw [HN2.out j (by have := HK.out; omega) hj]
                              decide]
                            rfl⟩
                          have HB5 := Aside0.mk (HB2.out.trans (HB3.out.mono HB2.out.size))
                          have HX5 := Aside0.mk (HX2.out.move HB3.out HX2.out.lt)
                          clear HN2 HB3 HV3
                          go_wp2_with fail
                          go_roundg (gko - 1)
                          case measure => have := HI2.out; have := HGK.out; omega
                          case rel =>
                            refine ⟨i + 1, by have := HI2.out; have := HGK.out; omega, by go_num, HB5.out, HX5.out, fun j h h2 => ?_⟩
                            by_cases hj : j < i
                            · exact HN.out j hj h2
                            · obtain rfl : j = i := by omega
                              rw [HRI.out]; exact HRB.out
                · have hi2 : i = rs.length := by have := HI2.out; omega
                  subst hi2
                  have t1 : decide ((rs.length : Int) < (rs.length : Int)) = false := by simp
                  have HT : Aside0 (rs.any ruleBad = false) := ⟨by
                    rw [List.any_eq_false]
                    intro r hr
                    obtain ⟨j, hj, rfl⟩ := List.getElem_of_mem hr
                    rw [HN.out j hj hj]
                    decide⟩
                  go_wp2_with fail
                  go_ret
                  exact ⟨by rw [HMB2.out, HT.out]; rfl, HB.out⟩
end Go.Proofs.YteonnadhdmcloaaDoor.G
namespace Go.Proofs.YteonnadhdmcloaaDoor.G
open Go.RowKit Go.Proofs.YteonnadhdmcloaaDoorW.PrintWords Go.Proofs.YteonnadhdmcloaaDoorW.PrintLast Go.Proofs.YteonnadhdmcloaaDoorW.PrintMore
set_option linter.unusedVariables false
set_option linter.unusedSimpArgs false
def eqHeadB (la : List S35) (sa : ByteArray) (ea : Int) (ra : List S39) (lb : List S35) (sb : ByteArray) (eb : Int) (rb : List S39) : Bool := decide (la.length = lb.length) && decide (sa = sb) && decide (ea = eb) && decide (ra.length = rb.length)
def TRel (la lb : List S35) (w : World) (X Z : Nat) (a b c d a' b' c' d' : Value) (kq : Nat) (v5 : Value) (w' : World) : Prop :=
  ∃ i : Nat, i + kq = la.length ∧ v5 = .int .i64 (i : Int) ∧ Below w.heap.size w w' ∧ Box4 w' X a b c d ∧ Box4 w' Z a' b' c' d' ∧ la.take i = lb.take i
def TwoT (x y : S35) (W : World) (v6 v7 : Value) (w' : World) : Prop :=
  ∃ S T : Nat, v6 = .pointer (some ⟨S, 0, none⟩) ∧ v7 = .pointer (some ⟨T, 0, none⟩) ∧ TBox w' S x ∧ TBox w' T y ∧ Below W.heap.size W w'
def TwoR (x y : S39) (A1 : Option Addr) (c1 : Nat) (A2 : Option Addr) (c2 : Nat) (W : World) (v9 v10 : Value) (w' : World) : Prop :=
  ∃ S T : Nat, v9 = .pointer (some ⟨S, 0, none⟩) ∧ v10 = .pointer (some ⟨T, 0, none⟩) ∧ RBox w' S x A1 c1 ∧ RBox w' T y A2 c2 ∧ Below W.heap.size W w'
def URel (ra rb : List S39) (w : World) (X Z : Nat) (a b c d a' b' c' d' : Value) (kq : Nat) (v8 : Value) (w' : World) : Prop :=
  ∃ i : Nat, i + kq = ra.length ∧ v8 = .int .i64 (i : Int) ∧ Below w.heap.size w w' ∧ Box4 w' X a b c d ∧ Box4 w' Z a' b' c' d' ∧ ra.take i = rb.take i
def VRel (xs ys : List ByteArray) (W : World) (kq : Nat) (v11 : Value) (w' : World) : Prop :=
  ∃ k : Nat, k + kq = xs.length ∧ v11 = .int .i64 (k : Int) ∧ Below W.heap.size W w' ∧ xs.take k = ys.take k
theorem two_rule (W : World) (x y : S39) (A1 : Option Addr) (c1 : Nat) (A2 : Option Addr) (c2 : Nat) : RBox ((W.alloc (.cells #[.string x.f0, .slice A1 x.f1.length c1, .string x.f2] 39)).alloc (.cells #[.string y.f0, .slice A2 y.f1.length c2, .string y.f2] 39)).drew W.heap.size x A1 c1 ∧ RBox ((W.alloc (.cells #[.string x.f0, .slice A1 x.f1.length c1, .string x.f2] 39)).alloc (.cells #[.string y.f0, .slice A2 y.f1.length c2, .string y.f2] 39)).drew (W.heap.size + 1) y A2 c2 ∧ Below W.heap.size W ((W.alloc (.cells #[.string x.f0, .slice A1 x.f1.length c1, .string x.f2] 39)).alloc (.cells #[.string y.f0, .slice A2 y.f1.length c2, .string y.f2] 39)).drew := by
  have h1 := below_alloc (Below.refl W.heap.size W) (.cells #[.string x.f0, .slice A1 x.f1.length c1, .string x.f2] 39)
  have n1 := RBox.new W x A1 c1
  have hs : (W.alloc (.cells #[.string x.f0, .slice A1 x.f1.length c1, .string x.f2] 39)).heap.size = W.heap.size + 1 := by simp
  generalize W.alloc (.cells #[.string x.f0, .slice A1 x.f1.length c1, .string x.f2] 39) = W1 at *
  have h2 := below_alloc (Below.refl W1.heap.size W1) (.cells #[.string y.f0, .slice A2 y.f1.length c2, .string y.f2] 39)
  have h3 := below_drew (Below.refl (W1.alloc (.cells #[.string y.f0, .slice A2 y.f1.length c2, .string y.f2] 39)).heap.size (W1.alloc (.cells #[.string y.f0, .slice A2 y.f1.length c2, .string y.f2] 39)))
  have n2 := RBox.new W1 y A2 c2
  rw [hs] at n2
  exact ⟨(n1.move h2).move h3, n2.move h3, h1.trans ((h2.trans (h3.mono h2.size)).mono h1.size)⟩
theorem two_tok (W : World) (x y : S35) : TBox ((W.alloc (.cells #[.string x.f0, .int .i64 x.f1, .int .i64 x.f2] 35)).alloc (.cells #[.string y.f0, .int .i64 y.f1, .int .i64 y.f2] 35)).drew W.heap.size x ∧ TBox ((W.alloc (.cells #[.string x.f0, .int .i64 x.f1, .int .i64 x.f2] 35)).alloc (.cells #[.string y.f0, .int .i64 y.f1, .int .i64 y.f2] 35)).drew (W.heap.size + 1) y ∧ Below W.heap.size W ((W.alloc (.cells #[.string x.f0, .int .i64 x.f1, .int .i64 x.f2] 35)).alloc (.cells #[.string y.f0, .int .i64 y.f1, .int .i64 y.f2] 35)).drew := by
  have h1 := below_alloc (Below.refl W.heap.size W) (.cells #[.string x.f0, .int .i64 x.f1, .int .i64 x.f2] 35)
  generalize hW1 : W.alloc (.cells #[.string x.f0, .int .i64 x.f1, .int .i64 x.f2] 35) = W1 at *
  have h2 := below_alloc (Below.refl W1.heap.size W1) (.cells #[.string y.f0, .int .i64 y.f1, .int .i64 y.f2] 35)
  have h3 := below_drew (Below.refl (W1.alloc (.cells #[.string y.f0, .int .i64 y.f1, .int .i64 y.f2] 35)).heap.size (W1.alloc (.cells #[.string y.f0, .int .i64 y.f1, .int .i64 y.f2] 35)))
  have hs : W1.heap.size = W.heap.size + 1 := by subst hW1; simp
  have n1 : TBox W1 W.heap.size x := by subst hW1; exact TBox.new W x
  have n2 := TBox.new W1 y
  rw [hs] at n2
  exact ⟨(n1.move h2).move h3, n2.move h3, h1.trans ((h2.trans (h3.mono h2.size)).mono h1.size)⟩
set_option maxHeartbeats 16000000 in
set_option maxRecDepth 100000 in
theorem req_calls (w : World) (A : Option Addr) (c : Nat) (la : List S35) (sa : ByteArray) (ea : Int) (A2 : Option Addr) (c2 : Nat) (ra : List S39) (B : Option Addr) (d : Nat) (lb : List S35) (sb : ByteArray) (eb : Int) (B2 : Option Addr) (d2 : Nat) (rb : List S39)
    (hr : Kd.C k35 w A la.length la) (hl : la.length ≤ 100000) (hr2 : Kd.C k39 w A2 ra.length ra) (hl2 : ra.length ≤ 100000) (hs : ∀ r ∈ ra, r.f1.length ≤ 100000)
    (kr : Kd.C k35 w B lb.length lb) (kr2 : Kd.C k39 w B2 rb.length rb) :
    Calls Tryd.prog 15 #[.agg #[.slice A la.length c, .string sa, .int .i64 ea, .slice A2 ra.length c2], .agg #[.slice B lb.length d, .string sb, .int .i64 eb, .slice B2 rb.length d2]] w fun e w' => e = .returned (.bool (geqB la sa ea ra lb sb eb rb)) ∧ Below w.heap.size w w' := by
  have hb1 := below_alloc (Below.refl w.heap.size w) (.cells #[.slice A la.length c, .string sa, .int .i64 ea, .slice A2 ra.length c2] 25)
  have hb2 := below_alloc (Below.refl (w.alloc (.cells #[.slice A la.length c, .string sa, .int .i64 ea, .slice A2 ra.length c2] 25)).heap.size (w.alloc (.cells #[.slice A la.length c, .string sa, .int .i64 ea, .slice A2 ra.length c2] 25))) (.cells #[.slice B lb.length d, .string sb, .int .i64 eb, .slice B2 rb.length d2] 25)
  have HX := Aside0.mk ((Box4.new w (.slice A la.length c) (.string sa) (.int .i64 ea) (.slice A2 ra.length c2) 25).move hb2 (by simp))
  have HZ := Aside0.mk (Box4.new (w.alloc (.cells #[.slice A la.length c, .string sa, .int .i64 ea, .slice A2 ra.length c2] 25)) (.slice B lb.length d) (.string sb) (.int .i64 eb) (.slice B2 rb.length d2) 25)
  rw [World.size_alloc] at HZ
  have HB := Aside0.mk (hb1.trans (hb2.mono hb1.size))
  have HR := Aside0.mk hr
  have HR2 := Aside0.mk hr2
  have KR := Aside0.mk kr
  have KR2 := Aside0.mk kr2
  have HS := Aside0.mk hs
  clear hb1 hb2 hr hr2 kr kr2 hs
  obtain ⟨X, hX⟩ : ∃ X, X = w.heap.size := ⟨_, rfl⟩
  obtain ⟨Z, hZ⟩ : ∃ Z, Z = w.heap.size + 1 := ⟨_, rfl⟩
  rw [← hX] at HX
  rw [← hZ] at HZ
  have hlk : geqB la sa ea ra lb sb eb rb = (decide (ra = rb) && decide (sa = sb) && decide (ea = eb) && decide (la = lb)) := rfl
  have HLK := Aside0.mk hlk
  clear hlk
  go_enter Tryd.func15, Tryd.ntmps15
  go_upto_region 1 with fail
  generalize hW1 : (w.alloc (.cells #[.slice A la.length c, .string sa, .int .i64 ea, .slice A2 ra.length c2] 25)).alloc (.cells #[.slice B lb.length d, .string sb, .int .i64 eb, .slice B2 rb.length d2] 25) = W1 at *
  rw [← hZ, ← hX]
  have HXE := Aside0.mk hX
  have HZE := Aside0.mk hZ
  have HW := Aside0.mk (Below.refl W1.heap.size W1)
  clear hW1 hX hZ
  go_cut [41] (fun v41 wx => QRel (!eqHeadB la sa ea ra lb sb eb rb) W1 v41 wx)
  case first =>
    have x0 := HX.out.c0
    have x1 := HX.out.c1
    have x2 := HX.out.c2
    have x3 := HX.out.c3
    have y0 := HZ.out.c0
    have y1 := HZ.out.c1
    have y2 := HZ.out.c2
    have y3 := HZ.out.c3
    have hhd : eqHeadB la sa ea ra lb sb eb rb = (decide (la.length = lb.length) && decide (sa = sb) && decide (ea = eb) && decide (ra.length = rb.length)) := rfl
    by_cases h1 : la.length = lb.length
    · have t1 : ((la.length : Int) != (lb.length : Int)) = false := by simp [h1]
      rw [decide_eq_true h1, Bool.true_and] at hhd
      by_cases h2 : sa.toList = sb.toList
      · rw [decide_eq_true (toList_eq.1 h2), Bool.true_and] at hhd
        by_cases h3 : ea = eb
        · have t3 : (ea != eb) = false := by simp [h3]
          rw [decide_eq_true h3, Bool.true_and] at hhd
          by_cases h4 : ra.length = rb.length
          · have t4 : ((ra.length : Int) != (rb.length : Int)) = false := by simp [h4]
            have HE : Aside0 (eqHeadB la sa ea ra lb sb eb rb = true) := ⟨by rw [hhd, decide_eq_true h4]⟩
            clear hhd h1 h3 h4
            go_wp2_with fail
            go_meet
            exact ⟨by rw [HE.out]; simp [h2], HW.out⟩
          · have t4 : ((ra.length : Int) != (rb.length : Int)) = true := bne_iff_ne.2 (by omega)
            have HE : Aside0 (eqHeadB la sa ea ra lb sb eb rb = false) := ⟨by rw [hhd, decide_eq_false h4]⟩
            clear hhd h1 h3 h4
            go_wp2_with fail
            go_meet
            exact ⟨by rw [HE.out]; simp [h2], HW.out⟩
        · have t3 : (ea != eb) = true := bne_iff_ne.2 h3
          have HE : Aside0 (eqHeadB la sa ea ra lb sb eb rb = false) := ⟨by rw [hhd, decide_eq_false h3]; rfl⟩
          clear hhd h1 h3
          go_wp2_with fail
          go_meet
          exact ⟨by rw [HE.out]; simp [h2], HW.out⟩
      · have HE : Aside0 (eqHeadB la sa ea ra lb sb eb rb = false) := ⟨by rw [hhd, decide_eq_false (fun h => h2 (by rw [h]))]; rfl⟩
        clear hhd h1
        go_wp2_with fail
        go_meet
        exact ⟨by rw [HE.out]; simp [h2], HW.out⟩
    · have t1 : ((la.length : Int) != (lb.length : Int)) = true := bne_iff_ne.2 (by omega)
      have HE : Aside0 (eqHeadB la sa ea ra lb sb eb rb = false) := ⟨by rw [hhd, decide_eq_false h1]; rfl⟩
      clear hhd h1
      go_wp2_with fail
      go_meet
      exact ⟨by rw [HE.out]; simp, HW.out⟩
  case rest =>
    obtain ⟨rfl, hb⟩ := hcut
    have HX1 := Aside0.mk (HX.out.move hb HX.out.lt)
    have HZ1 := Aside0.mk (HZ.out.move hb HZ.out.lt)
    have HB1 := Aside0.mk (HB.out.trans (hb.mono HB.out.size))
    clear hb HX HZ HB HW
    obtain ⟨b1, hb1⟩ : ∃ b, eqHeadB la sa ea ra lb sb eb rb = b := ⟨_, rfl⟩
    rw [hb1]
    have HE1 := Aside0.mk hb1
    clear hb1
    cases b1 with
    | false =>
      have HF : Aside0 (geqB la sa ea ra lb sb eb rb = false) := ⟨by
        rw [← Bool.not_eq_true]
        intro h
        rw [HLK.out] at h
        simp only [Bool.and_eq_true, decide_eq_true_eq] at h
        obtain ⟨⟨⟨rfl, rfl⟩, rfl⟩, rfl⟩ := h
        have := HE1.out
        unfold eqHeadB at this
        simp at this⟩
      go_wp2_with fail
      go_ret
      exact ⟨by rw [HF.out]; rfl, HB1.out⟩
    | true =>
      have hh := HE1.out
      unfold eqHeadB at hh
      simp only [Bool.and_eq_true, decide_eq_true_eq] at hh
      obtain ⟨⟨⟨hle, hse⟩, hee⟩, hre⟩ := hh
      have HL2 : Aside0 (geqB la sa ea ra lb sb eb rb = (decide (ra = rb) && decide (la = lb))) := ⟨by rw [HLK.out, decide_eq_true hse, decide_eq_true hee]; simp⟩
      have HLE := Aside0.mk hle
      have HRE := Aside0.mk hre
      clear hle hse hee hre
      go_wp2_with fail
      go_loopg [5] la.length (fun kq v5 w' => TRel la lb w X Z (.slice A la.length c) (.string sa) (.int .i64 ea) (.slice A2 ra.length c2) (.slice B lb.length d) (.string sb) (.int .i64 eb) (.slice B2 rb.length d2) kq v5 w')
      case atStart => exact ⟨0, by omega, rfl, HB1.out, HX1.out, HZ1.out, rfl⟩
      case round =>
        obtain ⟨i, hi, rfl, hb, hx, hz, hn⟩ := hrel
        clear HB1 HX1 HZ1
        have HI := Aside0.mk hi
        have HB := Aside0.mk hb
        have HX := Aside0.mk hx
        have HZ := Aside0.mk hz
        have HN := Aside0.mk hn
        clear hi hb hx hz hn
        have x0 := HX.out.c0
        by_cases hil : i < la.length
        · have t1 : decide ((i : Int) < (la.length : Int)) = true := by simp; omega
          have hiy : i < lb.length := by have := HLE.out; omega
          obtain ⟨ad, e1, x5, x6, x7⟩ := at_tok (Kd.C_below HR.out HB.out) i hil rfl
          obtain ⟨bd, e2, y5, y6, y7⟩ := at_tok (Kd.C_below KR.out HB.out) i hiy rfl
          subst e1
          subst e2
          have y0 := HZ.out.c0
          go_upto_region 6 with fail
          have HW := Aside0.mk (Below.refl wr.heap.size wr)
          go_cut [6, 7] (fun v6 v7 wx => TwoT la[i] lb[i] wr v6 v7 wx)
          case first =>
            have hi0 : (0 : Int) ≤ (i : Int) := Int.natCast_nonneg _
            have hia : (i : Int) < (la.length : Int) := by omega
            have hib : (i : Int) < (lb.length : Int) := by omega
            go_region_held3 (fun w' => w'.cell? ⟨X, 0, none⟩ = some (.slice (some ad) la.length c) ∧ w'.cell? ⟨Z, 0, none⟩ = some (.slice (some bd) lb.length d)
              ∧ w'.cell? (ad.add (i * 3)) = some (.string la[i].f0) ∧ w'.cell? ⟨(ad.add (i * 3)).block, (ad.add (i * 3)).off + 1, none⟩ = some (.int .i64 la[i].f1) ∧ w'.cell? ⟨(ad.add (i * 3)).block, (ad.add (i * 3)).off + 2, none⟩ = some (.int .i64 la[i].f2)
              ∧ w'.cell? (bd.add (i * 3)) = some (.string lb[i].f0) ∧ w'.cell? ⟨(bd.add (i * 3)).block, (bd.add (i * 3)).off + 1, none⟩ = some (.int .i64 lb[i].f1) ∧ w'.cell? ⟨(bd.add (i * 3)).block, (bd.add (i * 3)).off + 2, none⟩ = some (.int .i64 lb[i].f2)) (go_keep) (fail)
            · obtain ⟨n1, n2, n3⟩ := two_tok wr la[i] lb[i]
              go_wp2_with fail
              go_meet
              exact ⟨_, _, rfl, rfl, n1, n2, n3⟩
            · obtain ⟨n1, n2, n3⟩ := two_tok wr lb[i] la[i]
              go_wp2_with fail
              go_meet
              exact ⟨_, _, rfl, rfl, n2, n1, n3⟩
          case rest =>
            obtain ⟨S, T, rfl, rfl, hS, hT, hb⟩ := hcut
            have HX1 := Aside0.mk (HX.out.move hb HX.out.lt)
            have HZ1 := Aside0.mk (HZ.out.move hb HZ.out.lt)
            have HB1 := Aside0.mk (HB.out.trans (hb.mono HB.out.size))
            have HSB := Aside0.mk hS
            have HTB := Aside0.mk hT
            clear hb hS hT HX HZ HB HW x0 y0 x5 x6 x7 y5 y6 y7
            have HTS : Aside0 (la[i] = lb[i] → la.take (i + 1) = lb.take (i + 1)) := ⟨fun h => by rw [List.take_succ_eq_append_getElem hil, List.take_succ_eq_append_getElem hiy, HN.out, h]⟩
            have HNE : Aside0 (la[i] ≠ lb[i] → la ≠ lb) := ⟨fun h e => h (by subst e; rfl)⟩
            generalize la[i] = x at *
            generalize lb[i] = y at *
            have HW := Aside0.mk (Below.refl wc.heap.size wc)
            go_upto_region 7 with fail
            go_cut [77] (fun v77 wx => QRel (!decide (x = y)) wc v77 wx)
            case first =>
              have x0 := HSB.out.c0
              have x1 := HSB.out.c1
              have x2 := HSB.out.c2
              have y0 := HTB.out.c0
              have y1 := HTB.out.c1
              have y2 := HTB.out.c2
              obtain ⟨xn, xl, xa⟩ := x
              obtain ⟨yn, yl, ya⟩ := y
              dsimp only at *
              by_cases h1 : xn.toList = yn.toList
              · by_cases h2 : xl = yl
                · by_cases h3 : xa = ya
                  · have HE : Aside0 (decide ((⟨xn, xl, xa⟩ : S35) = ⟨yn, yl, ya⟩) = true) := ⟨by rw [toList_eq.1 h1, h2, h3]; simp⟩
                    have t2 : (xl != yl) = false := by rw [h2]; simp
                    have t3 : (xa != ya) = false := by rw [h3]; simp
                    clear h2 h3
                    go_wp2_with fail
                    go_meet
                    exact ⟨by rw [HE.out]; simp [h1], HW.out⟩
                  · have HE : Aside0 (decide ((⟨xn, xl, xa⟩ : S35) = ⟨yn, yl, ya⟩) = false) := ⟨decide_eq_false fun e => by rw [S35.mk.injEq] at e; exact h3 e.2.2⟩
                    have t2 : (xl != yl) = false := by rw [h2]; simp
                    have t3 : (xa != ya) = true := bne_iff_ne.2 h3
                    clear h2 h3
                    go_wp2_with fail
                    go_meet
                    exact ⟨by rw [HE.out]; simp [h1], HW.out⟩
                · have HE : Aside0 (decide ((⟨xn, xl, xa⟩ : S35) = ⟨yn, yl, ya⟩) = false) := ⟨decide_eq_false fun e => by rw [S35.mk.injEq] at e; exact h2 e.2.1⟩
                  have t2 : (xl != yl) = true := bne_iff_ne.2 h2
                  clear h2
                  go_wp2_with fail
                  go_meet
                  exact ⟨by rw [HE.out]; simp [h1], HW.out⟩
              · have HE : Aside0 (decide ((⟨xn, xl, xa⟩ : S35) = ⟨yn, yl, ya⟩) = false) := ⟨decide_eq_false fun e => by rw [S35.mk.injEq] at e; exact h1 (by rw [e.1])⟩
                go_wp2_with fail
                go_meet
                exact ⟨by rw [HE.out]; simp [h1], HW.out⟩
            case rest =>
              obtain ⟨rfl, hb⟩ := hcut
              have HX2 := Aside0.mk (HX1.out.move hb HX1.out.lt)
              have HZ2 := Aside0.mk (HZ1.out.move hb HZ1.out.lt)
              have HB2 := Aside0.mk (HB1.out.trans (hb.mono HB1.out.size))
              clear hb HX1 HZ1 HB1 HSB HTB HW
              by_cases he : x = y
              · rw [decide_eq_true he]
                have HTK := Aside0.mk (HTS.out he)
                clear he
                go_wp2_with fail
                go_roundg (gk - 1)
                case measure => have := HI.out; omega
                case rel => exact ⟨i + 1, by have := HI.out; omega, by go_num, HB2.out, HX2.out, HZ2.out, HTK.out⟩
              · rw [decide_eq_false he]
                have HF : Aside0 (geqB la sa ea ra lb sb eb rb = false) := ⟨by rw [HLK.out, decide_eq_false (HNE.out he)]; simp⟩
                clear he
                go_wp2_with fail
                go_ret
                exact ⟨by rw [HF.out]; rfl, HB2.out⟩
        · have t1 : decide ((i : Int) < (la.length : Int)) = false := by simp; omega
          have HLA : Aside0 (la = lb) := ⟨by
            have h1 := HN.out
            have h2 := HLE.out
            rwa [List.take_of_length_le (by omega), List.take_of_length_le (by omega)] at h1⟩
          have HL3 : Aside0 (geqB la sa ea ra lb sb eb rb = decide (ra = rb)) := ⟨by rw [HL2.out, decide_eq_true HLA.out]; simp⟩
          go_wp2_with fail
          clear x0
          go_loopg [8] ra.length (fun kq v8 w' => URel ra rb w X Z (.slice A la.length c) (.string sa) (.int .i64 ea) (.slice A2 ra.length c2) (.slice B lb.length d) (.string sb) (.int .i64 eb) (.slice B2 rb.length d2) kq v8 w')
          case atStart => exact ⟨0, by omega, rfl, HB.out, HX.out, HZ.out, rfl⟩
          case round =>
            obtain ⟨i, hi, rfl, hb, hx, hz, hn⟩ := hrel
            clear HB HX HZ
            have HI2 := Aside0.mk hi
            have HB := Aside0.mk hb
            have HX := Aside0.mk hx
            have HZ := Aside0.mk hz
            have HN2 := Aside0.mk hn
            clear hi hb hx hz hn
            have x3 := HX.out.c3
            by_cases hil : i < ra.length
            · have t1 : decide ((i : Int) < (ra.length : Int)) = true := by simp; omega
              have hiy : i < rb.length := by have := HRE.out; omega
              obtain ⟨ad, P1, d1, e1, x5, x6, x7, l1, g1⟩ := at_rule (Kd.C_below HR2.out HB.out) i hil rfl
              obtain ⟨bd, P2, d2', e2, y5, y6, y7, l2, g2⟩ := at_rule (Kd.C_below KR2.out HB.out) i hiy rfl
              subst e1
              subst e2
              have y3 := HZ.out.c3
              have HG1 := Aside0.mk g1
              have HG2 := Aside0.mk g2
              have hsl := HS.out ra[i] (List.getElem_mem hil)
              clear g1 g2
              go_upto_region 12 with fail
              have HW := Aside0.mk (Below.refl wr.heap.size wr)
              go_cut [9, 10] (fun v9 v10 wx => TwoR ra[i] rb[i] P1 d1 P2 d2' wr v9 v10 wx)
              case first =>
                have hi0 : (0 : Int) ≤ (i : Int) := Int.natCast_nonneg _
                have hia : (i : Int) < (ra.length : Int) := by omega
                have hib : (i : Int) < (rb.length : Int) := by omega
                go_region_held3 (fun w' => w'.cell? ⟨X, 3, none⟩ = some (.slice (some ad) ra.length c2) ∧ w'.cell? ⟨Z, 3, none⟩ = some (.slice (some bd) rb.length d2)
                  ∧ w'.cell? (ad.add (i * 3)) = some (.string ra[i].f0) ∧ w'.cell? ⟨(ad.add (i * 3)).block, (ad.add (i * 3)).off + 1, none⟩ = some (.slice P1 ra[i].f1.length d1) ∧ w'.cell? ⟨(ad.add (i * 3)).block, (ad.add (i * 3)).off + 2, none⟩ = some (.string ra[i].f2)
                  ∧ w'.cell? (bd.add (i * 3)) = some (.string rb[i].f0) ∧ w'.cell? ⟨(bd.add (i * 3)).block, (bd.add (i * 3)).off + 1, none⟩ = some (.slice P2 rb[i].f1.length d2') ∧ w'.cell? ⟨(bd.add (i * 3)).block, (bd.add (i * 3)).off + 2, none⟩ = some (.string rb[i].f2)) (go_keep) (fail)
                · obtain ⟨n1, n2, n3⟩ := two_rule wr ra[i] rb[i] P1 d1 P2 d2'
                  go_wp2_with fail
                  go_meet
                  exact ⟨_, _, rfl, rfl, n1, n2, n3⟩
                · obtain ⟨n1, n2, n3⟩ := two_rule wr rb[i] ra[i] P2 d2' P1 d1
                  go_wp2_with fail
                  go_meet
                  exact ⟨_, _, rfl, rfl, n2, n1, n3⟩
              case rest =>
                obtain ⟨S, T, rfl, rfl, hS, hT, hb⟩ := hcut
                have HX1 := Aside0.mk (HX.out.move hb HX.out.lt)
                have HZ1 := Aside0.mk (HZ.out.move hb HZ.out.lt)
                have HB1 := Aside0.mk (HB.out.trans (hb.mono HB.out.size))
                have HK1 := Aside0.mk (Kd.C_below HG1.out hb)
                have HK2 := Aside0.mk (Kd.C_below HG2.out hb)
                have HSB := Aside0.mk hS
                have HTB := Aside0.mk hT
                clear hb hS hT HX HZ HB HW x3 y3 x5 x6 x7 y5 y6 y7 HG1 HG2
                have HTS : Aside0 (ra[i] = rb[i] → ra.take (i + 1) = rb.take (i + 1)) := ⟨fun h => by rw [List.take_succ_eq_append_getElem hil, List.take_succ_eq_append_getElem hiy, HN2.out, h]⟩
                have HNE : Aside0 (ra[i] ≠ rb[i] → ra ≠ rb) := ⟨fun h e => h (by subst e; rfl)⟩
                generalize ra[i] = x at *
                generalize rb[i] = y at *
                have HW := Aside0.mk (Below.refl wc.heap.size wc)
                go_upto_region 13 with fail
                go_cut [115] (fun v115 wx => QRel (!(decide (x.f0 = y.f0) && decide (x.f2 = y.f2) && decide (x.f1.length = y.f1.length))) wc v115 wx)
                case first =>
                  have x0 := HSB.out.c0
                  have x1 := HSB.out.c1
                  have x2 := HSB.out.c2
                  have y0 := HTB.out.c0
                  have y1 := HTB.out.c1
                  have y2 := HTB.out.c2
                  by_cases h1 : x.f0.toList = y.f0.toList
                  · by_cases h2 : x.f2.toList = y.f2.toList
                    · by_cases h3 : x.f1.length = y.f1.length
                      · have HE : Aside0 ((decide (x.f0 = y.f0) && decide (x.f2 = y.f2) && decide (x.f1.length = y.f1.length)) = true) := ⟨by rw [decide_eq_true (toList_eq.1 h1), decide_eq_true (toList_eq.1 h2), decide_eq_true h3]; rfl⟩
                        have t3 : ((x.f1.length : Int) != (y.f1.length : Int)) = false := by rw [h3]; simp
                        clear h3
                        go_wp2_with fail
                        go_meet
                        exact ⟨by rw [HE.out]; simp [h1, h2], HW.out⟩
                      · have HE : Aside0 ((decide (x.f0 = y.f0) && decide (x.f2 = y.f2) && decide (x.f1.length = y.f1.length)) = false) := ⟨by rw [decide_eq_false h3]; simp⟩
                        have t3 : ((x.f1.length : Int) != (y.f1.length : Int)) = true := bne_iff_ne.2 (by omega)
                        clear h3
                        go_wp2_with fail
                        go_meet
                        exact ⟨by rw [HE.out]; simp [h1, h2], HW.out⟩
                    · have HE : Aside0 ((decide (x.f0 = y.f0) && decide (x.f2 = y.f2) && decide (x.f1.length = y.f1.length)) = false) := ⟨by rw [decide_eq_false (show ¬ x.f2 = y.f2 from fun h => h2 (by rw [h]))]; simp⟩
                      go_wp2_with fail
                      go_meet
                      exact ⟨by rw [HE.out]; simp [h1, h2], HW.out⟩
                  · have HE : Aside0 ((decide (x.f0 = y.f0) && decide (x.f2 = y.f2) && decide (x.f1.length = y.f1.length)) = false) := ⟨by rw [decide_eq_false (fun h => h1 (by rw [h]))]; simp⟩
                    go_wp2_with fail
                    go_meet
                    exact ⟨by rw [HE.out]; simp [h1], HW.out⟩
                case rest =>
                  obtain ⟨rfl, hb⟩ := hcut
                  have HX2 := Aside0.mk (HX1.out.move hb HX1.out.lt)
                  have HZ2 := Aside0.mk (HZ1.out.move hb HZ1.out.lt)
                  have HB2 := Aside0.mk (HB1.out.trans (hb.mono HB1.out.size))
                  have HS2 := Aside0.mk (HSB.out.move hb)
                  have HT2 := Aside0.mk (HTB.out.move hb)
                  have HJ1 := Aside0.mk (Kd.C_below HK1.out hb)
                  have HJ2 := Aside0.mk (Kd.C_below HK2.out hb)
                  clear hb HX1 HZ1 HB1 HSB HTB HW HK1 HK2
                  obtain ⟨b3, hb3⟩ : ∃ b, (decide (x.f0 = y.f0) && decide (x.f2 = y.f2) && decide (x.f1.length = y.f1.length)) = b := ⟨_, rfl⟩
                  rw [hb3]
                  cases b3 with
                  | false =>
                    have HF : Aside0 (geqB la sa ea ra lb sb eb rb = false) := ⟨by
                      rw [HL3.out]
                      refine decide_eq_false (HNE.out fun e => ?_)
                      subst e
                      simp at hb3⟩
                    clear hb3
                    go_wp2_with fail
                    go_ret
                    exact ⟨by rw [HF.out]; rfl, HB2.out⟩
                  | true =>
                    simp only [Bool.and_eq_true, decide_eq_true_eq] at hb3
                    obtain ⟨⟨hx0, hx2⟩, hx1⟩ := hb3
                    have HX01 := Aside0.mk hx0
                    have HX02 := Aside0.mk hx2
                    have HX03 := Aside0.mk hx1
                    clear hx0 hx1 hx2
                    have HW := Aside0.mk (Below.refl wc.heap.size wc)
                    obtain ⟨gko, hgko⟩ : ∃ g, g = gk := ⟨_, rfl⟩
                    have HGK := Aside0.mk hgko
                    clear hgko
                    go_wp2_with fail
                    go_loopg [11] x.f1.length (fun kq v11 w' => VRel x.f1 y.f1 wc kq v11 w')
                    case atStart => exact ⟨0, by omega, rfl, HW.out, rfl⟩
                    case round =>
                      obtain ⟨k, hk, rfl, hb, hn2⟩ := hrel
                      clear HW
                      have HK := Aside0.mk hk
                      have HB3 := Aside0.mk hb
                      have HN3 := Aside0.mk hn2
                      have HS3 := Aside0.mk (HS2.out.move hb)
                      have HT3 := Aside0.mk (HT2.out.move hb)
                      clear hk hb hn2
                      have x1 := HS3.out.c1
                      by_cases hkl : k < x.f1.length
                      · have t2 : decide ((k : Int) < (x.f1.length : Int)) = true := by simp; omega
                        have hky : k < y.f1.length := by have := HX03.out; omega
                        have y1 := HT3.out.c1
                        obtain ⟨pd, e1, z0⟩ := at_str (Kd.C_below HJ1.out HB3.out) k hkl rfl
                        obtain ⟨qd, e2, z1⟩ := at_str (Kd.C_below HJ2.out HB3.out) k hky rfl
                        subst e1
                        subst e2
                        have HTK : Aside0 (x.f1[k] = y.f1[k] → x.f1.take (k + 1) = y.f1.take (k + 1)) := ⟨fun h => by rw [List.take_succ_eq_append_getElem hkl, List.take_succ_eq_append_getElem hky, HN3.out, h]⟩
                        have HNK : Aside0 (x.f1[k] ≠ y.f1[k] → x ≠ y) := ⟨fun h e => h (by subst e; rfl)⟩
                        generalize x.f1[k] = xs at *
                        generalize y.f1[k] = ys at *
                        by_cases he : xs.toList = ys.toList
                        · have HE := Aside0.mk (HTK.out (toList_eq.1 he))
                          go_wp2_with fail
                          go_quiet (fail)
                          go_wp2_with fail
                          go_roundg (gk - 1)
                          case measure => have := HK.out; omega
                          case rel => exact ⟨k + 1, by have := HK.out; omega, by go_num, pw_below_drewN HB3.out _, HE.out⟩
                        · have HF : Aside0 (geqB la sa ea ra lb sb eb rb = false) := ⟨by
                            rw [HL3.out]
                            exact decide_eq_false (HNE.out (HNK.out fun e => he (by rw [e])))⟩
                          have t9 : (xs.toList == ys.toList) = false := beq_eq_false_iff_ne.2 he
                          go_wp2_with fail
                          go_quiet (fail)
                          go_wp2_with fail
                          go_ret
                          exact ⟨by rw [HF.out]; rfl, HB2.out.trans ((pw_below_drewN HB3.out _).mono HB2.out.size)⟩
                      · have t2 : decide ((k : Int) < (x.f1.length : Int)) = false := by simp; omega
                        have HXY : Aside0 (x = y) := ⟨by
                          rw [S39_ext]
                          refine ⟨HX01.out, ?_, HX02.out⟩
                          have h1 := HN3.out
                          have h2 := HX03.out
                          rwa [List.take_of_length_le (by omega), List.take_of_length_le (by omega)] at h1⟩
                        have HTK := Aside0.mk (HTS.out HXY.out)
                        have HB5 := Aside0.mk (HB2.out.trans (HB3.out.mono HB2.out.size))
                        have HX5 := Aside0.mk (HX2.out.move HB3.out HX2.out.lt)
                        have HZ5 := Aside0.mk (HZ2.out.move HB3.out HZ2.out.lt)
                        clear HN3 HB3 HS3 HT3
                        go_wp2_with fail
                        go_roundg (gko - 1)
                        case measure => have := HI2.out; have := HGK.out; omega
                        case rel => exact ⟨i + 1, by have := HI2.out; have := HGK.out; omega, by go_num, HB5.out, HX5.out, HZ5.out, HTK.out⟩
            · have t1 : decide ((i : Int) < (ra.length : Int)) = false := by simp; omega
              have HRA : Aside0 (geqB la sa ea ra lb sb eb rb = true) := ⟨by
                have h1 := HN2.out
                have h2 := HRE.out
                rw [List.take_of_length_le (by omega), List.take_of_length_le (by omega)] at h1
                rw [HL3.out]
                exact decide_eq_true h1⟩
              go_wp2_with fail
              go_ret
              exact ⟨by rw [HRA.out]; rfl, HB.out⟩
end Go.Proofs.YteonnadhdmcloaaDoor.G
