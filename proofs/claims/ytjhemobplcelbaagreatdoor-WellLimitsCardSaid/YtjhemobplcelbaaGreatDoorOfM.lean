/- of: the reference's Name and May (turned by mkm.py from wip/gram). -/
import Derived.Test.YtjhemobplcelbaaGreatDoorOfA
import Derived.Lib.IndexBytes
import Derived.Deep.LoopGhost
namespace Go.Proofs.YtjhemobplcelbaaGreatDoor.M
open Go.RowKit Go.Proofs.YtjhemobplcelbaaGreatDoorW.PrintWords Go.Proofs.YtjhemobplcelbaaGreatDoorW.PrintLast Go.Proofs.YtjhemobplcelbaaGreatDoorW.PrintMore
open Go.Proofs.YtjhemobplcelbaaGreatDoor.O (STk SRu kTk kRu zTk zRu kTk_open kRu_open)
attribute [local go_sem] max2_int max_two
set_option linter.unusedVariables false
set_option linter.unusedSimpArgs false
def letterB (c : Int) : Bool := decide (97 ≤ c ∧ c ≤ 122) || decide (65 ≤ c ∧ c ≤ 90) || decide (c = 95)
def digitB (c : Int) : Bool := decide (48 ≤ c ∧ c ≤ 57)
def partB (c : Int) : Bool := letterB c || digitB c
theorem size_list (s : ByteArray) : s.data.toList.length = s.size := by rw [Array.length_toList]; rfl
def nameB (l : List UInt8) : Bool := match l with
  | [] => false
  | c :: r => decide (r.length < 12) && (letterB (c.toNat : Int) && r.all fun b => partB (b.toNat : Int))
def Nm (s : ByteArray) : Bool := nameB s.data.toList
def orB (s : ByteArray) : Bool := decide (s.data.toList = []) || Nm s
def ruleBad (r : SRu) : Bool := !Nm r.f0 || !orB r.f2 || decide (20 < r.f1.length) || r.f1.any fun s => !Nm s
theorem at_str {w : World} {A : Option Addr} {n : Nat} {xs : List ByteArray} (h : Kd.C Kd.string w A n xs) (i : Nat) (hi : i < xs.length) (hn : n = xs.length) : ∃ ad, A = some ad ∧ w.cell? (ad.add i) = some (.string xs[i]) := by
  obtain ⟨ad, cs, e, _, hK, hc⟩ := Kd.C_get h ⟨#[]⟩ (i : Int) (by omega) (by omega)
  obtain rfl : cs = [.string (xs.getD (i : Int).toNat ⟨#[]⟩)] := hK
  have := hc 0 _ rfl
  simp only [Kd.string, Kd.scalar, Int.toNat_natCast, Nat.mul_one, Nat.add_zero] at this
  rw [List.getD_eq_getElem?_getD, List.getElem?_eq_getElem hi] at this
  exact ⟨ad, e, this⟩
theorem drawn_below {w w' : World} (h : Drawn0 w w') : Below w.heap.size w w' := by
  obtain ⟨n, rfl⟩ := h
  exact pw_below_drewN (Below.refl _ _) n
structure RBox (W : World) (X : Nat) (r : SRu) (A : Option Addr) (c : Nat) : Prop where
  lt : X < W.heap.size
  c0 : W.cell? ⟨X, 0, none⟩ = some (.string r.f0)
  c1 : W.cell? ⟨X, 1, none⟩ = some (.slice A r.f1.length c)
  c2 : W.cell? ⟨X, 2, none⟩ = some (.string r.f2)
theorem RBox.move {W W' : World} {X : Nat} {r : SRu} {A : Option Addr} {c : Nat} (h : RBox W X r A c) (hb : Below W.heap.size W W') : RBox W' X r A c :=
  ⟨Nat.lt_of_lt_of_le h.lt hb.size, (hb.cell (p := ⟨X, 0, none⟩) h.lt).trans h.c0, (hb.cell (p := ⟨X, 1, none⟩) h.lt).trans h.c1, (hb.cell (p := ⟨X, 2, none⟩) h.lt).trans h.c2⟩
theorem RBox.new (w : World) (r : SRu) (A : Option Addr) (c : Nat) : RBox (w.alloc (.cells #[.string r.f0, .slice A r.f1.length c, .string r.f2] 73)) w.heap.size r A c :=
  ⟨by rw [World.size_alloc]; omega, by simp [go_sem], by simp [go_sem], by simp [go_sem]⟩
theorem at_rule {w : World} {A : Option Addr} {n : Nat} {xs : List SRu} (h : Kd.C kRu w A n xs) (i : Nat) (hi : i < xs.length) (hn : n = xs.length) :
    ∃ ad A1 c1, A = some ad ∧ w.cell? (ad.add (i * 3)) = some (.string xs[i].f0) ∧ w.cell? ⟨(ad.add (i * 3)).block, (ad.add (i * 3)).off + 1, none⟩ = some (.slice A1 xs[i].f1.length c1) ∧ w.cell? ⟨(ad.add (i * 3)).block, (ad.add (i * 3)).off + 2, none⟩ = some (.string xs[i].f2) ∧ xs[i].f1.length ≤ c1 ∧ Kd.C Kd.string w A1 xs[i].f1.length xs[i].f1 := by
  obtain ⟨ad, cs, e, _, hK, hc⟩ := Kd.C_get h zRu (i : Int) (by omega) (by omega)
  rw [Int.toNat_natCast, List.getD_eq_getElem?_getD, List.getElem?_eq_getElem hi, Option.getD_some] at hK
  obtain ⟨A1, c1, rfl, l1, g1⟩ := kRu_open hK
  have h0 := hc 0 _ rfl
  have h1 := hc 1 _ rfl
  have h2 := hc 2 _ rfl
  rw [Int.toNat_natCast, show kRu.sz = 3 from rfl] at h0 h1 h2
  exact ⟨ad, A1, c1, e, h0, by rw [← add_field _ _ 1 (by omega)]; exact h1, by rw [← add_field _ _ 2 (by omega)]; exact h2, l1, g1⟩
structure TBox (W : World) (X : Nat) (t : STk) : Prop where
  lt : X < W.heap.size
  c0 : W.cell? ⟨X, 0, none⟩ = some (.string t.f0)
  c1 : W.cell? ⟨X, 1, none⟩ = some (.int .i64 t.f1)
  c2 : W.cell? ⟨X, 2, none⟩ = some (.int .i64 t.f2)
theorem TBox.move {W W' : World} {X : Nat} {t : STk} (h : TBox W X t) (hb : Below W.heap.size W W') : TBox W' X t :=
  ⟨Nat.lt_of_lt_of_le h.lt hb.size, (hb.cell (p := ⟨X, 0, none⟩) h.lt).trans h.c0, (hb.cell (p := ⟨X, 1, none⟩) h.lt).trans h.c1, (hb.cell (p := ⟨X, 2, none⟩) h.lt).trans h.c2⟩
theorem TBox.new (w : World) (t : STk) : TBox (w.alloc (.cells #[.string t.f0, .int .i64 t.f1, .int .i64 t.f2] 71)) w.heap.size t :=
  ⟨by rw [World.size_alloc]; omega, by simp [go_sem], by simp [go_sem], by simp [go_sem]⟩
theorem at_tok {w : World} {A : Option Addr} {n : Nat} {xs : List STk} (h : Kd.C kTk w A n xs) (i : Nat) (hi : i < xs.length) (hn : n = xs.length) :
    ∃ ad, A = some ad ∧ w.cell? (ad.add (i * 3)) = some (.string xs[i].f0) ∧ w.cell? ⟨(ad.add (i * 3)).block, (ad.add (i * 3)).off + 1, none⟩ = some (.int .i64 xs[i].f1) ∧ w.cell? ⟨(ad.add (i * 3)).block, (ad.add (i * 3)).off + 2, none⟩ = some (.int .i64 xs[i].f2) := by
  obtain ⟨ad, cs, e, _, hK, hc⟩ := Kd.C_get h zTk (i : Int) (by omega) (by omega)
  rw [Int.toNat_natCast, List.getD_eq_getElem?_getD, List.getElem?_eq_getElem hi, Option.getD_some] at hK
  obtain rfl := kTk_open hK
  have h0 := hc 0 _ rfl
  have h1 := hc 1 _ rfl
  have h2 := hc 2 _ rfl
  rw [Int.toNat_natCast, show kTk.sz = 3 from rfl] at h0 h1 h2
  exact ⟨ad, e, h0, by rw [← add_field _ _ 1 (by omega)]; exact h1, by rw [← add_field _ _ 2 (by omega)]; exact h2⟩
structure Box4 (W : World) (X : Nat) (a b c d : Value) : Prop where
  lt : X < W.heap.size
  c0 : W.cell? ⟨X, 0, none⟩ = some a
  c1 : W.cell? ⟨X, 1, none⟩ = some b
  c2 : W.cell? ⟨X, 2, none⟩ = some c
  c3 : W.cell? ⟨X, 3, none⟩ = some d
theorem Box4.move {W W' : World} {X B : Nat} {a b c d : Value} (h : Box4 W X a b c d) (hb : Below B W W') (hX : X < B) : Box4 W' X a b c d :=
  ⟨Nat.lt_of_lt_of_le h.lt hb.size, (hb.cell (p := ⟨X, 0, none⟩) hX).trans h.c0, (hb.cell (p := ⟨X, 1, none⟩) hX).trans h.c1, (hb.cell (p := ⟨X, 2, none⟩) hX).trans h.c2, (hb.cell (p := ⟨X, 3, none⟩) hX).trans h.c3⟩
theorem Box4.new (w : World) (a b c d : Value) (t : TypeId) : Box4 (w.alloc (.cells #[a, b, c, d] t)) w.heap.size a b c d :=
  ⟨by rw [World.size_alloc]; omega, by simp [go_sem], by simp [go_sem], by simp [go_sem], by simp [go_sem]⟩
def mostB (l : List STk) : Int := l.foldl (fun m t => max m t.f1) 0
theorem mostB_snoc {l : List STk} {i : Nat} (h : i < l.length) : mostB (l.take (i + 1)) = max (mostB (l.take i)) l[i].f1 := by
  unfold mostB
  rw [List.take_succ_eq_append_getElem h, List.foldl_append]
  rfl
theorem mostB_le (l : List STk) : (∀ t ∈ l, t.f1 ≤ 8) → 0 ≤ mostB l ∧ mostB l ≤ 8 := by
  have : ∀ (l : List STk) (m : Int), 0 ≤ m → m ≤ 8 → (∀ t ∈ l, t.f1 ≤ 8) → 0 ≤ l.foldl (fun m t => max m t.f1) m ∧ l.foldl (fun m t => max m t.f1) m ≤ 8 := by
    intro l
    induction l with
    | nil => intro m h0 h1 _; exact ⟨h0, h1⟩
    | cons t l ih =>
      intro m h0 h1 h
      have := h t (by simp)
      exact ih (max m t.f1) (by omega) (by omega) (fun u hu => h u (by simp [hu]))
  exact this l 0 (by decide) (by decide)
theorem wrap_one {i : Nat} (h : i ≤ 17592186044416) : wrap64 ((i : Int) + 1) = ((i + 1 : Nat) : Int) := by unfold wrap64; omega
theorem rd_at {α : Type} (z : α) (xs : List α) (i : Nat) (h : i < xs.length) : xs.getD ((i : Int)).toNat z = xs[i] := by
  rw [Int.toNat_natCast, List.getD_eq_getElem?_getD, List.getElem?_eq_getElem h, Option.getD_some]
theorem ret_bool {a b : Bool} (h : a = b) : Ending.returned (.bool a) = .returned (.bool b) := by rw [h]
theorem letter_calls (w : World) (c : Int) : Calls Tryz.prog 67 #[.int .u8 c] w fun e w' => e = .returned (.bool (letterB c)) ∧ w' = w := by
  have H1 : Aside0 (letterB c = (decide (97 ≤ c ∧ c ≤ 122) || decide (65 ≤ c ∧ c ≤ 90) || decide (c = 95))) := ⟨rfl⟩
  generalize letterB c = b at *
  go_enter Tryz.func67, Tryz.ntmps67
  go_wp2_with fail
  all_goals (go_ret; refine ⟨?_, rfl⟩; rw [H1.out]; refine ret_bool ?_; rw [Bool.eq_iff_iff]; simp only [Bool.or_eq_true, decide_eq_true_eq, beq_iff_eq, true_iff, false_iff, Bool.false_eq_true]; omega)
theorem digit_calls (w : World) (c : Int) : Calls Tryz.prog 68 #[.int .u8 c] w fun e w' => e = .returned (.bool (digitB c)) ∧ w' = w := by
  have H1 : Aside0 (digitB c = decide (48 ≤ c ∧ c ≤ 57)) := ⟨rfl⟩
  generalize digitB c = b at *
  go_enter Tryz.func68, Tryz.ntmps68
  go_wp2_with fail
  all_goals (go_ret; refine ⟨?_, rfl⟩; rw [H1.out]; refine ret_bool ?_; rw [Bool.eq_iff_iff]; simp only [Bool.or_eq_true, decide_eq_true_eq, beq_iff_eq, true_iff, false_iff, Bool.false_eq_true]; omega)
def restOk : Nat → List UInt8 → Bool
  | _, [] => true
  | i, c :: r => (letterB (c.toNat : Int) || (decide (i ≠ 0) && digitB (c.toNat : Int))) && restOk (i + 1) r
theorem restOk_pos : ∀ (l : List UInt8) (i : Nat), restOk (i + 1) l = l.all fun b => partB (b.toNat : Int) := by
  intro l
  induction l with
  | nil => intro i; rfl
  | cons c l ih => intro i; rw [List.all_cons, ← ih (i + 1)]; simp [restOk, partB]
theorem nameB_rest (s : ByteArray) : nameB s.data.toList = (restOk 0 s.data.toList && (decide (1 ≤ s.size) && decide (s.size ≤ 12))) := by
  have hl := size_list s
  rw [← hl]
  cases s.data.toList with
  | nil => rfl
  | cons c r =>
    simp only [nameB, restOk, restOk_pos, List.length_cons, Bool.or_eq_true]
    rw [decide_eq_true (show 1 ≤ r.length + 1 by omega), Bool.true_and, show decide (r.length + 1 ≤ 12) = decide (r.length < 12) from decide_eq_decide.2 (by omega)]
    cases letterB (c.toNat : Int) <;> cases decide (r.length < 12) <;> simp
def NmRel (w : World) (s : ByteArray) (kq : Nat) (v : Value) (w' : World) : Prop := ∃ i : Nat, i + kq = s.size ∧ v = .int .i64 (i : Int) ∧ w' = w ∧ restOk 0 s.data.toList = restOk i (s.data.toList.drop i)
theorem rest_at (s : ByteArray) (i : Nat) (h : i < s.size) : restOk i (s.data.toList.drop i) = ((letterB (s[i].toNat : Int) || (decide (i ≠ 0) && digitB (s[i].toNat : Int))) && restOk (i + 1) (s.data.toList.drop (i + 1))) := by
  have hl := size_list s
  rw [List.drop_eq_getElem_cons (by omega), restOk]
  rfl
set_option maxHeartbeats 4000000 in
theorem rname_calls (s : ByteArray) (hs : s.size ≤ 9223372036854775806) (w : World) : Calls Tryz.prog 38 #[.string s] w fun e w' => e = .returned (.bool (Nm s)) ∧ Below w.heap.size w w' := by
  have HS : Aside0 (Nm s = (restOk 0 s.data.toList && (decide (1 ≤ s.size) && decide (s.size ≤ 12)))) := ⟨nameB_rest s⟩
  generalize Nm s = b at *
  go_enter Tryz.func38, Tryz.ntmps38
  go_wp2_with fail
  go_loopg [3] s.size (fun kq v3 w' => NmRel w s kq v3 w')
  case atStart => exact ⟨0, by omega, rfl, rfl, rfl⟩
  case round =>
    obtain ⟨i, hi, rfl, rfl, hr⟩ := hrel
    have HI := Aside0.mk hi
    have HR := Aside0.mk hr
    clear hi hr
    by_cases hil : i < s.size
    · have t1 : decide ((i : Int) < (s.size : Int)) = true := by simp; omega
      have HA := Aside0.mk (rest_at s i hil)
      have HIL := Aside0.mk hil
      obtain ⟨bl, hbl⟩ : ∃ b, letterB (s[i].toNat : Int) = b := ⟨_, rfl⟩
      obtain ⟨bd, hbd⟩ : ∃ b, digitB (s[i].toNat : Int) = b := ⟨_, rfl⟩
      have CL := Aside0.mk (letter_calls wr (s[i].toNat : Int))
      have CD := Aside0.mk (digit_calls wr (s[i].toNat : Int))
      rw [hbl] at CL HA
      rw [hbd] at CD HA
      clear hbl hbd
      cases bl with
      | true =>
        go_wp2_with (first
          | (go_at_call 67; (with_reducible refine Calls.mono CL.out ?_); rintro e w4 ⟨rfl, rfl⟩))
        go_roundg (gk - 1)
        case measure => have := HI.out; omega
        case rel => exact ⟨i + 1, by have := HI.out; have := HIL.out; omega, by go_num, rfl, by rw [HR.out, HA.out]; rfl⟩
      | false =>
        by_cases h0 : i = 0
        · subst h0
          go_wp2_with (first
            | (go_at_call 67; (with_reducible refine Calls.mono CL.out ?_); rintro e w4 ⟨rfl, rfl⟩))
          go_ret
          refine ⟨?_, Below.refl _ _⟩
          rw [HS.out, HR.out, HA.out]
          rfl
        · have t2 : ((i : Int) == 0) = false := by simpa using h0
          have t3 : decide (i ≠ 0) = true := decide_eq_true h0
          rw [t3] at HA
          clear t3 h0
          cases bd with
          | true =>
            go_wp2_with (first
              | (go_at_call 67; (with_reducible refine Calls.mono CL.out ?_); rintro e w4 ⟨rfl, rfl⟩)
              | (go_at_call 68; (with_reducible refine Calls.mono CD.out ?_); rintro e w5 ⟨rfl, rfl⟩))
            go_roundg (gk - 1)
            case measure => have := HI.out; omega
            case rel => exact ⟨i + 1, by have := HI.out; have := HIL.out; omega, by go_num, rfl, by rw [HR.out, HA.out]; rfl⟩
          | false =>
            go_wp2_with (first
              | (go_at_call 67; (with_reducible refine Calls.mono CL.out ?_); rintro e w4 ⟨rfl, rfl⟩)
              | (go_at_call 68; (with_reducible refine Calls.mono CD.out ?_); rintro e w5 ⟨rfl, rfl⟩))
            go_ret
            refine ⟨?_, Below.refl _ _⟩
            rw [HS.out, HR.out, HA.out]
            rfl
    · have t1 : decide ((i : Int) < (s.size : Int)) = false := by simp; omega
      have HE : Aside0 (b = (decide (1 ≤ s.size) && decide (s.size ≤ 12))) := ⟨by rw [HS.out, HR.out, List.drop_of_length_le (by rw [size_list]; omega)]; rfl⟩
      go_wp2_with fail
      all_goals (go_ret; refine ⟨?_, Below.refl _ _⟩; rw [HE.out]; refine ret_bool ?_; rw [Bool.eq_iff_iff]; simp only [Bool.and_eq_true, decide_eq_true_eq, true_iff, false_iff, Bool.false_eq_true]; omega)
/-- The place of a token; -1. -/
def placeB (l : List STk) (s : ByteArray) : Int := O.plc s (l.map STk.f0) 0
theorem tok_calls (w : World) (A : Option Addr) (c : Nat) (xs : List STk) (st : ByteArray) (ex : Int) (A2 : Option Addr) (n2 c2 : Nat) (s : ByteArray) (hxs : Kd.C kTk w A xs.length xs) (hc : xs.length ≤ c) :
    Calls Tryz.prog 69 #[.agg #[.slice A xs.length c, .string st, .int .i64 ex, .slice A2 n2 c2], .string s] w fun e w' => e = .returned (.int .i64 (placeB xs s)) ∧ Below w.heap.size w w' := O.token_calls w A c xs st ex A2 n2 c2 s hxs hc
def lastA (l : List STk) (k : Int) : Int := l.foldl (fun a t => if t.f1 = k then t.f2 else a) 0
def basicB (l : List STk) (i : Nat) (t : STk) : Bool := Nm t.f0 && decide (placeB l t.f0 = (i : Int)) && decide (0 ≤ t.f1) && decide (t.f1 ≤ 8) && (!decide (t.f1 = 0) || decide (t.f2 = 0)) && (!decide (0 < t.f1) || (decide (1 ≤ t.f2) && decide (t.f2 ≤ 3)))
def fitB (l : List STk) (t : STk) : Bool := !decide (0 < t.f1) || decide (lastA l t.f1 = 0) || decide (lastA l t.f1 = t.f2)
def rnewB (l : List STk) (i : Nat) (t : STk) : Bool := basicB l i t && fitB (l.take i) t
def rnewsB (l : List STk) : Bool := (List.range l.length).all fun i => match l[i]? with | some t => rnewB l i t | none => true
def rlevelsB (l : List STk) : Bool := (List.range (mostB l).toNat).all fun k => !decide (lastA l ((k : Int) + 1) = 0)
def rheadB (l : List STk) (st : ByteArray) (ex : Int) (rs : List SRu) : Bool := decide (l.length ≤ 40) && decide (rs.length ≤ 100) && decide (0 ≤ ex) && decide (ex ≤ 9999) && orB st
def rmayB (l : List STk) (st : ByteArray) (ex : Int) (rs : List SRu) : Bool := rheadB l st ex rs && rnewsB l && rlevelsB l && !rs.any ruleBad
theorem rnewsB_iff {l : List STk} : rnewsB l = true ↔ ∀ i (h : i < l.length), rnewB l i l[i] = true := by
  unfold rnewsB
  rw [List.all_eq_true]
  constructor
  · intro h i hi
    have := h i (List.mem_range.2 hi)
    rw [List.getElem?_eq_getElem hi] at this
    exact this
  · intro h i hi
    have hi := List.mem_range.1 hi
    rw [List.getElem?_eq_getElem hi]
    exact h i hi
theorem lastA_snoc {l : List STk} {i : Nat} (h : i < l.length) (k : Int) : lastA (l.take (i + 1)) k = if l[i].f1 = k then l[i].f2 else lastA (l.take i) k := by
  unfold lastA
  rw [List.take_succ_eq_append_getElem h, List.foldl_append]
  rfl
/-- The array of the levels' kinds. -/
structure ARow (W : World) (Y : Nat) (l : List STk) : Prop where
  row : ∃ cs : Array Value, W.heap[Y]? = some (.cells cs 96 (0, 0)) ∧ cs.size = 9 ∧ ∀ k, k < 9 → cs[k]? = some (.int .i64 (lastA l (k : Int)))
theorem ARow.move {W W' : World} {Y B : Nat} {l : List STk} (h : ARow W Y l) (hb : Below B W W') (hY : Y < B) : ARow W' Y l := by
  obtain ⟨cs, h1, h2, h3⟩ := h.row
  exact ⟨cs, (hb.block Y hY).trans h1, h2, h3⟩
theorem ARow.lt {W : World} {Y : Nat} {l : List STk} (h : ARow W Y l) : Y < W.heap.size := by
  obtain ⟨cs, h1, h2, h3⟩ := h.row
  exact blk_lt h1
theorem ARow.get {W : World} {Y : Nat} {l : List STk} (h : ARow W Y l) (k : Nat) (hk : k < 9) : W.cell? ⟨Y, k, none⟩ = some (.int .i64 (lastA l (k : Int))) ∧ W.frozen? ⟨Y, k, none⟩ = false := by
  obtain ⟨cs, h1, h2, h3⟩ := h.row
  exact ⟨(blk_cell h1 k).trans (h3 k hk), blk_frozen h1 k⟩
theorem ARow.set {W : World} {Y : Nat} {l l' : List STk} (h : ARow W Y l) (k : Nat) (hk : k < 9) (a : Int) (hl : ∀ j : Nat, j < 9 → lastA l' (j : Int) = if (k : Int) = (j : Int) then a else lastA l (j : Int)) : ARow (W.setCell ⟨Y, k, none⟩ (.int .i64 a)) Y l' := by
  obtain ⟨cs, h1, h2, h3⟩ := h.row
  refine ⟨_, blk_set h1 k _, by simpa using h2, fun j hj => ?_⟩
  rw [hl j hj, Array.getElem?_setIfInBounds]
  by_cases e : k = j
  · subst e
    rw [if_pos rfl, if_pos (by omega), if_pos rfl]
  · rw [if_neg e, if_neg (by omega), h3 j hj]
theorem Box4.set {W : World} {X : Nat} {a b c d : Value} (h : Box4 W X a b c d) {p : Addr} (hne : X ≠ p.block) (u : Value) : Box4 (W.setCell p u) X a b c d := by
  have hc : ∀ k, (W.setCell p u).cell? ⟨X, k, none⟩ = W.cell? ⟨X, k, none⟩ := fun k => World.cell?_of_block (Below.heap_setCell W p u X hne)
  have hs : (W.setCell p u).heap.size = W.heap.size := by simp
  exact ⟨by rw [hs]; exact h.lt, (hc 0).trans h.c0, (hc 1).trans h.c1, (hc 2).trans h.c2, (hc 3).trans h.c3⟩
theorem TBox.set {W : World} {X : Nat} {t : STk} (h : TBox W X t) {p : Addr} (hne : X ≠ p.block) (u : Value) : TBox (W.setCell p u) X t := by
  have hc : ∀ k, (W.setCell p u).cell? ⟨X, k, none⟩ = W.cell? ⟨X, k, none⟩ := fun k => World.cell?_of_block (Below.heap_setCell W p u X hne)
  have hs : (W.setCell p u).heap.size = W.heap.size := by simp
  exact ⟨by rw [hs]; exact h.lt, (hc 0).trans h.c0, (hc 1).trans h.c1, (hc 2).trans h.c2⟩
def PRel (rs : List SRu) (w : World) (X : Nat) (a b c d : Value) (kq : Nat) (v8 : Value) (w' : World) : Prop :=
  ∃ i : Nat, i + kq = rs.length ∧ v8 = .int .i64 (i : Int) ∧ Below w.heap.size w w' ∧ Box4 w' X a b c d ∧ ∀ j (h : j < i) (h2 : j < rs.length), ruleBad rs[j] = false
def KRel (xs : List ByteArray) (W : World) (kq : Nat) (v10 : Value) (w' : World) : Prop :=
  ∃ k : Nat, k + kq = xs.length ∧ v10 = .int .i64 (k : Int) ∧ Below W.heap.size W w' ∧ ∀ j (h : j < k) (h2 : j < xs.length), Nm xs[j] = true
def topB (r : SRu) : Bool := Nm r.f0 && decide (r.f1.length ≤ 20) && orB r.f2
theorem ruleBad_eq (r : SRu) : ruleBad r = (!topB r || r.f1.any fun s => !Nm s) := by
  unfold ruleBad topB
  rw [show decide (20 < r.f1.length) = !decide (r.f1.length ≤ 20) from by rw [← decide_not]; exact decide_eq_decide.2 (by omega)]
  cases Nm r.f0 <;> cases orB r.f2 <;> cases decide (r.f1.length ≤ 20) <;> simp
def HRel (b : Bool) (w : World) (X : Nat) (a b' c d : Value) (v : Value) (w' : World) : Prop := v = .bool b ∧ Below w.heap.size w w' ∧ Box4 w' X a b' c d
def QRel (b : Bool) (W : World) (v : Value) (w' : World) : Prop := v = .bool b ∧ Below W.heap.size W w'
def NRel (l : List STk) (w : World) (X Y : Nat) (a b c d : Value) (kq : Nat) (v4 v5 : Value) (w' : World) : Prop :=
  ∃ i : Nat, i + kq = l.length ∧ v5 = .int .i64 (i : Int) ∧ v4 = .int .i64 (mostB (l.take i)) ∧ Below w.heap.size w w' ∧ Box4 w' X a b c d ∧ ARow w' Y (l.take i) ∧ ∀ j (h : j < i) (h2 : j < l.length), rnewB l j l[j] = true
set_option maxHeartbeats 16000000 in
set_option maxRecDepth 100000 in
theorem rmay_calls (w : World) (A : Option Addr) (c : Nat) (l : List STk) (st : ByteArray) (ex : Int) (A2 : Option Addr) (c2 : Nat) (rs : List SRu) (hr : Kd.C kTk w A l.length l) (hcl : l.length ≤ c) (hl : l.length ≤ 100000) (hr2 : Kd.C kRu w A2 rs.length rs) (hc2 : rs.length ≤ c2) (hl2 : rs.length ≤ 100000)
    (hst : st.size ≤ 1000) (hnm : ∀ t ∈ l, t.f0.size ≤ 1000) (hrs : ∀ r ∈ rs, r.f0.size ≤ 1000 ∧ r.f2.size ≤ 1000 ∧ r.f1.length ≤ 100000 ∧ ∀ s ∈ r.f1, s.size ≤ 1000) :
    Calls Tryz.prog 41 #[.agg #[.slice A l.length c, .string st, .int .i64 ex, .slice A2 rs.length c2]] w fun e w' => e = .returned (.bool (rmayB l st ex rs)) ∧ Below w.heap.size w w' := by
  have HX := Aside0.mk (Box4.new w (.slice A l.length c) (.string st) (.int .i64 ex) (.slice A2 rs.length c2) 25)
  have HB := Aside0.mk (below_alloc (Below.refl w.heap.size w) (.cells #[.slice A l.length c, .string st, .int .i64 ex, .slice A2 rs.length c2] 25))
  have HR := Aside0.mk hr
  have HR2 := Aside0.mk hr2
  have HNM := Aside0.mk hnm
  have HRS := Aside0.mk hrs
  clear hr hr2 hnm hrs
  obtain ⟨X, hX⟩ : ∃ X, X = w.heap.size := ⟨_, rfl⟩
  rw [← hX] at HX
  have HXE := Aside0.mk hX
  have hmb : rmayB l st ex rs = (rheadB l st ex rs && rnewsB l && rlevelsB l && !rs.any ruleBad) := rfl
  have HMB := Aside0.mk hmb
  clear hmb
  go_enter Tryz.func41, Tryz.ntmps41
  go_upto_region 1 with fail
  generalize hW1 : w.alloc (.cells #[.slice A l.length c, .string st, .int .i64 ex, .slice A2 rs.length c2] 25) = W1 at *
  rw [← hX]
  clear hW1 hX
  go_cut [41] (fun v41 wx => HRel (!rheadB l st ex rs) w X (.slice A l.length c) (.string st) (.int .i64 ex) (.slice A2 rs.length c2) v41 wx)
  case first =>
    have x0 := HX.out.c0
    have x1 := HX.out.c1
    have x2 := HX.out.c2
    have x3 := HX.out.c3
    have hhd : rheadB l st ex rs = (decide (l.length ≤ 40) && decide (rs.length ≤ 100) && decide (0 ≤ ex) && decide (ex ≤ 9999) && orB st) := rfl
    by_cases h1 : 40 < l.length
    · have HE : Aside0 (rheadB l st ex rs = false) := ⟨by rw [hhd, decide_eq_false (show ¬ l.length ≤ 40 by omega)]; rfl⟩
      have t1 : decide ((40 : Int) < (l.length : Int)) = true := by simp; omega
      clear hhd h1
      go_wp2_with fail
      go_meet
      exact ⟨by rw [HE.out]; simp, HB.out, HX.out⟩
    · have t1 : decide ((40 : Int) < (l.length : Int)) = false := by simp; omega
      rw [decide_eq_true (show l.length ≤ 40 by omega), Bool.true_and] at hhd
      by_cases h2 : 100 < rs.length
      · have HE : Aside0 (rheadB l st ex rs = false) := ⟨by rw [hhd, decide_eq_false (show ¬ rs.length ≤ 100 by omega)]; rfl⟩
        have t2 : decide ((100 : Int) < (rs.length : Int)) = true := by simp; omega
        clear hhd h1 h2
        go_wp2_with fail
        go_meet
        exact ⟨by rw [HE.out]; simp, HB.out, HX.out⟩
      · have t2 : decide ((100 : Int) < (rs.length : Int)) = false := by simp; omega
        rw [decide_eq_true (show rs.length ≤ 100 by omega), Bool.true_and] at hhd
        by_cases h3 : ex < 0
        · have HE : Aside0 (rheadB l st ex rs = false) := ⟨by rw [hhd, decide_eq_false (show ¬ 0 ≤ ex by omega)]; rfl⟩
          have t3 : decide (ex < 0) = true := decide_eq_true h3
          clear hhd h1 h2 h3
          go_wp2_with fail
          go_meet
          exact ⟨by rw [HE.out]; simp, HB.out, HX.out⟩
        · have t3 : decide (ex < 0) = false := decide_eq_false h3
          rw [decide_eq_true (show 0 ≤ ex by omega), Bool.true_and] at hhd
          by_cases h4 : 9999 < ex
          · have HE : Aside0 (rheadB l st ex rs = false) := ⟨by rw [hhd, decide_eq_false (show ¬ ex ≤ 9999 by omega)]; rfl⟩
            have t4 : decide (9999 < ex) = true := decide_eq_true h4
            clear hhd h1 h2 h3 h4
            go_wp2_with fail
            go_meet
            exact ⟨by rw [HE.out]; simp, HB.out, HX.out⟩
          · have t4 : decide (9999 < ex) = false := decide_eq_false h4
            rw [decide_eq_true (show ex ≤ 9999 by omega), Bool.true_and] at hhd
            by_cases h5 : st.toList = []
            · have HE : Aside0 (rheadB l st ex rs = true) := ⟨by rw [hhd]; unfold orB; rw [decide_eq_true (by rw [← Lib.toList_data]; exact h5)]; rfl⟩
              have t5 : (!st.toList.isEmpty) = false := by rw [h5]; rfl
              clear hhd h1 h2 h3 h4
              go_wp2_with fail
              go_meet
              exact ⟨by rw [HE.out]; simp, HB.out, HX.out⟩
            · have t5 : (!st.toList.isEmpty) = true := by simpa using h5
              have HE : Aside0 (rheadB l st ex rs = Nm st) := ⟨by rw [hhd]; unfold orB; rw [decide_eq_false (by rw [← Lib.toList_data]; exact h5)]; rfl⟩
              clear hhd h1 h2 h3 h4
              go_wp2_with fail
              go_at_call 38
              refine (rname_calls st (by omega) W1).mono ?_
              rintro e w2 ⟨rfl, hd⟩
              have HX2 := Aside0.mk (HX.out.move hd HX.out.lt)
              have HB2 := Aside0.mk (HB.out.trans (hd.mono HB.out.size))
              clear hd HX HB x0 x1 x2 x3
              obtain ⟨b, hb⟩ : ∃ b, Nm st = b := ⟨_, rfl⟩
              rw [hb] at HE ⊢
              clear hb
              cases b with
              | true =>
                go_wp2_with fail
                go_meet
                exact ⟨by rw [HE.out]; simp [h5], HB2.out, HX2.out⟩
              | false =>
                go_wp2_with fail
                go_meet
                exact ⟨by rw [HE.out]; simp [h5], HB2.out, HX2.out⟩
  case rest =>
    obtain ⟨rfl, hb, hx⟩ := hcut
    clear HB HX
    have HB := Aside0.mk hb
    have HX := Aside0.mk hx
    clear hb hx
    obtain ⟨b1, hb1⟩ : ∃ b, rheadB l st ex rs = b := ⟨_, rfl⟩
    rw [hb1]
    have HE1 := Aside0.mk hb1
    clear hb1
    cases b1 with
    | false =>
      go_wp2_with fail
      go_ret
      exact ⟨by rw [HMB.out, HE1.out]; simp, HB.out⟩
    | true =>
      obtain ⟨Y, hY⟩ : ∃ Y, Y = wc.heap.size := ⟨_, rfl⟩
      have HYE := Aside0.mk hY
      have hXY : X < Y := by rw [hY]; exact HX.out.lt
      have hwY : w.heap.size ≤ Y := by rw [hY]; exact HB.out.size
      clear hY
      go_wp2_with fail
      rw [← HYE.out]
      go_loopg [4, 5] l.length (fun kq v4 v5 w' => NRel l w X Y (.slice A l.length c) (.string st) (.int .i64 ex) (.slice A2 rs.length c2) kq v4 v5 w')
      case atStart =>
        refine ⟨0, by omega, rfl, rfl, below_alloc HB.out _, HX.out.move (below_alloc (Below.refl _ wc) _) HX.out.lt, ⟨_, by rw [HYE.out]; exact blk_new _ _, rfl, fun k hk => ?_⟩, fun j h => absurd h (Nat.not_lt_zero j)⟩
        rcases (show k = 0 ∨ k = 1 ∨ k = 2 ∨ k = 3 ∨ k = 4 ∨ k = 5 ∨ k = 6 ∨ k = 7 ∨ k = 8 by omega) with rfl | rfl | rfl | rfl | rfl | rfl | rfl | rfl | rfl <;> rfl
      case round =>
        obtain ⟨i, hi, rfl, rfl, hb, hx, ha, hn⟩ := hrel
        clear HB HX
        have HI := Aside0.mk hi
        have HB := Aside0.mk hb
        have HX := Aside0.mk hx
        have HA := Aside0.mk ha
        have HN := Aside0.mk hn
        clear hi hb hx ha hn
        have x0 := HX.out.c0
        have x1 := HX.out.c1
        have x2 := HX.out.c2
        have x3 := HX.out.c3
        by_cases hil : i < l.length
        · have t1 : decide ((i : Int) < (l.length : Int)) = true := by simp; omega
          obtain ⟨ad, e1, y0, y1, y2⟩ := at_tok (Kd.C_below HR.out HB.out) i hil rfl
          subst e1
          have HV := Aside0.mk (TBox.new wr l[i])
          have hbv := below_alloc (Below.refl wr.heap.size wr) (.cells #[.string l[i].f0, .int .i64 l[i].f1, .int .i64 l[i].f2] 71)
          have HBV := Aside0.mk hbv
          have HMS := Aside0.mk (mostB_snoc hil)
          have HLA := Aside0.mk (lastA_snoc hil)
          have hts := HNM.out l[i] (List.getElem_mem hil)
          have HRN := Aside0.mk (show rnewB l i l[i] = (basicB l i l[i] && fitB (l.take i) l[i]) from rfl)
          clear hbv
          go_upto_region 9 with fail
          generalize hW1 : wr.alloc (.cells #[.string l[i].f0, .int .i64 l[i].f1, .int .i64 l[i].f2] 71) = W1 at *
          have hT : wr.heap.size < W1.heap.size := HV.out.lt
          obtain ⟨T, hT2⟩ : ∃ T, T = wr.heap.size := ⟨_, rfl⟩
          rw [← hT2] at HV hT
          rw [← hT2]
          have HTE := Aside0.mk hT2
          have hYT : Y < T := by rw [hT2]; exact HA.out.lt
          clear hW1 y0 y1 y2 x0 x1 x2 x3 hT2
          obtain ⟨t, hti⟩ : ∃ t, l[i] = t := ⟨_, rfl⟩
          rw [hti] at HV HMS HLA hts HRN
          have HTI := Aside0.mk hti
          simp only [hti]
          clear hti
          have HX1 := Aside0.mk (HX.out.move HBV.out HX.out.lt)
          have HA1 := Aside0.mk (HA.out.move HBV.out HA.out.lt)
          have HB1 := Aside0.mk (HB.out.trans (HBV.out.mono HB.out.size))
          have HW := Aside0.mk (Below.refl W1.heap.size W1)
          clear HX HA HB HBV
          go_cut [100] (fun v100 wx => QRel (!basicB l i t) W1 v100 wx)
          case first =>
            have y0 := HV.out.c0
            have hbd : basicB l i t = (Nm t.f0 && decide (placeB l t.f0 = (i : Int)) && decide (0 ≤ t.f1) && decide (t.f1 ≤ 8) && (!decide (t.f1 = 0) || decide (t.f2 = 0)) && (!decide (0 < t.f1) || (decide (1 ≤ t.f2) && decide (t.f2 ≤ 3)))) := rfl
            have HNC := Aside0.mk (rname_calls t.f0 (by omega) W1)
            obtain ⟨b2, hb2⟩ : ∃ b, Nm t.f0 = b := ⟨_, rfl⟩
            rw [hb2] at hbd HNC
            clear hb2
            have HBD := Aside0.mk hbd
            clear hbd
            go_wp2_with fail
            go_at_call 38
            refine HNC.out.mono ?_
            rintro e w2 ⟨rfl, hd⟩
            have HV2 := Aside0.mk (HV.out.move hd)
            have HX2 := Aside0.mk (HX1.out.move hd HX1.out.lt)
            have HB2 := Aside0.mk hd
            clear hd HV HX1 HA1 HNC y0 HW
            cases b2 with
            | false =>
              go_wp2_with fail
              go_meet
              exact ⟨by rw [HBD.out]; simp, HB2.out⟩
            | true =>
              have y0 := HV2.out.c0
              have x0 := HX2.out.c0
              have x1 := HX2.out.c1
              have x2 := HX2.out.c2
              have x3 := HX2.out.c3
              go_wp2_with fail
              go_at_call 69
              refine (tok_calls w2 (some ad) c l st ex A2 rs.length c2 t.f0 (Kd.C_below HR.out (HB1.out.trans (HB2.out.mono HB1.out.size))) hcl).mono ?_
              rintro e w3 ⟨rfl, hd⟩
              have HV3 := Aside0.mk (HV2.out.move hd)
              have HB3 := Aside0.mk (HB2.out.trans (hd.mono HB2.out.size))
              clear hd HV2 HX2 y0 x0 x1 x2 x3 HB2
              have y1 := HV3.out.c1
              have y2 := HV3.out.c2
              obtain ⟨pl, hpl⟩ : ∃ p, placeB l t.f0 = p := ⟨_, rfl⟩
              rw [hpl] at HBD ⊢
              clear hpl
              by_cases h1 : pl = (i : Int)
              · subst h1
                have HBD1 := Aside0.mk HBD.out
                rw [decide_eq_true rfl, Bool.and_true, Bool.true_and] at HBD1
                by_cases h2 : t.f1 < 0
                · have HE : Aside0 (basicB l i t = false) := ⟨by rw [HBD1.out, decide_eq_false (show ¬ 0 ≤ t.f1 by omega)]; rfl⟩
                  have t2 : decide (t.f1 < 0) = true := decide_eq_true h2
                  clear h2
                  go_wp2_with fail
                  go_meet
                  exact ⟨by rw [HE.out]; rfl, HB3.out⟩
                · have t2 : decide (t.f1 < 0) = false := decide_eq_false h2
                  rw [decide_eq_true (show 0 ≤ t.f1 by omega), Bool.true_and] at HBD1
                  by_cases h3 : 8 < t.f1
                  · have HE : Aside0 (basicB l i t = false) := ⟨by rw [HBD1.out, decide_eq_false (show ¬ t.f1 ≤ 8 by omega)]; rfl⟩
                    have t3 : decide (8 < t.f1) = true := decide_eq_true h3
                    clear h2 h3
                    go_wp2_with fail
                    go_meet
                    exact ⟨by rw [HE.out]; rfl, HB3.out⟩
                  · have t3 : decide (8 < t.f1) = false := decide_eq_false h3
                    rw [decide_eq_true (show t.f1 ≤ 8 by omega), Bool.true_and] at HBD1
                    by_cases h4 : t.f1 = 0
                    · rw [decide_eq_true h4, decide_eq_false (show ¬ 0 < t.f1 by omega)] at HBD1
                      have t4 : (t.f1 == 0) = true := beq_iff_eq.2 h4
                      have t5 : decide (0 < t.f1) = false := decide_eq_false (by omega)
                      by_cases h5 : t.f2 = 0
                      · have HE : Aside0 (basicB l i t = true) := ⟨by rw [HBD1.out, decide_eq_true h5]; rfl⟩
                        have t6 : (t.f2 == 0) = true := beq_iff_eq.2 h5
                        have t6' : (t.f2 != 0) = false := by rw [h5]; rfl
                        clear h2 h3 h4 h5
                        go_wp2_with fail
                        go_meet
                        exact ⟨by rw [HE.out]; rfl, HB3.out⟩
                      · have HE : Aside0 (basicB l i t = false) := ⟨by rw [HBD1.out, decide_eq_false h5]; rfl⟩
                        have t6 : (t.f2 == 0) = false := beq_eq_false_iff_ne.2 h5
                        have t6' : (t.f2 != 0) = true := bne_iff_ne.2 h5
                        clear h2 h3 h4 h5
                        go_wp2_with fail
                        go_meet
                        exact ⟨by rw [HE.out]; rfl, HB3.out⟩
                    · rw [decide_eq_false h4, decide_eq_true (show 0 < t.f1 by omega)] at HBD1
                      have t4 : (t.f1 == 0) = false := beq_eq_false_iff_ne.2 h4
                      have t5 : decide (0 < t.f1) = true := decide_eq_true (by omega)
                      by_cases h5 : t.f2 < 1
                      · have HE : Aside0 (basicB l i t = false) := ⟨by rw [HBD1.out, decide_eq_false (show ¬ 1 ≤ t.f2 by omega)]; rfl⟩
                        have t6 : decide (t.f2 < 1) = true := decide_eq_true h5
                        clear h2 h3 h4 h5
                        go_wp2_with fail
                        go_meet
                        exact ⟨by rw [HE.out]; rfl, HB3.out⟩
                      · have t6 : decide (t.f2 < 1) = false := decide_eq_false h5
                        rw [decide_eq_true (show 1 ≤ t.f2 by omega)] at HBD1
                        by_cases h6 : 3 < t.f2
                        · have HE : Aside0 (basicB l i t = false) := ⟨by rw [HBD1.out, decide_eq_false (show ¬ t.f2 ≤ 3 by omega)]; rfl⟩
                          have t7 : decide (3 < t.f2) = true := decide_eq_true h6
                          clear h2 h3 h4 h5 h6
                          go_wp2_with fail
                          go_meet
                          exact ⟨by rw [HE.out]; rfl, HB3.out⟩
                        · have t7 : decide (3 < t.f2) = false := decide_eq_false h6
                          have HE : Aside0 (basicB l i t = true) := ⟨by rw [HBD1.out, decide_eq_true (show t.f2 ≤ 3 by omega)]; rfl⟩
                          clear h2 h3 h4 h5 h6
                          go_wp2_with fail
                          go_meet
                          exact ⟨by rw [HE.out]; rfl, HB3.out⟩
              · have HE : Aside0 (basicB l i t = false) := ⟨by rw [HBD.out, decide_eq_false h1]; simp⟩
                have t2 : (pl == (i : Int)) = false := beq_eq_false_iff_ne.2 h1
                have t2' : (pl != (i : Int)) = true := bne_iff_ne.2 h1
                clear h1
                go_wp2_with fail
                go_meet
                exact ⟨by rw [HE.out]; rfl, HB3.out⟩
          case rest =>
            obtain ⟨rfl, hb⟩ := hcut
            have HX2 := Aside0.mk (HX1.out.move hb HX1.out.lt)
            have HA2 := Aside0.mk (HA1.out.move hb HA1.out.lt)
            have HV2 := Aside0.mk (HV.out.move hb)
            have HB2 := Aside0.mk (HB1.out.trans (hb.mono HB1.out.size))
            clear hb HX1 HA1 HV HB1 HW
            obtain ⟨b2, hb2⟩ : ∃ b, basicB l i t = b := ⟨_, rfl⟩
            have HE2 := Aside0.mk hb2
            rw [hb2]
            cases b2 with
            | false =>
              clear hb2
              have HF : Aside0 (rnewsB l = false) := ⟨by
                rw [← Bool.not_eq_true, rnewsB_iff]
                intro h
                have := h i hil
                rw [HTI.out, HRN.out, HE2.out] at this
                cases this⟩
              go_wp2_with fail
              go_ret
              exact ⟨by rw [HMB.out, HF.out]; simp, HB2.out⟩
            | true =>
              have hb0 : 0 ≤ t.f1 ∧ t.f1 ≤ 8 := by
                unfold basicB at hb2
                simp only [Bool.and_eq_true, decide_eq_true_eq] at hb2
                exact ⟨hb2.1.1.1.2, hb2.1.1.2⟩
              obtain ⟨lv, hlv⟩ : ∃ lv : Nat, t.f1 = (lv : Int) := ⟨t.f1.toNat, by omega⟩
              have hlv9 : (lv : Int) < 9 := by omega
              have hlv8 : lv < 9 := by omega
              clear hb2 hb0
              have HLV := Aside0.mk hlv
              have y1 := HV2.out.c1
              have y2 := HV2.out.c2
              rw [hlv] at y1
              have a0 := (HA2.out.get lv hlv8).1
              have hft : fitB (l.take i) t = (!decide (0 < (lv : Int)) || decide (lastA (l.take i) (lv : Int) = 0) || decide (lastA (l.take i) (lv : Int) = t.f2)) := by unfold fitB; rw [hlv]
              have HFT := Aside0.mk hft
              clear hft hlv
              go_upto_region 11 with fail
              have HW := Aside0.mk (Below.refl wc.heap.size wc)
              go_cut [119] (fun v119 wx => QRel (!fitB (l.take i) t) wc v119 wx)
              case first =>
                obtain ⟨la, hla⟩ : ∃ a, lastA (l.take i) (lv : Int) = a := ⟨_, rfl⟩
                rw [hla] at a0 HFT
                clear hla
                by_cases h1 : lv = 0
                · have HE : Aside0 (fitB (l.take i) t = true) := ⟨by rw [HFT.out, decide_eq_false (show ¬ 0 < (lv : Int) by omega)]; rfl⟩
                  have t5 : decide (0 < (lv : Int)) = false := decide_eq_false (by omega)
                  have t5' : decide (0 < lv) = false := decide_eq_false (by omega)
                  clear h1
                  go_quiet (fail)
                  go_wp2_with fail
                  go_meet
                  exact ⟨by rw [HE.out]; rfl, by repeat (first | exact HW.out | apply pw_below_drewN)⟩
                · have t5 : decide (0 < (lv : Int)) = true := decide_eq_true (by omega)
                  have t5' : decide (0 < lv) = true := decide_eq_true (by omega)
                  have hf2 : fitB (l.take i) t = (decide (la = 0) || decide (la = t.f2)) := by rw [HFT.out, t5]; rfl
                  by_cases h2 : la = 0
                  · have HE : Aside0 (fitB (l.take i) t = true) := ⟨by rw [hf2, decide_eq_true h2]; rfl⟩
                    have t6 : (la == 0) = true := beq_iff_eq.2 h2
                    have t6' : (la != 0) = false := by rw [h2]; rfl
                    clear hf2 h2 h1
                    go_quiet (fail)
                    go_wp2_with fail
                    go_meet
                    exact ⟨by rw [HE.out]; rfl, by repeat (first | exact HW.out | apply pw_below_drewN)⟩
                  · have t6 : (la == 0) = false := beq_eq_false_iff_ne.2 h2
                    have t6' : (la != 0) = true := bne_iff_ne.2 h2
                    rw [decide_eq_false h2, Bool.false_or] at hf2
                    by_cases h3 : la = t.f2
                    · have HE : Aside0 (fitB (l.take i) t = true) := ⟨by rw [hf2, decide_eq_true h3]⟩
                      have t7 : (la == t.f2) = true := beq_iff_eq.2 h3
                      have t7' : (la != t.f2) = false := by rw [h3]; simp
                      clear hf2 h2 h1 h3
                      go_quiet (fail)
                      go_wp2_with fail
                      go_meet
                      exact ⟨by rw [HE.out]; rfl, by repeat (first | exact HW.out | apply pw_below_drewN)⟩
                    · have HE : Aside0 (fitB (l.take i) t = false) := ⟨by rw [hf2, decide_eq_false h3]⟩
                      have t7 : (la == t.f2) = false := beq_eq_false_iff_ne.2 h3
                      have t7' : (la != t.f2) = true := bne_iff_ne.2 h3
                      clear hf2 h2 h1 h3
                      go_quiet (fail)
                      go_wp2_with fail
                      go_meet
                      exact ⟨by rw [HE.out]; rfl, by repeat (first | exact HW.out | apply pw_below_drewN)⟩
              case rest =>
                obtain ⟨rfl, hb⟩ := hcut
                have HX3 := Aside0.mk (HX2.out.move hb HX2.out.lt)
                have HA3 := Aside0.mk (HA2.out.move hb HA2.out.lt)
                have HV3 := Aside0.mk (HV2.out.move hb)
                have HB3 := Aside0.mk (HB2.out.trans (hb.mono HB2.out.size))
                clear hb HX2 HA2 HV2 HB2 HW a0 y1 y2
                obtain ⟨b3, hb3⟩ : ∃ b, fitB (l.take i) t = b := ⟨_, rfl⟩
                have HE3 := Aside0.mk hb3
                rw [hb3]
                clear hb3
                cases b3 with
                | false =>
                  have HF : Aside0 (rnewsB l = false) := ⟨by
                    rw [← Bool.not_eq_true, rnewsB_iff]
                    intro h
                    have := h i hil
                    rw [HTI.out, HRN.out, HE2.out, HE3.out] at this
                    cases this⟩
                  go_wp2_with fail
                  go_ret
                  exact ⟨by rw [HMB.out, HF.out]; simp, HB3.out⟩
                | true =>
                  have y1 := HV3.out.c1
                  have y2 := HV3.out.c2
                  rw [HLV.out] at y1
                  obtain ⟨a0, a1⟩ := HA3.out.get lv hlv8
                  have HA4 := Aside0.mk (HA3.out.set (l' := l.take (i + 1)) lv hlv8 t.f2 (fun j hj => by rw [HLA.out, HLV.out]))
                  have HX4 := Aside0.mk (HX3.out.set (p := ⟨Y, lv, none⟩) (by show X ≠ Y; omega) (.int .i64 t.f2))
                  have HV4 := Aside0.mk (HV3.out.set (p := ⟨Y, lv, none⟩) (by show T ≠ Y; omega) (.int .i64 t.f2))
                  have HB4 := Aside0.mk (HB3.out.setCell (p := ⟨Y, lv, none⟩) hwY (.int .i64 t.f2))
                  have z1 := HV4.out.c1
                  rw [HLV.out] at z1
                  clear HA3 HX3 HV3 HB3
                  have HRE : Aside0 (∀ (j : Nat) (h : j < l.length), j < i + 1 → rnewB l j l[j] = true) := ⟨fun j h2 h => by
                    by_cases hj : j < i
                    · exact HN.out j hj h2
                    · obtain rfl : j = i := by omega
                      rw [HTI.out, HRN.out, HE2.out, HE3.out]; rfl⟩
                  by_cases hmx : mostB (l.take i) < (lv : Int)
                  · have HMX : Aside0 (max (mostB (l.take i)) (lv : Int) = (lv : Int)) := ⟨by omega⟩
                    go_wp2_with fail
                    go_roundg (gk - 1)
                    case measure => have := HI.out; omega
                    case rel => exact ⟨i + 1, by have := HI.out; omega, by go_num, by rw [HMS.out, HLV.out, HMX.out], HB4.out, HX4.out, HA4.out, fun j h h2 => HRE.out j h2 h⟩
                  · have HMX : Aside0 (max (mostB (l.take i)) (lv : Int) = mostB (l.take i)) := ⟨by omega⟩
                    go_wp2_with fail
                    go_roundg (gk - 1)
                    case measure => have := HI.out; omega
                    case rel => exact ⟨i + 1, by have := HI.out; omega, by go_num, by rw [HMS.out, HLV.out, HMX.out], HB4.out, HX4.out, HA4.out, fun j h h2 => HRE.out j h2 h⟩
        · have hi2 : i = l.length := by have := HI.out; omega
          subst hi2
          rw [List.take_length] at HA ⊢
          have t1 : decide ((l.length : Int) < (l.length : Int)) = false := by simp
          have HNW : Aside0 (rnewsB l = true) := ⟨rnewsB_iff.2 fun j hj => HN.out j hj hj⟩
          have hle8 : ∀ t ∈ l, t.f1 ≤ 8 := by
            intro t ht
            obtain ⟨j, hj, rfl⟩ := List.getElem_of_mem ht
            have := HN.out j hj hj
            unfold rnewB basicB at this
            simp only [Bool.and_eq_true, decide_eq_true_eq] at this
            exact this.1.1.1.2
          have hmb := mostB_le l hle8
          obtain ⟨m, hm⟩ : ∃ m : Nat, mostB l = (m : Int) := ⟨(mostB l).toNat, by omega⟩
          rw [hm]
          have hm8 : m ≤ 8 := by omega
          have HM := Aside0.mk hm
          clear hle8 hmb hm HN
          go_wp2_with fail
          clear x0 x1 x2 x3
          go_loopg [7] m (fun kq v7 w' => ∃ j : Nat, j + kq = m ∧ v7 = .int .i64 ((j : Int) + 1) ∧ Below w.heap.size w w' ∧ Box4 w' X (.slice A l.length c) (.string st) (.int .i64 ex) (.slice A2 rs.length c2) ∧ ARow w' Y l ∧ ∀ k : Nat, k < j → lastA l ((k : Int) + 1) ≠ 0)
          case atStart => exact ⟨0, by omega, rfl, HB.out, HX.out, HA.out, fun k h => absurd h (Nat.not_lt_zero k)⟩
          case round =>
            obtain ⟨j, hj, rfl, hb, hx, ha, hn⟩ := hrel
            clear HB HX HA
            have HJ := Aside0.mk hj
            have HB := Aside0.mk hb
            have HX := Aside0.mk hx
            have HA := Aside0.mk ha
            have HN := Aside0.mk hn
            clear hj hb hx ha hn
            by_cases hjm : j < m
            · have t2 : decide ((j : Int) + 1 ≤ (m : Int)) = true := by simp; omega
              have a0 := (HA.out.get (j + 1) (by omega)).1
              have e1 : ((j + 1 : Nat) : Int) = (j : Int) + 1 := by omega
              rw [e1] at a0
              have hj9 : (j : Int) + 1 < 9 := by omega
              obtain ⟨la, hla⟩ : ∃ a, lastA l ((j : Int) + 1) = a := ⟨_, rfl⟩
              rw [hla] at a0
              have HLA := Aside0.mk hla
              clear hla e1
              by_cases h1 : la = 0
              · subst h1
                have HF : Aside0 (rlevelsB l = false) := ⟨by
                  unfold rlevelsB
                  rw [← Bool.not_eq_true, List.all_eq_true]
                  intro h
                  have := h j (List.mem_range.2 (by rw [HM.out]; omega))
                  rw [HLA.out] at this
                  cases this⟩
                go_wp2_with fail
                go_ret
                exact ⟨by rw [HMB.out, HF.out]; simp, HB.out⟩
              · have t3 : (la == 0) = false := beq_eq_false_iff_ne.2 h1
                have H1 := Aside0.mk h1
                clear h1
                go_wp2_with fail
                go_roundg (gk - 1)
                case measure => have := HJ.out; omega
                case rel =>
                  refine ⟨j + 1, by have := HJ.out; omega, by go_num, HB.out, HX.out, HA.out, fun k h => ?_⟩
                  by_cases hk : k < j
                  · exact HN.out k hk
                  · obtain rfl : k = j := by omega
                    rw [HLA.out]; exact H1.out
            · have hjm2 : j = m := by have := HJ.out; omega
              subst hjm2
              have t2 : decide ((j : Int) + 1 ≤ (j : Int)) = false := by simp; omega
              have HLV : Aside0 (rlevelsB l = true) := ⟨by
                unfold rlevelsB
                rw [List.all_eq_true]
                intro k hk
                have hk := List.mem_range.1 hk
                rw [HM.out, Int.toNat_natCast] at hk
                rw [decide_eq_false (HN.out k hk)]; rfl⟩
              have HMB2 : Aside0 (rmayB l st ex rs = !rs.any ruleBad) := ⟨by rw [HMB.out, HE1.out, HNW.out, HLV.out]; rfl⟩
              clear HN HA
              go_wp2_with fail
              go_loopg [8] rs.length (fun kq v8 w' => PRel rs w X (.slice A l.length c) (.string st) (.int .i64 ex) (.slice A2 rs.length c2) kq v8 w')
              case atStart => exact ⟨0, by omega, rfl, HB.out, HX.out, fun k h => absurd h (Nat.not_lt_zero k)⟩
              case round =>
                obtain ⟨i, hi, rfl, hb, hx, hn⟩ := hrel
                clear HB HX
                have HI2 := Aside0.mk hi
                have HB := Aside0.mk hb
                have HX := Aside0.mk hx
                have HN := Aside0.mk hn
                clear hi hb hx hn
                have x3 := HX.out.c3
                by_cases hil : i < rs.length
                · have t1 : decide ((i : Int) < (rs.length : Int)) = true := by simp; omega
                  obtain ⟨ad, A1, c1, e1, y0, y1, y2, l1, g1⟩ := at_rule (Kd.C_below HR2.out HB.out) i hil rfl
                  subst e1
                  have HV := Aside0.mk (RBox.new wr rs[i] A1 c1)
                  have hbv := below_alloc (Below.refl wr.heap.size wr) (.cells #[.string rs[i].f0, .slice A1 rs[i].f1.length c1, .string rs[i].f2] 73)
                  have HG := Aside0.mk (Kd.C_below g1 hbv)
                  have HBV := Aside0.mk hbv
                  have HSZ := Aside0.mk (HRS.out rs[i] (List.getElem_mem hil))
                  have HL1 := Aside0.mk l1
                  clear hbv g1 l1
                  go_upto_region 24 with fail
                  generalize hW1 : wr.alloc (.cells #[.string rs[i].f0, .slice A1 rs[i].f1.length c1, .string rs[i].f2] 73) = W1 at *
                  obtain ⟨T, hT2⟩ : ∃ T, T = wr.heap.size := ⟨_, rfl⟩
                  rw [← hT2] at HV
                  rw [← hT2]
                  have HTE := Aside0.mk hT2
                  clear hW1 y0 y1 y2 x3 hT2
                  obtain ⟨r, hri⟩ : ∃ r, rs[i] = r := ⟨_, rfl⟩
                  rw [hri] at HV HG HSZ HL1
                  have HRI := Aside0.mk hri
                  simp only [hri]
                  clear hri
                  have HX1 := Aside0.mk (HX.out.move HBV.out HX.out.lt)
                  have HB1 := Aside0.mk (HB.out.trans (HBV.out.mono HB.out.size))
                  have HW := Aside0.mk (Below.refl W1.heap.size W1)
                  have hrl : r.f1.length ≤ 100000 := HSZ.out.2.2.1
                  clear HX HB HBV
                  go_cut [170] (fun v170 wx => QRel (!topB r) W1 v170 wx)
                  case first =>
                    have y0 := HV.out.c0
                    have htp : topB r = (Nm r.f0 && decide (r.f1.length ≤ 20) && orB r.f2) := rfl
                    have HNC := Aside0.mk (rname_calls r.f0 (by have := HSZ.out.1; omega) W1)
                    obtain ⟨b2, hb2⟩ : ∃ b, Nm r.f0 = b := ⟨_, rfl⟩
                    rw [hb2] at htp HNC
                    clear hb2
                    have HTP := Aside0.mk htp
                    clear htp
                    go_wp2_with fail
                    go_at_call 38
                    refine HNC.out.mono ?_
                    rintro e w2 ⟨rfl, hd⟩
                    have HV2 := Aside0.mk (HV.out.move hd)
                    have HB2 := Aside0.mk hd
                    clear hd HV HX1 HNC y0 HW HG
                    cases b2 with
                    | false =>
                      go_wp2_with fail
                      go_meet
                      exact ⟨by rw [HTP.out]; simp, HB2.out⟩
                    | true =>
                      have y1 := HV2.out.c1
                      have y2 := HV2.out.c2
                      by_cases h2 : 20 < r.f1.length
                      · have HE : Aside0 (topB r = false) := ⟨by rw [HTP.out, decide_eq_false (show ¬ r.f1.length ≤ 20 by omega)]; rfl⟩
                        have t2 : decide ((20 : Int) < (r.f1.length : Int)) = true := by simp; omega
                        clear h2
                        go_wp2_with fail
                        go_meet
                        exact ⟨by rw [HE.out]; rfl, HB2.out⟩
                      · have t2 : decide ((20 : Int) < (r.f1.length : Int)) = false := by simp; omega
                        have HE1 : Aside0 (topB r = orB r.f2) := ⟨by rw [HTP.out, decide_eq_true (show r.f1.length ≤ 20 by omega)]; rfl⟩
                        clear h2
                        by_cases h5 : r.f2.toList = []
                        · have HE : Aside0 (topB r = true) := ⟨by rw [HE1.out]; unfold orB; rw [decide_eq_true (by rw [← Lib.toList_data]; exact h5)]; rfl⟩
                          have t5 : (!r.f2.toList.isEmpty) = false := by rw [h5]; rfl
                          go_wp2_with fail
                          go_meet
                          exact ⟨by rw [HE.out]; simp, HB2.out⟩
                        · have t5 : (!r.f2.toList.isEmpty) = true := by simpa using h5
                          have HE : Aside0 (topB r = Nm r.f2) := ⟨by rw [HE1.out]; unfold orB; rw [decide_eq_false (by rw [← Lib.toList_data]; exact h5)]; rfl⟩
                          have HNC := Aside0.mk (rname_calls r.f2 (by have := HSZ.out.2.1; omega) w2)
                          obtain ⟨b, hb⟩ : ∃ b, Nm r.f2 = b := ⟨_, rfl⟩
                          rw [hb] at HE HNC
                          clear hb
                          go_wp2_with fail
                          go_at_call 38
                          refine HNC.out.mono ?_
                          rintro e w3 ⟨rfl, hd⟩
                          have HB3 := Aside0.mk (HB2.out.trans (hd.mono HB2.out.size))
                          clear hd HNC HV2 y1 y2 HB2
                          cases b with
                          | true =>
                            go_wp2_with fail
                            go_meet
                            exact ⟨by rw [HE.out]; simp [h5], HB3.out⟩
                          | false =>
                            go_wp2_with fail
                            go_meet
                            exact ⟨by rw [HE.out]; simp [h5], HB3.out⟩
                  case rest =>
                    obtain ⟨rfl, hb⟩ := hcut
                    have HX2 := Aside0.mk (HX1.out.move hb HX1.out.lt)
                    have HV2 := Aside0.mk (HV.out.move hb)
                    have HG2 := Aside0.mk (Kd.C_below HG.out hb)
                    have HB2 := Aside0.mk (HB1.out.trans (hb.mono HB1.out.size))
                    clear hb HX1 HV HG HB1 HW
                    obtain ⟨b3, hb3⟩ : ∃ b, topB r = b := ⟨_, rfl⟩
                    have HE3 := Aside0.mk hb3
                    rw [hb3]
                    clear hb3
                    cases b3 with
                    | false =>
                      have HF : Aside0 (rs.any ruleBad = true) := ⟨by
                        rw [List.any_eq_true]
                        exact ⟨rs[i], List.getElem_mem hil, by rw [HRI.out, ruleBad_eq, HE3.out]; rfl⟩⟩
                      go_wp2_with fail
                      go_ret
                      exact ⟨by rw [HMB2.out, HF.out]; rfl, HB2.out⟩
                    | true =>
                      have HW := Aside0.mk (Below.refl wc.heap.size wc)
                      obtain ⟨gko, hgko⟩ : ∃ g, g = gk := ⟨_, rfl⟩
                      have HGK := Aside0.mk hgko
                      clear hgko
                      go_wp2_with fail
                      go_loopg [10] r.f1.length (fun kq v10 w' => KRel r.f1 wc kq v10 w')
                      case atStart => exact ⟨0, by omega, rfl, HW.out, fun k h => absurd h (Nat.not_lt_zero k)⟩
                      case round =>
                        obtain ⟨k, hk, rfl, hb, hn2⟩ := hrel
                        clear HW
                        have HK := Aside0.mk hk
                        have HB3 := Aside0.mk hb
                        have HN2 := Aside0.mk hn2
                        have HV3 := Aside0.mk (HV2.out.move hb)
                        clear hk hb hn2
                        have y1 := HV3.out.c1
                        by_cases hkl : k < r.f1.length
                        · have t2 : decide ((k : Int) < (r.f1.length : Int)) = true := by simp; omega
                          obtain ⟨bd, e1, z0⟩ := at_str (Kd.C_below HG2.out HB3.out) k hkl rfl
                          subst e1
                          have hsk := HSZ.out.2.2.2 r.f1[k] (List.getElem_mem hkl)
                          have HNC := Aside0.mk (rname_calls r.f1[k] (by omega) wr)
                          obtain ⟨b4, hb4⟩ : ∃ b, Nm r.f1[k] = b := ⟨_, rfl⟩
                          rw [hb4] at HNC
                          have HE4 := Aside0.mk hb4
                          clear hb4
                          go_wp2_with fail
                          go_at_call 38
                          refine HNC.out.mono ?_
                          rintro e w3 ⟨rfl, hd⟩
                          have HB4 := Aside0.mk (HB3.out.trans (hd.mono HB3.out.size))
                          clear hd HNC HV3 y1 z0 HB3
                          cases b4 with
                          | false =>
                            have HF : Aside0 (rs.any ruleBad = true) := ⟨by
                              rw [List.any_eq_true]
                              refine ⟨rs[i], List.getElem_mem hil, ?_⟩
                              rw [HRI.out, ruleBad_eq, HE3.out]
                              have : (r.f1.any fun s => !Nm s) = true := List.any_eq_true.2 ⟨r.f1[k], List.getElem_mem hkl, by rw [HE4.out]; rfl⟩
                              rw [this]; rfl⟩
                            go_wp2_with fail
                            go_ret
                            exact ⟨by rw [HMB2.out, HF.out]; rfl, HB2.out.trans (HB4.out.mono HB2.out.size)⟩
                          | true =>
                            go_wp2_with fail
                            go_roundg (gk - 1)
                            case measure => have := HK.out; omega
                            case rel =>
                              refine ⟨k + 1, by have := HK.out; omega, by go_num, HB4.out, fun j h h2 => ?_⟩
                              by_cases hj : j < k
                              · exact HN2.out j hj h2
                              · obtain rfl : j = k := by omega
                                exact HE4.out
                        · have t2 : decide ((k : Int) < (r.f1.length : Int)) = false := by simp; omega
                          have HRB : Aside0 (ruleBad r = false) := ⟨by
                            rw [ruleBad_eq, HE3.out]
                            rw [show (r.f1.any fun s => !Nm s) = false from by
                              rw [List.any_eq_false]
                              intro s hs
                              obtain ⟨j, hj, rfl⟩ := List.getElem_of_mem hs
                              rw [HN2.out j (by have := HK.out; omega) hj]
                              decide]
                            rfl⟩
                          have HB5 := Aside0.mk (HB2.out.trans (HB3.out.mono HB2.out.size))
                          have HX5 := Aside0.mk (HX2.out.move HB3.out HX2.out.lt)
                          clear HN2 HB3 HV3
                          go_wp2_with fail
                          go_roundg (gko - 1)
                          case measure => have := HI2.out; have := HGK.out; omega
                          case rel =>
                            refine ⟨i + 1, by have := HI2.out; have := HGK.out; omega, by go_num, HB5.out, HX5.out, fun j h h2 => ?_⟩
                            by_cases hj : j < i
                            · exact HN.out j hj h2
                            · obtain rfl : j = i := by omega
                              rw [HRI.out]; exact HRB.out
                · have hi2 : i = rs.length := by have := HI2.out; omega
                  subst hi2
                  have t1 : decide ((rs.length : Int) < (rs.length : Int)) = false := by simp
                  have HT : Aside0 (rs.any ruleBad = false) := ⟨by
                    rw [List.any_eq_false]
                    intro r hr
                    obtain ⟨j, hj, rfl⟩ := List.getElem_of_mem hr
                    rw [HN.out j hj hj]
                    decide⟩
                  go_wp2_with fail
                  go_ret
                  exact ⟨by rw [HMB2.out, HT.out]; rfl, HB.out⟩
end Go.Proofs.YtjhemobplcelbaaGreatDoor.M
