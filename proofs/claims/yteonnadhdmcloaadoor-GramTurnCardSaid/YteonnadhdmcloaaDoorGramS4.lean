/- gram: gram.May, gram.Eq, gram.Text (where Expect is below 100) and the reference's May and Eq, in the print's own form. gram: the reference's May answers what gram.May answers. gram: the reference's Digits; lines as the reference builds them. gram: the reference's Text. gram: gram.Text (any Expect: the table of powers of ten must lie in memory) and the reference's Text, in the print's own form. -/
import Derived.Test.YteonnadhdmcloaaDoorGramS3
import Derived.Test.YteonnadhdmcloaaDoorGx7
namespace Go.Proofs.YteonnadhdmcloaaDoor.G
open Go.RowKit Go.Proofs.YteonnadhdmcloaaDoorW.PrintWords Go.Proofs.YteonnadhdmcloaaDoorW.PrintLast Go.Proofs.YteonnadhdmcloaaDoorW.PrintMore
set_option linter.unusedVariables false
set_option linter.unusedSimpArgs false
/-- A grammar that is not too great for the contracts. -/
def sizeB (l : List S35) (rs : List S39) : Bool := decide (l.length ≤ 100000) && decide (rs.length ≤ 100000) && rs.all fun r => decide (r.f1.length ≤ 100000)
def nameSizeB (l : List S35) (st : ByteArray) (rs : List S39) : Bool := decide (st.size ≤ 1000) && l.all (fun t => decide (t.f0.size ≤ 1000)) && rs.all fun r => decide (r.f0.size ≤ 1000) && decide (r.f2.size ≤ 1000) && r.f1.all fun s => decide (s.size ≤ 1000)
theorem sizeB_parts {l : List S35} {rs : List S39} (h : sizeB l rs = true) : l.length ≤ 100000 ∧ rs.length ≤ 100000 ∧ ∀ r ∈ rs, r.f1.length ≤ 100000 := by
  unfold sizeB at h
  simp only [Bool.and_eq_true, decide_eq_true_eq, List.all_eq_true] at h
  exact ⟨h.1.1, h.1.2, h.2⟩
theorem nameSizeB_parts {l : List S35} {st : ByteArray} {rs : List S39} (h : nameSizeB l st rs = true) : st.size ≤ 1000 ∧ (∀ t ∈ l, t.f0.size ≤ 1000) ∧ ∀ r ∈ rs, r.f0.size ≤ 1000 ∧ r.f2.size ≤ 1000 ∧ ∀ s ∈ r.f1, s.size ≤ 1000 := by
  unfold nameSizeB at h
  simp only [Bool.and_eq_true, decide_eq_true_eq, List.all_eq_true] at h
  exact ⟨h.1.1, h.1.2, fun r hr => ⟨(h.2 r hr).1.1, (h.2 r hr).1.2, (h.2 r hr).2⟩⟩
def gram_May.f (l0_0 : List (S35)) (a0_1 : ByteArray) (a0_2 : Int) (l0_3 : List (S39)) : Option Bool := if sizeB l0_0 l0_3 = true then some (mayB l0_0 a0_1 a0_2 l0_3) else none
theorem gram_May.calls (A0_0 : Option Addr) (c0_0 : Nat) (l0_0 : List (S35)) (a0_1 : ByteArray) (a0_2 : Int) (A0_3 : Option Addr) (c0_3 : Nat) (l0_3 : List (S39)) (r : Bool) (w : World) (hr0_0 : Kd.C k35 w A0_0 l0_0.length l0_0) (hc0_0 : l0_0.length ≤ c0_0) (hr0_3 : Kd.C k39 w A0_3 l0_3.length l0_3) (hc0_3 : l0_3.length ≤ c0_3) (h : gram_May.f l0_0 a0_1 a0_2 l0_3 = some r) :
    Calls Tryd.prog 10 #[.agg #[.slice A0_0 l0_0.length c0_0, .string a0_1, .int .i64 a0_2, .slice A0_3 l0_3.length c0_3]] w fun e w' => e = .returned (.bool r) ∧ Below w.heap.size w w' := by
  unfold gram_May.f at h
  split at h
  · rename_i hs
    obtain ⟨h1, h2, h3⟩ := sizeB_parts hs
    obtain rfl := Option.some.inj h
    exact may_calls w A0_0 c0_0 l0_0 a0_1 a0_2 A0_3 c0_3 l0_3 hr0_0 hc0_0 h1 hr0_3 (by omega) (fun r hr => by have := h3 r hr; omega)
  · cases h
def gram_Eq.f (l0_0 : List (S35)) (a0_1 : ByteArray) (a0_2 : Int) (l0_3 : List (S39)) (l1_0 : List (S35)) (a1_1 : ByteArray) (a1_2 : Int) (l1_3 : List (S39)) : Option Bool := if sizeB l0_0 l0_3 = true then some (geqB l0_0 a0_1 a0_2 l0_3 l1_0 a1_1 a1_2 l1_3) else none
theorem gram_Eq.calls (A0_0 : Option Addr) (c0_0 : Nat) (l0_0 : List (S35)) (a0_1 : ByteArray) (a0_2 : Int) (A0_3 : Option Addr) (c0_3 : Nat) (l0_3 : List (S39)) (A1_0 : Option Addr) (c1_0 : Nat) (l1_0 : List (S35)) (a1_1 : ByteArray) (a1_2 : Int) (A1_3 : Option Addr) (c1_3 : Nat) (l1_3 : List (S39)) (r : Bool) (w : World) (hr0_0 : Kd.C k35 w A0_0 l0_0.length l0_0) (hc0_0 : l0_0.length ≤ c0_0) (hr0_3 : Kd.C k39 w A0_3 l0_3.length l0_3) (hc0_3 : l0_3.length ≤ c0_3) (hr1_0 : Kd.C k35 w A1_0 l1_0.length l1_0) (hc1_0 : l1_0.length ≤ c1_0) (hr1_3 : Kd.C k39 w A1_3 l1_3.length l1_3) (hc1_3 : l1_3.length ≤ c1_3) (h : gram_Eq.f l0_0 a0_1 a0_2 l0_3 l1_0 a1_1 a1_2 l1_3 = some r) :
    Calls Tryd.prog 14 #[.agg #[.slice A0_0 l0_0.length c0_0, .string a0_1, .int .i64 a0_2, .slice A0_3 l0_3.length c0_3], .agg #[.slice A1_0 l1_0.length c1_0, .string a1_1, .int .i64 a1_2, .slice A1_3 l1_3.length c1_3]] w fun e w' => e = .returned (.bool r) ∧ Below w.heap.size w w' := by
  unfold gram_Eq.f at h
  split at h
  · rename_i hs
    obtain ⟨h1, h2, h3⟩ := sizeB_parts hs
    obtain rfl := Option.some.inj h
    exact geq_calls w A0_0 c0_0 l0_0 a0_1 a0_2 A0_3 c0_3 l0_3 A1_0 c1_0 l1_0 a1_1 a1_2 A1_3 c1_3 l1_3 hr0_0 hc0_0 (by omega) hr0_3 (by omega) (fun r hr => by have := h3 r hr; omega) hr1_0 hc1_0 hr1_3
  · cases h
theorem itoa_small (ex : Int) (h0 : 0 ≤ ex) (h1 : ex < 100) (w : World) : Calls Tryd.prog 31 #[.int .i64 ex] w fun e w' => e = .returned (.string (mkS (Lib.itoa ex))) ∧ Below w.heap.size w w' := by
  obtain ⟨n, rfl⟩ : ∃ n : Nat, ex = (n : Int) := ⟨ex.toNat, by omega⟩
  rw [Lib.itoa_nonneg]
  refine (YteonnadhdmcloaaDoor.K.strconv_Itoa_small n (by omega) w).mono ?_
  rintro e w' ⟨rfl, rfl⟩
  exact ⟨rfl, Below.refl _ _⟩
/-- A number that May lets in is asked for; any other one is not. -/
theorem text_calls' (w : World) (A : Option Addr) (c : Nat) (l : List S35) (st : ByteArray) (ex : Int) (A2 : Option Addr) (c2 : Nat) (rs : List S39) (hr : Kd.C k35 w A l.length l) (hcl : l.length ≤ c) (hl : l.length ≤ 100000) (hr2 : Kd.C k39 w A2 rs.length rs) (hl2 : rs.length ≤ 17592186044416) (hs : ∀ r ∈ rs, r.f1.length ≤ 17592186044416)
    (hit : 0 ≤ ex → ∀ W, Below w.heap.size w W → Calls Tryd.prog 31 #[.int .i64 ex] W fun e w' => e = .returned (.string (mkS (Lib.itoa ex))) ∧ Below W.heap.size W w') :
    Calls Tryd.prog 12 #[.agg #[.slice A l.length c, .string st, .int .i64 ex, .slice A2 rs.length c2]] w fun e w' => e = .returned (.string (mkS (textL l st ex rs))) ∧ Below w.heap.size w w' := by
  by_cases h : 0 ≤ ex
  · exact text_calls w A c l st ex A2 c2 rs hr hcl hl hr2 hl2 hs (hit h)
  · have HX := Aside0.mk (Box4.new w (.slice A l.length c) (.string st) (.int .i64 ex) (.slice A2 rs.length c2) 25)
    have HB := Aside0.mk (below_alloc (Below.refl w.heap.size w) (.cells #[.slice A l.length c, .string st, .int .i64 ex, .slice A2 rs.length c2] 25))
    have hm : mayB l st ex rs = false := by unfold mayB; rw [decide_eq_false h]; simp
    have HT : Aside0 (textL l st ex rs = []) := ⟨by unfold textL; rw [hm]; rfl⟩
    have HC := Aside0.mk (may_calls (w.alloc (.cells #[.slice A l.length c, .string st, .int .i64 ex, .slice A2 rs.length c2] 25)) A c l st ex A2 c2 rs (Kd.C_below hr HB.out) hcl hl (Kd.C_below hr2 HB.out) hl2 hs)
    rw [hm] at HC
    clear hm hr hr2 hs hit
    go_enter Tryd.func12, Tryd.ntmps12
    have x0 := HX.out.c0
    have x1 := HX.out.c1
    have x2 := HX.out.c2
    have x3 := HX.out.c3
    go_wp2_with fail
    go_at_call 10
    refine HC.out.mono ?_
    rintro e w1 ⟨rfl, hd⟩
    have HB1 := Aside0.mk (HB.out.trans (hd.mono HB.out.size))
    clear hd HX HB HC x0 x1 x2 x3
    go_wp2_with fail
    go_ret
    exact ⟨ret_str (by rw [HT.out]; rfl), HB1.out⟩
def donatusref4_May.f (l0_0 : List (S35)) (a0_1 : ByteArray) (a0_2 : Int) (l0_3 : List (S39)) : Option Bool := if sizeB l0_0 l0_3 = true then (if nameSizeB l0_0 a0_1 l0_3 = true then some (rmayB l0_0 a0_1 a0_2 l0_3) else none) else none
theorem donatusref4_May.calls (A0_0 : Option Addr) (c0_0 : Nat) (l0_0 : List (S35)) (a0_1 : ByteArray) (a0_2 : Int) (A0_3 : Option Addr) (c0_3 : Nat) (l0_3 : List (S39)) (r : Bool) (w : World) (hr0_0 : Kd.C k35 w A0_0 l0_0.length l0_0) (hc0_0 : l0_0.length ≤ c0_0) (hr0_3 : Kd.C k39 w A0_3 l0_3.length l0_3) (hc0_3 : l0_3.length ≤ c0_3) (h : donatusref4_May.f l0_0 a0_1 a0_2 l0_3 = some r) :
    Calls Tryd.prog 11 #[.agg #[.slice A0_0 l0_0.length c0_0, .string a0_1, .int .i64 a0_2, .slice A0_3 l0_3.length c0_3]] w fun e w' => e = .returned (.bool r) ∧ Below w.heap.size w w' := by
  unfold donatusref4_May.f at h
  split at h
  · rename_i hs
    split at h
    · rename_i hn
      obtain ⟨h1, h2, h3⟩ := sizeB_parts hs
      obtain ⟨n1, n2, n3⟩ := nameSizeB_parts hn
      obtain rfl := Option.some.inj h
      exact rmay_calls w A0_0 c0_0 l0_0 a0_1 a0_2 A0_3 c0_3 l0_3 hr0_0 hc0_0 h1 hr0_3 hc0_3 h2 n1 n2 (fun r hr => ⟨(n3 r hr).1, (n3 r hr).2.1, h3 r hr, (n3 r hr).2.2⟩)
    · cases h
  · cases h
def donatusref4_Eq.f (l0_0 : List (S35)) (a0_1 : ByteArray) (a0_2 : Int) (l0_3 : List (S39)) (l1_0 : List (S35)) (a1_1 : ByteArray) (a1_2 : Int) (l1_3 : List (S39)) : Option Bool := if sizeB l0_0 l0_3 = true then some (geqB l0_0 a0_1 a0_2 l0_3 l1_0 a1_1 a1_2 l1_3) else none
theorem donatusref4_Eq.calls (A0_0 : Option Addr) (c0_0 : Nat) (l0_0 : List (S35)) (a0_1 : ByteArray) (a0_2 : Int) (A0_3 : Option Addr) (c0_3 : Nat) (l0_3 : List (S39)) (A1_0 : Option Addr) (c1_0 : Nat) (l1_0 : List (S35)) (a1_1 : ByteArray) (a1_2 : Int) (A1_3 : Option Addr) (c1_3 : Nat) (l1_3 : List (S39)) (r : Bool) (w : World) (hr0_0 : Kd.C k35 w A0_0 l0_0.length l0_0) (hc0_0 : l0_0.length ≤ c0_0) (hr0_3 : Kd.C k39 w A0_3 l0_3.length l0_3) (hc0_3 : l0_3.length ≤ c0_3) (hr1_0 : Kd.C k35 w A1_0 l1_0.length l1_0) (hc1_0 : l1_0.length ≤ c1_0) (hr1_3 : Kd.C k39 w A1_3 l1_3.length l1_3) (hc1_3 : l1_3.length ≤ c1_3) (h : donatusref4_Eq.f l0_0 a0_1 a0_2 l0_3 l1_0 a1_1 a1_2 l1_3 = some r) :
    Calls Tryd.prog 15 #[.agg #[.slice A0_0 l0_0.length c0_0, .string a0_1, .int .i64 a0_2, .slice A0_3 l0_3.length c0_3], .agg #[.slice A1_0 l1_0.length c1_0, .string a1_1, .int .i64 a1_2, .slice A1_3 l1_3.length c1_3]] w fun e w' => e = .returned (.bool r) ∧ Below w.heap.size w w' := by
  unfold donatusref4_Eq.f at h
  split at h
  · rename_i hs
    obtain ⟨h1, h2, h3⟩ := sizeB_parts hs
    obtain rfl := Option.some.inj h
    exact req_calls w A0_0 c0_0 l0_0 a0_1 a0_2 A0_3 c0_3 l0_3 A1_0 c1_0 l1_0 a1_1 a1_2 A1_3 c1_3 l1_3 hr0_0 h1 hr0_3 h2 h3 hr1_0 hr1_3
  · cases h
end Go.Proofs.YteonnadhdmcloaaDoor.G
namespace Go.Proofs.YteonnadhdmcloaaDoor.G
open Go.RowKit Go.Proofs.YteonnadhdmcloaaDoorW.PrintWords Go.Proofs.YteonnadhdmcloaaDoorW.PrintLast Go.Proofs.YteonnadhdmcloaaDoorW.PrintMore
set_option linter.unusedVariables false
set_option linter.unusedSimpArgs false
theorem lastA_mem (l : List S35) (k : Int) : (lastA l k = 0 ∨ ∃ u ∈ l, u.f1 = k ∧ lastA l k = u.f2) ∧ ((∃ u ∈ l, u.f1 = k) → ∃ u ∈ l, u.f1 = k ∧ lastA l k = u.f2) := by
  have : ∀ (l : List S35) (a : Int), (l.foldl (fun a t => if t.f1 = k then t.f2 else a) a = a ∨ ∃ u ∈ l, u.f1 = k ∧ l.foldl (fun a t => if t.f1 = k then t.f2 else a) a = u.f2) ∧ ((∃ u ∈ l, u.f1 = k) → ∃ u ∈ l, u.f1 = k ∧ l.foldl (fun a t => if t.f1 = k then t.f2 else a) a = u.f2) := by
    intro l
    induction l with
    | nil => intro a; exact ⟨.inl rfl, fun ⟨u, hu, _⟩ => by cases hu⟩
    | cons t l ih =>
      intro a
      rw [List.foldl_cons]
      by_cases h : t.f1 = k
      · rw [if_pos h]
        obtain ⟨h1, h2⟩ := ih t.f2
        have h3 : ∃ u ∈ t :: l, u.f1 = k ∧ l.foldl (fun a t => if t.f1 = k then t.f2 else a) t.f2 = u.f2 := by
          rcases h1 with h1 | ⟨u, hu, hk, he⟩
          · exact ⟨t, by simp, h, h1⟩
          · exact ⟨u, by simp [hu], hk, he⟩
        exact ⟨.inr h3, fun _ => h3⟩
      · rw [if_neg h]
        obtain ⟨h1, h2⟩ := ih a
        refine ⟨?_, fun ⟨u, hu, hk⟩ => ?_⟩
        · rcases h1 with h1 | ⟨u, hu, hk, he⟩
          · exact .inl h1
          · exact .inr ⟨u, by simp [hu], hk, he⟩
        · rcases List.mem_cons.1 hu with rfl | hu
          · exact absurd hk h
          · obtain ⟨u, hu, hk, he⟩ := h2 ⟨u, hu, hk⟩
            exact ⟨u, by simp [hu], hk, he⟩
  exact this l 0
theorem place_first {l : List S35} {i : Nat} (hi : i < l.length) : placeB l l[i].f0 = (i : Int) ↔ ∀ u ∈ l.take i, u.f0 ≠ l[i].f0 := by
  constructor
  · intro h u hu he
    obtain ⟨j, hj, rfl⟩ := List.getElem_of_mem hu
    rw [List.length_take] at hj
    rw [List.getElem_take] at he
    unfold placeB idxB at h
    split at h
    · have h2 : l.findIdx (fun t => decide (t.f0 = l[i].f0)) = i := by omega
      have := ((List.findIdx_eq hi).1 h2).2 j (by omega)
      rw [decide_eq_true he] at this
      cases this
    · omega
  · intro h
    refine idxB_at hi (decide_eq_true rfl) fun j hj => decide_eq_false fun e => ?_
    exact h l[j] (by
      rw [List.mem_take_iff_getElem]
      exact ⟨j, by omega, rfl⟩) e
theorem tokB_iff {t : S35} : tokB t = true ↔ Nm t.f0 = true ∧ 0 ≤ t.f1 ∧ t.f1 ≤ 8 ∧ (t.f1 = 0 → t.f2 = 0) ∧ (0 < t.f1 → 1 ≤ t.f2 ∧ t.f2 ≤ 3) := by
  unfold tokB
  rw [Bool.and_eq_true]
  by_cases h : t.f1 = 0
  · rw [if_pos h, decide_eq_true_eq]
    constructor
    · rintro ⟨a, b⟩; exact ⟨a, by omega, by omega, fun _ => b, fun _ => by omega⟩
    · rintro ⟨a, _, _, b, _⟩; exact ⟨a, b h⟩
  · rw [if_neg h]
    simp only [Bool.and_eq_true, decide_eq_true_eq]
    constructor
    · rintro ⟨a, ⟨⟨b, c⟩, d⟩, e⟩; exact ⟨a, by omega, c, fun _ => by omega, fun _ => ⟨d, e⟩⟩
    · rintro ⟨a, b, c, _, d⟩
      have := d (by omega)
      exact ⟨a, ⟨⟨by omega, c⟩, this.1⟩, this.2⟩
theorem newB_iff {l : List S35} {i : Nat} {t : S35} : newB l i t = true ↔ tokB t = true ∧ ∀ u ∈ l.take i, u.f0 ≠ t.f0 ∧ (u.f1 = t.f1 → u.f2 = t.f2) := by
  unfold newB
  rw [Bool.and_eq_true, Bool.not_eq_true', List.any_eq_false]
  refine and_congr Iff.rfl (forall_congr' fun u => forall_congr' fun hu => ?_)
  unfold likeB
  simp only [Bool.or_eq_true, Bool.and_eq_true, decide_eq_true_eq, Bool.not_eq_true', decide_eq_false_iff_not, not_or, not_and, Decidable.not_not]
theorem rnewB_iff {l : List S35} {i : Nat} (hi : i < l.length) : rnewB l i l[i] = true ↔ tokB l[i] = true ∧ (∀ u ∈ l.take i, u.f0 ≠ l[i].f0) ∧ (0 < l[i].f1 → lastA (l.take i) l[i].f1 = 0 ∨ lastA (l.take i) l[i].f1 = l[i].f2) := by
  rw [tokB_iff, ← place_first hi]
  unfold rnewB basicB fitB
  simp only [Bool.or_eq_true, Bool.and_eq_true, decide_eq_true_eq, Bool.not_eq_true', decide_eq_false_iff_not]
  constructor
  · rintro ⟨⟨⟨⟨⟨⟨a, b⟩, c⟩, d⟩, e⟩, f⟩, g⟩
    exact ⟨⟨a, c, d, fun h => by omega, fun h => by omega⟩, b, fun h => by omega⟩
  · rintro ⟨⟨a, c, d, e, f⟩, b, g⟩
    refine ⟨⟨⟨⟨⟨⟨a, b⟩, c⟩, d⟩, ?_⟩, ?_⟩, ?_⟩
    · by_cases h : l[i].f1 = 0
      · exact .inr (e h)
      · exact .inl h
    · by_cases h : 0 < l[i].f1
      · exact .inr (f h)
      · exact .inl h
    · by_cases h : 0 < l[i].f1
      · have := g h
        omega
      · omega
theorem news_pair {l : List S35} {i : Nat} (h : ∀ j (h : j < l.length), j < i → newB l j l[j] = true) : ∀ u ∈ l.take i, ∀ v ∈ l.take i, tokB u = true ∧ (u.f1 = v.f1 → u.f2 = v.f2) := by
  intro u hu v hv
  obtain ⟨a, ha, rfl⟩ := List.mem_take_iff_getElem.1 hu
  obtain ⟨b, hb, rfl⟩ := List.mem_take_iff_getElem.1 hv
  have h1 := newB_iff.1 (h a (by omega) (by omega))
  have h2 := newB_iff.1 (h b (by omega) (by omega))
  refine ⟨h1.1, fun e => ?_⟩
  rcases Nat.lt_trichotomy a b with hab | hab | hab
  · exact (h2.2 l[a] (List.mem_take_iff_getElem.2 ⟨a, by omega, rfl⟩)).2 e
  · subst hab; rfl
  · exact ((h1.2 l[b] (List.mem_take_iff_getElem.2 ⟨b, by omega, rfl⟩)).2 e.symm).symm
theorem new_rnew {l : List S35} {i : Nat} (hi : i < l.length) (h : ∀ j (h : j < l.length), j < i → newB l j l[j] = true) : newB l i l[i] = true ↔ rnewB l i l[i] = true := by
  rw [newB_iff, rnewB_iff hi]
  refine and_congr_right fun htk => ?_
  constructor
  · intro h1
    refine ⟨fun u hu => (h1 u hu).1, fun h0 => ?_⟩
    rcases (lastA_mem (l.take i) l[i].f1).1 with h2 | ⟨u, hu, hk, he⟩
    · exact .inl h2
    · exact .inr (he.trans ((h1 u hu).2 hk))
  · rintro ⟨h1, h2⟩ u hu
    refine ⟨h1 u hu, fun e => ?_⟩
    have hp := news_pair h
    have ht := tokB_iff.1 (hp u hu u hu).1
    by_cases h0 : 0 < l[i].f1
    · obtain ⟨v, hv, hk, he⟩ := (lastA_mem (l.take i) l[i].f1).2 ⟨u, hu, e⟩
      have hv2 := tokB_iff.1 (hp v hv v hv).1
      have h3 := hv2.2.2.2.2 (by omega)
      have h4 := h2 h0
      rw [(hp u hu v hv).2 (e.trans hk.symm)]
      omega
    · have h3 := tokB_iff.1 htk
      have h5 : l[i].f1 = 0 := by omega
      rw [ht.2.2.2.1 (by omega), h3.2.2.2.1 h5]
theorem news_eq (l : List S35) : rnewsB l = newsB l := by
  rw [Bool.eq_iff_iff, rnewsB_iff, newsB_iff]
  constructor
  · intro h
    have : ∀ n i (hi : i < l.length), i < n → newB l i l[i] = true := by
      intro n
      induction n with
      | zero => intro i hi hn; omega
      | succ n ih => exact fun i hi hn => (new_rnew hi fun j hj hji => ih j hj (by omega)).2 (h i hi)
    exact fun i hi => this (i + 1) i hi (by omega)
  · exact fun h i hi => (new_rnew hi fun j hj _ => h j hj).1 (h i hi)
theorem levels_eq {l : List S35} (h : newsB l = true) : rlevelsB l = levelsB l := by
  unfold rlevelsB levelsB
  refine List.all_congr rfl fun k => ?_
  rw [Bool.eq_iff_iff, Bool.not_eq_true', Bool.not_eq_true', decide_eq_false_iff_not, List.isEmpty_eq_false_iff_exists_mem]
  have htk : ∀ t ∈ l, tokB t = true := by
    intro t ht
    obtain ⟨j, hj, rfl⟩ := List.getElem_of_mem ht
    exact (newB_iff.1 (newsB_iff.1 h j hj)).1
  constructor
  · intro h0
    rcases (lastA_mem l ((k : Int) + 1)).1 with h1 | ⟨u, hu, hk, he⟩
    · exact absurd h1 h0
    · refine ⟨u, ?_⟩
      unfold keepB offB
      rw [List.mem_filter, hk]
      exact ⟨hu, by simp⟩
  · rintro ⟨u, hu⟩ h0
    obtain ⟨hu1, hu2⟩ := keep_mem hu
    obtain ⟨v, hv, hk, he⟩ := (lastA_mem l ((k : Int) + 1)).2 ⟨u, hu1, hu2⟩
    have := (tokB_iff.1 (htk v hv)).2.2.2.2 (by omega)
    omega
theorem may_eq (l : List S35) (st : ByteArray) (ex : Int) (rs : List S39) : rmayB l st ex rs = mayB l st ex rs := by
  unfold rmayB rheadB mayB tokensB
  rw [news_eq]
  cases h : newsB l with
  | false => simp
  | true =>
    rw [levels_eq h]
    cases levelsB l <;> cases rs.any ruleBad <;> cases decide (rs.length ≤ 100) <;> cases orB st <;> cases decide (0 ≤ ex) <;> cases decide (ex ≤ 9999) <;> cases decide (l.length ≤ 40) <;> rfl
end Go.Proofs.YteonnadhdmcloaaDoor.G
namespace Go.Proofs.YteonnadhdmcloaaDoor.G
open Go.RowKit Go.Proofs.YteonnadhdmcloaaDoorW.PrintWords Go.Proofs.YteonnadhdmcloaaDoorW.PrintLast Go.Proofs.YteonnadhdmcloaaDoorW.PrintMore
set_option linter.unusedVariables false
set_option linter.unusedSimpArgs false
theorem digit_step (k n : Nat) (s : ByteArray) (hn : n ≤ 100000) (hs : s.size ≤ 200000) : donatusref4_Digits.l0 (k + 1) (n : Int) s = if n < 10 then some (strOfNums [((48 + n % 10 : Nat) : Int)] ++ s) else donatusref4_Digits.l0 k ((n / 10 : Nat) : Int) (strOfNums [((48 + n % 10 : Nat) : Int)] ++ s) := by
  have e1 : Int.tmod (n : Int) 10 = ((n % 10 : Nat) : Int) := by rw [Int.tmod_eq_emod_of_nonneg (by omega)]; omega
  have e2 : Int.tdiv (n : Int) 10 = ((n / 10 : Nat) : Int) := by rw [Int.tdiv_eq_ediv_of_nonneg (by omega)]; omega
  have e3 : wrap64 (48 + ((n % 10 : Nat) : Int)) % 256 = ((48 + n % 10 : Nat) : Int) := by unfold wrap64; omega
  have e4 : wrap64 ((n / 10 : Nat) : Int) = ((n / 10 : Nat) : Int) := by unfold wrap64; omega
  rw [donatusref4_Digits.l0]
  simp only [Option.bind_some, strOfNums_size, List.length_cons, List.length_nil, e1, e2, e3, e4]
  rw [if_pos (by omega)]
  by_cases h : n < 10
  · rw [if_pos h, if_pos (by omega)]
  · rw [if_neg h, if_neg (by omega)]
theorem digits_from (n : Nat) : ∀ (k : Nat) (s : ByteArray), n < k → n ≤ 100000 → s.size + n ≤ 200000 → ∃ t, donatusref4_Digits.l0 k (n : Int) s = some t ∧ t.data.toList = Lib.decDigits n ++ s.data.toList := by
  induction n using Nat.strongRecOn with
  | ind n ih =>
    intro k s hk hn hs
    obtain ⟨k, rfl⟩ : ∃ j, k = j + 1 := ⟨k - 1, by omega⟩
    rw [digit_step k n s hn (by omega)]
    have hd : (strOfNums [((48 + n % 10 : Nat) : Int)] ++ s).data.toList = UInt8.ofNat (48 + n % 10) :: s.data.toList := by
      rw [ByteArray.data_append, Array.toList_append, strOfNums_data]
      rfl
    by_cases h : n < 10
    · rw [if_pos h]
      refine ⟨_, rfl, ?_⟩
      rw [hd, Lib.decDigits_one h, Nat.mod_eq_of_lt h]
      rfl
    · rw [if_neg h]
      obtain ⟨t, ht, hl⟩ := ih (n / 10) (by omega) k (strOfNums [((48 + n % 10 : Nat) : Int)] ++ s) (by omega) (by omega) (by rw [ByteArray.size_append, strOfNums_size]; simp only [List.length_cons, List.length_nil]; omega)
      refine ⟨t, ht, ?_⟩
      rw [hl, hd]
      conv => rhs; rw [Lib.decDigits, dif_neg h]
      simp
theorem rdigits_calls (ex : Int) (h0 : 0 ≤ ex) (h1 : ex ≤ 9999) (w : World) : Calls Tryd.prog 32 #[.int .i64 ex] w fun e w' => e = .returned (.string (mkS (Lib.itoa ex))) ∧ Below w.heap.size w w' := by
  obtain ⟨n, rfl⟩ : ∃ n : Nat, ex = (n : Int) := ⟨ex.toNat, by omega⟩
  obtain ⟨t, ht, hl⟩ := digits_from n (n + 1) ⟨#[]⟩ (by omega) (by omega) (by show 0 + n ≤ 200000; omega)
  have e : t = mkS (Lib.itoa (n : Int)) := by
    rw [Lib.itoa_nonneg]
    cases t
    unfold mkS
    congr
    exact Array.toList_inj.1 (by simpa using hl)
  rw [e] at ht
  exact donatusref4_Digits.calls (n + 1) (n : Int) _ w ht
def spc (xs : List ByteArray) : List UInt8 := xs.flatMap fun x => 32 :: x.data.toList
theorem spc_snoc (xs : List ByteArray) (x : ByteArray) : spc (xs ++ [x]) = spc xs ++ 32 :: x.data.toList := by
  unfold spc
  rw [List.flatMap_append]
  simp
theorem words_cons (x : ByteArray) (xs : List ByteArray) : wordsL (x :: xs) = x.data.toList ++ spc xs := by
  unfold wordsL spc
  rw [List.map_cons, Lib.join_cons]
  unfold Lib.joinTail
  rw [List.map_map, ← List.flatMap_def]
  rfl
def levW (k : List S35) : List UInt8 := match k with | [] => [] | t :: _ => (kindS t.f2).data.toList ++ spc (k.map (·.f0))
theorem levW_nil {k : List S35} (h : k = []) : levW k = [] := by rw [h]; rfl
theorem levW_snoc {k : List S35} (h : k ≠ []) (t : S35) : levW (k ++ [t]) = levW k ++ 32 :: t.f0.data.toList := by
  cases k with
  | nil => exact absurd rfl h
  | cons u r =>
    show (kindS u.f2).data.toList ++ spc (((u :: r) ++ [t]).map (·.f0)) = (kindS u.f2).data.toList ++ spc ((u :: r).map (·.f0)) ++ 32 :: t.f0.data.toList
    rw [List.map_append, show [t].map (·.f0) = [t.f0] from rfl, spc_snoc, List.append_assoc]
theorem levW_one (t : S35) : levW [t] = (kindS t.f2).data.toList ++ 32 :: t.f0.data.toList := by
  show (kindS t.f2).data.toList ++ spc [t.f0] = _
  simp [spc]
theorem levL_levW {k : List S35} (h : k ≠ []) : levL k = levW k ++ [10] := by
  cases k with
  | nil => exact absurd rfl h
  | cons u r =>
    show namedL (kindS u.f2) (u :: r) = _
    unfold namedL
    rw [if_neg (by simp)]
    unfold lineL
    rw [words_cons]
    rfl
theorem named_spc {key : ByteArray} {l : List S35} (h : l.length ≠ 0) : namedL key l = key.data.toList ++ spc (l.map (·.f0)) ++ [10] := by
  unfold namedL
  rw [if_neg h]
  unfold lineL
  rw [words_cons]
theorem rule_spc (r : S39) : lineL (ruleW r) = r.f0.data.toList ++ [32, 58] ++ spc r.f1 ++ (if r.f2.data.toList = [] then [] else [32, 37, 112, 114, 101, 99, 32] ++ r.f2.data.toList) ++ [32, 59, 10] := by
  unfold lineL ruleW
  rw [show [r.f0, sColon] ++ r.f1 ++ (if r.f2.data.toList = [] then [] else [sPrec, r.f2]) ++ [sSemi] = r.f0 :: (sColon :: (r.f1 ++ (if r.f2.data.toList = [] then [] else [sPrec, r.f2]) ++ [sSemi])) from by simp, words_cons]
  split <;> simp [spc, sColon, sSemi, sPrec]
end Go.Proofs.YteonnadhdmcloaaDoor.G
namespace Go.Proofs.YteonnadhdmcloaaDoor.G
open Go.RowKit Go.Proofs.YteonnadhdmcloaaDoorW.PrintWords Go.Proofs.YteonnadhdmcloaaDoorW.PrintLast Go.Proofs.YteonnadhdmcloaaDoorW.PrintMore
set_option linter.unusedVariables false
set_option linter.unusedSimpArgs false
theorem spc_len {m : Nat} : ∀ xs : List ByteArray, (∀ x ∈ xs, x.data.toList.length ≤ m) → (spc xs).length ≤ xs.length * (m + 1) := by
  intro xs
  induction xs with
  | nil => intro _; simp [spc]
  | cons x xs ih =>
    intro h
    have h1 := h x (by simp)
    have h2 := ih fun y hy => h y (by simp [hy])
    show (32 :: x.data.toList ++ spc xs).length ≤ (xs.length + 1) * (m + 1)
    rw [Nat.add_mul, List.length_append, List.length_cons]
    omega
theorem levW_len {k : List S35} (hl : k.length ≤ 40) (h : ∀ t ∈ k, tokB t = true) : (levW k).length ≤ 534 := by
  cases k with
  | nil => simp [levW]
  | cons t r =>
    have h1 := spc_len (m := 12) ((t :: r).map (·.f0)) (by
      intro x hx
      obtain ⟨u, hu, rfl⟩ := List.mem_map.1 hx
      exact (nm_len (tok_nm (h u hu))).2)
    have h2 := kind_len t.f2
    show ((kindS t.f2).data.toList ++ spc ((t :: r).map (·.f0))).length ≤ 534
    rw [List.length_append]
    rw [List.length_map] at h1
    have h3 := Nat.mul_le_mul_right 13 hl
    omega
theorem kind_pos {a : Int} (h : a = 1 ∨ a = 2 ∨ a = 3) : 1 ≤ (kindS a).data.toList.length := by
  rcases h with rfl | rfl | rfl <;> decide
/-- The first loop: a line of names. -/
def R1Rel (l : List S35) (w : World) (X : Nat) (a b c d : Value) (kq : Nat) (v3 v4 : Value) (w' : World) : Prop :=
  ∃ (i : Nat) (s : ByteArray), i + kq = l.length ∧ v4 = .int .i64 (i : Int) ∧ v3 = .string s ∧ s.data.toList = sTok.data.toList ++ spc ((l.take i).map (·.f0)) ∧ Below w.heap.size w w' ∧ Box4 w' X a b c d
def R2Rel (l : List S35) (w : World) (X : Nat) (a b c d : Value) (kq : Nat) (v3 v5 : Value) (w' : World) : Prop :=
  ∃ (j : Nat) (s : ByteArray), j + kq = 8 ∧ v5 = .int .i64 ((j : Int) + 1) ∧ v3 = .string s ∧ s.data.toList = namedL sTok l ++ levelsL l j ∧ Below w.heap.size w w' ∧ Box4 w' X a b c d
def R3Rel (l : List S35) (n : Int) (w : World) (X : Nat) (a b c d : Value) (kq : Nat) (v6 v7 : Value) (w' : World) : Prop :=
  ∃ (i : Nat) (s : ByteArray), i + kq = l.length ∧ v7 = .int .i64 (i : Int) ∧ v6 = .string s ∧ s.data.toList = levW (keepB n (l.take i)) ∧ Below w.heap.size w w' ∧ Box4 w' X a b c d
def R4Rel (l : List S35) (st : ByteArray) (ex : Int) (rs : List S39) (w : World) (X : Nat) (a b c d : Value) (kq : Nat) (v3 v8 : Value) (w' : World) : Prop :=
  ∃ (i : Nat) (s : ByteArray), i + kq = rs.length ∧ v8 = .int .i64 (i : Int) ∧ v3 = .string s ∧ s.data.toList = headL l st ex ++ rulesL (rs.take i) ∧ Below w.heap.size w w' ∧ Box4 w' X a b c d
def R5Rel (L : List UInt8) (xs : List ByteArray) (W : World) (kq : Nat) (v3 v10 : Value) (w' : World) : Prop :=
  ∃ (k : Nat) (s : ByteArray), k + kq = xs.length ∧ v10 = .int .i64 (k : Int) ∧ v3 = .string s ∧ s.data.toList = L ++ spc (xs.take k) ∧ Below W.heap.size W w'
set_option maxHeartbeats 16000000 in
set_option maxRecDepth 100000 in
theorem rtext_calls (w : World) (A : Option Addr) (c : Nat) (l : List S35) (st : ByteArray) (ex : Int) (A2 : Option Addr) (c2 : Nat) (rs : List S39) (hr : Kd.C k35 w A l.length l) (hcl : l.length ≤ c) (hl : l.length ≤ 100000) (hr2 : Kd.C k39 w A2 rs.length rs) (hc2 : rs.length ≤ c2) (hl2 : rs.length ≤ 100000)
    (hst : st.size ≤ 1000) (hnm : ∀ t ∈ l, t.f0.size ≤ 1000) (hrs : ∀ r ∈ rs, r.f0.size ≤ 1000 ∧ r.f2.size ≤ 1000 ∧ r.f1.length ≤ 100000 ∧ ∀ s ∈ r.f1, s.size ≤ 1000) :
    Calls Tryd.prog 13 #[.agg #[.slice A l.length c, .string st, .int .i64 ex, .slice A2 rs.length c2]] w fun e w' => e = .returned (.string (mkS (textL l st ex rs))) ∧ Below w.heap.size w w' := by
  have HX := Aside0.mk (Box4.new w (.slice A l.length c) (.string st) (.int .i64 ex) (.slice A2 rs.length c2) 25)
  have HB := Aside0.mk (below_alloc (Below.refl w.heap.size w) (.cells #[.slice A l.length c, .string st, .int .i64 ex, .slice A2 rs.length c2] 25))
  have HMC := Aside0.mk (rmay_calls (w.alloc (.cells #[.slice A l.length c, .string st, .int .i64 ex, .slice A2 rs.length c2] 25)) A c l st ex A2 c2 rs (Kd.C_below hr HB.out) hcl hl (Kd.C_below hr2 HB.out) hc2 hl2 hst hnm hrs)
  rw [may_eq] at HMC
  have HR := Aside0.mk hr
  have HR2 := Aside0.mk hr2
  clear hr hr2 hnm hrs
  obtain ⟨b1, hb1⟩ : ∃ b, mayB l st ex rs = b := ⟨_, rfl⟩
  rw [hb1] at HMC
  have HE1 := Aside0.mk hb1
  clear hb1
  go_enter Tryd.func13, Tryd.ntmps13
  have x0 := HX.out.c0
  have x1 := HX.out.c1
  have x2 := HX.out.c2
  have x3 := HX.out.c3
  go_wp2_with fail
  clear x0 x1 x2 x3
  obtain ⟨X, hX⟩ : ∃ X, X = w.heap.size := ⟨_, rfl⟩
  rw [← hX] at HX
  generalize hW1 : w.alloc (.cells #[.slice A l.length c, .string st, .int .i64 ex, .slice A2 rs.length c2] 25) = W1 at *
  rw [← hX]
  have HXE := Aside0.mk hX
  clear hW1 hX
  go_at_call 11
  refine HMC.out.mono ?_
  rintro e w1 ⟨rfl, hd⟩
  have HX1 := Aside0.mk (HX.out.move hd HX.out.lt)
  have HB1 := Aside0.mk (HB.out.trans (hd.mono HB.out.size))
  clear hd HX HB HMC
  cases b1 with
  | false =>
    go_wp2_with fail
    go_ret
    exact ⟨ret_str (by unfold textL; rw [HE1.out]; rfl), HB1.out⟩
  | true =>
    obtain ⟨hm1, hm2, hm3, hm4, hm5, hm6⟩ := may_parts HE1.out
    have hl40 := (tokens_parts hm6).2.2
    have htk := tokens_tok hm6
    have x0 := HX1.out.c0
    have HTK := Aside0.mk htk
    have HM1 := Aside0.mk hm1
    have HM3 := Aside0.mk hm3
    have HTX : Aside0 (textL l st ex rs = headL l st ex ++ rulesL rs) := ⟨by unfold textL; rw [HE1.out]; rfl⟩
    have HNW := Aside0.mk (named_words (key := sTok) (by decide) hl40 htk)
    clear hm1 hm3 hm6 htk
    go_upto_if 17 with fail
    go_cut [3] (fun v3 wx => SRel (namedL sTok l) w X (.slice A l.length c) (.string st) (.int .i64 ex) (.slice A2 rs.length c2) v3 wx)
    case first =>
      by_cases h0 : l.length = 0
      · have HN0 : Aside0 (namedL sTok l = []) := ⟨by unfold namedL; rw [if_pos h0]⟩
        have t2 : decide (0 < l.length) = false := decide_eq_false (by omega)
        rw [t2]
        clear t2 h0
        go_wp2_with fail
        go_meet
        exact ⟨_, rfl, by rw [HN0.out], HB1.out, HX1.out⟩
      · have HN0 := Aside0.mk (named_spc (key := sTok) h0)
        have t2 : decide (0 < l.length) = true := decide_eq_true (by omega)
        rw [t2]
        clear t2 h0
        go_wp2_with fail
        clear x0
        go_loopg [3, 4] l.length (fun kq v3 v4 w' => R1Rel l w X (.slice A l.length c) (.string st) (.int .i64 ex) (.slice A2 rs.length c2) kq v3 v4 w')
        case atStart => exact ⟨0, _, by omega, rfl, rfl, by simp [spc, sTok], HB1.out, HX1.out⟩
        case round =>
          obtain ⟨i, s, hi, rfl, rfl, hs, hb, hx⟩ := hrel
          clear HX1 HB1
          have HI := Aside0.mk hi
          have HSL := Aside0.mk hs
          have HB1 := Aside0.mk hb
          have HX1 := Aside0.mk hx
          have x0 := hx.c0
          clear hi hs hb hx
          have hsz : s.size ≤ 1000 := by
            have h1 := spc_len (m := 12) ((l.take i).map (·.f0)) (by
              intro x hx
              obtain ⟨u, hu, rfl⟩ := List.mem_map.1 hx
              exact (nm_len (tok_nm (HTK.out u (List.mem_of_mem_take hu)))).2)
            rw [List.length_map, List.length_take] at h1
            have h2 := Nat.mul_le_mul_right 13 (show min i l.length ≤ 40 by omega)
            have h3 : sTok.data.toList.length = 6 := rfl
            rw [size_of, HSL.out, List.length_append]
            omega
          by_cases hil : i < l.length
          · have t1 : decide ((i : Int) < (l.length : Int)) = true := by simp; omega
            obtain ⟨ad, e1, y0, y1, y2⟩ := at_tok (Kd.C_below HR.out HB1.out) i hil rfl
            subst e1
            have hts := (nm_len (tok_nm (HTK.out l[i] (List.getElem_mem hil)))).2
            rw [← size_of] at hts
            have HTS : Aside0 (spc ((l.take (i + 1)).map (·.f0)) = spc ((l.take i).map (·.f0)) ++ 32 :: l[i].f0.data.toList) := ⟨by rw [List.take_succ_eq_append_getElem hil, List.map_append, show [l[i]].map (·.f0) = [l[i].f0] from rfl, spc_snoc]⟩
            go_wp2_with fail
            go_roundg (gk - 1)
            case measure => have := HI.out; omega
            case rel => exact ⟨i + 1, s ++ (⟨#[32]⟩ ++ l[i].f0), by have := HI.out; omega, by go_num, rfl, by rw [HTS.out, ← List.append_assoc, ← HSL.out]; simp, HB1.out, HX1.out⟩
          · have hi2 : i = l.length := by have := HI.out; omega
            subst hi2
            have t1 : decide ((l.length : Int) < (l.length : Int)) = false := by simp
            rw [List.take_length] at HSL
            go_wp2_with fail
            go_meet
            exact ⟨s ++ ⟨#[10]⟩, rfl, by rw [HN0.out, ← HSL.out]; simp, HB1.out, HX1.out⟩
    case rest =>
      obtain ⟨s0, rfl, hs0, hb, hx⟩ := hcut
      clear HX1 HB1 x0
      have HS0 := Aside0.mk hs0
      have HB1 := Aside0.mk hb
      have HX1 := Aside0.mk hx
      clear hs0 hb hx
      go_wp2_with fail
      go_loopg [3, 5] 8 (fun kq v3 v5 w' => R2Rel l w X (.slice A l.length c) (.string st) (.int .i64 ex) (.slice A2 rs.length c2) kq v3 v5 w')
      case atStart => exact ⟨0, s0, by omega, rfl, rfl, by rw [HS0.out]; simp [levelsL], HB1.out, HX1.out⟩
      case round =>
        obtain ⟨j, s, hj, rfl, rfl, hs, hb, hx⟩ := hrel
        clear HX1 HB1 HS0
        have HJ := Aside0.mk hj
        have HSL := Aside0.mk hs
        have HB1 := Aside0.mk hb
        have HX1 := Aside0.mk hx
        clear hj hs hb hx
        have hsz : s.size ≤ 10000 := by
          have h1 := levels_len hl40 HTK.out j
          have h2 := HNW.out.2
          have h3 := congrArg List.length HSL.out
          have := HJ.out
          rw [List.length_append] at h3
          rw [size_of]
          omega
        by_cases hj8 : j < 8
        · have t1 : decide ((j : Int) + 1 ≤ 8) = true := by simp; omega
          obtain ⟨gko, hgko⟩ : ∃ g, g = gk := ⟨_, rfl⟩
          have HGK := Aside0.mk hgko
          have HLV := Aside0.mk (levelsL_succ l j)
          obtain ⟨nv, hnv⟩ : ∃ n : Int, n = (j : Int) + 1 := ⟨_, rfl⟩
          have HNV := Aside0.mk hnv
          rw [← hnv] at t1 HLV ⊢
          have hn0 : 0 < nv := by omega
          have hn8 : nv ≤ 8 := by omega
          clear hgko hnv
          go_wp2_with fail
          go_loopg [6, 7] l.length (fun kq v6 v7 w' => R3Rel l nv w X (.slice A l.length c) (.string st) (.int .i64 ex) (.slice A2 rs.length c2) kq v6 v7 w')
          case atStart => exact ⟨0, _, by omega, rfl, rfl, rfl, HB1.out, HX1.out⟩
          case round =>
            obtain ⟨i, ln, hi, rfl, rfl, hs, hb, hx⟩ := hrel
            clear HX1 HB1
            have HI := Aside0.mk hi
            have HLN := Aside0.mk hs
            have HB1 := Aside0.mk hb
            have HX1 := Aside0.mk hx
            have x0 := hx.c0
            clear hi hs hb hx
            have hlsz : ln.size ≤ 534 := by
              rw [size_of, HLN.out]
              refine levW_len ?_ fun t ht => HTK.out t (List.mem_of_mem_take (keep_mem ht).1)
              have h1 := keep_len nv (l.take i)
              rw [List.length_take] at h1
              omega
            by_cases hil : i < l.length
            · have t2 : decide ((i : Int) < (l.length : Int)) = true := by simp; omega
              obtain ⟨ad, e1, y0, y1, y2⟩ := at_tok (Kd.C_below HR.out HB1.out) i hil rfl
              subst e1
              have htb := HTK.out l[i] (List.getElem_mem hil)
              have hts := (nm_len (tok_nm htb)).2
              rw [← size_of] at hts
              have hks := keep_snoc (n := nv) hil
              have has := tok_assoc htb
              clear htb
              by_cases hlv : l[i].f1 = nv
              · have hof : offB nv l[i] = false := by unfold offB; rw [decide_eq_true hlv]; rfl
                rw [hof, if_neg (by decide)] at hks
                have HKS := Aside0.mk hks
                have t3 : (l[i].f1 == nv) = true := beq_iff_eq.2 hlv
                have has := has (by omega)
                clear hks hof hlv
                obtain ⟨kp, hkp⟩ : ∃ k, keepB nv (l.take i) = k := ⟨_, rfl⟩
                rw [hkp] at HLN HKS
                clear hkp
                by_cases hk0 : kp = []
                · have HL2 : Aside0 (levW (kp ++ [l[i]]) = (kindS l[i].f2).data.toList ++ 32 :: l[i].f0.data.toList) := ⟨by rw [hk0]; exact levW_one l[i]⟩
                  have hl0 : ln.data.toList = [] := by rw [HLN.out, hk0]; rfl
                  have hls : ln.size = 0 := by rw [size_of, hl0]; rfl
                  have HL0 := Aside0.mk hl0
                  obtain ⟨l2, hl2⟩ : ∃ u, u = ln ++ (⟨#[32]⟩ ++ l[i].f0) := ⟨_, rfl⟩
                  have HL3 := Aside0.mk (show l2.data.toList = 32 :: l[i].f0.data.toList by rw [hl2]; simp [hl0])
                  have hl2s : l2.size = l[i].f0.size + 1 := by rw [size_of, HL3.out, List.length_cons, ← size_of]
                  have t4 : ((l2.size : Int) == (l[i].f0.size : Int) + 1) = true := by rw [hl2s]; simp
                  have HLS := Aside0.mk hls
                  clear hk0 hl0 hls
                  have hbk := below_alloc (Below.refl wr.heap.size wr) (.cells #[.string ⟨#[]⟩, .string ⟨#[37, 108, 101, 102, 116]⟩, .string ⟨#[37, 114, 105, 103, 104, 116]⟩, .string ⟨#[37, 110, 111, 110, 97, 115, 115, 111, 99]⟩] 9)
                  have z0 := pw_cell_below hbk x0
                  have z2 := pw_cell_below hbk y2
                  have HX2 := Aside0.mk (HX1.out.move hbk HX1.out.lt)
                  have HB2 := Aside0.mk (HB1.out.trans (hbk.mono HB1.out.size))
                  have HKP := Aside0.mk (HKS.out.trans rfl)
                  clear hbk
                  go_upto_region 20 with fail
                  rw [← hl2]
                  have HL2D := Aside0.mk hl2
                  have hl2b : l2.size ≤ 600 := by omega
                  have HL2S := Aside0.mk hl2s
                  clear hl2 hl2s
                  have HLV2 := Aside0.mk (HL2.out)
                  generalize l[i].f2 = av at *
                  rcases has with rfl | rfl | rfl
                  · go_wp2_with fail
                    go_roundg (gk - 1)
                    case measure => have := HI.out; omega
                    case rel => exact ⟨i + 1, sLeft ++ l2, by have := HI.out; omega, by go_num, rfl, by rw [HKS.out, HLV2.out, ← HL3.out]; simp [kindS], HB2.out, HX2.out⟩
                  · go_wp2_with fail
                    go_roundg (gk - 1)
                    case measure => have := HI.out; omega
                    case rel => exact ⟨i + 1, sRight ++ l2, by have := HI.out; omega, by go_num, rfl, by rw [HKS.out, HLV2.out, ← HL3.out]; simp [kindS], HB2.out, HX2.out⟩
                  · go_wp2_with fail
                    go_roundg (gk - 1)
                    case measure => have := HI.out; omega
                    case rel => exact ⟨i + 1, sNon ++ l2, by have := HI.out; omega, by go_num, rfl, by rw [HKS.out, HLV2.out, ← HL3.out]; simp [kindS], HB2.out, HX2.out⟩
                · have HL2 := Aside0.mk (levW_snoc hk0 l[i])
                  have hpos : 1 ≤ ln.size := by
                    rw [size_of, HLN.out]
                    cases kp with
                    | nil => exact absurd rfl hk0
                    | cons u r =>
                      show 1 ≤ ((kindS u.f2).data.toList ++ spc ((u :: r).map (·.f0))).length
                      rw [List.length_append]
                      have : (spc ((u :: r).map (·.f0))).length ≥ 1 := by simp [spc]
                      omega
                  obtain ⟨l2, hl2⟩ : ∃ u, u = ln ++ (⟨#[32]⟩ ++ l[i].f0) := ⟨_, rfl⟩
                  have HL3 := Aside0.mk (show l2.data.toList = ln.data.toList ++ 32 :: l[i].f0.data.toList by rw [hl2]; simp)
                  have hl2s : l2.size = ln.size + (l[i].f0.size + 1) := by rw [size_of, HL3.out, List.length_append, List.length_cons, ← size_of, ← size_of]
                  have t4 : ((l2.size : Int) == (l[i].f0.size : Int) + 1) = false := beq_eq_false_iff_ne.2 (by omega)
                  clear hk0
                  go_upto_region 20 with fail
                  rw [← hl2]
                  have hl2b : l2.size ≤ 1200 := by omega
                  clear hl2 hl2s hpos
                  go_wp2_with fail
                  go_roundg (gk - 1)
                  case measure => have := HI.out; omega
                  case rel => exact ⟨i + 1, l2, by have := HI.out; omega, by go_num, rfl, by rw [HKS.out, HL2.out, HL3.out, HLN.out], HB1.out, HX1.out⟩
              · have hof : offB nv l[i] = true := by unfold offB; rw [decide_eq_false hlv]; rfl
                rw [hof, if_pos rfl, List.append_nil] at hks
                have HKS := Aside0.mk hks
                have t3 : (l[i].f1 == nv) = false := beq_eq_false_iff_ne.2 hlv
                clear hks hof hlv has
                go_wp2_with fail
                go_roundg (gk - 1)
                case measure => have := HI.out; omega
                case rel => exact ⟨i + 1, ln, by have := HI.out; omega, by go_num, rfl, by rw [HKS.out, HLN.out], HB1.out, HX1.out⟩
            · have hi2 : i = l.length := by have := HI.out; omega
              subst hi2
              have t2 : decide ((l.length : Int) < (l.length : Int)) = false := by simp
              rw [List.take_length] at HLN
              by_cases hk0 : keepB nv l = []
              · have hl0 : ln = ⟨#[]⟩ := by
                  have h2 : ln.data.toList = [] := by rw [HLN.out, hk0]; rfl
                  cases ln
                  congr
                  exact Array.toList_inj.1 h2
                have HLL : Aside0 (levL (keepB nv l) = []) := ⟨by rw [hk0]; rfl⟩
                subst hl0
                clear hk0
                go_wp2_with fail
                go_roundg (gko - 1)
                case measure => have := HJ.out; have := HGK.out; omega
                case rel => exact ⟨j + 1, s, by have := HJ.out; have := HGK.out; omega, by rw [HNV.out]; go_num, rfl, by rw [HLV.out, HSL.out, HLL.out]; simp, HB1.out, HX1.out⟩
              · have HLL := Aside0.mk (levL_levW hk0)
                have hln : ln.toList ≠ [] := by
                  rw [Lib.toList_data, HLN.out]
                  intro h
                  cases hk : keepB nv l with
                  | nil => exact hk0 hk
                  | cons u r =>
                    rw [hk] at h
                    have h2 : (kindS u.f2).data.toList ++ spc ((u :: r).map (·.f0)) = [] := h
                    simp [spc] at h2
                have t3 : (!ln.toList.isEmpty) = true := by simpa using hln
                clear hk0
                go_wp2_with fail
                go_roundg (gko - 1)
                case measure => have := HJ.out; have := HGK.out; omega
                case rel => exact ⟨j + 1, s ++ (ln ++ ⟨#[10]⟩), by have := HJ.out; have := HGK.out; omega, by rw [HNV.out]; go_num, rfl, by rw [HLV.out, HLL.out, ← HLN.out, ← List.append_assoc, ← HSL.out]; simp, HB1.out, HX1.out⟩
        · have hj2 : j = 8 := by have := HJ.out; omega
          subst hj2
          have t1 : decide ((8 : Nat) + 1 ≤ (8 : Int)) = false := by decide
          have x1 := HX1.out.c1
          go_upto_if 94 with fail
          go_cut [3] (fun v3 wx => SRel (namedL sTok l ++ levelsL l 8 ++ startL st) w X (.slice A l.length c) (.string st) (.int .i64 ex) (.slice A2 rs.length c2) v3 wx)
          case first =>
            by_cases hst0 : st.toList = []
            · have HST : Aside0 (startL st = []) := ⟨by unfold startL; rw [if_pos (by rw [← Lib.toList_data]; exact hst0)]⟩
              have t2 : (!st.toList.isEmpty) = false := by rw [hst0]; rfl
              rw [t2]
              clear t2 hst0
              go_wp2_with fail
              go_meet
              exact ⟨s, rfl, by rw [HST.out, HSL.out]; simp, HB1.out, HX1.out⟩
            · have HST : Aside0 (startL st = sStart.data.toList ++ 32 :: st.data.toList ++ [10]) := ⟨by unfold startL; rw [if_neg (by rw [← Lib.toList_data]; exact hst0)]; unfold lineL; rw [words_cons]; simp [spc]⟩
              have t2 : (!st.toList.isEmpty) = true := by simpa using hst0
              rw [t2]
              clear t2 hst0
              go_wp2_with fail
              go_meet
              exact ⟨_, rfl, by rw [HST.out, ← HSL.out]; simp [sStart], HB1.out, HX1.out⟩
          case rest =>
            obtain ⟨s2, rfl, hs2, hb, hx⟩ := hcut
            clear HB1 HX1 x1 hsz HSL hj8
            have HSL := Aside0.mk hs2
            have HB1 := Aside0.mk hb
            have HX1 := Aside0.mk hx
            have x2 := hx.c2
            clear hs2 hb hx
            have hsz : s2.size ≤ 11000 := by rw [size_of, HSL.out]; have := (head_len hl40 HTK.out HM3.out hm4 hm5).2.1; omega
            go_upto_if 103 with fail
            go_cut [3] (fun v3 wx => SRel (namedL sTok l ++ levelsL l 8 ++ startL st ++ expectL ex) w X (.slice A l.length c) (.string st) (.int .i64 ex) (.slice A2 rs.length c2) v3 wx)
            case first =>
              by_cases hex : 0 < ex
              · have HEX : Aside0 (expectL ex = sExpect.data.toList ++ 32 :: (mkS (Lib.itoa ex)).data.toList ++ [10]) := ⟨by unfold expectL; rw [if_pos hex]; unfold lineL; rw [words_cons]; simp [spc]⟩
                have t2 : decide (0 < ex) = true := decide_eq_true hex
                have HI2 := Aside0.mk (rdigits_calls ex hm4 hm5 wc)
                have hil := itoa_len hm4 hm5
                obtain ⟨it, hit⟩ : ∃ u, u = mkS (Lib.itoa ex) := ⟨_, rfl⟩
                rw [← hit] at HI2 HEX hil
                rw [← size_of] at hil
                rw [t2]
                clear t2 hex hit
                go_wp2_with fail
                go_at_call 32
                refine HI2.out.mono ?_
                rintro e w3 ⟨rfl, hd⟩
                have HX3 := Aside0.mk (HX1.out.move hd HX1.out.lt)
                have HB3 := Aside0.mk (HB1.out.trans (hd.mono HB1.out.size))
                clear hd HX1 HB1 HI2 x2
                go_wp2_with fail
                go_meet
                exact ⟨_, rfl, by rw [HEX.out, ← HSL.out]; simp [sExpect], HB3.out, HX3.out⟩
              · have HEX : Aside0 (expectL ex = []) := ⟨by unfold expectL; rw [if_neg hex]⟩
                have t2 : decide (0 < ex) = false := decide_eq_false hex
                rw [t2]
                clear t2 hex
                go_wp2_with fail
                go_meet
                exact ⟨s2, rfl, by rw [HEX.out, HSL.out]; simp, HB1.out, HX1.out⟩
            case rest =>
              obtain ⟨s3, rfl, hs3, hb, hx⟩ := hcut
              clear HB1 HX1 x2 hsz HSL
              have HSL := Aside0.mk hs3
              have HB1 := Aside0.mk hb
              have HX1 := Aside0.mk hx
              clear hs3 hb hx
              have hsz : s3.size ≤ 11000 := by rw [size_of, HSL.out]; have := (head_len hl40 HTK.out HM3.out hm4 hm5).2.2; omega
              have HHL := Aside0.mk (head_len hl40 HTK.out HM3.out hm4 hm5).1
              have HS4 : Aside0 ((s3 ++ ⟨#[37, 37, 10]⟩).data.toList = headL l st ex) := ⟨by unfold headL; rw [← HSL.out, show lineL [sCut] = [37, 37, 10] from rfl]; simp⟩
              go_wp2_with fail
              go_loopg [3, 8] rs.length (fun kq v3 v8 w' => R4Rel l st ex rs w X (.slice A l.length c) (.string st) (.int .i64 ex) (.slice A2 rs.length c2) kq v3 v8 w')
              case atStart => exact ⟨0, _, by omega, rfl, rfl, by rw [HS4.out]; simp [rulesL], HB1.out, HX1.out⟩
              case round =>
                obtain ⟨i, s, hi, rfl, rfl, hs, hb, hx⟩ := hrel
                clear HX1 HB1 HS4 hsz HSL
                have HI := Aside0.mk hi
                have HSL := Aside0.mk hs
                have HB2 := Aside0.mk hb
                have HX2 := Aside0.mk hx
                have x3 := hx.c3
                clear hi hs hb hx
                have hsz : s.size ≤ 40000 := by
                  have h1 := rules_len (rs := rs.take i) (by
                    rw [List.any_eq_false]
                    intro r hr
                    exact List.any_eq_false.1 HM1.out r (List.mem_of_mem_take hr))
                  have h2 := HHL.out
                  have h3 : (rs.take i).length ≤ 100 := by rw [List.length_take]; omega
                  rw [size_of, HSL.out, List.length_append]
                  omega
                by_cases hil : i < rs.length
                · have t1 : decide ((i : Int) < (rs.length : Int)) = true := by simp; omega
                  obtain ⟨ad, A1, c1, e1, y0, y1, y2, l1, g1⟩ := at_rule (Kd.C_below HR2.out HB2.out) i hil rfl
                  subst e1
                  have hrb : ruleBad rs[i] = false := by simpa using List.any_eq_false.1 HM1.out rs[i] (List.getElem_mem hil)
                  obtain ⟨hp1, hp2, hp3, hp4⟩ := rule_parts hrb
                  have hsn := rulesL_snoc hil
                  rw [rule_spc] at hsn
                  have HV := Aside0.mk (RBox.new wr rs[i] A1 c1)
                  have hbv := below_alloc (Below.refl wr.heap.size wr) (.cells #[.string rs[i].f0, .slice A1 rs[i].f1.length c1, .string rs[i].f2] 39)
                  have HG := Aside0.mk (Kd.C_below g1 hbv)
                  have HBV := Aside0.mk hbv
                  have HSN := Aside0.mk hsn
                  have HP4 := Aside0.mk hp4
                  have hn0 := (nm_len hp1).2
                  have hn2 := or_len hp2
                  rw [← size_of] at hn0 hn2
                  clear hrb hp1 hp2 hp4 hsn g1 hbv
                  obtain ⟨gko, hgko⟩ : ∃ g, g = gk := ⟨_, rfl⟩
                  have HGK := Aside0.mk hgko
                  clear hgko
                  go_upto_region 33 with fail
                  generalize hW1 : wr.alloc (.cells #[.string rs[i].f0, .slice A1 rs[i].f1.length c1, .string rs[i].f2] 39) = W1 at *
                  obtain ⟨T, hT2⟩ : ∃ T, T = wr.heap.size := ⟨_, rfl⟩
                  rw [← hT2] at HV
                  rw [← hT2]
                  have HTE := Aside0.mk hT2
                  clear hW1 y0 y1 y2 hT2 x3
                  generalize rs[i] = r at *
                  have z0 := HV.out.c0
                  have HW := Aside0.mk (Below.refl W1.heap.size W1)
                  have hl21 : r.f1.length ≤ 20 := hp3
                  go_wp2_with fail
                  go_loopg [3, 10] r.f1.length (fun kq v3 v10 w' => R5Rel (s.data.toList ++ r.f0.data.toList ++ [32, 58]) r.f1 W1 kq v3 v10 w')
                  case atStart => exact ⟨0, _, by omega, rfl, rfl, by simp [spc], HW.out⟩
                  case round =>
                    obtain ⟨k, u, hk, rfl, rfl, hu, hb⟩ := hrel
                    clear HW z0
                    have HK := Aside0.mk hk
                    have HU := Aside0.mk hu
                    have HB3 := Aside0.mk hb
                    have HV3 := Aside0.mk (HV.out.move hb)
                    clear hk hu hb
                    have z1 := HV3.out.c1
                    have husz : u.size ≤ 41000 := by
                      have h1 := spc_len (m := 12) (r.f1.take k) (fun x hx => (nm_len (HP4.out x (List.mem_of_mem_take hx))).2)
                      rw [List.length_take] at h1
                      have h2 := Nat.mul_le_mul_right 13 (show min k r.f1.length ≤ 20 by omega)
                      rw [size_of, HU.out]
                      simp only [List.length_append, List.length_cons, List.length_nil, ← size_of]
                      omega
                    by_cases hkl : k < r.f1.length
                    · have t2 : decide ((k : Int) < (r.f1.length : Int)) = true := by simp; omega
                      obtain ⟨bd, e1, q0⟩ := at_str (Kd.C_below HG.out HB3.out) k hkl rfl
                      subst e1
                      have hks := (nm_len (HP4.out r.f1[k] (List.getElem_mem hkl))).2
                      rw [← size_of] at hks
                      have HTS : Aside0 (spc (r.f1.take (k + 1)) = spc (r.f1.take k) ++ 32 :: r.f1[k].data.toList) := ⟨by rw [List.take_succ_eq_append_getElem hkl, spc_snoc]⟩
                      go_wp2_with fail
                      go_roundg (gk - 1)
                      case measure => have := HK.out; omega
                      case rel => exact ⟨k + 1, u ++ (⟨#[32]⟩ ++ r.f1[k]), by have := HK.out; omega, by go_num, rfl, by rw [HTS.out, ← List.append_assoc, ← HU.out]; simp, HB3.out⟩
                    · have hk2 : k = r.f1.length := by have := HK.out; omega
                      subst hk2
                      have t2 : decide ((r.f1.length : Int) < (r.f1.length : Int)) = false := by simp
                      rw [List.take_length] at HU
                      have HB5 := Aside0.mk (HB2.out.trans ((HBV.out.trans (HB3.out.mono HBV.out.size)).mono HB2.out.size))
                      have HX5 := Aside0.mk (HX2.out.move (HBV.out.trans (HB3.out.mono HBV.out.size)) HX2.out.lt)
                      have z2 := HV3.out.c2
                      by_cases hpc : r.f2.toList = []
                      · have HPC : Aside0 (r.f2.data.toList = []) := ⟨by rw [← Lib.toList_data]; exact hpc⟩
                        have t5 : (!r.f2.toList.isEmpty) = false := by rw [hpc]; rfl
                        go_wp2_with fail
                        go_roundg (gko - 1)
                        case measure => have := HI.out; have := HGK.out; omega
                        case rel => exact ⟨i + 1, _, by have := HI.out; have := HGK.out; omega, by go_num, rfl, by rw [HSN.out, if_pos HPC.out, ← List.append_assoc, ← HSL.out]; simp [HU.out], HB5.out, HX5.out⟩
                      · have HPC : Aside0 (¬ r.f2.data.toList = []) := ⟨by rw [← Lib.toList_data]; exact hpc⟩
                        have t5 : (!r.f2.toList.isEmpty) = true := by simpa using hpc
                        clear hpc
                        go_wp2_with fail
                        go_roundg (gko - 1)
                        case measure => have := HI.out; have := HGK.out; omega
                        case rel => exact ⟨i + 1, _, by have := HI.out; have := HGK.out; omega, by go_num, rfl, by rw [HSN.out, if_neg HPC.out, ← List.append_assoc, ← HSL.out]; simp [HU.out], HB5.out, HX5.out⟩
                · have hi2 : i = rs.length := by have := HI.out; omega
                  subst hi2
                  have t1 : decide ((rs.length : Int) < (rs.length : Int)) = false := by simp
                  rw [List.take_length] at HSL
                  go_wp2_with fail
                  go_ret
                  exact ⟨ret_str (by rw [HSL.out, mkS_list, HTX.out]), HB2.out⟩
end Go.Proofs.YteonnadhdmcloaaDoor.G
namespace Go.Proofs.YteonnadhdmcloaaDoor.G
open Go.RowKit Go.Proofs.YteonnadhdmcloaaDoorW.PrintWords Go.Proofs.YteonnadhdmcloaaDoorW.PrintLast Go.Proofs.YteonnadhdmcloaaDoorW.PrintMore
set_option linter.unusedVariables false
set_option linter.unusedSimpArgs false
/-- strconv's table lies in memory. -/
def Tab (w : World) : Prop := Lib.TabIs Tryd.prog w "internal/strconv.uint64pow10" .u64 Lib.pow10Tab
theorem Tab.move {w w' : World} (h : Tab w) (hb : Below w.heap.size w w') : Tab w' := by
  unfold Tab Lib.TabIs World.var? at h ⊢
  cases hg : Tryd.prog.globalNamed "internal/strconv.uint64pow10" with
  | none => rw [hg] at h; cases h
  | some g =>
    rw [hg] at h
    simp only [Option.bind_some] at h ⊢
    have hlt : g < w.heap.size := by
      rcases Nat.lt_or_ge g w.heap.size with h2 | h2
      · exact h2
      · rw [Array.getElem?_eq_none h2] at h; cases h
    rw [hb.block g hlt]
    exact h
theorem itoa_any (ex : Int) (h0 : 0 ≤ ex) (h1 : ex ≤ 9223372036854775807) (w : World) (ht : Tab w) : Calls Tryd.prog 31 #[.int .i64 ex] w fun e w' => e = .returned (.string (mkS (Lib.itoa ex))) ∧ Below w.heap.size w w' := by
  refine (YteonnadhdmcloaaDoor.K.strconv_Itoa ex (by omega) h1 w ht).mono ?_
  rintro e w' ⟨rfl, k, os, rfl⟩
  exact ⟨rfl, (pw_below_drewN (Below.refl _ w) k).trans ⟨rfl, rfl, rfl, by simp [Sort.grow], fun j hj => Array.getElem?_append_left hj⟩⟩
def gram_Text.f (l0_0 : List (S35)) (a0_1 : ByteArray) (a0_2 : Int) (l0_3 : List (S39)) : Option ByteArray := if sizeB l0_0 l0_3 = true then some (mkS (textL l0_0 a0_1 a0_2 l0_3)) else none
theorem text_big (w : World) (A : Option Addr) (c : Nat) (l : List S35) (st : ByteArray) (ex : Int) (A2 : Option Addr) (c2 : Nat) (rs : List S39) (hr : Kd.C k35 w A l.length l) (hcl : l.length ≤ c) (hl : l.length ≤ 100000) (hr2 : Kd.C k39 w A2 rs.length rs) (hl2 : rs.length ≤ 17592186044416) (hs : ∀ r ∈ rs, r.f1.length ≤ 17592186044416) (hex : 9999 < ex) :
    Calls Tryd.prog 12 #[.agg #[.slice A l.length c, .string st, .int .i64 ex, .slice A2 rs.length c2]] w fun e w' => e = .returned (.string (mkS (textL l st ex rs))) ∧ Below w.heap.size w w' := by
  have HX := Aside0.mk (Box4.new w (.slice A l.length c) (.string st) (.int .i64 ex) (.slice A2 rs.length c2) 25)
  have HB := Aside0.mk (below_alloc (Below.refl w.heap.size w) (.cells #[.slice A l.length c, .string st, .int .i64 ex, .slice A2 rs.length c2] 25))
  have hm : mayB l st ex rs = false := by unfold mayB; rw [decide_eq_false (show ¬ ex ≤ 9999 by omega)]; simp
  have HT : Aside0 (textL l st ex rs = []) := ⟨by unfold textL; rw [hm]; rfl⟩
  have HC := Aside0.mk (may_calls (w.alloc (.cells #[.slice A l.length c, .string st, .int .i64 ex, .slice A2 rs.length c2] 25)) A c l st ex A2 c2 rs (Kd.C_below hr HB.out) hcl hl (Kd.C_below hr2 HB.out) hl2 hs)
  rw [hm] at HC
  clear hm hr hr2 hs hex
  go_enter Tryd.func12, Tryd.ntmps12
  have x0 := HX.out.c0
  have x1 := HX.out.c1
  have x2 := HX.out.c2
  have x3 := HX.out.c3
  go_wp2_with fail
  go_at_call 10
  refine HC.out.mono ?_
  rintro e w1 ⟨rfl, hd⟩
  have HB1 := Aside0.mk (HB.out.trans (hd.mono HB.out.size))
  clear hd HX HB HC x0 x1 x2 x3
  go_wp2_with fail
  go_ret
  exact ⟨ret_str (by rw [HT.out]; rfl), HB1.out⟩
theorem gram_Text.calls (A0_0 : Option Addr) (c0_0 : Nat) (l0_0 : List (S35)) (a0_1 : ByteArray) (a0_2 : Int) (A0_3 : Option Addr) (c0_3 : Nat) (l0_3 : List (S39)) (r : ByteArray) (w : World) (htab : Tab w) (hr0_0 : Kd.C k35 w A0_0 l0_0.length l0_0) (hc0_0 : l0_0.length ≤ c0_0) (hr0_3 : Kd.C k39 w A0_3 l0_3.length l0_3) (hc0_3 : l0_3.length ≤ c0_3) (h : gram_Text.f l0_0 a0_1 a0_2 l0_3 = some r) :
    Calls Tryd.prog 12 #[.agg #[.slice A0_0 l0_0.length c0_0, .string a0_1, .int .i64 a0_2, .slice A0_3 l0_3.length c0_3]] w fun e w' => e = .returned (.string r) ∧ Below w.heap.size w w' := by
  unfold gram_Text.f at h
  split at h
  · rename_i hs
    obtain ⟨h1, h2, h3⟩ := sizeB_parts hs
    obtain rfl := Option.some.inj h
    by_cases hex : 9999 < a0_2
    · exact text_big w A0_0 c0_0 l0_0 a0_1 a0_2 A0_3 c0_3 l0_3 hr0_0 hc0_0 h1 hr0_3 (by omega) (fun r hr => by have := h3 r hr; omega) hex
    · exact text_calls' w A0_0 c0_0 l0_0 a0_1 a0_2 A0_3 c0_3 l0_3 hr0_0 hc0_0 h1 hr0_3 (by omega) (fun r hr => by have := h3 r hr; omega) (fun h0 W hb => itoa_any a0_2 h0 (by omega) W (htab.move hb))
  · cases h
def donatusref4_Text.f (l0_0 : List (S35)) (a0_1 : ByteArray) (a0_2 : Int) (l0_3 : List (S39)) : Option ByteArray := if sizeB l0_0 l0_3 = true then (if nameSizeB l0_0 a0_1 l0_3 = true then some (mkS (textL l0_0 a0_1 a0_2 l0_3)) else none) else none
theorem donatusref4_Text.calls (A0_0 : Option Addr) (c0_0 : Nat) (l0_0 : List (S35)) (a0_1 : ByteArray) (a0_2 : Int) (A0_3 : Option Addr) (c0_3 : Nat) (l0_3 : List (S39)) (r : ByteArray) (w : World) (hr0_0 : Kd.C k35 w A0_0 l0_0.length l0_0) (hc0_0 : l0_0.length ≤ c0_0) (hr0_3 : Kd.C k39 w A0_3 l0_3.length l0_3) (hc0_3 : l0_3.length ≤ c0_3) (h : donatusref4_Text.f l0_0 a0_1 a0_2 l0_3 = some r) :
    Calls Tryd.prog 13 #[.agg #[.slice A0_0 l0_0.length c0_0, .string a0_1, .int .i64 a0_2, .slice A0_3 l0_3.length c0_3]] w fun e w' => e = .returned (.string r) ∧ Below w.heap.size w w' := by
  unfold donatusref4_Text.f at h
  split at h
  · rename_i hs
    split at h
    · rename_i hn
      obtain ⟨h1, h2, h3⟩ := sizeB_parts hs
      obtain ⟨n1, n2, n3⟩ := nameSizeB_parts hn
      obtain rfl := Option.some.inj h
      exact rtext_calls w A0_0 c0_0 l0_0 a0_1 a0_2 A0_3 c0_3 l0_3 hr0_0 hc0_0 h1 hr0_3 hc0_3 h2 n1 n2 (fun r hr => ⟨(n3 r hr).1, (n3 r hr).2.1, h3 r hr, (n3 r hr).2.2⟩)
    · cases h
  · cases h
end Go.Proofs.YteonnadhdmcloaaDoor.G
