/- gram: two grammars that may be have one text just if they are the same. gram: two grammars that may be have one text just if they are the same: the lines of a text. gram: two grammars that may be have one text just if they are the same. -/
import Derived.Test.YteonnadhdmcloaaDoorGramS4
namespace Go.Proofs.YteonnadhdmcloaaDoor.G
open Go.RowKit Go.Proofs.YteonnadhdmcloaaDoorW.PrintWords Go.Proofs.YteonnadhdmcloaaDoorW.PrintLast Go.Proofs.YteonnadhdmcloaaDoorW.PrintMore
set_option linter.unusedVariables false
set_option linter.unusedSimpArgs false
/-- A word: no blank, no end of a line in it, and not empty. -/
def WordOk (x : ByteArray) : Prop := x.data.toList ≠ [] ∧ ∀ b ∈ x.data.toList, b ≠ 32 ∧ b ≠ 10
theorem split_at {c : UInt8} : ∀ (a b a' b' : List UInt8), c ∉ a → c ∉ a' → a ++ c :: b = a' ++ c :: b' → a = a' ∧ b = b'
  | [], b, [], b', _, _, h => ⟨rfl, (List.cons.inj h).2⟩
  | [], b, x :: a', b', _, h2, h => by
    have := (List.cons.inj h).1
    subst this
    exact absurd (List.mem_cons_self ..) h2
  | x :: a, b, [], b', h1, _, h => by
    have := (List.cons.inj h).1
    subst this
    exact absurd (List.mem_cons_self ..) h1
  | x :: a, b, y :: a', b', h1, h2, h => by
    obtain ⟨e, h⟩ := List.cons.inj h
    obtain ⟨e2, e3⟩ := split_at a b a' b' (fun hc => h1 (List.mem_cons_of_mem _ hc)) (fun hc => h2 (List.mem_cons_of_mem _ hc)) h
    exact ⟨by rw [e, e2], e3⟩
theorem ba_ext {x y : ByteArray} (h : x.data.toList = y.data.toList) : x = y := by
  cases x
  cases y
  congr
  exact Array.toList_inj.1 h
/-- The words of a line are told by it. -/
theorem spc_inj : ∀ (x y : ByteArray) (xs ys : List ByteArray), WordOk x → WordOk y → (∀ z ∈ xs, WordOk z) → (∀ z ∈ ys, WordOk z) → x.data.toList ++ spc xs = y.data.toList ++ spc ys → x :: xs = y :: ys := by
  intro x y xs
  induction xs generalizing x y with
  | nil =>
    intro ys hx hy _ hys h
    cases ys with
    | nil => rw [show spc [] = [] from rfl, List.append_nil, List.append_nil] at h; rw [ba_ext h]
    | cons z ys =>
      exfalso
      rw [show spc [] = [] from rfl, List.append_nil] at h
      have : (32 : UInt8) ∈ x.data.toList := by rw [h]; simp [spc]
      exact (hx.2 32 this).1 rfl
  | cons z xs ih =>
    intro ys hx hy hxs hys h
    cases ys with
    | nil =>
      exfalso
      rw [show spc [] = [] from rfl, List.append_nil] at h
      have : (32 : UInt8) ∈ y.data.toList := by rw [← h]; simp [spc]
      exact (hy.2 32 this).1 rfl
    | cons u ys =>
      have h2 : x.data.toList ++ 32 :: (z.data.toList ++ spc xs) = y.data.toList ++ 32 :: (u.data.toList ++ spc ys) := h
      obtain ⟨e1, e2⟩ := split_at _ _ _ _ (fun hc => (hx.2 32 hc).1 rfl) (fun hc => (hy.2 32 hc).1 rfl) h2
      have := ih z u ys (hxs z (by simp)) (hys u (by simp)) (fun v hv => hxs v (by simp [hv])) (fun v hv => hys v (by simp [hv])) e2
      rw [ba_ext e1, this]
def LineOk (ws : List ByteArray) : Prop := ws ≠ [] ∧ ∀ z ∈ ws, WordOk z
theorem line_inj {a b : List ByteArray} (ha : LineOk a) (hb : LineOk b) {r s : List UInt8} (h : lineL a ++ r = lineL b ++ s) : a = b ∧ r = s := by
  have hn : ∀ {c : List ByteArray}, LineOk c → (10 : UInt8) ∉ wordsL c := by
    intro c hc hm
    cases c with
    | nil => exact hc.1 rfl
    | cons x xs =>
      rw [words_cons, List.mem_append] at hm
      rcases hm with hm | hm
      · exact ((hc.2 x (by simp)).2 10 hm).2 rfl
      · unfold spc at hm
        rw [List.mem_flatMap] at hm
        obtain ⟨z, hz, hm⟩ := hm
        rcases List.mem_cons.1 hm with hm | hm
        · revert hm; decide
        · exact ((hc.2 z (by simp [hz])).2 10 hm).2 rfl
  unfold lineL at h
  rw [List.append_assoc, List.append_assoc, List.singleton_append, List.singleton_append] at h
  obtain ⟨e1, e2⟩ := split_at _ _ _ _ (hn ha) (hn hb) h
  refine ⟨?_, e2⟩
  cases a with
  | nil => exact absurd rfl ha.1
  | cons x xs =>
    cases b with
    | nil => exact absurd rfl hb.1
    | cons y ys =>
      rw [words_cons, words_cons] at e1
      exact spc_inj x y xs ys (ha.2 x (by simp)) (hb.2 y (by simp)) (fun z hz => ha.2 z (by simp [hz])) (fun z hz => hb.2 z (by simp [hz])) e1
theorem lines_inj : ∀ (a b : List (List ByteArray)), (∀ x ∈ a, LineOk x) → (∀ x ∈ b, LineOk x) → a.flatMap lineL = b.flatMap lineL → a = b
  | [], [], _, _, _ => rfl
  | [], y :: b, _, _, h => by
    have h2 : lineL y ++ b.flatMap lineL = [] := h.symm
    simp [lineL] at h2
  | x :: a, [], _, _, h => by
    have h2 : lineL x ++ a.flatMap lineL = [] := h
    simp [lineL] at h2
  | x :: a, y :: b, ha, hb, h => by
    have h2 : lineL x ++ a.flatMap lineL = lineL y ++ b.flatMap lineL := h
    obtain ⟨e1, e2⟩ := line_inj (ha x (by simp)) (hb y (by simp)) h2
    rw [e1, lines_inj a b (fun z hz => ha z (by simp [hz])) (fun z hz => hb z (by simp [hz])) e2]
theorem nm_word {s : ByteArray} (h : Nm s = true) : WordOk s := by
  have hl := nm_len h
  refine ⟨fun e => by rw [e] at hl; simp at hl, ?_⟩
  unfold Nm nameB at h
  intro b hb
  split at h
  · cases h
  · rename_i c r e
    rw [e] at hb
    simp only [Bool.and_eq_true, decide_eq_true_eq, List.all_eq_true] at h
    have hp : partB (b.toNat : Int) = true := by
      rcases List.mem_cons.1 hb with rfl | hb
      · exact letter_part h.2.1
      · exact h.2.2 b hb
    constructor
    · rintro rfl; revert hp; decide
    · rintro rfl; revert hp; decide
theorem word_dec {s : ByteArray} (h : (decide (s.data.toList ≠ []) && s.data.toList.all fun b => decide (b ≠ 32) && decide (b ≠ 10)) = true) : WordOk s := by
  simp only [Bool.and_eq_true, decide_eq_true_eq, List.all_eq_true] at h
  exact h
end Go.Proofs.YteonnadhdmcloaaDoor.G
namespace Go.Proofs.YteonnadhdmcloaaDoor.G
open Go.RowKit Go.Proofs.YteonnadhdmcloaaDoorW.PrintWords Go.Proofs.YteonnadhdmcloaaDoorW.PrintLast Go.Proofs.YteonnadhdmcloaaDoorW.PrintMore
set_option linter.unusedVariables false
set_option linter.unusedSimpArgs false
theorem split_on {α : Type} {c : α} : ∀ (a b a' b' : List α), c ∉ a → c ∉ a' → a ++ c :: b = a' ++ c :: b' → a = a' ∧ b = b'
  | [], b, [], b', _, _, h => ⟨rfl, (List.cons.inj h).2⟩
  | [], b, x :: a', b', _, h2, h => by
    have := (List.cons.inj h).1
    subst this
    exact absurd (List.mem_cons_self ..) h2
  | x :: a, b, [], b', h1, _, h => by
    have := (List.cons.inj h).1
    subst this
    exact absurd (List.mem_cons_self ..) h1
  | x :: a, b, y :: a', b', h1, h2, h => by
    obtain ⟨e, h⟩ := List.cons.inj h
    obtain ⟨e2, e3⟩ := split_on a b a' b' (fun hc => h1 (List.mem_cons_of_mem _ hc)) (fun hc => h2 (List.mem_cons_of_mem _ hc)) h
    exact ⟨by rw [e, e2], e3⟩
def decVal (l : List UInt8) : Nat := l.foldl (fun a b => a * 10 + (b.toNat - 48)) 0
theorem decVal_digits (n : Nat) : decVal (Lib.decDigits n) = n := by
  induction n using Nat.strongRecOn with
  | ind n ih =>
    have hd : ∀ d : Nat, d < 10 → (UInt8.ofNat (48 + d)).toNat - 48 = d := by
      intro d hd
      rw [UInt8.toNat_ofNat']
      omega
    by_cases h : n < 10
    · rw [Lib.decDigits_one h]
      show 0 * 10 + ((UInt8.ofNat (48 + n)).toNat - 48) = n
      rw [hd n h]; omega
    · rw [Lib.decDigits, dif_neg h]
      unfold decVal at ih ⊢
      rw [List.foldl_append, ih (n / 10) (by omega)]
      show n / 10 * 10 + ((UInt8.ofNat (48 + n % 10)).toNat - 48) = n
      rw [hd (n % 10) (by omega)]; omega
theorem itoa_inj {a b : Int} (ha : 0 ≤ a) (hb : 0 ≤ b) (h : Lib.itoa a = Lib.itoa b) : a = b := by
  obtain ⟨n, rfl⟩ : ∃ n : Nat, a = (n : Int) := ⟨a.toNat, by omega⟩
  obtain ⟨m, rfl⟩ : ∃ m : Nat, b = (m : Int) := ⟨b.toNat, by omega⟩
  rw [Lib.itoa_nonneg, Lib.itoa_nonneg] at h
  have := congrArg decVal h
  rw [decVal_digits, decVal_digits] at this
  rw [this]
def tokLn (l : List S35) : List (List ByteArray) := if l.length = 0 then [] else [sTok :: l.map (·.f0)]
def levLn (k : List S35) : List (List ByteArray) := match k with | [] => [] | t :: r => [kindS t.f2 :: (t :: r).map (·.f0)]
def levsLn (l : List S35) (j : Nat) : List (List ByteArray) := (List.range j).flatMap fun k : Nat => levLn (keepB ((k : Int) + 1) l)
def startLn (st : ByteArray) : List (List ByteArray) := if st.data.toList = [] then [] else [[sStart, st]]
def expectLn (ex : Int) : List (List ByteArray) := if 0 < ex then [[sExpect, mkS (Lib.itoa ex)]] else []
def headLn (l : List S35) (st : ByteArray) (ex : Int) : List (List ByteArray) := tokLn l ++ levsLn l 8 ++ startLn st ++ expectLn ex
theorem levs_lines (l : List S35) (j : Nat) : levelsL l j = (levsLn l j).flatMap lineL := by
  unfold levelsL levsLn
  rw [List.flatMap_assoc]
  congr 1
  funext k
  cases keepB ((k : Int) + 1) l with
  | nil => rfl
  | cons t r =>
    show namedL _ _ = _
    unfold namedL
    rw [if_neg (by simp)]
    simp [levLn]
theorem text_lines {l : List S35} {st : ByteArray} {ex : Int} {rs : List S39} (h : mayB l st ex rs = true) : textL l st ex rs = (headLn l st ex ++ [sCut] :: rs.map ruleW).flatMap lineL := by
  unfold textL headL headLn
  rw [if_pos h, levs_lines]
  simp only [List.flatMap_append, List.flatMap_cons, List.append_assoc]
  congr 1
  · unfold namedL tokLn
    split <;> simp
  · congr 1
    congr 1
    · unfold startL startLn
      split <;> simp
    · congr 1
      · unfold expectL expectLn
        split <;> simp
      · congr 1
        unfold rulesL
        rw [List.flatMap_map]
theorem kind_word {a : Int} (h : a = 1 ∨ a = 2 ∨ a = 3) : WordOk (kindS a) := by
  rcases h with rfl | rfl | rfl <;> exact word_dec (by decide)
theorem itoa_word {ex : Int} (h : 0 ≤ ex) : WordOk (mkS (Lib.itoa ex)) := by
  obtain ⟨n, rfl⟩ : ∃ n : Nat, ex = (n : Int) := ⟨ex.toNat, by omega⟩
  rw [Lib.itoa_nonneg]
  have hd : ∀ n : Nat, Lib.decDigits n ≠ [] ∧ ∀ b ∈ Lib.decDigits n, b ≠ 32 ∧ b ≠ 10 := by
    intro n
    induction n using Nat.strongRecOn with
    | ind n ih =>
      have hb : ∀ d : Nat, d < 10 → UInt8.ofNat (48 + d) ≠ 32 ∧ UInt8.ofNat (48 + d) ≠ 10 := by decide
      by_cases h : n < 10
      · rw [Lib.decDigits_one h]
        refine ⟨by simp, fun b hm => ?_⟩
        rw [List.mem_singleton] at hm
        subst hm
        exact hb n h
      · rw [Lib.decDigits, dif_neg h]
        refine ⟨by simp, fun b hm => ?_⟩
        rcases List.mem_append.1 hm with hm | hm
        · exact (ih (n / 10) (by omega)).2 b hm
        · rw [List.mem_singleton] at hm
          subst hm
          exact hb (n % 10) (by omega)
  exact hd n
/-- What heads a line ahead of the cut, and that it is in order. -/
theorem head_lines {l : List S35} {st : ByteArray} {ex : Int} {rs : List S39} (h : mayB l st ex rs = true) : ∀ x ∈ headLn l st ex, LineOk x ∧ x ≠ [sCut] := by
  obtain ⟨hm1, hm2, hm3, hm4, hm5, hm6⟩ := may_parts h
  have htk := tokens_tok hm6
  intro x hx
  unfold headLn at hx
  simp only [List.mem_append] at hx
  rcases hx with ((hx | hx) | hx) | hx
  · unfold tokLn at hx
    split at hx
    · cases hx
    · rename_i h0
      rw [List.mem_singleton] at hx
      subst hx
      refine ⟨⟨by simp, fun z hz => ?_⟩, fun e => ?_⟩
      · rcases List.mem_cons.1 hz with rfl | hz
        · exact word_dec (by decide)
        · obtain ⟨t, ht, rfl⟩ := List.mem_map.1 hz
          exact nm_word (tok_nm (htk t ht))
      · have := (List.cons.inj e).1
        revert this; decide
  · unfold levsLn at hx
    obtain ⟨k, hk, hx⟩ := List.mem_flatMap.1 hx
    have hmem : ∀ t ∈ keepB ((k : Int) + 1) l, t ∈ l ∧ t.f1 = (k : Int) + 1 := fun t ht => keep_mem ht
    cases hkb : keepB ((k : Int) + 1) l with
    | nil => rw [hkb] at hx; cases hx
    | cons t r =>
      rw [hkb] at hx hmem
      have hx2 : x ∈ [kindS t.f2 :: (t :: r).map (·.f0)] := hx
      rw [List.mem_singleton] at hx2
      subst hx2
      have ht := hmem t (by simp)
      have ha := tok_assoc (htk t ht.1) (by omega)
      refine ⟨⟨by simp, fun z hz => ?_⟩, fun e => ?_⟩
      · rcases List.mem_cons.1 hz with rfl | hz
        · exact kind_word ha
        · obtain ⟨u, hu, rfl⟩ := List.mem_map.1 hz
          exact nm_word (tok_nm (htk u (hmem u hu).1))
      · have := (List.cons.inj e).2
        simp at this
  · unfold startLn at hx
    split at hx
    · cases hx
    · rename_i h0
      rw [List.mem_singleton] at hx
      subst hx
      refine ⟨⟨by simp, fun z hz => ?_⟩, fun e => by simp at e⟩
      simp only [List.mem_cons, List.not_mem_nil, or_false] at hz
      rcases hz with rfl | rfl
      · exact word_dec (by decide)
      · unfold orB at hm3
        rw [Bool.or_eq_true, decide_eq_true_eq] at hm3
        rcases hm3 with hm3 | hm3
        · exact absurd hm3 h0
        · exact nm_word hm3
  · unfold expectLn at hx
    split at hx
    · rw [List.mem_singleton] at hx
      subst hx
      refine ⟨⟨by simp, fun z hz => ?_⟩, fun e => by simp at e⟩
      simp only [List.mem_cons, List.not_mem_nil, or_false] at hz
      rcases hz with rfl | rfl
      · exact word_dec (by decide)
      · exact itoa_word hm4
    · cases hx
theorem rule_lines {r : S39} (h : ruleBad r = false) : LineOk (ruleW r) := by
  obtain ⟨h1, h2, h3, h4⟩ := rule_parts h
  refine ⟨by unfold ruleW; simp, fun z hz => ?_⟩
  unfold ruleW at hz
  simp only [List.mem_append, List.mem_cons, List.not_mem_nil, or_false] at hz
  rcases hz with ((h5 | h5) | h5) | h5
  · rcases h5 with rfl | rfl
    · exact nm_word h1
    · exact word_dec (by decide)
  · exact nm_word (h4 z h5)
  · split at h5
    · cases h5
    · rename_i h0
      simp only [List.mem_cons, List.not_mem_nil, or_false] at h5
      rcases h5 with rfl | rfl
      · exact word_dec (by decide)
      · unfold orB at h2
        rw [Bool.or_eq_true, decide_eq_true_eq] at h2
        rcases h2 with h2 | h2
        · exact absurd h2 h0
        · exact nm_word h2
  · subst h5; exact word_dec (by decide)
theorem nm_ne {s u : ByteArray} (h : Nm s = true) (hu : Nm u = false) : s ≠ u := fun e => by rw [e, hu] at h; cases h
theorem rule_inj {r q : S39} (hr : ruleBad r = false) (hq : ruleBad q = false) (h : ruleW r = ruleW q) : r = q := by
  obtain ⟨_, hr2, _, hr4⟩ := rule_parts hr
  obtain ⟨_, hq2, _, hq4⟩ := rule_parts hq
  have hp : Nm sPrec = false := by decide
  have hs : Nm sSemi = false := by decide
  have rp : sPrec ∉ r.f1 := fun hm => nm_ne (hr4 _ hm) hp rfl
  have qp : sPrec ∉ q.f1 := fun hm => nm_ne (hq4 _ hm) hp rfl
  have rs : sSemi ∉ r.f1 := fun hm => nm_ne (hr4 _ hm) hs rfl
  have qs : sSemi ∉ q.f1 := fun hm => nm_ne (hq4 _ hm) hs rfl
  unfold ruleW at h
  simp only [List.cons_append, List.nil_append, List.append_assoc, List.cons.injEq, true_and] at h
  obtain ⟨h0, h⟩ := h
  rw [S39_ext]
  by_cases h1 : r.f2.data.toList = []
  · by_cases h2 : q.f2.data.toList = []
    · rw [if_pos h1, if_pos h2] at h
      obtain ⟨e, _⟩ := split_on _ _ _ _ rs qs h
      exact ⟨h0, e, ba_ext (h1.trans h2.symm)⟩
    · rw [if_pos h1, if_neg h2] at h
      exfalso
      have hm : sPrec ∈ r.f1 ++ ([] ++ [sSemi]) := by rw [h]; simp
      simp only [List.nil_append, List.mem_append, List.mem_singleton] at hm
      rcases hm with hm | hm
      · exact rp hm
      · revert hm; decide
  · by_cases h2 : q.f2.data.toList = []
    · rw [if_neg h1, if_pos h2] at h
      exfalso
      have hm : sPrec ∈ q.f1 ++ ([] ++ [sSemi]) := by rw [← h]; simp
      simp only [List.nil_append, List.mem_append, List.mem_singleton] at hm
      rcases hm with hm | hm
      · exact qp hm
      · revert hm; decide
    · rw [if_neg h1, if_neg h2] at h
      obtain ⟨e, e2⟩ := split_on _ _ _ _ rp qp h
      exact ⟨h0, e, (List.cons.inj e2).1⟩
theorem rules_inj : ∀ (ra rb : List S39), (∀ r ∈ ra, ruleBad r = false) → (∀ r ∈ rb, ruleBad r = false) → ra.map ruleW = rb.map ruleW → ra = rb
  | [], [], _, _, _ => rfl
  | [], _ :: _, _, _, h => by cases h
  | _ :: _, [], _, _, h => by cases h
  | x :: ra, y :: rb, ha, hb, h => by
    obtain ⟨e1, e2⟩ := List.cons.inj h
    rw [rule_inj (ha x (by simp)) (hb y (by simp)) e1, rules_inj ra rb (fun r hr => ha r (by simp [hr])) (fun r hr => hb r (by simp [hr])) e2]
end Go.Proofs.YteonnadhdmcloaaDoor.G
namespace Go.Proofs.YteonnadhdmcloaaDoor.G
open Go.RowKit Go.Proofs.YteonnadhdmcloaaDoorW.PrintWords Go.Proofs.YteonnadhdmcloaaDoorW.PrintLast Go.Proofs.YteonnadhdmcloaaDoorW.PrintMore
set_option linter.unusedVariables false
set_option linter.unusedSimpArgs false
def keyOf (x : List ByteArray) : Nat := match x with | [] => 0 | z :: _ => if z = sTok then 1 else if z = sLeft then 2 else if z = sRight then 2 else if z = sNon then 2 else if z = sStart then 3 else if z = sExpect then 4 else 0
theorem key_kind {a : Int} (h : a = 1 ∨ a = 2 ∨ a = 3) (r : List ByteArray) : keyOf (kindS a :: r) = 2 := by
  rcases h with rfl | rfl | rfl <;> rfl
theorem filt_none {n m : Nat} (hn : n ≠ m) {x : List (List ByteArray)} (h : ∀ z ∈ x, keyOf z = m) : x.filter (fun z => keyOf z == n) = [] := by
  rw [List.filter_eq_nil_iff]
  intro z hz
  rw [h z hz]
  simp [Ne.symm hn]
theorem filt_all {n : Nat} {x : List (List ByteArray)} (h : ∀ z ∈ x, keyOf z = n) : x.filter (fun z => keyOf z == n) = x := by
  rw [List.filter_eq_self]
  intro z hz
  rw [h z hz]
  simp
theorem head_keys {l : List S35} {st : ByteArray} {ex : Int} (htk : ∀ t ∈ l, tokB t = true) :
    (∀ z ∈ tokLn l, keyOf z = 1) ∧ (∀ j, ∀ z ∈ levsLn l j, keyOf z = 2) ∧ (∀ z ∈ startLn st, keyOf z = 3) ∧ (∀ z ∈ expectLn ex, keyOf z = 4) := by
  refine ⟨fun z hz => ?_, fun j z hz => ?_, fun z hz => ?_, fun z hz => ?_⟩
  · unfold tokLn at hz
    split at hz
    · cases hz
    · rw [List.mem_singleton] at hz; subst hz; rfl
  · unfold levsLn at hz
    obtain ⟨k, hk, hz⟩ := List.mem_flatMap.1 hz
    have hmem : ∀ t ∈ keepB ((k : Int) + 1) l, t ∈ l ∧ t.f1 = (k : Int) + 1 := fun t ht => keep_mem ht
    cases hkb : keepB ((k : Int) + 1) l with
    | nil => rw [hkb] at hz; cases hz
    | cons t r =>
      rw [hkb] at hz hmem
      have hz2 : z ∈ [kindS t.f2 :: (t :: r).map (·.f0)] := hz
      rw [List.mem_singleton] at hz2
      subst hz2
      have ht := hmem t (by simp)
      exact key_kind (tok_assoc (htk t ht.1) (by omega)) _
  · unfold startLn at hz
    split at hz
    · cases hz
    · rw [List.mem_singleton] at hz; subst hz; rfl
  · unfold expectLn at hz
    split at hz
    · rw [List.mem_singleton] at hz; subst hz; rfl
    · cases hz
theorem head_parts {l m : List S35} {st su : ByteArray} {ex ey : Int} (hl : ∀ t ∈ l, tokB t = true) (hm : ∀ t ∈ m, tokB t = true) (h : headLn l st ex = headLn m su ey) : tokLn l = tokLn m ∧ levsLn l 8 = levsLn m 8 ∧ startLn st = startLn su ∧ expectLn ex = expectLn ey := by
  obtain ⟨a1, a2, a3, a4⟩ := head_keys (l := l) (st := st) (ex := ex) hl
  obtain ⟨b1, b2, b3, b4⟩ := head_keys (l := m) (st := su) (ex := ey) hm
  have hf : ∀ n : Nat, (headLn l st ex).filter (fun z => keyOf z == n) = (headLn m su ey).filter (fun z => keyOf z == n) := fun n => by rw [h]
  unfold headLn at hf
  simp only [List.filter_append] at hf
  refine ⟨?_, ?_, ?_, ?_⟩
  · have := hf 1
    rw [filt_all a1, filt_none (by decide) (a2 8), filt_none (by decide) a3, filt_none (by decide) a4, filt_all b1, filt_none (by decide) (b2 8), filt_none (by decide) b3, filt_none (by decide) b4] at this; simpa using this
  · have := hf 2
    rw [filt_none (by decide) a1, filt_all (a2 8), filt_none (by decide) a3, filt_none (by decide) a4, filt_none (by decide) b1, filt_all (b2 8), filt_none (by decide) b3, filt_none (by decide) b4] at this; simpa using this
  · have := hf 3
    rw [filt_none (by decide) a1, filt_none (by decide) (a2 8), filt_all a3, filt_none (by decide) a4, filt_none (by decide) b1, filt_none (by decide) (b2 8), filt_all b3, filt_none (by decide) b4] at this; simpa using this
  · have := hf 4
    rw [filt_none (by decide) a1, filt_none (by decide) (a2 8), filt_none (by decide) a3, filt_all a4, filt_none (by decide) b1, filt_none (by decide) (b2 8), filt_none (by decide) b3, filt_all b4] at this; simpa using this
theorem tokLn_inj {l m : List S35} (h : tokLn l = tokLn m) : l.map (·.f0) = m.map (·.f0) := by
  unfold tokLn at h
  split at h
  · rename_i h0
    split at h
    · rename_i h1
      rw [List.length_eq_zero_iff.1 h0, List.length_eq_zero_iff.1 h1]
    · cases h
  · split at h
    · cases h
    · exact (List.cons.inj (List.cons.inj h).1).2
theorem startLn_inj {a b : ByteArray} (h : startLn a = startLn b) : a = b := by
  unfold startLn at h
  split at h
  · rename_i h0
    split at h
    · rename_i h1
      exact ba_ext (h0.trans h1.symm)
    · cases h
  · split at h
    · cases h
    · exact (List.cons.inj (List.cons.inj (List.cons.inj h).1).2).1
theorem expectLn_inj {a b : Int} (ha : 0 ≤ a) (hb : 0 ≤ b) (h : expectLn a = expectLn b) : a = b := by
  unfold expectLn at h
  split at h
  · split at h
    · have e := (List.cons.inj (List.cons.inj (List.cons.inj h).1).2).1
      have e2 : Lib.itoa a = Lib.itoa b := congrArg (fun x : ByteArray => x.data.toList) e
      exact itoa_inj ha hb e2
    · cases h
  · split at h
    · cases h
    · omega
/-- The levels that are there are the first ones. -/
theorem levs_cut {l : List S35} {m : Nat} (hm : mostB l = (m : Int)) (h8 : m ≤ 8) (htop : ∀ t ∈ l, t.f1 ≤ (m : Int)) : levsLn l 8 = levsLn l m := by
  unfold levsLn
  obtain ⟨d, hd⟩ : ∃ d, 8 = m + d := ⟨8 - m, by omega⟩
  rw [hd, List.range_add, List.flatMap_append, List.flatMap_map]
  have : (List.range d).flatMap (fun a => levLn (keepB (((m + a : Nat) : Int) + 1) l)) = [] := by
    rw [List.flatMap_eq_nil_iff]
    intro a _
    rw [show keepB (((m + a : Nat) : Int) + 1) l = [] from by
      unfold keepB
      rw [List.filter_eq_nil_iff]
      intro t ht
      have := htop t ht
      unfold offB
      rw [decide_eq_false (by omega)]
      decide]
    rfl
  rw [this, List.append_nil]
theorem most_top (l : List S35) : ∀ t ∈ l, t.f1 ≤ mostB l := by
  have : ∀ (l : List S35) (m : Int), m ≤ l.foldl (fun m t => max m t.f1) m ∧ ∀ t ∈ l, t.f1 ≤ l.foldl (fun m t => max m t.f1) m := by
    intro l
    induction l with
    | nil => intro m; exact ⟨Int.le_refl _, fun t ht => by cases ht⟩
    | cons u l ih =>
      intro m
      obtain ⟨h1, h2⟩ := ih (max m u.f1)
      rw [List.foldl_cons]
      refine ⟨by omega, fun t ht => ?_⟩
      rcases List.mem_cons.1 ht with rfl | ht
      · omega
      · exact h2 t ht
  exact (this l 0).2
theorem levs_each {l m : List S35} : ∀ p : Nat, (∀ k : Nat, k < p → (levLn (keepB ((k : Int) + 1) l)).length = 1) → (∀ k : Nat, k < p → (levLn (keepB ((k : Int) + 1) m)).length = 1) → levsLn l p = levsLn m p → ∀ k : Nat, k < p → levLn (keepB ((k : Int) + 1) l) = levLn (keepB ((k : Int) + 1) m)
  | 0, _, _, _, k, hk => absurd hk (Nat.not_lt_zero k)
  | p + 1, hl, hm, h, k, hk => by
    have hs : ∀ x : List S35, levsLn x (p + 1) = levsLn x p ++ levLn (keepB ((p : Int) + 1) x) := by
      intro x
      unfold levsLn
      rw [List.range_succ, List.flatMap_append]
      simp
    rw [hs l, hs m] at h
    obtain ⟨e1, e2⟩ := List.append_inj' h (by rw [hl p (by omega), hm p (by omega)])
    by_cases hkp : k = p
    · subst hkp; exact e2
    · exact levs_each p (fun j hj => hl j (by omega)) (fun j hj => hm j (by omega)) e1 k (by omega)
theorem levs_length {l : List S35} : ∀ p : Nat, (∀ k : Nat, k < p → (levLn (keepB ((k : Int) + 1) l)).length = 1) → (levsLn l p).length = p
  | 0, _ => rfl
  | p + 1, hl => by
    have hs : levsLn l (p + 1) = levsLn l p ++ levLn (keepB ((p : Int) + 1) l) := by
      unfold levsLn
      rw [List.range_succ, List.flatMap_append]
      simp
    rw [hs, List.length_append, hl p (by omega), levs_length p fun k hk => hl k (by omega)]
theorem levLn_one {k : List S35} (h : k ≠ []) : (levLn k).length = 1 := by
  cases k with
  | nil => exact absurd rfl h
  | cons t r => rfl
/-- What is known of the tokens of a grammar that may be. -/
theorem tokens_know {l : List S35} (h : tokensB l = true) : ∃ p : Nat, mostB l = (p : Int) ∧ p ≤ 8 ∧ (∀ t ∈ l, t.f1 ≤ (p : Int)) ∧ ∀ k : Nat, k < p → keepB ((k : Int) + 1) l ≠ [] := by
  have htk := tokens_tok h
  have hb := mostB_le l fun t ht => (tokB_le (htk t ht)).2
  refine ⟨(mostB l).toNat, by omega, by omega, fun t ht => by have := most_top l t ht; omega, fun k hk e => ?_⟩
  have hl := (tokens_parts h).2.1
  unfold levelsB at hl
  have := List.all_eq_true.1 hl k (List.mem_range.2 hk)
  rw [e] at this
  cases this
theorem same_name {l : List S35} (h : newsB l = true) {i j : Nat} (hi : i < l.length) (hj : j < l.length) (e : l[i].f0 = l[j].f0) : i = j := by
  rcases Nat.lt_trichotomy i j with hij | hij | hij
  · exact absurd e ((newB_iff.1 (newsB_iff.1 h j hj)).2 l[i] (List.mem_take_iff_getElem.2 ⟨i, by omega, rfl⟩)).1
  · exact hij
  · exact absurd e.symm ((newB_iff.1 (newsB_iff.1 h i hi)).2 l[j] (List.mem_take_iff_getElem.2 ⟨j, by omega, rfl⟩)).1
theorem kind_inj {a b : Int} (ha : a = 1 ∨ a = 2 ∨ a = 3) (hb : b = 1 ∨ b = 2 ∨ b = 3) (h : kindS a = kindS b) : a = b := by
  rcases ha with rfl | rfl | rfl <;> rcases hb with rfl | rfl | rfl <;> first | rfl | (exfalso; revert h; decide)
theorem lev_names {k m : List S35} (h : levLn k = levLn m) : k.map (·.f0) = m.map (·.f0) := by
  cases k with
  | nil =>
    cases m with
    | nil => rfl
    | cons u r => cases h
  | cons t s =>
    cases m with
    | nil => cases h
    | cons u r => exact (List.cons.inj (List.cons.inj h).1).2
theorem lev_kind {k m : List S35} (h : levLn k = levLn m) {t u : S35} (ht : ∃ r, k = t :: r) (hu : ∃ r, m = u :: r) : kindS t.f2 = kindS u.f2 := by
  obtain ⟨r, rfl⟩ := ht
  obtain ⟨s, rfl⟩ := hu
  exact (List.cons.inj (List.cons.inj h).1).1
theorem level_of {l m : List S35} (hl : tokensB l = true) (hm : tokensB m = true) (hnm : l.map (·.f0) = m.map (·.f0)) {p : Nat} (htop : ∀ t ∈ l, t.f1 ≤ (p : Int)) (hlv : ∀ k : Nat, k < p → levLn (keepB ((k : Int) + 1) l) = levLn (keepB ((k : Int) + 1) m)) {i : Nat} (hi : i < l.length) (hj : i < m.length) (h0 : 0 < l[i].f1) : m[i].f1 = l[i].f1 ∧ m[i].f2 = l[i].f2 := by
  have htl := tokens_tok hl
  have htm := tokens_tok hm
  have hni : l[i].f0 = m[i].f0 := by
    have := congrArg (fun x => x[i]?) hnm
    simp only [List.getElem?_map, List.getElem?_eq_getElem hi, List.getElem?_eq_getElem hj, Option.map_some, Option.some.injEq] at this
    exact this
  have hp := htop l[i] (List.getElem_mem hi)
  obtain ⟨k, hk⟩ : ∃ k : Nat, l[i].f1 = (k : Int) + 1 := ⟨l[i].f1.toNat - 1, by omega⟩
  have he := hlv k (by omega)
  have hmem : l[i] ∈ keepB ((k : Int) + 1) l := by
    unfold keepB offB
    rw [List.mem_filter, hk]
    exact ⟨List.getElem_mem hi, by simp⟩
  have hnames := lev_names he
  have hx : l[i].f0 ∈ (keepB ((k : Int) + 1) m).map (·.f0) := by rw [← hnames]; exact List.mem_map.2 ⟨_, hmem, rfl⟩
  obtain ⟨u, hu, hue⟩ := List.mem_map.1 hx
  obtain ⟨hum, hu1⟩ := keep_mem hu
  obtain ⟨j, hjl, rfl⟩ := List.getElem_of_mem hum
  have hji : j = i := same_name (tokens_parts hm).1 hjl hj (by rw [hue, hni])
  subst hji
  refine ⟨by rw [hu1, hk], ?_⟩
  have hpl := news_pair (i := l.length) fun a ha _ => newsB_iff.1 (tokens_parts hl).1 a ha
  have hpm := news_pair (i := m.length) fun a ha _ => newsB_iff.1 (tokens_parts hm).1 a ha
  rw [List.take_length] at hpl hpm
  obtain ⟨t, r, hkl⟩ : ∃ t r, keepB ((k : Int) + 1) l = t :: r := by
    cases hkb : keepB ((k : Int) + 1) l with
    | nil => rw [hkb] at hmem; cases hmem
    | cons t r => exact ⟨t, r, rfl⟩
  obtain ⟨v, s, hkm⟩ : ∃ t r, keepB ((k : Int) + 1) m = t :: r := by
    cases hkb : keepB ((k : Int) + 1) m with
    | nil => rw [hkb] at hu; cases hu
    | cons t r => exact ⟨t, r, rfl⟩
  have ht := keep_mem (show t ∈ keepB ((k : Int) + 1) l by rw [hkl]; simp)
  have hv := keep_mem (show v ∈ keepB ((k : Int) + 1) m by rw [hkm]; simp)
  have e1 := lev_kind he ⟨r, hkl⟩ ⟨s, hkm⟩
  have e2 := kind_inj (tok_assoc (htl t ht.1) (by omega)) (tok_assoc (htm v hv.1) (by omega)) e1
  have e3 := (hpl l[j] (List.getElem_mem hi) t ht.1).2 (by rw [hk, ht.2])
  have e4 := (hpm m[j] (List.getElem_mem hj) v hv.1).2 (by rw [hu1, hv.2])
  omega
theorem text_inj {la lb : List S35} {sa sb : ByteArray} {ea eb : Int} {ra rb : List S39} (ha : mayB la sa ea ra = true) (hb : mayB lb sb eb rb = true) (h : textL la sa ea ra = textL lb sb eb rb) : la = lb ∧ sa = sb ∧ ea = eb ∧ ra = rb := by
  obtain ⟨a1, a2, a3, a4, a5, a6⟩ := may_parts ha
  obtain ⟨b1, b2, b3, b4, b5, b6⟩ := may_parts hb
  have ar : ∀ r ∈ ra, ruleBad r = false := fun r hr => by simpa using List.any_eq_false.1 a1 r hr
  have br : ∀ r ∈ rb, ruleBad r = false := fun r hr => by simpa using List.any_eq_false.1 b1 r hr
  rw [text_lines ha, text_lines hb] at h
  have hcut : LineOk [sCut] := ⟨by simp, fun z hz => by rw [List.mem_singleton] at hz; subst hz; exact word_dec (by decide)⟩
  have hok : ∀ {l : List S35} {st : ByteArray} {ex : Int} {rs : List S39}, mayB l st ex rs = true → (∀ r ∈ rs, ruleBad r = false) → ∀ x ∈ headLn l st ex ++ [sCut] :: rs.map ruleW, LineOk x := by
    intro l st ex rs hm hr x hx
    rcases List.mem_append.1 hx with hx | hx
    · exact (head_lines hm x hx).1
    · rcases List.mem_cons.1 hx with rfl | hx
      · exact hcut
      · obtain ⟨r, hr2, rfl⟩ := List.mem_map.1 hx
        exact rule_lines (hr r hr2)
  have hl := lines_inj _ _ (hok ha ar) (hok hb br) h
  obtain ⟨e1, e2⟩ := split_on _ _ _ _ (fun hc => (head_lines ha _ hc).2 rfl) (fun hc => (head_lines hb _ hc).2 rfl) hl
  have htl := tokens_tok a6
  have htm := tokens_tok b6
  obtain ⟨f1, f2, f3, f4⟩ := head_parts htl htm e1
  refine ⟨?_, startLn_inj f3, expectLn_inj a4 b4 f4, rules_inj ra rb ar br e2⟩
  have hnm := tokLn_inj f1
  obtain ⟨p, p1, p2, p3, p4⟩ := tokens_know a6
  obtain ⟨q, q1, q2, q3, q4⟩ := tokens_know b6
  rw [levs_cut p1 p2 p3, levs_cut q1 q2 q3] at f2
  have g1 := levs_length p fun k hk => levLn_one (p4 k hk)
  have g2 := levs_length q fun k hk => levLn_one (q4 k hk)
  have hpq : p = q := by rw [← g1, f2, g2]
  subst hpq
  have hlv := levs_each p (fun k hk => levLn_one (p4 k hk)) (fun k hk => levLn_one (q4 k hk)) f2
  have hlen : la.length = lb.length := by have := congrArg List.length hnm; simpa using this
  refine List.ext_getElem hlen fun i hi hj => ?_
  have hni : la[i].f0 = lb[i].f0 := by
    have := congrArg (fun x => x[i]?) hnm
    simp only [List.getElem?_map, List.getElem?_eq_getElem hi, List.getElem?_eq_getElem hj, Option.map_some, Option.some.injEq] at this
    exact this
  have hta := tokB_iff.1 (htl la[i] (List.getElem_mem hi))
  have htb := tokB_iff.1 (htm lb[i] (List.getElem_mem hj))
  rw [S35_ext]
  refine ⟨hni, ?_⟩
  by_cases h0 : 0 < la[i].f1
  · obtain ⟨x1, x2⟩ := level_of a6 b6 hnm p3 hlv hi hj h0
    exact ⟨x1.symm, x2.symm⟩
  · by_cases h1 : 0 < lb[i].f1
    · obtain ⟨x1, x2⟩ := level_of b6 a6 hnm.symm q3 (fun k hk => (hlv k hk).symm) hj hi h1
      exact ⟨x1, x2⟩
    · have c1 : la[i].f1 = 0 := by omega
      have c2 : lb[i].f1 = 0 := by omega
      rw [c1, c2, hta.2.2.2.1 c1, htb.2.2.2.1 c2]
      exact ⟨rfl, rfl⟩
end Go.Proofs.YteonnadhdmcloaaDoor.G
