/- gram: gram.line, gram.named. gram: what gram.Text answers, and how long it is. gram: gram.Text. -/
import Derived.Test.YteonnadhdmcloaaDoorGramS1
import Derived.Test.YteonnadhdmcloaaDoorGramShelf
import Derived.Lib.ItoaLen
import Derived.Lib.ItoaMem
namespace Go.Proofs.YteonnadhdmcloaaDoor.G
open Go.RowKit Go.Proofs.YteonnadhdmcloaaDoorW.PrintWords Go.Proofs.YteonnadhdmcloaaDoorW.PrintLast Go.Proofs.YteonnadhdmcloaaDoorW.PrintMore
set_option linter.unusedVariables false
set_option linter.unusedSimpArgs false
/-- Words, a blank between them. -/
def wordsL (xs : List ByteArray) : List UInt8 := Lib.join (xs.map (·.data.toList)) [32]
def lineL (xs : List ByteArray) : List UInt8 := wordsL xs ++ [10]
def mkS (l : List UInt8) : ByteArray := ⟨l.toArray⟩
theorem mkS_list (l : List UInt8) : (mkS l).data.toList = l := rfl
theorem ret_str {a b : ByteArray} (h : a.data.toList = b.data.toList) : Ending.returned (.string a) = .returned (.string b) := by
  rw [show a = b from by cases a; cases b; congr; exact Array.toList_inj.1 h]
set_option maxHeartbeats 1000000 in
theorem line_calls (w : World) (bk o c : Nat) (xs : List ByteArray) (h0 : 0 < xs.length) (hr : Kd.C Kd.string w (some ⟨bk, o, none⟩) xs.length xs) (hc : xs.length ≤ c) (hl : xs.length ≤ 1000) (hlen : (wordsL xs).length ≤ 1000000) :
    Calls Tryd.prog 30 #[.slice (some ⟨bk, o, none⟩) xs.length c] w fun e w' => e = .returned (.string (mkS (lineL xs))) ∧ Below w.heap.size w w' := by
  have hcs : ∀ (j : Nat) x, xs[j]? = some x → w.cell? ⟨bk, o + j, none⟩ = some (.string x) := by
    intro j x hj
    obtain ⟨ad, e, hcs⟩ := hr.2.2 h0
    injection e with e
    subst e
    obtain ⟨cc, hl1, hK, hu⟩ := hcs j x hj
    obtain rfl : cc = [.string x] := hK
    have := hu 0 _ rfl
    rw [add_at] at this
    simpa [Kd.string, Kd.scalar] using this
  have hbk : bk < w.heap.size := World.block_lt_of_cell? _ _ (hcs 0 xs[0] (List.getElem?_eq_getElem h0))
  obtain ⟨jn, hjn⟩ : ∃ jn : ByteArray, jn = mkS (wordsL xs) := ⟨_, rfl⟩
  have hjs : jn.size ≤ 1000000 := by rw [hjn]; show (wordsL xs).toArray.size ≤ _; rw [List.size_toArray]; exact hlen
  have HJ : Aside0 (Calls Tryd.prog 51 #[.slice (some ⟨bk, o, none⟩) xs.length c, .string ⟨#[32]⟩] w fun e w' => e = .returned (.string jn) ∧ Below w.heap.size w w') := ⟨by
    rw [hjn]
    exact YteonnadhdmcloaaDoor.K.strings_Join bk o c xs ⟨#[32]⟩ w hcs hbk (by omega) hc (by show (wordsL xs).length ≤ _; omega)⟩
  have HJN := Aside0.mk hjn
  clear hcs hr hjn
  go_enter Tryd.func30, Tryd.ntmps30
  go_wp2_with fail
  go_at_call 51
  refine HJ.out.mono ?_
  rintro e w1 ⟨rfl, hd⟩
  have HB := Aside0.mk hd
  clear hd HJ
  go_wp2_with fail
  go_ret
  exact ⟨ret_str (by rw [HJN.out]; simp [lineL, mkS]), HB.out⟩
/-- A key and the names of tokens, or nothing. -/
def namedL (key : ByteArray) (l : List S35) : List UInt8 := if l.length = 0 then [] else lineL (key :: l.map (·.f0))
/-- An own row of texts, beginning at its block's beginning. -/
def WRel (key : ByteArray) (l : List S35) (w : World) (kq : Nat) (v5 v15 : Value) (w' : World) : Prop :=
  ∃ i : Nat, i + kq = l.length ∧ v15 = .int .i64 (i : Int) ∧ Below w.heap.size w w' ∧ Kd.R Kd.string 9 w' w.heap.size (fun _ => True) v5 (key :: (l.take i).map (·.f0))
set_option maxHeartbeats 4000000 in
theorem named_calls (w : World) (key : ByteArray) (A : Option Addr) (c : Nat) (l : List S35) (hr : Kd.C k35 w A l.length l) (hl : l.length ≤ 900) (hlen : (wordsL (key :: l.map (·.f0))).length ≤ 1000000) :
    Calls Tryd.prog 28 #[.string key, .slice A l.length c] w fun e w' => e = .returned (.string (mkS (namedL key l))) ∧ Below w.heap.size w w' := by
  have HR := Aside0.mk hr
  have HW := Aside0.mk (Below.refl w.heap.size w)
  have HLN := Aside0.mk hlen
  clear hr hlen
  by_cases h0 : l.length = 0
  · have HL : Aside0 (namedL key l = []) := ⟨by unfold namedL; rw [if_pos h0]⟩
    have t0 : ((l.length : Int) == 0) = true := by simp [h0]
    clear h0
    go_enter Tryd.func28, Tryd.ntmps28
    go_wp2_with fail
    go_ret
    exact ⟨ret_str (by rw [HL.out]; rfl), HW.out⟩
  · have HL : Aside0 (namedL key l = lineL (key :: l.map (·.f0))) := ⟨by unfold namedL; rw [if_neg h0]⟩
    have t0 : ((l.length : Int) == 0) = false := beq_eq_false_iff_ne.mpr (by omega)
    clear h0
    go_enter Tryd.func28, Tryd.ntmps28
    go_wp2_with (first
      | ((with_reducible refine gate_dst (N := 12) rfl ?_); refine Kd.R_lit Kd.string (w0 := w) w.heap.size 9 rfl (N := 12) rfl (xs := [key]) (inner := [.string key]) (ok := fun _ => True) (okp := fun _ => True) ?hr ?hp (fun _ hk => hk) trivial HW.out (Nat.le_refl _) (by simp) ?_; (case hr => first | (go_simp; done) | (go_simp; rfl)); (case hp => exact (Reps.none _ _).snoc (show Kd.M Kd.string _ _ _ key [.string key] from rfl) rfl); intro v1 w1 ho1 hb1 hg1 hn1; clear hg1 hn1; have HO := Aside0.mk ho1; have HB := Aside0.mk hb1; clear ho1 hb1))
    go_loopg [5, 15] l.length (fun kq v5 v15 w' => WRel key l w kq v5 v15 w')
    case atStart => exact ⟨0, by omega, rfl, HB.out, HO.out⟩
    case round =>
      obtain ⟨i, hi, rfl, hb, hq⟩ := hrel
      clear HO HB
      have HI := Aside0.mk hi
      have HB := Aside0.mk hb
      have HO := Aside0.mk hq
      clear hi hb hq
      by_cases hil : i < l.length
      · have t1 : decide ((i : Int) < (l.length : Int)) = true := by simp; omega
        obtain ⟨ad, e1, x0, x1, x2⟩ := at_tok (Kd.C_below HR.out HB.out) i hil rfl
        subst e1
        obtain ⟨ws, hws⟩ : ∃ ws, ws = key :: (l.take i).map (·.f0) := ⟨_, rfl⟩
        have hn1 : ws.length = i + 1 := by rw [hws]; simp only [List.length_cons, List.length_map, List.length_take]; omega
        rw [← hws] at HO
        obtain ⟨Ao, co, rfl⟩ := Kd.R_slice HO.out
        have HTS := Aside0.mk (show key :: (l.take (i + 1)).map (·.f0) = ws ++ [l[i].f0] by rw [hws, List.take_succ_eq_append_getElem hil, List.map_append]; rfl)
        have HN1 := Aside0.mk hn1
        clear hn1 hws
        have HSZ := Aside0.mk (show w.heap.size ≤ wr.heap.size from HB.out.size)
        go_wp2_with (first
          | (at_builtin; go_loud (refine Kd.R_append Kd.string (w0 := w) w.heap.size rfl (.tmp 19) (.tmp 22) 37 9 (.string ⟨#[]⟩) 16 rfl Tryd.underlying37 info9 rfl (by decide) (by omega) _ ws l[i].f0 [.string l[i].f0] (fun _ => True) (fun _ => False) rfl (by rw [World.size_alloc]; rfl) (show Kd.M Kd.string _ _ _ l[i].f0 [.string l[i].f0] from rfl) (fun _ hk => hk.elim) (fun _ _ => trivial) (by (with_reducible repeat (first | apply Kd.R_alloc | apply Kd.R_drewN | apply Kd.R_drew)); exact HO.out) (by repeat (first | (with_reducible first | exact HB.out | apply below_alloc | apply pw_below_drewN | apply below_drew1) | exact HB.out | exact Below.alloc HB.out HSZ.out _)) (by have := HSZ.out; simp; omega) (by rw [HN1.out]; omega) ?_; intro v1 w1 ho1 hb1 hg1 hn1; clear hg1 hn1; have HO1 := Aside0.mk ho1; have HB1 := Aside0.mk hb1; clear ho1 hb1)))
        go_roundg (gk - 1)
        case measure => have := HI.out; omega
        case rel => exact ⟨i + 1, by have := HI.out; omega, by go_num, HB1.out, by rw [HTS.out]; exact HO1.out⟩
      · have hi2 : i = l.length := by have := HI.out; omega
        subst hi2
        have t1 : decide ((l.length : Int) < (l.length : Int)) = false := by simp
        rw [List.take_length] at HO
        obtain ⟨ws, hws⟩ : ∃ ws, ws = key :: l.map (·.f0) := ⟨_, rfl⟩
        have hn1 : ws.length = l.length + 1 := by rw [hws]; simp
        rw [← hws] at HO HL HLN
        clear hws
        obtain ⟨g, o, co, e5, _, _, _⟩ := Kd.Q_form (Kd.Q_of_R HO.out) (by omega)
        subst e5
        obtain ⟨_, hco, hC⟩ := Kd.Q_reads' (Kd.Q_of_R HO.out)
        have HLC := Aside0.mk (line_calls wr g o co ws (by omega) hC hco (by rw [hn1]; omega) HLN.out)
        clear hC HO hn1
        go_wp2_with fail
        go_at_call 30
        refine HLC.out.mono ?_
        rintro e w2 ⟨rfl, hd⟩
        have HB2 := Aside0.mk (HB.out.trans (hd.mono HB.out.size))
        clear hd HLC HB
        go_wp2_with fail
        go_ret
        exact ⟨ret_str (by rw [HL.out]), HB2.out⟩
end Go.Proofs.YteonnadhdmcloaaDoor.G
namespace Go.Proofs.YteonnadhdmcloaaDoor.G
open Go.RowKit Go.Proofs.YteonnadhdmcloaaDoorW.PrintWords Go.Proofs.YteonnadhdmcloaaDoorW.PrintLast Go.Proofs.YteonnadhdmcloaaDoorW.PrintMore
set_option linter.unusedVariables false
set_option linter.unusedSimpArgs false
def sTok : ByteArray := ⟨#[37, 116, 111, 107, 101, 110]⟩
def sLeft : ByteArray := ⟨#[37, 108, 101, 102, 116]⟩
def sRight : ByteArray := ⟨#[37, 114, 105, 103, 104, 116]⟩
def sNon : ByteArray := ⟨#[37, 110, 111, 110, 97, 115, 115, 111, 99]⟩
def sStart : ByteArray := ⟨#[37, 115, 116, 97, 114, 116]⟩
def sExpect : ByteArray := ⟨#[37, 101, 120, 112, 101, 99, 116]⟩
def sCut : ByteArray := ⟨#[37, 37]⟩
def sColon : ByteArray := ⟨#[58]⟩
def sSemi : ByteArray := ⟨#[59]⟩
def sPrec : ByteArray := ⟨#[37, 112, 114, 101, 99]⟩
def kindS (a : Int) : ByteArray := if a = 1 then sLeft else if a = 2 then sRight else if a = 3 then sNon else ⟨#[]⟩
def levL (l : List S35) : List UInt8 := match l with | [] => [] | t :: r => namedL (kindS t.f2) (t :: r)
def levelsL (l : List S35) (j : Nat) : List UInt8 := (List.range j).flatMap fun k : Nat => levL (keepB ((k : Int) + 1) l)
def startL (st : ByteArray) : List UInt8 := if st.data.toList = [] then [] else lineL [sStart, st]
def expectL (ex : Int) : List UInt8 := if 0 < ex then lineL [sExpect, mkS (Lib.itoa ex)] else []
def ruleW (r : S39) : List ByteArray := [r.f0, sColon] ++ r.f1 ++ (if r.f2.data.toList = [] then [] else [sPrec, r.f2]) ++ [sSemi]
def rulesL (rs : List S39) : List UInt8 := rs.flatMap fun r => lineL (ruleW r)
def headL (l : List S35) (st : ByteArray) (ex : Int) : List UInt8 := namedL sTok l ++ levelsL l 8 ++ startL st ++ expectL ex ++ lineL [sCut]
def textL (l : List S35) (st : ByteArray) (ex : Int) (rs : List S39) : List UInt8 := if mayB l st ex rs then headL l st ex ++ rulesL rs else []
theorem levelsL_succ (l : List S35) (j : Nat) : levelsL l (j + 1) = levelsL l j ++ levL (keepB ((j : Int) + 1) l) := by
  unfold levelsL
  rw [List.range_succ, List.flatMap_append]
  simp
theorem rulesL_snoc {rs : List S39} {i : Nat} (h : i < rs.length) : rulesL (rs.take (i + 1)) = rulesL (rs.take i) ++ lineL (ruleW rs[i]) := by
  unfold rulesL
  rw [List.take_succ_eq_append_getElem h, List.flatMap_append]
  simp
theorem words_le {m : Nat} : ∀ xs : List ByteArray, (∀ x ∈ xs, x.data.toList.length ≤ m) → (wordsL xs).length ≤ xs.length * (m + 1) := by
  intro xs h
  unfold wordsL
  cases xs with
  | nil => simp [Lib.join_nil]
  | cons x r =>
    rw [List.map_cons, Lib.join_cons, List.length_append]
    have h0 := h x (by simp)
    have : ∀ r : List ByteArray, (∀ y ∈ r, y.data.toList.length ≤ m) → (Lib.joinTail [32] (r.map (·.data.toList))).length ≤ r.length * (m + 1) := by
      intro r
      induction r with
      | nil => intro _; simp [Lib.joinTail]
      | cons y r ih =>
        intro hr
        have h1 := hr y (by simp)
        have h2 := ih (fun z hz => hr z (by simp [hz]))
        unfold Lib.joinTail at h2 ⊢
        rw [List.map_cons, List.map_cons, List.flatten_cons, List.length_append, List.length_append]
        show _ ≤ (r.length + 1) * (m + 1)
        rw [Nat.add_mul]
        simp only [List.length_cons, List.length_nil]
        omega
    have h2 := this r (fun y hy => h y (by simp [hy]))
    rw [List.length_cons, Nat.add_mul]
    omega
theorem nm_len {s : ByteArray} (h : Nm s = true) : 1 ≤ s.data.toList.length ∧ s.data.toList.length ≤ 12 := by
  unfold Nm nameB at h
  split at h
  · cases h
  · rename_i c r e
    rw [e]
    simp only [Bool.and_eq_true, decide_eq_true_eq] at h
    simp only [List.length_cons]
    omega
theorem or_len {s : ByteArray} (h : orB s = true) : s.data.toList.length ≤ 12 := by
  unfold orB at h
  rw [Bool.or_eq_true] at h
  rcases h with h | h
  · rw [of_decide_eq_true h]; simp
  · exact (nm_len h).2
theorem may_parts {l : List S35} {st : ByteArray} {ex : Int} {rs : List S39} (h : mayB l st ex rs = true) : rs.any ruleBad = false ∧ rs.length ≤ 100 ∧ orB st = true ∧ 0 ≤ ex ∧ ex ≤ 9999 ∧ tokensB l = true := by
  unfold mayB at h
  simp only [Bool.and_eq_true, decide_eq_true_eq, Bool.not_eq_true'] at h
  obtain ⟨⟨⟨⟨⟨a, b⟩, c⟩, d⟩, e⟩, f⟩ := h
  exact ⟨a, b, c, d, e, f⟩
theorem tokens_parts {l : List S35} (h : tokensB l = true) : newsB l = true ∧ levelsB l = true ∧ l.length ≤ 40 := by
  unfold tokensB at h
  simp only [Bool.and_eq_true, decide_eq_true_eq] at h
  exact ⟨h.1.1, h.1.2, h.2⟩
theorem tokens_tok {l : List S35} (h : tokensB l = true) : ∀ t ∈ l, tokB t = true := by
  intro t ht
  obtain ⟨j, hj, rfl⟩ := List.getElem_of_mem ht
  have := newsB_iff.1 (tokens_parts h).1 j hj
  unfold newB at this
  rw [Bool.and_eq_true] at this
  exact this.1
theorem tok_nm {t : S35} (h : tokB t = true) : Nm t.f0 = true := by
  unfold tokB at h
  rw [Bool.and_eq_true] at h
  exact h.1
theorem tok_assoc {t : S35} (h : tokB t = true) (h1 : 0 < t.f1) : t.f2 = 1 ∨ t.f2 = 2 ∨ t.f2 = 3 := by
  unfold tokB at h
  rw [Bool.and_eq_true, if_neg (by omega)] at h
  simp only [Bool.and_eq_true, decide_eq_true_eq] at h
  omega
theorem rule_parts {r : S39} (h : ruleBad r = false) : Nm r.f0 = true ∧ orB r.f2 = true ∧ r.f1.length ≤ 20 ∧ ∀ s ∈ r.f1, Nm s = true := by
  unfold ruleBad at h
  simp only [Bool.or_eq_false_iff, Bool.not_eq_false', decide_eq_false_iff_not, List.any_eq_false] at h
  obtain ⟨⟨⟨a, b⟩, c⟩, d⟩ := h
  exact ⟨a, b, by omega, fun s hs => by simpa using d s hs⟩
theorem rule_words {r : S39} (h : ruleBad r = false) : (ruleW r).length ≤ 25 ∧ (wordsL (ruleW r)).length ≤ 325 := by
  obtain ⟨h1, h2, h3, h4⟩ := rule_parts h
  have hl : (ruleW r).length ≤ 25 := by
    unfold ruleW
    split <;> simp <;> omega
  have := words_le (m := 12) (ruleW r) (by
    intro x hx
    unfold ruleW at hx
    simp only [List.mem_append, List.mem_cons, List.not_mem_nil, or_false] at hx
    rcases hx with ((h5 | h5) | h5) | h5
    · rcases h5 with rfl | rfl
      · exact (nm_len h1).2
      · decide
    · exact (nm_len (h4 x h5)).2
    · split at h5
      · cases h5
      · simp only [List.mem_cons, List.not_mem_nil, or_false] at h5
        rcases h5 with rfl | rfl
        · decide
        · exact or_len h2
    · subst h5; decide)
  refine ⟨hl, ?_⟩
  have h5 := Nat.mul_le_mul_right 13 hl
  omega
theorem rules_len {rs : List S39} (h : rs.any ruleBad = false) : (rulesL rs).length ≤ rs.length * 326 := by
  induction rs with
  | nil => simp [rulesL]
  | cons r rs ih =>
    rw [List.any_cons, Bool.or_eq_false_iff] at h
    have h1 := rule_words h.1
    have h2 := ih h.2
    unfold rulesL at h2 ⊢
    rw [List.flatMap_cons, List.length_append, List.length_cons, Nat.add_mul, show lineL (ruleW r) = wordsL (ruleW r) ++ [10] from rfl, List.length_append]
    simp only [List.length_cons, List.length_nil]
    omega
theorem kind_len (a : Int) : (kindS a).data.toList.length ≤ 12 := by
  unfold kindS
  split
  · decide
  · split
    · decide
    · split <;> decide
theorem named_words {key : ByteArray} {l : List S35} (hk : key.data.toList.length ≤ 12) (hl : l.length ≤ 40) (h : ∀ t ∈ l, tokB t = true) : (wordsL (key :: l.map (·.f0))).length ≤ 533 ∧ (namedL key l).length ≤ 534 := by
  have h1 := words_le (m := 12) (key :: l.map (·.f0)) (by
    intro x hx
    rw [List.mem_cons, List.mem_map] at hx
    rcases hx with rfl | ⟨t, ht, rfl⟩
    · exact hk
    · exact (nm_len (tok_nm (h t ht))).2)
  have h2 : (key :: l.map (·.f0)).length ≤ 41 := by simp; omega
  have h3 := Nat.mul_le_mul_right 13 h2
  refine ⟨by omega, ?_⟩
  unfold namedL
  split
  · simp
  · unfold lineL
    rw [List.length_append]
    simp only [List.length_cons, List.length_nil]
    omega
theorem keep_mem {n : Int} {l : List S35} {t : S35} (h : t ∈ keepB n l) : t ∈ l ∧ t.f1 = n := by
  unfold keepB at h
  rw [List.mem_filter] at h
  refine ⟨h.1, ?_⟩
  have := h.2
  unfold offB at this
  simpa using this
theorem keep_len (n : Int) (l : List S35) : (keepB n l).length ≤ l.length := List.length_filter_le _ _
theorem lev_len {n : Int} {l : List S35} (hl : l.length ≤ 40) (h : ∀ t ∈ l, tokB t = true) : (levL (keepB n l)).length ≤ 534 := by
  have h1 := keep_len n l
  have h2 : ∀ t ∈ keepB n l, tokB t = true := fun t ht => h t (keep_mem ht).1
  unfold levL
  split
  · simp
  · rename_i t r e
    rw [e] at h1 h2
    exact (named_words (kind_len _) (by omega) h2).2
theorem levels_len {l : List S35} (hl : l.length ≤ 40) (h : ∀ t ∈ l, tokB t = true) (j : Nat) : (levelsL l j).length ≤ j * 534 := by
  induction j with
  | zero => simp [levelsL]
  | succ j ih =>
    rw [levelsL_succ, List.length_append, Nat.add_mul]
    have := lev_len (n := (j : Int) + 1) hl h
    omega
theorem two_len {a b : ByteArray} (ha : a.data.toList.length ≤ 12) (hb : b.data.toList.length ≤ 21) : (wordsL [a, b]).length ≤ 44 ∧ (lineL [a, b]).length ≤ 45 := by
  have h := words_le (m := 21) [a, b] (by
    intro x hx
    simp only [List.mem_cons, List.not_mem_nil, or_false] at hx
    rcases hx with rfl | rfl <;> omega)
  simp only [List.length_cons, List.length_nil] at h
  refine ⟨by omega, ?_⟩
  unfold lineL
  rw [List.length_append]
  simp only [List.length_cons, List.length_nil]
  omega
theorem start_len {st : ByteArray} (h : orB st = true) : (startL st).length ≤ 45 := by
  unfold startL
  split
  · simp
  · exact (two_len (by decide) (by have := or_len h; omega)).2
theorem itoa_len {ex : Int} (h0 : 0 ≤ ex) (h1 : ex ≤ 9999) : (mkS (Lib.itoa ex)).data.toList.length ≤ 21 := Lib.itoa_length_le ex (by omega) (by omega)
theorem expect_len {ex : Int} (h0 : 0 ≤ ex) (h1 : ex ≤ 9999) : (expectL ex).length ≤ 45 := by
  unfold expectL
  split
  · exact (two_len (by decide) (itoa_len h0 h1)).2
  · simp
theorem head_len {l : List S35} {st : ByteArray} {ex : Int} (hl : l.length ≤ 40) (h : ∀ t ∈ l, tokB t = true) (hs : orB st = true) (h0 : 0 ≤ ex) (h1 : ex ≤ 9999) : (headL l st ex).length ≤ 5000 ∧ (namedL sTok l ++ levelsL l 8 ++ startL st).length ≤ 4900 ∧ (namedL sTok l ++ levelsL l 8 ++ startL st ++ expectL ex).length ≤ 4950 := by
  have a1 := (named_words (key := sTok) (by decide) hl h).2
  have a2 := levels_len hl h 8
  have a3 := start_len hs
  have a4 := expect_len h0 h1
  have a5 : (lineL [sCut]).length = 3 := by decide
  unfold headL
  simp only [List.length_append]
  omega
end Go.Proofs.YteonnadhdmcloaaDoor.G
namespace Go.Proofs.YteonnadhdmcloaaDoor.G
open Go.RowKit Go.Proofs.YteonnadhdmcloaaDoorW.PrintWords Go.Proofs.YteonnadhdmcloaaDoorW.PrintLast Go.Proofs.YteonnadhdmcloaaDoorW.PrintMore
set_option linter.unusedVariables false
set_option linter.unusedSimpArgs false
theorem size_of {s : ByteArray} : s.size = s.data.toList.length := (size_list s).symm
def LRel (l : List S35) (w : World) (X : Nat) (a b c d : Value) (kq : Nat) (v3 v4 : Value) (w' : World) : Prop :=
  ∃ (j : Nat) (s : ByteArray), j + kq = 8 ∧ v4 = .int .i64 ((j : Int) + 1) ∧ v3 = .string s ∧ s.data.toList = namedL sTok l ++ levelsL l j ∧ Below w.heap.size w w' ∧ Box4 w' X a b c d
def SRel (L : List UInt8) (w : World) (X : Nat) (a b c d : Value) (v3 : Value) (w' : World) : Prop :=
  ∃ s : ByteArray, v3 = .string s ∧ s.data.toList = L ∧ Below w.heap.size w w' ∧ Box4 w' X a b c d
theorem C_lit (w : World) (xs : List ByteArray) (hl : xs.length ≤ 1000) : Kd.C Kd.string (w.alloc (.cells (xs.map Value.string).toArray 9)) (some ⟨w.heap.size, 0, none⟩) xs.length xs := by
  refine ⟨rfl, by omega, fun _ => ⟨_, rfl, fun j p hj => ⟨[.string p], rfl, rfl, fun i u hi => ?_⟩⟩⟩
  obtain ⟨hjl, rfl⟩ := List.getElem?_eq_some_iff.1 hj
  cases i with
  | succ i => simp at hi
  | zero =>
    simp only [List.getElem?_cons_zero, Option.some.injEq] at hi
    subst hi
    rw [add_at, blk_cell (blk_new w _)]
    simp [Kd.string, Kd.scalar, hj]
theorem line_lit (w : World) (xs : List ByteArray) (h0 : 0 < xs.length) (hl : xs.length ≤ 1000) (hlen : (wordsL xs).length ≤ 1000000) :
    Calls Tryd.prog 30 #[.slice (some ⟨w.heap.size, 0, none⟩) xs.length xs.length] (w.alloc (.cells (xs.map Value.string).toArray 9)) fun e w' => e = .returned (.string (mkS (lineL xs))) ∧ Below w.heap.size w w' := by
  have hb := below_alloc (Below.refl w.heap.size w) (.cells (xs.map Value.string).toArray 9)
  refine (line_calls _ w.heap.size 0 xs.length xs h0 (C_lit w xs hl) (Nat.le_refl _) hl hlen).mono ?_
  rintro e w1 ⟨rfl, hd⟩
  exact ⟨rfl, hb.trans (hd.mono hb.size)⟩
theorem run_kind (a : Int) (h : a = 1 ∨ a = 2 ∨ a = 3) (W : World) : (Instr.index 51 (.agg #[.string ⟨#[]⟩, .string ⟨#[37, 108, 101, 102, 116]⟩, .string ⟨#[37, 114, 105, 103, 104, 116]⟩, .string ⟨#[37, 110, 111, 110, 97, 115, 115, 111, 99]⟩]) (.int .i64 a)).run Tryd.prog W = .ok (.string (kindS a)) W := by
  have hu := Tryd.underlying51
  have hu9 := Tryd.underlying9
  rcases h with rfl | rfl | rfl <;> (simp [Instr.index, run_underlying Tryd.underlying51, asIntOf, go_sem, hu, hu9]; rfl)
def RRel (l : List S35) (st : ByteArray) (ex : Int) (rs : List S39) (w : World) (kq : Nat) (v3 v61 : Value) (w' : World) : Prop :=
  ∃ (i : Nat) (s : ByteArray), i + kq = rs.length ∧ v61 = .int .i64 (i : Int) ∧ v3 = .string s ∧ s.data.toList = headL l st ex ++ rulesL (rs.take i) ∧ Below w.heap.size w w'
/-- A row of words that the call owns. -/
def WRow (ws : List ByteArray) (W : World) (v : Value) (w' : World) : Prop := Kd.R Kd.string 9 w' W.heap.size (fun _ => True) v ws ∧ Below W.heap.size W w'
def ruleW0 (r : S39) : List ByteArray := [r.f0, sColon] ++ r.f1 ++ (if r.f2.data.toList = [] then [] else [sPrec, r.f2])
set_option maxHeartbeats 16000000 in
set_option maxRecDepth 100000 in
theorem text_calls (w : World) (A : Option Addr) (c : Nat) (l : List S35) (st : ByteArray) (ex : Int) (A2 : Option Addr) (c2 : Nat) (rs : List S39) (hr : Kd.C k35 w A l.length l) (hcl : l.length ≤ c) (hl : l.length ≤ 100000) (hr2 : Kd.C k39 w A2 rs.length rs) (hl2 : rs.length ≤ 17592186044416) (hs : ∀ r ∈ rs, r.f1.length ≤ 17592186044416)
    (hit : ∀ W, Below w.heap.size w W → Calls Tryd.prog 31 #[.int .i64 ex] W fun e w' => e = .returned (.string (mkS (Lib.itoa ex))) ∧ Below W.heap.size W w') :
    Calls Tryd.prog 12 #[.agg #[.slice A l.length c, .string st, .int .i64 ex, .slice A2 rs.length c2]] w fun e w' => e = .returned (.string (mkS (textL l st ex rs))) ∧ Below w.heap.size w w' := by
  have HX := Aside0.mk (Box4.new w (.slice A l.length c) (.string st) (.int .i64 ex) (.slice A2 rs.length c2) 25)
  have HB := Aside0.mk (below_alloc (Below.refl w.heap.size w) (.cells #[.slice A l.length c, .string st, .int .i64 ex, .slice A2 rs.length c2] 25))
  have HR := Aside0.mk hr
  have HR2 := Aside0.mk hr2
  have HS := Aside0.mk hs
  have HIT := Aside0.mk hit
  clear hr hr2 hs hit
  obtain ⟨b1, hb1⟩ : ∃ b, mayB l st ex rs = b := ⟨_, rfl⟩
  have HE1 := Aside0.mk hb1
  clear hb1
  go_enter Tryd.func12, Tryd.ntmps12
  have x0 := HX.out.c0
  have x1 := HX.out.c1
  have x2 := HX.out.c2
  have x3 := HX.out.c3
  go_wp2_with fail
  clear x0 x1 x2 x3
  obtain ⟨X, hX⟩ : ∃ X, X = w.heap.size := ⟨_, rfl⟩
  rw [← hX] at HX
  generalize hW1 : w.alloc (.cells #[.slice A l.length c, .string st, .int .i64 ex, .slice A2 rs.length c2] 25) = W1 at *
  rw [← hX]
  have HXE := Aside0.mk hX
  clear hW1 hX
  go_at_call 10
  refine (may_calls W1 A c l st ex A2 c2 rs (Kd.C_below HR.out HB.out) hcl hl (Kd.C_below HR2.out HB.out) hl2 HS.out).mono ?_
  rw [HE1.out]
  rintro e w1 ⟨rfl, hd⟩
  have HX1 := Aside0.mk (HX.out.move hd HX.out.lt)
  have HB1 := Aside0.mk (HB.out.trans (hd.mono HB.out.size))
  clear hd HX HB
  cases b1 with
  | false =>
    go_wp2_with fail
    go_ret
    exact ⟨ret_str (by unfold textL; rw [HE1.out]; rfl), HB1.out⟩
  | true =>
    obtain ⟨hm1, hm2, hm3, hm4, hm5, hm6⟩ := may_parts HE1.out
    have hl40 := (tokens_parts hm6).2.2
    have htk := tokens_tok hm6
    have hnw := named_words (key := sTok) (by decide) hl40 htk
    have x0 := HX1.out.c0
    have HTK := Aside0.mk htk
    have HM1 := Aside0.mk hm1
    have HM3 := Aside0.mk hm3
    have HTX : Aside0 (textL l st ex rs = headL l st ex ++ rulesL rs) := ⟨by unfold textL; rw [HE1.out]; rfl⟩
    have HNW := Aside0.mk hnw
    clear hm1 hm3 hm6 htk hnw
    go_wp2_with fail
    go_at_call 28
    refine (named_calls w1 sTok A c l (Kd.C_below HR.out HB1.out) (by omega) (by have := HNW.out.1; omega)).mono ?_
    obtain ⟨u, hu⟩ : ∃ u, u = mkS (namedL sTok l) := ⟨_, rfl⟩
    rw [← hu]
    have HU := Aside0.mk (show u.data.toList = namedL sTok l by rw [hu]; rfl)
    clear hu
    rintro e w2 ⟨rfl, hd⟩
    have HX2 := Aside0.mk (HX1.out.move hd HX1.out.lt)
    have HB2 := Aside0.mk (HB1.out.trans (hd.mono HB1.out.size))
    clear hd HX1 HB1 x0
    go_wp2_with fail
    go_loopg [3, 4] 8 (fun kq v3 v4 w' => LRel l w X (.slice A l.length c) (.string st) (.int .i64 ex) (.slice A2 rs.length c2) kq v3 v4 w')
    case atStart => exact ⟨0, u, by omega, rfl, rfl, by rw [HU.out]; simp [levelsL], HB2.out, HX2.out⟩
    case round =>
      obtain ⟨j, s, hj, rfl, rfl, hs, hb, hx⟩ := hrel
      clear HX2 HB2 HU
      have HJ := Aside0.mk hj
      have HSL := Aside0.mk hs
      have HB2 := Aside0.mk hb
      have HX2 := Aside0.mk hx
      have x0 := hx.c0
      have x1 := hx.c1
      have x2 := hx.c2
      have x3 := hx.c3
      clear hj hs hb hx
      have hsz : s.size ≤ 10000 := by
        have h1 := levels_len hl40 HTK.out j
        have h2 := HNW.out.2
        have h3 := congrArg List.length HSL.out
        have := HJ.out
        rw [List.length_append] at h3
        rw [size_of]
        omega
      by_cases hj8 : j < 8
      · have t1 : decide ((j : Int) + 1 ≤ 8) = true := by simp; omega
        go_wp2_with fail
        go_at_call 29
        refine (level_calls _ A c l st ex ((j : Int) + 1) A2 rs.length c2 (Kd.C_below HR.out HB2.out) hcl hl).mono ?_
        rintro e w3 ⟨A3, c3, rfl, hc3, hC3, hd⟩
        have HX3 := Aside0.mk (HX2.out.move hd HX2.out.lt)
        have HB3 := Aside0.mk (HB2.out.trans (hd.mono HB2.out.size))
        have hkm := fun t => keep_mem (n := (j : Int) + 1) (l := l) (t := t)
        have hkl := keep_len ((j : Int) + 1) l
        have hlv := levelsL_succ l j
        clear hd HX2 HB2 x0 x1 x2 x3
        generalize keepB ((j : Int) + 1) l = kl at *
        have HLV := Aside0.mk hlv
        clear hlv
        by_cases hk0 : kl.length = 0
        · have HLN : Aside0 (levL kl = []) := ⟨by rw [List.length_eq_zero_iff.1 hk0]; rfl⟩
          have t3 : decide (0 < kl.length) = false := decide_eq_false (by omega)
          clear hkm hk0
          go_wp2_with fail
          go_roundg (gk - 1)
          case measure => have := HJ.out; omega
          case rel => exact ⟨j + 1, s, by have := HJ.out; omega, by go_num, rfl, by rw [HLV.out, HSL.out, HLN.out]; simp, HB3.out, HX3.out⟩
        · have hk1 : 0 < kl.length := by omega
          have ht1 := hkm kl[0] (List.getElem_mem hk1)
          have has := tok_assoc (HTK.out kl[0] ht1.1) (by rw [ht1.2]; omega)
          have hkt : ∀ u ∈ kl, tokB u = true := fun u hu => HTK.out u (hkm u hu).1
          have hnw2 := named_words (key := kindS kl[0].f2) (kind_len _) (show kl.length ≤ 40 by omega) hkt
          have hlk : levL kl = namedL (kindS kl[0].f2) kl := by
            cases kl with
            | nil => simp at hk1
            | cons t r => rfl
          have hnsz : (namedL (kindS kl[0].f2) kl).length ≤ 534 := hnw2.2
          have hnwl : (wordsL (kindS kl[0].f2 :: kl.map (·.f0))).length ≤ 1000000 := by have := hnw2.1; omega
          have HNC := Aside0.mk (named_calls w3 (kindS kl[0].f2) A3 c3 kl hC3 (by omega) hnwl)
          obtain ⟨ad, e1, y0, y1, y2⟩ := at_tok hC3 0 hk1 rfl
          subst e1
          obtain ⟨u2, hu2⟩ : ∃ u, u = mkS (namedL (kindS kl[0].f2) kl) := ⟨_, rfl⟩
          rw [← hu2] at HNC
          have hus : u2.size ≤ 534 := by rw [hu2]; show (List.toArray _).size ≤ _; rw [List.size_toArray]; exact hnsz
          have HU2 := Aside0.mk (show u2.data.toList = levL kl by rw [hlk, hu2]; rfl)
          have t3 : decide (0 < kl.length) = true := decide_eq_true hk1
          clear hkm hkt hnw2 hlk hnwl hu2 ht1 hC3 hnsz y0 y1 hk0
          rw [Nat.zero_mul, show ad.add 0 = ad from by simp [Addr.add]] at y2
          generalize kl[0].f2 = av at *
          · have hrk := run_kind av has
            go_wp2_with fail
            go_at_call 28
            refine HNC.out.mono ?_
            rintro e w4 ⟨rfl, hd⟩
            have HX4 := Aside0.mk (HX3.out.move hd HX3.out.lt)
            have HB4 := Aside0.mk (HB3.out.trans (hd.mono HB3.out.size))
            clear hd HX3 HB3 y2 HNC
            go_wp2_with fail
            go_roundg (gk - 1)
            case measure => have := HJ.out; omega
            case rel => exact ⟨j + 1, s ++ u2, by have := HJ.out; omega, by go_num, rfl, by rw [HLV.out, ← HU2.out, ← List.append_assoc, ← HSL.out]; simp, HB4.out, HX4.out⟩
      · have hj2 : j = 8 := by have := HJ.out; omega
        subst hj2
        have t1 : decide ((8 : Nat) + 1 ≤ (8 : Int)) = false := by decide
        clear x0 x2 x3
        go_upto_if 37 with fail
        go_cut [3] (fun v3 wx => SRel (namedL sTok l ++ levelsL l 8 ++ startL st) w X (.slice A l.length c) (.string st) (.int .i64 ex) (.slice A2 rs.length c2) v3 wx)
        case first =>
          by_cases hst : st.toList = []
          · have hst2 : startL st = [] := by unfold startL; rw [if_pos (by rw [← Lib.toList_data]; exact hst)]
            have t2 : (!st.toList.isEmpty) = false := by rw [hst]; rfl
            have HST := Aside0.mk hst2
            rw [t2]
            clear hst2 t2 hst
            go_wp2_with fail
            go_meet
            exact ⟨s, rfl, by rw [HST.out, HSL.out]; simp, HB2.out, HX2.out⟩
          · have hst2 : startL st = lineL [sStart, st] := by unfold startL; rw [if_neg (by rw [← Lib.toList_data]; exact hst)]
            have t2 : (!st.toList.isEmpty) = true := by simpa using hst
            have hwl := words_le (m := 12) [sStart, st] (by
              intro x hx
              simp only [List.mem_cons, List.not_mem_nil, or_false] at hx
              rcases hx with rfl | rfl
              · decide
              · exact or_len HM3.out)
            simp only [List.length_cons, List.length_nil] at hwl
            have hll := line_lit wr [sStart, st] (by simp) (by simp) (by omega)
            obtain ⟨u3, hu3⟩ : ∃ u, u = mkS (lineL [sStart, st]) := ⟨_, rfl⟩
            rw [← hu3] at hll
            have hus : u3.size ≤ 40 := by rw [hu3]; show (List.toArray _).size ≤ _; rw [List.size_toArray]; unfold lineL; rw [List.length_append]; simp only [List.length_cons, List.length_nil]; omega
            have HU3 := Aside0.mk (show u3.data.toList = startL st by rw [hst2, hu3]; rfl)
            have HLL := Aside0.mk hll
            rw [t2]
            clear hst2 t2 hst hwl hll hu3
            go_wp2_with fail
            go_at_call 30
            refine HLL.out.mono ?_
            rintro e w4 ⟨rfl, hd⟩
            have HX4 := Aside0.mk (HX2.out.move hd HX2.out.lt)
            have HB4 := Aside0.mk (HB2.out.trans (hd.mono HB2.out.size))
            clear hd HX2 HB2 HLL x1
            go_wp2_with fail
            go_meet
            exact ⟨s ++ u3, rfl, by rw [← HU3.out, ← HSL.out]; simp, HB4.out, HX4.out⟩
        case rest =>
          obtain ⟨s2, rfl, hs2, hb2, hx2⟩ := hcut
          clear HB2 HX2 x1 hsz HSL hj8
          have HSL := Aside0.mk hs2
          have HB2 := Aside0.mk hb2
          have HX2 := Aside0.mk hx2
          have x2 := hx2.c2
          clear hs2 hb2 hx2
          have hsz : s2.size ≤ 11000 := by rw [size_of, HSL.out]; have := (head_len hl40 HTK.out HM3.out hm4 hm5).2.1; omega
          go_upto_if 46 with fail
          go_cut [3] (fun v3 wx => SRel (namedL sTok l ++ levelsL l 8 ++ startL st ++ expectL ex) w X (.slice A l.length c) (.string st) (.int .i64 ex) (.slice A2 rs.length c2) v3 wx)
          case first =>
            by_cases hex : 0 < ex
            · have hex2 : expectL ex = lineL [sExpect, mkS (Lib.itoa ex)] := by unfold expectL; rw [if_pos hex]
              have t2 : decide (0 < ex) = true := decide_eq_true hex
              have hwl := two_len (a := sExpect) (b := mkS (Lib.itoa ex)) (by decide) (itoa_len hm4 hm5)
              have HWL := Aside0.mk hwl
              have HEX := Aside0.mk hex2
              have HI2 := Aside0.mk (HIT.out wc HB2.out)
              obtain ⟨it, hit⟩ : ∃ u, u = mkS (Lib.itoa ex) := ⟨_, rfl⟩
              rw [← hit] at HI2 HWL HEX
              rw [t2]
              clear hex2 t2 hex hwl hit
              go_wp2_with fail
              go_at_call 31
              refine HI2.out.mono ?_
              rintro e w3 ⟨rfl, hd⟩
              have HX3 := Aside0.mk (HX2.out.move hd HX2.out.lt)
              have HB3 := Aside0.mk (HB2.out.trans (hd.mono HB2.out.size))
              clear hd HX2 HB2 HI2 x2
              have hll := line_lit w3 [sExpect, it] (by simp) (by simp) (by have := HWL.out.1; omega)
              obtain ⟨u3, hu3⟩ : ∃ u, u = mkS (lineL [sExpect, it]) := ⟨_, rfl⟩
              rw [← hu3] at hll
              have hus : u3.size ≤ 45 := by rw [hu3]; show (List.toArray _).size ≤ _; rw [List.size_toArray]; exact HWL.out.2
              have HU3 := Aside0.mk (show u3.data.toList = expectL ex by rw [HEX.out, hu3]; rfl)
              have HLL := Aside0.mk hll
              clear hll hu3
              go_wp2_with fail
              go_at_call 30
              refine HLL.out.mono ?_
              rintro e w4 ⟨rfl, hd⟩
              have HX4 := Aside0.mk (HX3.out.move hd HX3.out.lt)
              have HB4 := Aside0.mk (HB3.out.trans (hd.mono HB3.out.size))
              clear hd HX3 HB3 HLL
              go_wp2_with fail
              go_meet
              exact ⟨s2 ++ u3, rfl, by rw [← HU3.out, ← HSL.out]; simp, HB4.out, HX4.out⟩
            · have HEX : Aside0 (expectL ex = []) := ⟨by unfold expectL; rw [if_neg hex]⟩
              have t2 : decide (0 < ex) = false := decide_eq_false hex
              rw [t2]
              clear t2 hex
              go_wp2_with fail
              go_meet
              exact ⟨s2, rfl, by rw [HEX.out, HSL.out]; simp, HB2.out, HX2.out⟩
          case rest =>
            obtain ⟨s3, rfl, hs3, hb3, hx3⟩ := hcut
            clear HB2 HX2 x2 hsz HSL
            have HSL := Aside0.mk hs3
            have HB2 := Aside0.mk hb3
            have HX2 := Aside0.mk hx3
            have x3 := hx3.c3
            clear hs3 hb3 hx3
            have hsz : s3.size ≤ 11000 := by rw [size_of, HSL.out]; have := (head_len hl40 HTK.out HM3.out hm4 hm5).2.2; omega
            have HHL := Aside0.mk (head_len hl40 HTK.out HM3.out hm4 hm5).1
            have HRL := Aside0.mk (rules_len HM1.out)
            have hll := line_lit wc [sCut] (by simp) (by simp) (by decide)
            obtain ⟨u3, hu3⟩ : ∃ u, u = mkS (lineL [sCut]) := ⟨_, rfl⟩
            rw [← hu3] at hll
            have hus : u3.size ≤ 3 := by rw [hu3]; decide
            have HU3 := Aside0.mk (show (s3 ++ u3).data.toList = headL l st ex by rw [hu3]; unfold headL; rw [← HSL.out]; simp [mkS])
            have HLL := Aside0.mk hll
            clear hll hu3
            go_wp2_with fail
            go_at_call 30
            refine HLL.out.mono ?_
            rintro e w4 ⟨rfl, hd⟩
            have HX4 := Aside0.mk (HX2.out.move hd HX2.out.lt)
            have HB4 := Aside0.mk (HB2.out.trans (hd.mono HB2.out.size))
            have x3 := HX4.out.c3
            clear hd HX2 HB2 HLL
            have hsz4 : (s3 ++ u3).size ≤ 5000 := by rw [size_of, HU3.out]; exact HHL.out
            go_wp2_with fail
            go_loopg [3, 61] rs.length (fun kq v3 v61 w' => RRel l st ex rs w kq v3 v61 w')
            case atStart => exact ⟨0, s3 ++ u3, by omega, rfl, rfl, by rw [HU3.out]; simp [rulesL], HB4.out⟩
            case round =>
              obtain ⟨i, s, hi, rfl, rfl, hs, hb⟩ := hrel
              clear HX4 HB4 HU3 x3 hsz hus hsz4 HSL
              have HI := Aside0.mk hi
              have HSL := Aside0.mk hs
              have HB2 := Aside0.mk hb
              clear hi hs hb
              have hsz : s.size ≤ 40000 := by
                have h1 := rules_len (rs := rs.take i) (by
                  rw [List.any_eq_false]
                  intro r hr
                  exact List.any_eq_false.1 HM1.out r (List.mem_of_mem_take hr))
                have h2 := HHL.out
                have h3 : (rs.take i).length ≤ 100 := by rw [List.length_take]; omega
                rw [size_of, HSL.out, List.length_append]
                omega
              by_cases hil : i < rs.length
              · have t1 : decide ((i : Int) < (rs.length : Int)) = true := by simp; omega
                obtain ⟨ad, A1, c1, e1, x0, x1, x2, l1, g1⟩ := at_rule (Kd.C_below HR2.out HB2.out) i hil rfl
                subst e1
                have hrb : ruleBad rs[i] = false := by simpa using List.any_eq_false.1 HM1.out rs[i] (List.getElem_mem hil)
                obtain ⟨hp1, hp2, hp3, hp4⟩ := rule_parts hrb
                have hrw := rule_words hrb
                have hsn := rulesL_snoc hil
                have HX := Aside0.mk (RBox.new wr rs[i] A1 c1)
                have hbv := below_alloc (Below.refl wr.heap.size wr) (.cells #[.string rs[i].f0, .slice A1 rs[i].f1.length c1, .string rs[i].f2] 39)
                have HG := Aside0.mk (Kd.C_below g1 hbv)
                have HBV := Aside0.mk hbv
                have HRW := Aside0.mk hrw
                have HSN := Aside0.mk hsn
                have HP2 := Aside0.mk hp2
                clear hrb hp1 hp2 hp4 hrw hsn g1 hbv
                go_upto_region 18 with fail
                generalize hW1 : wr.alloc (.cells #[.string rs[i].f0, .slice A1 rs[i].f1.length c1, .string rs[i].f2] 39) = W1 at *
                clear hW1 x0 x1 x2
                have y0 := HX.out.c0
                have y1 := HX.out.c1
                have y2 := HX.out.c2
                generalize rs[i] = r at *
                have HW := Aside0.mk (Below.refl W1.heap.size W1)
                go_upto_if 73 with (first
                  | ((with_reducible refine gate_dst (N := 67) rfl ?_); refine Kd.R_lit Kd.string (w0 := W1) W1.heap.size 9 rfl (N := 67) rfl (xs := [r.f0, sColon]) (inner := [.string r.f0, .string sColon]) (ok := fun _ => True) (okp := fun _ => True) ?hr ?hp (fun _ hk => hk) trivial HW.out (Nat.le_refl _) (by simp) ?_; (case hr => first | (go_simp; done) | (go_simp; rfl)); (case hp => exact ((Reps.none _ _).snoc (show Kd.M Kd.string _ _ _ r.f0 [.string r.f0] from rfl) rfl).snoc (show Kd.M Kd.string _ _ _ sColon [.string sColon] from rfl) rfl); intro v1 w1 ho1 hb1 hg1 hn1; clear hg1 hn1; have HO := Aside0.mk ho1; have HB := Aside0.mk hb1; have HX1 := Aside0.mk (HX.out.move hb1); have z1 := HX1.out.c1; have z2 := HX1.out.c2; clear ho1 hb1)
                  | (at_builtin; refine Kd.R_append_rows Kd.string (w0 := W1) W1.heap.size rfl (.tmp 67) (.tmp 69) 37 9 (.string ⟨#[]⟩) 16 rfl Tryd.underlying37 info9 rfl (by decide) (by omega) _ [r.f0, sColon] r.f1 _ _ _ (fun _ => True) (fun _ => False) rfl rfl HO.out ((Kd.C_below HG.out HB.out).imp_ (Below.refl _ _) (fun _ _ h => h)) (fun _ _ h => h) (fun _ h => h.elim) (fun _ _ => trivial) HB.out HB.out.size (by simp only [List.length_cons, List.length_nil]; omega) ?_; intro v2 w2 ho2 hb2 hg2 hn2; clear hg2 hn2 z1 z2 HX1 HO HB; have HO := Aside0.mk ho2; have HB := Aside0.mk hb2; have HX1 := Aside0.mk (HX.out.move hb2); have z2 := HX1.out.c2; clear ho2 hb2))
                go_cut [8] (fun v8 wx => WRow (ruleW0 r) W1 v8 wx)
                case first =>
                  by_cases hpc : r.f2.toList = []
                  · have hrw0 : [r.f0, sColon] ++ r.f1 = ruleW0 r := by unfold ruleW0; rw [if_pos (by rw [← Lib.toList_data]; exact hpc)]; simp
                    have t2 : (!r.f2.toList.isEmpty) = false := by rw [hpc]; rfl
                    have HO2 := Aside0.mk (hrw0 ▸ HO.out)
                    rw [t2]
                    clear hpc t2 hrw0 HO
                    go_wp2_with fail
                    go_meet
                    exact ⟨HO2.out, HB.out⟩
                  · have hrw0 : [r.f0, sColon] ++ r.f1 ++ [sPrec, r.f2] = ruleW0 r := by unfold ruleW0; rw [if_neg (by rw [← Lib.toList_data]; exact hpc)]
                    have HW0 := Aside0.mk hrw0
                    have t2 : (!r.f2.toList.isEmpty) = true := by simpa using hpc
                    rw [t2]
                    clear hpc t2 hrw0
                    go_wp2_with (first
                      | (at_builtin; refine Kd.R_append_rows Kd.string (w0 := W1) W1.heap.size rfl (.tmp 74) (.tmp 77) 37 9 (.string ⟨#[]⟩) 16 rfl Tryd.underlying37 info9 rfl (by decide) (by omega) _ ([r.f0, sColon] ++ r.f1) [sPrec, r.f2] _ _ _ (fun _ => True) (fun _ => False) rfl rfl (Kd.R_alloc HO.out _) (ReadsRow.imp_ (C_lit w2 [sPrec, r.f2] (by simp)) (Below.refl _ _) (fun _ _ h => h)) (fun _ _ h => h) (fun _ h => h.elim) (fun _ _ => trivial) (HB.out.alloc HB.out.size _) (by have := HB.out.size; simp; omega) (by simp only [List.length_append, List.length_cons, List.length_nil]; omega) ?_; intro v3 w3 ho2 hb2 hg2 hn2; clear hg2 hn2 z2 HX1 HO HB; have HO := Aside0.mk ho2; have HB := Aside0.mk hb2; clear ho2 hb2))
                    go_meet
                    exact ⟨HW0.out ▸ HO.out, HB.out⟩
                case rest =>
                  obtain ⟨ho, hb⟩ := hcut
                  clear z2 HX1 HO HB y0 y1 y2 HX HG HP2
                  have HO := Aside0.mk ho
                  have HB := Aside0.mk hb
                  have HW0 := Aside0.mk (show ruleW0 r ++ [sSemi] = ruleW r from rfl)
                  have hlw : (ruleW0 r).length ≤ 25 := by
                    have h1 := HRW.out.1
                    have h2 := congrArg List.length HW0.out
                    rw [List.length_append] at h2
                    simp only [List.length_cons, List.length_nil] at h2
                    omega
                  clear ho hb
                  go_wp2_with (first
                    | (at_builtin; refine Kd.R_append Kd.string (w0 := W1) W1.heap.size rfl (.tmp 80) (.tmp 81) 37 9 (.string ⟨#[]⟩) 16 rfl Tryd.underlying37 info9 rfl (by decide) (by omega) _ (ruleW0 r) sSemi [.string sSemi] (fun _ => True) (fun _ => False) rfl rfl (show Kd.M Kd.string _ _ _ sSemi [.string sSemi] from rfl) (fun _ hk => hk.elim) (fun _ _ => trivial) HO.out HB.out HB.out.size (by omega) ?_; intro v3 w3 ho2 hb2 hg2 hn2; clear hg2 hn2 HO HB; have HO := Aside0.mk ho2; have HB := Aside0.mk hb2; clear ho2 hb2))
                  rw [HW0.out] at HO
                  have h0w : 0 < (ruleW r).length := by rw [← HW0.out]; simp
                  obtain ⟨g, o, co, e5, _, _, _⟩ := Kd.Q_form (Kd.Q_of_R HO.out) h0w
                  subst e5
                  obtain ⟨_, hco, hC⟩ := Kd.Q_reads' (Kd.Q_of_R HO.out)
                  have hll := line_calls w3 g o co (ruleW r) h0w hC hco (by have := HRW.out.1; omega) (by have := HRW.out.2; omega)
                  obtain ⟨u4, hu4⟩ : ∃ u, u = mkS (lineL (ruleW r)) := ⟨_, rfl⟩
                  rw [← hu4] at hll
                  have hus : u4.size ≤ 326 := by rw [hu4]; show (List.toArray _).size ≤ _; rw [List.size_toArray]; unfold lineL; rw [List.length_append]; have := HRW.out.2; simp only [List.length_cons, List.length_nil]; omega
                  have HU4 := Aside0.mk (show u4.data.toList = lineL (ruleW r) by rw [hu4]; rfl)
                  have HLL := Aside0.mk hll
                  clear hll hu4 hC h0w HO
                  refine HLL.out.mono ?_
                  rintro e w5 ⟨rfl, hd⟩
                  have hall := HBV.out.trans ((HB.out.trans (hd.mono HB.out.size)).mono HBV.out.size)
                  have HB5 := Aside0.mk (HB2.out.trans (hall.mono HB2.out.size))
                  clear hd hall HLL HB HB2 HBV
                  go_wp2_with fail
                  go_roundg (gk - 1)
                  case measure => have := HI.out; omega
                  case rel => exact ⟨i + 1, s ++ u4, by have := HI.out; omega, by go_num, rfl, by rw [HSN.out, ← HU4.out, ← List.append_assoc, ← HSL.out]; simp, HB5.out⟩
              · have hi2 : i = rs.length := by have := HI.out; omega
                subst hi2
                have t1 : decide ((rs.length : Int) < (rs.length : Int)) = false := by simp
                rw [List.take_length] at HSL
                go_wp2_with fail
                go_ret
                exact ⟨ret_str (by rw [HSL.out, mkS_list, HTX.out]), HB2.out⟩
end Go.Proofs.YteonnadhdmcloaaDoor.G
