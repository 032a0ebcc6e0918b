/- oset: slices.Insert, slices.Delete and slices.Clone by what the rows read as. -/
import Derived.Test.YtldgofblflmcbaaSetB
import Derived.Test.YtldgofblflmcbaaWArr
import Derived.Deep.RegionLaw
import Derived.Lib.SliceRun
namespace Go.Proofs.Ytldgofblflmcbaa.S
open Go.RowKit Go.Proofs.YtldgofblflmcbaaW.PrintWords Go.Proofs.YtldgofblflmcbaaW.PrintLast Go.Proofs.YtldgofblflmcbaaW.PrintMore
set_option linter.unusedVariables false
set_option linter.unusedSimpArgs false

/-- A kind whose cells hang on no world. -/
structure Flat {α : Type} (d : Kd α) (enc : α → List Value) : Prop where
  M : ∀ {w base ok x cs}, d.M w base ok x cs ↔ cs = enc x
  len : ∀ x, (enc x).length = d.sz
  one : ∀ x, ∀ u ∈ enc x, u.oneCell' = true
theorem flat_int : Flat (Kd.int .i64) (fun x => [.int .i64 x]) := ⟨Iff.rfl, fun _ => rfl, fun x u hu => by rw [List.mem_singleton.1 hu]; rfl⟩
theorem flat_str : Flat Kd.string (fun x => [.string x]) := ⟨Iff.rfl, fun _ => rfl, fun x u hu => by rw [List.mem_singleton.1 hu]; rfl⟩
structure P44 where
  key : Int
  sign : Int
def k44 : Kd P44 := Kd.iso (Kd.pair (Kd.int .i64) (Kd.int .i64)) (fun x : P44 => (x.key, x.sign))
theorem flat_pair : Flat k44 (fun x => [.int .i64 x.key, .int .i64 x.sign]) := by
  refine ⟨?_, fun _ => rfl, fun x u hu => ?_⟩
  · intro w base ok x cs
    constructor
    · rintro ⟨_, _, rfl, rfl, rfl⟩
      rfl
    · rintro rfl
      exact ⟨[_], [_], rfl, rfl, rfl⟩
  · rcases List.mem_cons.1 hu with rfl | hu
    · rfl
    · rw [List.mem_singleton.1 hu]; rfl
/-- A row of the call's own: nothing but its own block. -/
def own (v : Value) (k : Nat) : Prop := some k = v.ownBlock
def Row {α : Type} (d : Kd α) (e : Nat) (w : World) (B : Nat) (v : Value) (xs : List α) : Prop := d.R e w B (own v) v xs
section
variable {α : Type} {d : Kd α} {enc : α → List Value} {e B : Nat} {w w' : World} {v : Value} {xs : List α}
theorem Row.cells (h : Row d e w B v xs) (hf : Flat d enc) : ∃ inner, w.ownsRow B e d.sz v xs.length inner ∧ Reps (fun x cs => cs = enc x) d.sz xs inner ∧ ∀ u ∈ inner, u.oneCell' = true := by
  obtain ⟨_, inner, ho, hr⟩ := h
  have hr' : Reps (fun x cs => cs = enc x) d.sz xs inner := hr.imp_ (fun p c hp => hf.M.1 hp)
  by_cases hs : 0 < d.sz
  · exact ⟨inner, ho, hr', Kd.reps_one hr' hs (fun p c hp u hu => by rw [hp] at hu; exact hf.one p u hu)⟩
  · refine ⟨inner, ho, hr', fun u hu => ?_⟩
    have := hr.1
    rw [show d.sz = 0 by omega, Nat.mul_zero] at this
    rw [List.eq_nil_of_length_eq_zero this] at hu
    cases hu
theorem Row.mk (hf : Flat d enc) {inner : List Value} (ho : w.ownsRow B e d.sz v xs.length inner) (hr : Reps (fun x cs => cs = enc x) d.sz xs inner) : Row d e w B v xs :=
  ⟨fun k hk => hk.symm, inner, ho, hr.imp_ (fun p c hp => hf.M.2 hp)⟩
theorem Row.of_R {ok : Nat → Prop} (hf : Flat d enc) (h : d.R e w B ok v xs) : Row d e w B v xs := by
  obtain ⟨_, inner, ho, hr⟩ := h
  exact ⟨fun k hk => hk.symm, inner, ho, hr.imp_ (fun p c hp => hf.M.2 (hf.M.1 hp))⟩
theorem Row.nil (d : Kd α) (e : Nat) (w : World) (B : Nat) : Row d e w B (.slice none 0 0) [] := Kd.R_nil d e w B _
theorem Row.step (h : Row d e w B v xs) (hm : ∀ k, own v k → k < w.heap.size → w'.heap[k]? = w.heap[k]?) : Row d e w' B v xs := Kd.R_step h hm
theorem Row.below (h : Row d e w B v xs) (hb : Below w.heap.size w w') : Row d e w' B v xs := Kd.R_below h hb
theorem Row.lt (h : Row d e w B v xs) (k : Nat) (hk : own v k) : B ≤ k ∧ k < w.heap.size := by
  obtain ⟨_, h2, h3, _⟩ := (Kd.R_bound h).1 k hk.symm
  exact ⟨h2, h3⟩
theorem Row.typed (h : Row d e w B v xs) (k : Nat) (hk : own v k) : ∃ cs, w.heap[k]? = some (.cells cs e (0, 0)) := by
  obtain ⟨inner, ho⟩ := Kd.R_own h
  exact own_typed ho k hk.symm
theorem Row.reads (h : Row d e w B v xs) : ∃ A c, v = .slice A xs.length c ∧ xs.length ≤ c ∧ d.C w A xs.length xs := Kd.R_reads h
end
/-- What an operation on one row leaves. -/
def RowPost {α : Type} (d : Kd α) (e : Nat) (W : World) (B : Nat) (v : Value) (xs : List α) (en : Ending) (w' : World) : Prop :=
  ∃ v1, en = .returned v1 ∧ Row d e w' B v1 xs ∧ W.grownBy w' v.ownBlock ∧ (v1.ownBlock = v.ownBlock ∨ ∃ b, v1.ownBlock = some b ∧ W.heap.size ≤ b)
theorem InsPost.row {α : Type} {d : Kd α} {enc : α → List Value} {e B n i : Nat} {W w' : World} {v : Value} {xs : List α} {x : α} {inner : List Value} {en : Ending} (hf : Flat d enc) (hl : xs.length = n) (hi : i ≤ n) (hr : Reps (fun x cs => cs = enc x) d.sz xs inner) (h : InsPost W B e d.sz v n i inner (enc x) en w') : RowPost d e W B v (xs.take i ++ [x] ++ xs.drop i) en w' := by
  obtain ⟨v1, he, ho, hg, hat⟩ := h
  refine ⟨v1, he, Row.mk hf (inner := inner.take (i * d.sz) ++ enc x ++ inner.drop (i * d.sz)) ?_ ?_, hg, hat⟩
  · have : (xs.take i ++ [x] ++ xs.drop i).length = n + 1 := by simp; omega
    rw [this]
    exact ho
  · exact Kd.reps_append ((Kd.reps_take hr (by omega)).snoc rfl (hf.len x)) (Kd.reps_drop hr)
theorem insert_int (W : World) (B : Nat) (v : Value) (xs : List Int) (x : Int) (i : Nat) (hi : i ≤ xs.length) (h : Row (Kd.int .i64) 3 W B v xs) (hB : B ≤ W.heap.size) (hn : xs.length ≤ 1000000) :
    Calls Try.prog 35 #[v, .int .i64 (i : Int), .slice (some ⟨W.heap.size, 0, none⟩) 1 1] (W.alloc (.cells #[.int .i64 x] 3)) (RowPost (Kd.int .i64) 3 W B v (xs.take i ++ [x] ++ xs.drop i)) := by
  obtain ⟨inner, ho, hr, h1⟩ := h.cells flat_int
  by_cases hin : i = xs.length
  · subst hin
    exact (insert_end_int W B v xs.length inner [.int .i64 x] rfl (flat_int.one x) ho hB hn).mono fun e w' hp => InsPost.row flat_int rfl (Nat.le_refl _) hr hp
  · rcases ho.2 with ⟨rfl, h0⟩ | ⟨g, c, cur, rfl, hb, hh, hnc, hcm, hcs, ht⟩
    · omega
    · by_cases hroom : xs.length + 1 ≤ c
      · exact (insert_shift_int W B g xs.length c i cur inner [.int .i64 x] rfl (flat_int.one x) h1 hb hh hcs ht hcm (by omega) hroom hn).mono fun e w' hp => InsPost.row flat_int rfl hi hr hp
      · exact (insert_grow_int W B g xs.length c i cur inner [.int .i64 x] rfl (flat_int.one x) h1 hb hB hh hcs ht hnc (by omega) (by omega) hn).mono fun e w' hp => InsPost.row flat_int rfl hi hr hp
theorem insert_pair (W : World) (B : Nat) (v : Value) (xs : List P44) (x : P44) (i : Nat) (hi : i ≤ xs.length) (h : Row k44 44 W B v xs) (hB : B ≤ W.heap.size) (hn : xs.length ≤ 1000000) :
    Calls Try.prog 40 #[v, .int .i64 (i : Int), .slice (some ⟨W.heap.size, 0, none⟩) 1 1] (W.alloc (.cells #[.int .i64 x.key, .int .i64 x.sign] 44)) (RowPost k44 44 W B v (xs.take i ++ [x] ++ xs.drop i)) := by
  obtain ⟨inner, ho, hr, h1⟩ := h.cells flat_pair
  by_cases hin : i = xs.length
  · subst hin
    exact (insert_end_pair W B v xs.length inner [.int .i64 x.key, .int .i64 x.sign] rfl (flat_pair.one x) ho hB hn).mono fun e w' hp => InsPost.row flat_pair rfl (Nat.le_refl _) hr hp
  · rcases ho.2 with ⟨rfl, h0⟩ | ⟨g, c, cur, rfl, hb, hh, hnc, hcm, hcs, ht⟩
    · omega
    · by_cases hroom : xs.length + 1 ≤ c
      · exact (insert_shift_pair W B g xs.length c i cur inner [.int .i64 x.key, .int .i64 x.sign] rfl (flat_pair.one x) h1 hb hh hcs ht hcm (by omega) hroom hn).mono fun e w' hp => InsPost.row flat_pair rfl hi hr hp
      · exact (insert_grow_pair W B g xs.length c i cur inner [.int .i64 x.key, .int .i64 x.sign] rfl (flat_pair.one x) h1 hb hB hh hcs ht hnc (by omega) (by omega) hn).mono fun e w' hp => InsPost.row flat_pair rfl hi hr hp
theorem insert_str (W : World) (B : Nat) (v : Value) (xs : List ByteArray) (x : ByteArray) (i : Nat) (hi : i ≤ xs.length) (h : Row Kd.string 9 W B v xs) (hB : B ≤ W.heap.size) (hn : xs.length ≤ 1000000) :
    Calls Try.prog 44 #[v, .int .i64 (i : Int), .slice (some ⟨W.heap.size, 0, none⟩) 1 1] (W.alloc (.cells #[.string x] 9)) (RowPost Kd.string 9 W B v (xs.take i ++ [x] ++ xs.drop i)) := by
  obtain ⟨inner, ho, hr, h1⟩ := h.cells flat_str
  by_cases hin : i = xs.length
  · subst hin
    exact (insert_end_str W B v xs.length inner [.string x] rfl (flat_str.one x) ho hB hn).mono fun e w' hp => InsPost.row flat_str rfl (Nat.le_refl _) hr hp
  · rcases ho.2 with ⟨rfl, h0⟩ | ⟨g, c, cur, rfl, hb, hh, hnc, hcm, hcs, ht⟩
    · omega
    · by_cases hroom : xs.length + 1 ≤ c
      · exact (insert_shift_str W B g xs.length c i cur inner [.string x] rfl (flat_str.one x) h1 hb hh hcs ht hcm (by omega) hroom hn).mono fun e w' hp => InsPost.row flat_str rfl hi hr hp
      · exact (insert_grow_str W B g xs.length c i cur inner [.string x] rfl (flat_str.one x) h1 hb hB hh hcs ht hnc (by omega) (by omega) hn).mono fun e w' hp => InsPost.row flat_str rfl hi hr hp

/-! ### slices.Delete of one element -/
theorem addr_add (g o t : Nat) : (⟨g, o, none⟩ : Addr).add t = ⟨g, o + t, none⟩ := by unfold Addr.add; split <;> simp_all
theorem grown_setCells {w0 w : World} {g : Nat} (h : w0.grownBy w (some g)) (o : Nat) (vs : List Value) : w0.grownBy (w.setCells g o vs) (some g) := by
  obtain ⟨s1, s2, s3, s4⟩ := setCells_same g vs o w
  exact ⟨s1.trans h.os, s2.trans h.tape, s3.trans h.output, by rw [s4]; exact h.size, fun k hk hn => (setCells_far vs o k (fun e => hn (by rw [e]))).trans (h.block k hk hn)⟩
set_option maxHeartbeats 4000000 in
set_option maxRecDepth 100000 in
theorem delete_int (w : World) (B : Nat) (v : Value) (xs : List Int) (i : Nat) (hi : i < xs.length) (h : Row (Kd.int .i64) 3 w B v xs) (hn : xs.length ≤ 1000000) :
    Calls Try.prog 36 #[v, .int .i64 (i : Int), .int .i64 ((i : Int) + 1)] w (RowPost (Kd.int .i64) 3 w B v (xs.take i ++ xs.drop (i + 1))) := by
  obtain ⟨inner, ho, hr, h1⟩ := h.cells flat_int
  obtain ⟨n, hnl⟩ : ∃ n, n = xs.length := ⟨_, rfl⟩
  rw [← hnl] at ho hi hn
  rcases ho.2 with ⟨rfl, h0⟩ | ⟨g, c, cur, rfl, hb, hh, hnc, hcm, hcs, ht⟩
  · omega
  obtain ⟨i0, hi0, hz0, hz1, hz2⟩ := info_parts info_int
  have hil : inner.length = n := by have := ho.1; simpa [Kd.int, Kd.scalar] using this
  have hcs' : cur.size = c := by simpa [Kd.int, Kd.scalar] using hcs
  have ht' : cur.toList.take n = inner := by simpa [Kd.int, Kd.scalar] using ht
  have hcur : ∀ j, (w.cell? ⟨g, j, none⟩) = cur[j]? := fun j => cell_of_row w g j cur 3 (0, 0) hh
  have hfr : ∀ j, w.frozen? ⟨g, j, none⟩ = false := fun j => by simp [World.frozen?, hh]
  obtain ⟨news, hnews⟩ : ∃ news, news = inner.drop (i + 1) := ⟨_, rfl⟩
  have hlen : news.length = n - (i + 1) := by rw [hnews, List.length_drop, hil]
  have hget : ∀ j u, news[j]? = some u → cur[i + 1 + j]? = some u := fun j u hj => by
    rw [hnews, List.getElem?_drop, ← ht', List.getElem?_take] at hj
    split at hj
    · rw [← Array.getElem?_toList]; exact hj
    · cases hj
  obtain ⟨A, hA, hsrc⟩ : ∃ A : Addr, (if c = i + 1 then some (⟨g, 0, none⟩ : Addr) else some ⟨g, i + 1, none⟩) = some A ∧ Hid (∀ t u, news[t]? = some u → w.drew.cell? (A.add t) = some u) := by
    by_cases hci : c = i + 1
    · refine ⟨⟨g, 0, none⟩, by simp [hci], fun t u hu => ?_⟩
      have h0 : news.length = 0 := by rw [hlen]; omega
      rw [List.length_eq_zero_iff.1 h0] at hu
      simp at hu
    · refine ⟨⟨g, i + 1, none⟩, by simp [hci], fun t u hu => ?_⟩
      rw [addr_add, World.cell?_drew, hcur]
      exact hget t u hu
  have s1 : Hid (news.length = (n - (i + 1)) * 1) := by rw [Nat.mul_one]; exact hlen
  have s2 : Hid (∀ u ∈ news, u.oneCell' = true) := fun u hu => h1 u (List.mem_of_mem_drop (by rw [← hnews]; exact hu))
  have s3 : Hid (∀ t, t < news.length → (w.drew.cell? ⟨g, 0 + i * 1 + t, none⟩).isSome = true ∧ w.drew.frozen? ⟨g, 0 + i * 1 + t, none⟩ = false) := fun t ht2 => by
    rw [hlen] at ht2
    exact ⟨by rw [World.cell?_drew, hcur, Array.getElem?_eq_getElem (by omega)]; rfl, hfr _⟩
  obtain ⟨W1, hW1⟩ : ∃ W1, W1 = w.drew.setCells g (0 + i * 1) news := ⟨_, rfl⟩
  obtain ⟨cur1, hc1, hc1s, hc1l⟩ := setCells_row (g := g) (e := 3) news (0 + i * 1) w.drew cur hh (by rw [hlen]; omega)
  rw [← hW1] at hc1
  have hcl : ∀ ty, (Builtin.clear_ #[27] ty #[.slice (some ⟨g, i + (n - (i + 1)), none⟩) (n - (i + (n - (i + 1)))) (c - (i + (n - (i + 1))))]).run Try.prog W1 = .ok (.tuple #[]) (W1.setCells g (i + (n - (i + 1))) (List.replicate (n - (i + (n - (i + 1)))) (.int .i64 0))) :=
    fun ty => Lib.run_clear_slice W1 27 3 ty (.int .i64 0) Try.underlying27 (fun _ => by kernel_rfl) rfl rfl g (i + (n - (i + 1))) _ _ (by omega) (fun t ht2 => by rw [cell_of_row W1 g _ cur1 3 (0, 0) hc1, Array.getElem?_eq_getElem (by omega)]; rfl) (fun t ht2 => by simp [World.frozen?, hc1])
  obtain ⟨cur2, hc2, hc2s, hc2l⟩ := setCells_row (g := g) (e := 3) (List.replicate (n - (i + (n - (i + 1)))) (.int .i64 0)) (i + (n - (i + 1))) W1 cur1 hc1 (by rw [List.length_replicate]; omega)
  have hfin : cur2.toList.take (n - 1) = inner.take i ++ inner.drop (i + 1) := by
    have e1 : cur1.toList.take (n - 1) = inner.take i ++ inner.drop (i + 1) := by
      rw [hc1l, ← hnews, show 0 + i * 1 = i by omega, List.take_append_of_le_length (by simp only [List.length_append, List.length_take, Array.length_toList]; omega)]
      rw [List.take_of_length_le (by simp only [List.length_append, List.length_take, Array.length_toList]; omega), ← ht', List.take_take, Nat.min_eq_left (by omega)]
    have e2 : i + (n - (i + 1)) = n - 1 := by omega
    rw [hc2l, e2, List.append_assoc, List.take_append_of_le_length (by simp only [List.length_take, Array.length_toList]; omega), List.take_take, Nat.min_self, e1]
  have hpost : RowPost (Kd.int .i64) 3 w B (.slice (some ⟨g, 0, none⟩) n c) (xs.take i ++ xs.drop (i + 1)) (.returned (.slice (some ⟨g, 0, none⟩) (i + (n - (i + 1))) c)) (W1.setCells g (i + (n - (i + 1))) (List.replicate (n - (i + (n - (i + 1)))) (.int .i64 0))) := by
    have hxl : (xs.take i ++ xs.drop (i + 1)).length = n - 1 := by simp; omega
    refine ⟨_, rfl, Row.mk flat_int (inner := inner.take i ++ inner.drop (i + 1)) ?_ ?_, ?_, .inl rfl⟩
    · rw [hxl]
      refine ⟨by simp [Kd.int, Kd.scalar]; omega, .inr ⟨g, c, cur2, by rw [show i + (n - (i + 1)) = n - 1 by omega], hb, hc2, by omega, hcm, by simp [Kd.int, Kd.scalar]; omega, by simp only [Kd.int, Kd.scalar, Nat.mul_one]; exact hfin⟩⟩
    · have := Kd.reps_append (Kd.reps_take (m := i) hr (by omega)) (Kd.reps_drop (m := i + 1) hr)
      simpa [Kd.int, Kd.scalar] using this
    · refine grown_setCells ?_ _ _
      rw [hW1]
      exact grown_setCells (grown_drew (World.grownBy.refl _ _)) _ _
  have HP := Aside0.mk hpost
  have hW : Hid (W1 = w.drew.setCells g (0 + i * 1) news) := hW1
  have hic : i ≤ c := by omega
  have hjc : i + 1 ≤ c := by omega
  have hi2 : i < n := hi
  unfold maxLen at hcm
  clear hpost hfin hc2 hc2s hc2l hc1 hc1s hc1l hW1 hnews hlen hget hcur hfr ht ht' hcs hcs' hil hr ho hh h hnl
  have hw2 : (0 : Int) ≤ (i : Int) + 1 := by omega
  have hw3 : (i : Int) + 1 ≤ (n : Int) := by omega
  go_enter Try.func36, Try.ntmps36
  go_wp2_with fail
  go_region_law ((refine step_append_room rfl (.tmp 22) (.tmp 25) 27 rfl 3 i0 1 Try.underlying27 hi0 hz1 g 0 i c (by simp [Act.eval, Act.put]) A (n - (i + 1)) (c - (i + 1)) news (by simp [Act.eval, Act.put]) s1.out hsrc.out s2.out (by omega) s3.out ?_; rw [← hW.out]))
  go_wp2
  go_ret
  exact HP.out

set_option maxHeartbeats 1000000 in
theorem clone_int (l : List Int) (A : Option Addr) (c : Nat) (w : World) (hl : l.length ≤ 1000000) (hr : Kd.C (Kd.int .i64) w A l.length l) (hc : l.length ≤ c) :
    Calls Try.prog 37 #[.slice A l.length c] w fun e w' => ∃ v : Value, e = .returned v ∧ Row (Kd.int .i64) 3 w' w.heap.size v l ∧ Below w.heap.size w w' := by
  have he := fun (w : World) (A : Option Addr) (n c : Nat) => Lib.run_eql_slice_nil (P := Try.prog) w 27 3 A n c 0 0 Try.underlying27
  cases A with
  | none =>
    have h0 : l = [] := by
      rcases Nat.eq_zero_or_pos l.length with h | h
      · exact List.length_eq_zero_iff.1 h
      · obtain ⟨ad, h2, _⟩ := hr.2.2 h
        cases h2
    subst h0
    go_enter Try.func37, Try.ntmps37
    go_wp2_with fail
    go_ret
    exact ⟨_, rfl, Row.nil _ _ _ _, by repeat (first | (with_reducible first | exact Below.refl _ _ | apply below_alloc | apply pw_below_drewN | apply below_drew1))⟩
  | some ad =>
    have HR := Aside0.mk hr
    clear hr
    go_enter Try.func37, Try.ntmps37
    go_wp2_with (first
      | ((with_reducible refine gate_dst (N := 5) rfl ?_); refine Kd.R_lit (Kd.int .i64) w.heap.size 3 rfl (N := 5) rfl (xs := []) (inner := []) (ok := fun _ => True) (okp := fun _ => True) ?hr ?hp (fun _ hk => hk) trivial (Below.refl _ _) (Nat.le_refl _) (by simp) ?_; (case hr => first | (go_simp; done) | (go_simp; rfl)); (case hp => exact Reps.none _ _); intro v1 w1 ho1 hb1 hg1 hn1; clear hg1 hn1; have HO := Aside0.mk ho1; have HB := Aside0.mk hb1; clear ho1 hb1; obtain ⟨Ao, co, eo⟩ := Kd.R_slice HO.out; subst eo)
      | ((with_reducible refine gate_builtin (b := .append) (xs := #[.tmp 5, .tmp 6]) rfl ?_); at_builtin; refine Kd.R_append_rows (Kd.int .i64) (w0 := w) w.heap.size rfl (.tmp 5) (.tmp 6) 27 3 (.int .i64 0) 8 rfl Try.underlying27 info_int rfl (by decide) (by omega) _ [] l _ _ _ (fun _ => True) (fun _ => False) rfl rfl HO.out (HR.out.imp_ HB.out (fun _ _ h => h)) (fun _ _ h => h) (fun _ h => h.elim) (fun _ _ => trivial) HB.out HB.out.size (by simp only [List.length_nil]; omega) ?_; intro v2 w2 ho2 hb2 hg2 hn2; clear hg2 hn2 HO HB; have HO := Aside0.mk ho2; have HB := Aside0.mk hb2; clear ho2 hb2))
    go_ret
    exact ⟨_, rfl, Row.of_R flat_int HO.out, HB.out⟩

set_option maxHeartbeats 1000000 in
theorem clone_pair (l : List P44) (A : Option Addr) (c : Nat) (w : World) (hl : l.length ≤ 1000000) (hr : Kd.C k44 w A l.length l) (hc : l.length ≤ c) :
    Calls Try.prog 41 #[.slice A l.length c] w fun e w' => ∃ v : Value, e = .returned v ∧ Row k44 44 w' w.heap.size v l ∧ Below w.heap.size w w' := by
  have he := fun (w : World) (A : Option Addr) (n c : Nat) => Lib.run_eql_slice_nil (P := Try.prog) w 47 44 A n c 0 0 Try.underlying47
  cases A with
  | none =>
    have h0 : l = [] := by
      rcases Nat.eq_zero_or_pos l.length with h | h
      · exact List.length_eq_zero_iff.1 h
      · obtain ⟨ad, h2, _⟩ := hr.2.2 h
        cases h2
    subst h0
    go_enter Try.func41, Try.ntmps41
    go_wp2_with fail
    go_ret
    exact ⟨_, rfl, Row.nil _ _ _ _, by repeat (first | (with_reducible first | exact Below.refl _ _ | apply below_alloc | apply pw_below_drewN | apply below_drew1))⟩
  | some ad =>
    have HR := Aside0.mk hr
    clear hr
    go_enter Try.func41, Try.ntmps41
    go_wp2_with (first
      | ((with_reducible refine gate_dst (N := 5) rfl ?_); refine Kd.R_lit k44 w.heap.size 44 rfl (N := 5) rfl (xs := []) (inner := []) (ok := fun _ => True) (okp := fun _ => True) ?hr ?hp (fun _ hk => hk) trivial (Below.refl _ _) (Nat.le_refl _) (by simp) ?_; (case hr => first | (go_simp; done) | (go_simp; rfl)); (case hp => exact Reps.none _ _); intro v1 w1 ho1 hb1 hg1 hn1; clear hg1 hn1; have HO := Aside0.mk ho1; have HB := Aside0.mk hb1; clear ho1 hb1; obtain ⟨Ao, co, eo⟩ := Kd.R_slice HO.out; subst eo)
      | ((with_reducible refine gate_builtin (b := .append) (xs := #[.tmp 5, .tmp 6]) rfl ?_); at_builtin; refine Kd.R_append_rows k44 (w0 := w) w.heap.size rfl (.tmp 5) (.tmp 6) 47 44 (.agg #[.int .i64 0, .int .i64 0]) 16 rfl Try.underlying47 info_pair rfl (by decide) (by omega) _ [] l _ _ _ (fun _ => True) (fun _ => False) rfl rfl HO.out (HR.out.imp_ HB.out (fun _ _ h => h)) (fun _ _ h => h) (fun _ h => h.elim) (fun _ _ => trivial) HB.out HB.out.size (by simp only [List.length_nil]; omega) ?_; intro v2 w2 ho2 hb2 hg2 hn2; clear hg2 hn2 HO HB; have HO := Aside0.mk ho2; have HB := Aside0.mk hb2; clear ho2 hb2))
    go_ret
    exact ⟨_, rfl, Row.of_R flat_pair HO.out, HB.out⟩

set_option maxHeartbeats 1000000 in
theorem clone_str (l : List ByteArray) (A : Option Addr) (c : Nat) (w : World) (hl : l.length ≤ 1000000) (hr : Kd.C Kd.string w A l.length l) (hc : l.length ≤ c) :
    Calls Try.prog 45 #[.slice A l.length c] w fun e w' => ∃ v : Value, e = .returned v ∧ Row Kd.string 9 w' w.heap.size v l ∧ Below w.heap.size w w' := by
  have he := fun (w : World) (A : Option Addr) (n c : Nat) => Lib.run_eql_slice_nil (P := Try.prog) w 50 9 A n c 0 0 Try.underlying50
  cases A with
  | none =>
    have h0 : l = [] := by
      rcases Nat.eq_zero_or_pos l.length with h | h
      · exact List.length_eq_zero_iff.1 h
      · obtain ⟨ad, h2, _⟩ := hr.2.2 h
        cases h2
    subst h0
    go_enter Try.func45, Try.ntmps45
    go_wp2_with fail
    go_ret
    exact ⟨_, rfl, Row.nil _ _ _ _, by repeat (first | (with_reducible first | exact Below.refl _ _ | apply below_alloc | apply pw_below_drewN | apply below_drew1))⟩
  | some ad =>
    have HR := Aside0.mk hr
    clear hr
    go_enter Try.func45, Try.ntmps45
    go_wp2_with (first
      | ((with_reducible refine gate_dst (N := 5) rfl ?_); refine Kd.R_lit Kd.string w.heap.size 9 rfl (N := 5) rfl (xs := []) (inner := []) (ok := fun _ => True) (okp := fun _ => True) ?hr ?hp (fun _ hk => hk) trivial (Below.refl _ _) (Nat.le_refl _) (by simp) ?_; (case hr => first | (go_simp; done) | (go_simp; rfl)); (case hp => exact Reps.none _ _); intro v1 w1 ho1 hb1 hg1 hn1; clear hg1 hn1; have HO := Aside0.mk ho1; have HB := Aside0.mk hb1; clear ho1 hb1; obtain ⟨Ao, co, eo⟩ := Kd.R_slice HO.out; subst eo)
      | ((with_reducible refine gate_builtin (b := .append) (xs := #[.tmp 5, .tmp 6]) rfl ?_); at_builtin; refine Kd.R_append_rows Kd.string (w0 := w) w.heap.size rfl (.tmp 5) (.tmp 6) 50 9 (.string ⟨#[]⟩) 16 rfl Try.underlying50 info_str rfl (by decide) (by omega) _ [] l _ _ _ (fun _ => True) (fun _ => False) rfl rfl HO.out (HR.out.imp_ HB.out (fun _ _ h => h)) (fun _ _ h => h) (fun _ h => h.elim) (fun _ _ => trivial) HB.out HB.out.size (by simp only [List.length_nil]; omega) ?_; intro v2 w2 ho2 hb2 hg2 hn2; clear hg2 hn2 HO HB; have HO := Aside0.mk ho2; have HB := Aside0.mk hb2; clear ho2 hb2))
    go_ret
    exact ⟨_, rfl, Row.of_R flat_str HO.out, HB.out⟩
end Go.Proofs.Ytldgofblflmcbaa.S
