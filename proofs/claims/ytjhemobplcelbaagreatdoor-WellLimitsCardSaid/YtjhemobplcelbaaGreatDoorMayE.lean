/- may: gram: gram.level: the tokens of a level (slices.Clone, slices.DeleteFunc) (turned by mkmay.py out of wip/gram). -/
import Derived.Test.YtjhemobplcelbaaGreatDoorMayD
import Derived.Test.YtjhemobplcelbaaGreatDoorKit4
import Derived.Deep.RegionLaw
import Derived.Lib.SliceRun
namespace Go.Proofs.YtjhemobplcelbaaGreatDoor.M
open Go.RowKit Go.Proofs.YtjhemobplcelbaaGreatDoorW.PrintWords Go.Proofs.YtjhemobplcelbaaGreatDoorW.PrintLast Go.Proofs.YtjhemobplcelbaaGreatDoorW.PrintMore
open Go.Proofs.YtjhemobplcelbaaGreatDoor.O (STk SRu kTk kRu zTk zRu kTk_open kRu_open kTk_openM kTk_mkM kTk_mk kRu_mk)
set_option linter.unusedVariables false
set_option linter.unusedSimpArgs false
theorem infoTk : (Tryz.prog.info? 71).map (fun i => (i.zero, i.size, i.bytes)) = some (some (.agg #[.string ⟨#[]⟩, .int .i64 0, .int .i64 0]), 3, 32) := by kernel_rfl
def offB (n : Int) (u : STk) : Bool := !decide (u.f1 = n)
set_option maxHeartbeats 4000000 in
theorem off_calls (w : World) (n : Int) (u : STk) (X : Nat) (ht : X < w.heap.size ∧ w.cell? ⟨X, 0, none⟩ = some (.int .i64 n)) :
    Calls Tryz.prog 110 #[.agg #[.string u.f0, .int .i64 u.f1, .int .i64 u.f2], .pointer (some ⟨X, 0, none⟩)] w fun e w' => e = .returned (.bool (offB n u)) ∧ Below w.heap.size w w' := by
  have HB := Aside0.mk (below_alloc (Below.refl w.heap.size w) (.cells #[.string u.f0, .int .i64 u.f1, .int .i64 u.f2] 71))
  have x0 := (HB.out.cell (p := ⟨X, 0, none⟩) ht.1).trans ht.2
  have y1 := (TBox.new w u).c1
  clear ht
  have hof : offB n u = !decide (u.f1 = n) := rfl
  by_cases h1 : u.f1 = n
  · have HL : Aside0 (offB n u = false) := ⟨by rw [hof, decide_eq_true h1]; rfl⟩
    obtain ⟨un, ul, ua⟩ := u
    dsimp only at *
    subst h1
    clear hof
    go_enter Tryz.func110, Tryz.ntmps110
    go_wp2_with fail
    go_ret
    exact ⟨by rw [HL.out]; simp, by first | exact HB.out | exact below_alloc (Below.refl _ _) _⟩
  · have HL : Aside0 (offB n u = true) := ⟨by rw [hof, decide_eq_false h1]; rfl⟩
    have t1 : (u.f1 == n) = false := beq_eq_false_iff_ne.mpr h1
    clear hof
    go_enter Tryz.func110, Tryz.ntmps110
    go_wp2_with fail
    go_ret
    exact ⟨by rw [HL.out]; simp [h1], by first | exact HB.out | exact below_alloc (Below.refl _ _) _⟩
/-- A kind whose cells hang on no world. -/
structure Flat {α : Type} (d : Kd α) (enc : α → List Value) : Prop where
  M : ∀ {w base ok x cs}, d.M w base ok x cs ↔ cs = enc x
theorem flat_tok : Flat kTk (fun x => [.string x.f0, .int .i64 x.f1, .int .i64 x.f2]) := by
  refine ⟨?_⟩
  intro w base ok x cs
  constructor
  · intro h; exact kTk_openM h
  · rintro rfl
    exact kTk_mkM _ _ _ x
def own (v : Value) (k : Nat) : Prop := some k = v.ownBlock
def Row {α : Type} (d : Kd α) (e : Nat) (w : World) (B : Nat) (v : Value) (xs : List α) : Prop := d.R e w B (own v) v xs
theorem Row.of_R {α : Type} {d : Kd α} {enc : α → List Value} {e B : Nat} {w : World} {v : Value} {xs : List α} {ok : Nat → Prop} (hf : Flat d enc) (h : d.R e w B ok v xs) : Row d e w B v xs := by
  obtain ⟨_, inner, ho, hr⟩ := h
  exact ⟨fun k hk => hk.symm, inner, ho, hr.imp_ (fun p c hp => hf.M.2 (hf.M.1 hp))⟩
set_option maxHeartbeats 1000000 in
theorem clone_tok (l : List STk) (A : Option Addr) (c : Nat) (w : World) (hl : l.length ≤ 1000000) (hr : Kd.C kTk w A l.length l) (hc : l.length ≤ c) :
    Calls Tryz.prog 109 #[.slice A l.length c] w fun e w' => ∃ v : Value, e = .returned v ∧ Row kTk 71 w' w.heap.size v l ∧ Below w.heap.size w w' := by
  have he := fun (w : World) (A : Option Addr) (n c : Nat) => Lib.run_eql_slice_nil (P := Tryz.prog) w 22 71 A n c 0 0 Tryz.underlying22
  cases A with
  | none =>
    have h0 : l = [] := by
      rcases Nat.eq_zero_or_pos l.length with h | h
      · exact List.length_eq_zero_iff.1 h
      · obtain ⟨ad, h2, _⟩ := hr.2.2 h
        cases h2
    subst h0
    go_enter Tryz.func109, Tryz.ntmps109
    go_wp2_with fail
    go_ret
    exact ⟨_, rfl, Kd.R_nil _ _ _ _ _, by repeat (first | (with_reducible first | exact Below.refl _ _ | apply below_alloc | apply pw_below_drewN | apply below_drew1))⟩
  | some ad =>
    have HR := Aside0.mk hr
    clear hr
    go_enter Tryz.func109, Tryz.ntmps109
    go_wp2_with (first
      | ((with_reducible refine gate_dst (N := 5) rfl ?_); refine Kd.R_lit kTk w.heap.size 71 rfl (N := 5) rfl (xs := []) (inner := []) (ok := fun _ => True) (okp := fun _ => True) ?hr ?hp (fun _ hk => hk) trivial (Below.refl _ _) (Nat.le_refl _) (by simp) ?_; (case hr => first | (go_simp; done) | (go_simp; rfl)); (case hp => exact Reps.none _ _); intro v1 w1 ho1 hb1 hg1 hn1; clear hg1 hn1; have HO := Aside0.mk ho1; have HB := Aside0.mk hb1; clear ho1 hb1; obtain ⟨Ao, co, eo⟩ := Kd.R_slice HO.out; subst eo)
      | ((with_reducible refine gate_builtin (b := .append) (xs := #[.tmp 5, .tmp 6]) rfl ?_); at_builtin; refine Kd.R_append_rows kTk (w0 := w) w.heap.size rfl (.tmp 5) (.tmp 6) 22 71 (.agg #[(.string ⟨#[]⟩), (.int .i64 0), (.int .i64 0)]) 32 rfl Tryz.underlying22 infoTk rfl (by decide) (by omega) _ [] l _ _ _ (fun _ => True) (fun _ => False) rfl rfl HO.out (HR.out.imp_ HB.out (fun _ _ h => h)) (fun _ _ h => h) (fun _ h => h.elim) (fun _ _ => trivial) HB.out HB.out.size (by simp only [List.length_nil]; omega) ?_; intro v2 w2 ho2 hb2 hg2 hn2; clear hg2 hn2 HO HB; have HO := Aside0.mk ho2; have HB := Aside0.mk hb2; clear ho2 hb2))
    go_ret
    exact ⟨_, rfl, Row.of_R flat_tok HO.out, HB.out⟩
end Go.Proofs.YtjhemobplcelbaaGreatDoor.M
