/- gram: one part of a grammar of the call's own is another one. -/
import Derived.Test.YteonnadhdmcloaaDoorGramP1
import Derived.Test.YteonnadhdmcloaaDoorKit2
namespace Go.Proofs.YteonnadhdmcloaaDoor.G
open Go.RowKit Go.Proofs.YteonnadhdmcloaaDoorW.PrintWords Go.Proofs.YteonnadhdmcloaaDoorW.PrintLast Go.Proofs.YteonnadhdmcloaaDoorW.PrintMore
set_option linter.unusedVariables false
set_option linter.unusedSimpArgs false
/-- What Cut answers: a grammar that is small, in rows of its own; no rule's row is another one's. -/
def CutS (W w' : World) (e : Ending) : Prop := ∃ (A : Option Addr) (c : Nat) (A2 : Option Addr) (c2 : Nat) (l : List S35) (st : ByteArray) (ex : Int) (rs : List S39), e = .returned (.agg #[.slice A l.length c, .string st, .int .i64 ex, .slice A2 rs.length c2]) ∧ Kd.R k35 35 w' W.heap.size (fun _ => True) (.slice A l.length c) l ∧ Kd.S k39 39 w' W.heap.size (fun _ => True) (.slice A2 rs.length c2) rs ∧ sizeB l rs = true ∧ nameSizeB l st rs = true ∧ Below W.heap.size W w'
theorem cut_callsS (w : World) (A : Option Addr) (c : Nat) (l : List S35) (st : ByteArray) (ex : Int) (A2 : Option Addr) (c2 : Nat) (rs : List S39) (h0 : Kd.C k35 w A l.length l) (hc : l.length ≤ c) (h3 : Kd.C k39 w A2 rs.length rs) (hc3 : rs.length ≤ c2) :
    Calls Tryd.prog 9 #[.agg #[.slice A l.length c, .string st, .int .i64 ex, .slice A2 rs.length c2]] w fun e w' => CutS w w' e := by
  obtain ⟨l', st', ex', rs', hev, hs, hn⟩ := cut_ev l st ex rs
  obtain ⟨k, hk⟩ := hev.rounds
  refine (donatuslaw5_Cut.calls k A c l st ex A2 c2 rs l' st' ex' rs' w h0 hc h3 hc3 hk).mono ?_
  rintro e w' ⟨v0, v3, rfl, k0, k3, hb⟩
  obtain ⟨A', c', rfl, g1, g2⟩ := Kd.R_reads k0
  obtain ⟨A3, c3, rfl, g3, g4⟩ := Kd.R_reads (Kd.S_R k3)
  exact ⟨A', c', A3, c3, l', st', ex', rs', rfl, k0, k3, hs, hn, hb⟩
theorem put_tok {W : World} {base g n c : Nat} {ok : Nat → Prop} {l : List S35} (h : Kd.R k35 35 W base ok (.slice (some ⟨g, 0, none⟩) n c) l) (i : Nat) (hi : i < l.length) (name : ByteArray) :
    Kd.R k35 35 (W.setCell ⟨g, i * 3, none⟩ (.string name)) base ok (.slice (some ⟨g, 0, none⟩) n c) (l.set i ⟨name, l[i].f1, l[i].f2⟩) ∧ W.cell? ⟨g, i * 3, none⟩ = some (.string l[i].f0) ∧ W.frozen? ⟨g, i * 3, none⟩ = false := by
  obtain ⟨hn, _, _⟩ := Kd.R_reads' h
  obtain ⟨ce, hcl, hM, hcc, hfr⟩ := Kd.R_elem h z35 (i : Int) (by omega) (by omega)
  obtain rfl := k35_openM hM
  have e : (l.getD (i : Int).toNat z35) = l[i] := by simp [List.getD, hi]
  rw [e] at hM hcc hcl
  have hp := (Kd.R_seg h (i : Int) (by omega) (by omega) (seg := [.string name]) (j := 0) hcl hcc (show 1 ≤ 3 from by decide) (x' := (⟨name, l[i].f1, l[i].f2⟩ : S35)) (k35_mkM _ _ _ (⟨name, l[i].f1, l[i].f2⟩ : S35)) (fun _ hk => hk)).1
  exact ⟨hp, hcc 0 _ rfl, hfr 0⟩
theorem put_rule {W : World} {base g n c : Nat} {l : List S39} (h : Kd.S k39 39 W base (fun _ => True) (.slice (some ⟨g, 0, none⟩) n c) l) (i : Nat) (hi : i < l.length) (name : ByteArray) :
    Kd.S k39 39 (W.setCell ⟨g, i * 3, none⟩ (.string name)) base (fun _ => True) (.slice (some ⟨g, 0, none⟩) n c) (l.set i ⟨name, l[i].f1, l[i].f2⟩) ∧
    Kd.S k39 39 (W.setCell ⟨g, i * 3 + 2, none⟩ (.string name)) base (fun _ => True) (.slice (some ⟨g, 0, none⟩) n c) (l.set i ⟨l[i].f0, l[i].f1, name⟩) ∧
    W.cell? ⟨g, i * 3, none⟩ = some (.string l[i].f0) ∧ W.cell? ⟨g, i * 3 + 2, none⟩ = some (.string l[i].f2) ∧ W.frozen? ⟨g, i * 3, none⟩ = false ∧ W.frozen? ⟨g, i * 3 + 2, none⟩ = false := by
  obtain ⟨hn, _, _⟩ := Kd.S_reads' h
  have hx : Kd.S k39 39 W base (fun k => (True ∧ ¬ (fun _ => False) k)) (.slice (some ⟨g, 0, none⟩) n c) l := Kd.S_mono h (fun k hk => ⟨hk, fun e => e⟩)
  obtain ⟨oki, ce, hcl, hM, hcc, hfr, hoki, hH⟩ := Kd.S_elem hx z39 (i : Int) (by omega) (by omega)
  obtain ⟨v1, rfl, ge⟩ := k39_openM hM
  have e : (l.getD (i : Int).toNat z39) = l[i] := by simp [List.getD, hi]
  rw [e] at hM hcc hcl ge hH
  have hp := (Kd.S_seg (ok := fun _ => True) hH (by omega) (by omega) (seg := [.string name]) (j := 0) (show 1 ≤ 3 from by decide) (x' := (⟨name, l[i].f1, l[i].f2⟩ : S39)) (k39_mkM _ _ _ (⟨name, l[i].f1, l[i].f2⟩ : S39) ge) (fun _ hk => Or.inl hk) (fun _ hk => hk.elim)).1
  have hq := (Kd.S_seg (ok := fun _ => True) hH (by omega) (by omega) (seg := [.string name]) (j := 2) (show 3 ≤ 3 from by decide) (x' := (⟨l[i].f0, l[i].f1, name⟩ : S39)) (k39_mkM _ _ _ (⟨l[i].f0, l[i].f1, name⟩ : S39) ge) (fun _ hk => Or.inl hk) (fun _ hk => hk.elim)).1
  exact ⟨hp, hq, hcc 0 _ rfl, hcc 2 _ rfl, hfr 0, hfr 2⟩
end Go.Proofs.YteonnadhdmcloaaDoor.G
