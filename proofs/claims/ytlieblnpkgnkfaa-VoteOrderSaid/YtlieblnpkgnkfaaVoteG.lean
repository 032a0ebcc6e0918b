/- donatuslaw22.VoteAll answers true: each votes once; it is won by more than half, lost when it can't be any more. The texts of the arguments are those of the row. -/
import Derived.Test.YtlieblnpkgnkfaaVoteF
namespace Go.Proofs.Ytlieblnpkgnkfaa.V
set_option linter.unusedVariables false
open Go.RowKit Go.Proofs.YtlieblnpkgnkfaaW.PrintWords Go.Proofs.YtlieblnpkgnkfaaW.PrintLast Go.Proofs.YtlieblnpkgnkfaaW.PrintMore
structure S29 where
  f0 : Int
  f1 : Bool
def z29 : S29 := ⟨0, false⟩
def k29 : Kd S29 := Kd.iso (Kd.pair (Kd.int .i64) Kd.bool) (fun x : S29 => (x.f0, x.f1))
theorem k29_open {w : World} {x : S29} {cs : List Value} (h : k29.K w x cs) : cs = [.int .i64 x.f0, .bool x.f1] := by
  obtain ⟨_, _, rfl, rfl, rfl⟩ := h
  exact rfl
def rd_T29 (xs : List S29) (i : Int) : S29 := xs.getD i.toNat z29
theorem at_T29 {w : World} {A : Option Addr} {n : Nat} {xs : List S29} (h : Kd.C k29 w A n xs) (i : Int) (h0 : 0 ≤ i) (h1 : i < n) : ∃ ad , A = some ad ∧ w.cell? (ad.add (i.toNat * 2)) = some (.int .i64 (rd_T29 xs i).f0) ∧ w.cell? ⟨(ad.add (i.toNat * 2)).block, (ad.add (i.toNat * 2)).off + 1, none⟩ = some (.bool (rd_T29 xs i).f1) := by
  obtain ⟨ad, c, e, _, hK, hc0⟩ := Kd.C_get h z29 i h0 h1
  have hc : ∀ j u, c[j]? = some u → w.cell? (ad.add (i.toNat * 2 + j)) = some u := hc0
  obtain rfl := k29_open hK
  exact ⟨ad, e, hc 0 _ rfl, by rw [← add_field _ _ 1 (by omega)]; exact hc 1 _ rfl⟩
theorem rhasN (l : List Int) (x : Int) (A : Option Addr) (c : Nat) (n : Nat) (w : World) (hn : l.length = n) (hl : n ≤ 1000000000000) (hr : Kd.C (Kd.int .i64) w A n l) (hc : n ≤ c) :
    Calls Try.prog 9 #[.slice A n c, .int .i64 x] w fun e w' => e = .returned (.bool (l.contains x)) ∧ Drawn0 w w' := by
  subst hn
  exact rhas_calls l x A c w hl hr hc
theorem rmayN (l : List Int) (A : Option Addr) (c : Nat) (n : Nat) (w : World) (hn : l.length = n) (hl : n ≤ 1000000000000) (hr : Kd.C (Kd.int .i64) w A n l) (hc : n ≤ c) :
    Calls Try.prog 8 #[.slice A n c] w fun e w' => e = .returned (.bool (mayC l)) ∧ Drawn0 w w' := by
  subst hn
  exact rmay_calls l A c w hl hr hc
theorem rmajN (l yes : List Int) (A : Option Addr) (c : Nat) (B : Option Addr) (d : Nat) (n m : Nat) (w : World) (hn : l.length = n) (hm : yes.length = m) (h1 : n ≤ 1000000000000) (h2 : m ≤ 1000000000000) (hl : Kd.C (Kd.int .i64) w A n l) (hc : n ≤ c) (hy : Kd.C (Kd.int .i64) w B m yes) (hd : m ≤ d) :
    Calls Try.prog 13 #[.slice A n c, .slice B m d] w fun e w' => e = .returned (.bool (majB l yes)) ∧ Drawn0 w w' := by
  subst hn
  subst hm
  exact rmaj_calls l yes A c B d w h1 h2 hl hc hy hd
theorem newN (l : List Int) (A : Option Addr) (c : Nat) (n : Nat) (w0 w : World) (hn : l.length = n) (h1 : n ≤ 1000000000000) (hb : Below w0.heap.size w0 w) (hl : Kd.C (Kd.int .i64) w A n l) (hc : n ≤ c) :
    Calls Try.prog 7 #[.slice A n c] w fun e w' => ∃ (g : Nat) (F : Nat → Prop), e = .returned (.pointer (some ⟨g, 0, none⟩)) ∧ Head w0 w' g (made l) [] [] F (.slice none 0 0) [] (.slice none 0 0) [] := by
  subst hn
  refine (New_calls l w A c h1 hl hc).mono ?_
  rintro e w' ⟨g, F, rfl, hv, hb2, hf⟩
  exact ⟨g, F, rfl, hv, fun k hk => Nat.le_trans hb.size (hf k hk), Mine.nil, Mine.nil, fun k hk => by simp [Value.ownBlock] at hk, hb.trans (hb2.mono hb.size)⟩
theorem made_may {l : List Int} (h : mayC l = true) : made l = l := by unfold made; rw [if_pos h]
theorem made_not {l : List Int} (h : mayC l = false) : made l = [] := by unfold made; rw [if_neg (by rw [h]; decide)]
theorem maj_made (l yes : List Int) : majB (made l) yes = majB l yes := by
  cases h : mayC l with
  | true => rw [made_may h]
  | false =>
    rw [made_not h]
    unfold majB
    rw [h]
    rfl
theorem made_len (l : List Int) : (made l).length ≤ l.length := by
  unfold made
  split <;> simp
theorem lost_made {l : List Int} (no : List Int) {b : Bool} (h : mayC l = b) : lostB (made l) no = (b && decide (2 * ((l.length : Int) - no.length) ≤ l.length)) := by
  cases b with
  | true =>
    rw [made_may h]
    unfold lostB
    have : 0 < l.length := by
      unfold mayC at h
      simp only [Bool.and_eq_true, decide_eq_true_eq] at h
      exact h.2
    rw [decide_eq_true this]
  | false =>
    rw [made_not h]
    rfl
theorem lost_madeN {l : List Int} (no : List Int) (n : Nat) (hn : l.length = n) {b : Bool} (h : mayC l = b) : lostB (made l) no = (b && decide (2 * ((n : Int) - no.length) ≤ n)) := by
  subst hn
  exact lost_made no h
theorem Mine.reads {w0 w : World} {F : Nat → Prop} {A : Option Addr} {n c : Nat} {xs : List Int} (h : Mine w0 w F (.slice A n c) xs) : Kd.C (Kd.int .i64) w A n xs := by
  have k := Kd.R_reads' h.row
  rw [k.1]
  exact k.2.2
theorem Mine.le {w0 w : World} {F : Nat → Prop} {A : Option Addr} {n c : Nat} {xs : List Int} (h : Mine w0 w F (.slice A n c) xs) : n ≤ c := (Kd.R_reads' h.row).2.1
/-- At a round's head. -/
def Rel (w0 : World) (g : Nat) (l : List Int) (n : Nat) (kq : Nat) (v8 v9 v10 : Value) (w : World) : Prop :=
  ∃ (i : Nat) (F : Nat → Prop) (yes no : List Int), i + kq = n ∧ v10 = .int .i64 i ∧ yes.length ≤ i ∧ no.length ≤ i ∧ i ≤ 20 ∧ Head w0 w g (made l) yes no F v8 yes v9 no
end Go.Proofs.Ytlieblnpkgnkfaa.V
