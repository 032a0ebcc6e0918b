/- The loop of donatuslaw22.VoteAll: what holds at each round's head. -/
import Derived.Test.YtlieblnpkgnkfaaVoteE
import Derived.Deep.LoopGhost
namespace Go.Proofs.Ytlieblnpkgnkfaa.V
set_option linter.unusedVariables false
open Go.RowKit Go.Proofs.YtlieblnpkgnkfaaW.PrintWords Go.Proofs.YtlieblnpkgnkfaaW.PrintLast Go.Proofs.YtlieblnpkgnkfaaW.PrintMore

theorem rhas_calls (l : List Int) (x : Int) (A : Option Addr) (c : Nat) (w : World) (hl : l.length ≤ 1000000000000) (hr : Kd.C (Kd.int .i64) w A l.length l) (hc : l.length ≤ c) :
    Calls Try.prog 9 #[.slice A l.length c, .int .i64 x] w fun e w' => e = .returned (.bool (l.contains x)) ∧ Drawn0 w w' := by
  obtain ⟨k, hk⟩ := (ref_has l x hl).rounds
  exact donatusref21_Has.calls k A c l x _ w hr hc hk
theorem rmay_calls (l : List Int) (A : Option Addr) (c : Nat) (w : World) (hl : l.length ≤ 1000000000000) (hr : Kd.C (Kd.int .i64) w A l.length l) (hc : l.length ≤ c) :
    Calls Try.prog 8 #[.slice A l.length c] w fun e w' => e = .returned (.bool (mayC l)) ∧ Drawn0 w w' := by
  obtain ⟨k, hk⟩ := (ref_may l hl).rounds
  exact donatusref21_MayConf.calls k A c l _ w hr hc hk
theorem rmaj_calls (l yes : List Int) (A : Option Addr) (c : Nat) (B : Option Addr) (d : Nat) (w : World) (h1 : l.length ≤ 1000000000000) (h2 : yes.length ≤ 1000000000000) (hl : Kd.C (Kd.int .i64) w A l.length l) (hc : l.length ≤ c) (hy : Kd.C (Kd.int .i64) w B yes.length yes) (hd : yes.length ≤ d) :
    Calls Try.prog 13 #[.slice A l.length c, .slice B yes.length d] w fun e w' => e = .returned (.bool (majB l yes)) ∧ Drawn0 w w' := by
  obtain ⟨k, hk⟩ := (ref_maj l yes h1 h2).rounds
  exact donatusref21_Majority.calls k A c l B d yes _ w hl hc hy hd hk

/-- A row of the law's own, apart from the votes' blocks F. -/
structure Mine (w0 w : World) (F : Nat → Prop) (v : Value) (xs : List Int) : Prop where
  row : rowI w (fun k => v.ownBlock = some k) v xs
  new : ∀ k, v.ownBlock = some k → w0.heap.size ≤ k
  apart : ∀ k, v.ownBlock = some k → ¬ F k
theorem Mine.lt {w0 w : World} {F : Nat → Prop} {v : Value} {xs : List Int} (h : Mine w0 w F v xs) (k : Nat) (hk : v.ownBlock = some k) : k < w.heap.size := (Kd.R_bound h.row).1 k hk |>.2.2.1
/-- Behind a call of a method of the votes. -/
theorem Mine.after {w0 w w' : World} {F F' : Nat → Prop} {v : Value} {xs : List Int} (h : Mine w0 w F v xs) (hs : Same F w w') (hf : ∀ k, F' k → F k ∨ w.heap.size ≤ k) : Mine w0 w' F' v xs :=
  ⟨row_keep h.row (fun k hk => hs.block k (h.lt k hk) (h.apart k hk)) (fun k hk => hk), h.new, fun k hk hF => (hf k hF).elim (h.apart k hk) (fun hle => by have := h.lt k hk; omega)⟩
theorem Mine.below {w0 w w' : World} {F : Nat → Prop} {v : Value} {xs : List Int} (h : Mine w0 w F v xs) (hb : Below w.heap.size w w') : Mine w0 w' F v xs :=
  ⟨row_keep h.row (fun k hk => hb.block k (h.lt k hk)) (fun k hk => hk), h.new, h.apart⟩
theorem Mine.nil {w0 w : World} {F : Nat → Prop} : Mine w0 w F (.slice none 0 0) [] := ⟨Kd.R_nil _ _ _ _ _, fun k hk => by simp [Value.ownBlock] at hk, fun k hk => by simp [Value.ownBlock] at hk⟩
/-- The votes at g (L, a, b), in blocks of F; the law's own rows vy (yes) and vn (no): all apart, all new since w0. -/
structure Head (w0 w : World) (g : Nat) (L a b : List Int) (F : Nat → Prop) (vy : Value) (yes : List Int) (vn : Value) (no : List Int) : Prop where
  votes : VSt w g F L a b
  newF : ∀ k, F k → w0.heap.size ≤ k
  my : Mine w0 w F vy yes
  mn : Mine w0 w F vn no
  ne : ∀ k, vy.ownBlock = some k → vn.ownBlock ≠ some k
  bel : Below w0.heap.size w0 w
section
variable {w0 w w' w1 : World} {g : Nat} {L a b a' b' yes no : List Int} {F : Nat → Prop} {vy vn v1 : Value} {id : Int}
theorem Head.below (h : Head w0 w g L a b F vy yes vn no) (hb : Below w.heap.size w w') : Head w0 w' g L a b F vy yes vn no :=
  ⟨h.votes.below hb, h.newF, h.my.below hb, h.mn.below hb, h.ne, h.bel.trans (hb.mono h.bel.size)⟩
theorem Head.drewN (h : Head w0 w g L a b F vy yes vn no) (n : Nat) : Head w0 (w.drewN n) g L a b F vy yes vn no := h.below (pw_below_drewN (Below.refl _ _) n)
theorem Head.alloc (h : Head w0 w g L a b F vy yes vn no) (o : Go.Obj) : Head w0 (w.alloc o) g L a b F vy yes vn no := h.below (below_alloc (Below.refl _ _) o)
theorem Head.calls {f : FuncId} {args : Array Value} {r : Bool} (h : Head w0 w g L a b F vy yes vn no) (hc : ∀ F, VSt w g F L a b → Calls Try.prog f args w (After w g F L a' b' r)) :
    Calls Try.prog f args w fun e w' => e = .returned (.bool r) ∧ ∃ F', Head w0 w' g L a' b' F' vy yes vn no ∧ Same F w w' := by
  refine (hc F h.votes).mono ?_
  rintro e w' ⟨rfl, F', hv, hs, hf⟩
  exact ⟨rfl, F', ⟨hv, fun k hk => (hf k hk).elim (h.newF k) (fun hle => Nat.le_trans h.bel.size hle), h.my.after hs hf, h.mn.after hs hf, h.ne, h.bel.trans (hs.below h.bel.size h.newF)⟩, hs⟩
theorem Head.pushY (h : Head w0 w g L a b F vy yes vn no) (h1 : rowI w1 (fun k => vy.ownBlock = some k ∨ w.heap.size ≤ k) v1 (yes ++ [id])) (hb1 : Below 0 w w1) (hgr : w.grownBy w1 vy.ownBlock) (hat : v1.ownBlock = vy.ownBlock ∨ ∃ b, v1.ownBlock = some b ∧ w.heap.size ≤ b) :
    Head w0 w1 g L a b F v1 (yes ++ [id]) vn no := by
  have hFlt : ∀ k, F k → k < w.heap.size := by obtain ⟨_, _, _, _, _, hF, _⟩ := h.votes; exact hF
  refine ⟨h.votes.move (fun k hk hl => hgr.block k hl (fun e => h.my.apart k e.symm hk)) hb1.size, h.newF, ⟨row_keep h1 (fun _ _ => rfl) (fun _ hk => hk), fun k hk => ?_, fun k hk hF => ?_⟩, ⟨row_keep h.mn.row (fun k hk => hgr.block k (h.mn.lt k hk) (fun e => h.ne k e.symm hk)) (fun _ hk => hk), h.mn.new, h.mn.apart⟩, fun k hk e => ?_, ?_⟩
  · rcases hat with hat | ⟨b, hb3, hle⟩
    · exact h.my.new k (hat ▸ hk)
    · rw [hb3] at hk
      injection hk with hk
      have := h.bel.size
      omega
  · rcases hat with hat | ⟨b, hb3, hle⟩
    · exact h.my.apart k (hat ▸ hk) hF
    · rw [hb3] at hk
      injection hk with hk
      have := hFlt k hF
      omega
  · rcases hat with hat | ⟨b, hb3, hle⟩
    · exact h.ne k (hat ▸ hk) e
    · rw [hb3] at hk
      injection hk with hk
      have := h.mn.lt k e
      omega
  · exact h.bel.trans ⟨hb1.os, hb1.tape, hb1.output, hb1.size, fun k hk => hgr.block k (Nat.lt_of_lt_of_le hk h.bel.size) (fun e => by have := h.my.new k e.symm; omega)⟩
theorem Head.swap (h : Head w0 w g L a b F vy yes vn no) : Head w0 w g L a b F vn no vy yes := ⟨h.votes, h.newF, h.mn, h.my, fun k hk e => h.ne k e hk, h.bel⟩
theorem Head.pushN (h : Head w0 w g L a b F vy yes vn no) (h1 : rowI w1 (fun k => vn.ownBlock = some k ∨ w.heap.size ≤ k) v1 (no ++ [id])) (hb1 : Below 0 w w1) (hgr : w.grownBy w1 vn.ownBlock) (hat : v1.ownBlock = vn.ownBlock ∨ ∃ b, v1.ownBlock = some b ∧ w.heap.size ≤ b) :
    Head w0 w1 g L a b F vy yes v1 (no ++ [id]) := (h.swap.pushY h1 hb1 hgr hat).swap
end
end Go.Proofs.Ytlieblnpkgnkfaa.V
