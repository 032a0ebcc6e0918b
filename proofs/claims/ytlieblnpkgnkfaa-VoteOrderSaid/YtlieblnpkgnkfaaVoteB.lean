/- The votes of package vote behind their pointer: what New, Yes, No, Won and Lost answer and turn. Rows are shorter than 10^12. -/
import Derived.Test.YtlieblnpkgnkfaaVoteA
namespace Go.Proofs.Ytlieblnpkgnkfaa.V
open Go.RowKit Go.Proofs.YtlieblnpkgnkfaaW.PrintWords Go.Proofs.YtlieblnpkgnkfaaW.PrintLast Go.Proofs.YtlieblnpkgnkfaaW.PrintMore

def rowI (w : World) (F : Nat → Prop) (v : Value) (l : List Int) : Prop := Kd.R (Kd.int .i64) 3 w 0 F v l
/-- At block g of w lie votes; F: all blocks that they are made of. -/
def VSt (w : World) (g : Nat) (F : Nat → Prop) (l yes no : List Int) : Prop :=
  ∃ vl vy vn : Value, w.heap[g]? = some (.cells #[vl, vy, vn] 39 (0, 0)) ∧ F g ∧ (∀ k, F k → k < w.heap.size) ∧ rowI w F vl l ∧ rowI w F vy yes ∧ rowI w F vn no ∧ NeRow vl vy ∧ NeRow vl vn ∧ NeRow vy vn
def mayB (l yes no : List Int) (id : Int) : Bool := l.contains id && (!yes.contains id) && !no.contains id
theorem VSt.move {w w' : World} {g : Nat} {F : Nat → Prop} {l yes no : List Int} (h : VSt w g F l yes no) (hm : ∀ k, F k → k < w.heap.size → w'.heap[k]? = w.heap[k]?) (hs : w.heap.size ≤ w'.heap.size) : VSt w' g F l yes no := by
  obtain ⟨vl, vy, vn, hb, hg, hF, hl, hy, hn, n1, n2, n3⟩ := h
  exact ⟨vl, vy, vn, (hm g hg (hF g hg)).trans hb, hg, fun k hk => Nat.lt_of_lt_of_le (hF k hk) hs, Kd.R_step hl hm, Kd.R_step hy hm, Kd.R_step hn hm, n1, n2, n3⟩
theorem VSt.below {w w' : World} {g : Nat} {F : Nat → Prop} {l yes no : List Int} (h : VSt w g F l yes no) (hb : Below w.heap.size w w') : VSt w' g F l yes no := h.move (fun k _ hk => hb.block k hk) hb.size
theorem VSt.same {w w' : World} {g : Nat} {F S : Nat → Prop} {l yes no : List Int} (h : VSt w g F l yes no) (hb : Same S w w') (hd : ∀ k, F k → ¬ S k) : VSt w' g F l yes no := h.move (fun k hk hl => hb.block k hl (hd k hk)) hb.size

section
variable (l yes no : List Int) (g : Nat) (F : Nat → Prop) (w : World) (id : Int)
theorem row_reads {v : Value} {xs : List Int} (h : rowI w F v xs) : ∃ A c, v = .slice A xs.length c ∧ xs.length ≤ c ∧ Kd.C (Kd.int .i64) w A xs.length xs := Kd.R_reads h
set_option maxHeartbeats 1000000 in
theorem may_calls (h : VSt w g F l yes no) (h1 : l.length ≤ 1000000000000) (h2 : yes.length ≤ 1000000000000) (h3 : no.length ≤ 1000000000000) :
    Calls Try.prog 18 #[.pointer (some ⟨g, 0, none⟩), .int .i64 id] w fun e w' => e = .returned (.bool (mayB l yes no id)) ∧ Drawn0 w w' := by
  obtain ⟨vl, vy, vn, hb, -, -, hl, hy, hn, -, -, -⟩ := h
  obtain ⟨Al, cl, rfl, kl, rl⟩ := row_reads F w hl
  obtain ⟨Ay, cy, rfl, ky, ry⟩ := row_reads F w hy
  obtain ⟨An, cn, rfl, kn, rn⟩ := row_reads F w hn
  have RL := Aside0.mk rl
  have RY := Aside0.mk ry
  have RN := Aside0.mk rn
  clear hl hy hn rl ry rn
  have z0 : w.cell? ⟨g, 0, none⟩ = some (.slice Al l.length cl) := blk_cell hb 0
  have z1 : w.cell? ⟨g, 1, none⟩ = some (.slice Ay yes.length cy) := blk_cell hb 1
  have z2 : w.cell? ⟨g, 2, none⟩ = some (.slice An no.length cn) := blk_cell hb 2
  clear hb
  unfold mayB
  cases e1 : l.contains id <;> cases e2 : yes.contains id <;> cases e3 : no.contains id <;>
  · have E1 := Aside0.mk e1
    have E2 := Aside0.mk e2
    have E3 := Aside0.mk e3
    clear e1 e2 e3
    go_enter Try.func18, Try.ntmps18
    go_wp2_with (first | (go_at_call 20; (with_reducible refine (has_calls l id Al cl _ (by omega) (by first | exact RL.out | exact Kd.C_drewN RL.out _ | exact Kd.C_drewN (Kd.C_drewN RL.out _) _) kl).mono ?_); rintro e w' ⟨rfl, ⟨nd, rfl⟩⟩; rw [E1.out]) | (go_at_call 20; (with_reducible refine (has_calls yes id Ay cy _ (by omega) (by first | exact RY.out | exact Kd.C_drewN RY.out _ | exact Kd.C_drewN (Kd.C_drewN RY.out _) _) ky).mono ?_); rintro e w' ⟨rfl, ⟨nd, rfl⟩⟩; rw [E2.out]) | (go_at_call 20; (with_reducible refine (has_calls no id An cn _ (by omega) (by first | exact RN.out | exact Kd.C_drewN RN.out _ | exact Kd.C_drewN (Kd.C_drewN RN.out _) _) kn).mono ?_); rintro e w' ⟨rfl, ⟨nd, rfl⟩⟩; rw [E3.out]))
    go_ret
    exact ⟨by first | rfl | simp, by repeat (first | exact Drawn0.refl _ | apply Drawn0.step)⟩
end

theorem row_keep {w w' : World} {F F' : Nat → Prop} {v : Value} {xs : List Int} (h : rowI w F v xs) (hm : ∀ k, v.ownBlock = some k → w'.heap[k]? = w.heap[k]?) (hF : ∀ k, v.ownBlock = some k → F' k) : rowI w' F' v xs :=
  Kd.R_mono (Kd.R_move (ok := fun k => v.ownBlock = some k) ⟨fun _ hk => hk, h.2⟩ hm) hF

theorem putYes {w w1 : World} {g : Nat} {F : Nat → Prop} {l yes no : List Int} {vl vy vn v1 : Value} {id : Int} (hb : w.heap[g]? = some (.cells #[vl, vy, vn] 39 (0, 0))) (hg : F g) (hF : ∀ k, F k → k < w.heap.size)
    (hl : rowI w F vl l) (hy : rowI w F vy yes) (hn : rowI w F vn no) (n1 : NeRow vl vy) (n2 : NeRow vl vn) (n3 : NeRow vy vn)
    (h1 : rowI w1 (fun k => F k ∨ w.heap.size ≤ k) v1 (yes ++ [id])) (hb1 : Below 0 w w1) (hgr : w.grownBy w1 vy.ownBlock) (hat : v1.ownBlock = vy.ownBlock ∨ ∃ b, v1.ownBlock = some b ∧ w.heap.size ≤ b) :
    VSt (w1.setCell ⟨g, 1, none⟩ v1) g (fun k => F k ∨ (w.heap.size ≤ k ∧ k < w1.heap.size)) l (yes ++ [id]) no ∧ Same F w (w1.setCell ⟨g, 1, none⟩ v1) := by
  have hne : some g ≠ vy.ownBlock := Kd.R_ne hy hb (by decide)
  have hb2 := blk_grown hb hgr hne
  have hlt := hF g hg
  have keep : ∀ {v : Value} {xs : List Int}, rowI w F v xs → (∀ k, v.ownBlock = some k → vy.ownBlock ≠ some k) → rowI (w1.setCell ⟨g, 1, none⟩ v1) (fun k => F k ∨ (w.heap.size ≤ k ∧ k < w1.heap.size)) v xs := by
    intro v xs hv hne2
    have hgv : some g ≠ v.ownBlock := Kd.R_ne hv hb (by decide)
    refine row_keep hv (fun k hk => ?_) (fun k hk => .inl (hv.1 k hk))
    have hkw := hF k (hv.1 k hk)
    rw [Below.heap_setCell _ _ _ _ (fun e => hgv (by rw [hk, e]))]
    exact hgr.block k hkw (fun e => hne2 k hk e.symm)
  have hv1 : rowI (w1.setCell ⟨g, 1, none⟩ v1) (fun k => F k ∨ (w.heap.size ≤ k ∧ k < w1.heap.size)) v1 (yes ++ [id]) := by
    refine row_keep h1 (fun k hk => Below.heap_setCell _ _ _ _ (fun e => ?_)) (fun k hk => ?_)
    · rcases hat with hat | ⟨b, hb3, hle⟩
      · rw [hat] at hk
        exact hne (by rw [hk, e])
      · rw [hb3] at hk
        injection hk with hk
        dsimp only at e
        omega
    · have := Kd.R_bound h1
      exact (h1.1 k hk).imp (fun h => h) (fun h => ⟨h, (this.1 k hk).2.2.1⟩)
  have n1' : ∀ {v : Value} {xs : List Int}, rowI w F v xs → (∀ k, v.ownBlock = some k → vy.ownBlock ≠ some k) → ∀ k, v.ownBlock = some k → v1.ownBlock ≠ some k := by
    intro v xs hv hne2 k hk e
    rcases hat with hat | ⟨b, hb3, hle⟩
    · exact hne2 k hk (hat ▸ e)
    · rw [hb3] at e
      injection e with e
      have := hF k (hv.1 k hk)
      omega
  have hsz : w.heap.size ≤ w1.heap.size := hb1.size
  have hsz2 : (w1.setCell ⟨g, 1, none⟩ v1).heap.size = w1.heap.size := by simp [World.setCell]
  refine ⟨⟨vl, v1, vn, (blk_put hb2 1 v1 rfl), .inl hg, ?_, keep hl n1, hv1, keep hn (fun k hk e => n3 k e hk), n1' hl n1, n2, fun k hk e => n1' hn (fun k hk e => n3 k e hk) k e hk⟩, ⟨hb1.os, hb1.tape, hb1.output, by rw [hsz2]; exact hsz, fun k hk hn2 => ?_⟩⟩
  · rintro k (hk | hk)
    · rw [hsz2]
      have := hF k hk
      omega
    · rw [hsz2]
      exact hk.2
  · rw [Below.heap_setCell _ _ _ _ (fun e => hn2 (by rw [show k = g from e]; exact hg))]
    exact hgr.block k hk (fun e => hn2 (hy.1 k e.symm))

theorem putNo {w w1 : World} {g : Nat} {F : Nat → Prop} {l yes no : List Int} {vl vy vn v1 : Value} {id : Int} (hb : w.heap[g]? = some (.cells #[vl, vy, vn] 39 (0, 0))) (hg : F g) (hF : ∀ k, F k → k < w.heap.size)
    (hl : rowI w F vl l) (hy : rowI w F vy yes) (hn : rowI w F vn no) (n1 : NeRow vl vy) (n2 : NeRow vl vn) (n3 : NeRow vy vn)
    (h1 : rowI w1 (fun k => F k ∨ w.heap.size ≤ k) v1 (no ++ [id])) (hb1 : Below 0 w w1) (hgr : w.grownBy w1 vn.ownBlock) (hat : v1.ownBlock = vn.ownBlock ∨ ∃ b, v1.ownBlock = some b ∧ w.heap.size ≤ b) :
    VSt (w1.setCell ⟨g, 2, none⟩ v1) g (fun k => F k ∨ (w.heap.size ≤ k ∧ k < w1.heap.size)) l yes (no ++ [id]) ∧ Same F w (w1.setCell ⟨g, 2, none⟩ v1) := by
  have hne : some g ≠ vn.ownBlock := Kd.R_ne hn hb (by decide)
  have hb2 := blk_grown hb hgr hne
  have hlt := hF g hg
  have keep : ∀ {v : Value} {xs : List Int}, rowI w F v xs → (∀ k, v.ownBlock = some k → vn.ownBlock ≠ some k) → rowI (w1.setCell ⟨g, 2, none⟩ v1) (fun k => F k ∨ (w.heap.size ≤ k ∧ k < w1.heap.size)) v xs := by
    intro v xs hv hne2
    have hgv : some g ≠ v.ownBlock := Kd.R_ne hv hb (by decide)
    refine row_keep hv (fun k hk => ?_) (fun k hk => .inl (hv.1 k hk))
    have hkw := hF k (hv.1 k hk)
    rw [Below.heap_setCell _ _ _ _ (fun e => hgv (by rw [hk, e]))]
    exact hgr.block k hkw (fun e => hne2 k hk e.symm)
  have hv1 : rowI (w1.setCell ⟨g, 2, none⟩ v1) (fun k => F k ∨ (w.heap.size ≤ k ∧ k < w1.heap.size)) v1 (no ++ [id]) := by
    refine row_keep h1 (fun k hk => Below.heap_setCell _ _ _ _ (fun e => ?_)) (fun k hk => ?_)
    · rcases hat with hat | ⟨b, hb3, hle⟩
      · rw [hat] at hk
        exact hne (by rw [hk, e])
      · rw [hb3] at hk
        injection hk with hk
        dsimp only at e
        omega
    · have := Kd.R_bound h1
      exact (h1.1 k hk).imp (fun h => h) (fun h => ⟨h, (this.1 k hk).2.2.1⟩)
  have n1' : ∀ {v : Value} {xs : List Int}, rowI w F v xs → (∀ k, v.ownBlock = some k → vn.ownBlock ≠ some k) → ∀ k, v.ownBlock = some k → v1.ownBlock ≠ some k := by
    intro v xs hv hne2 k hk e
    rcases hat with hat | ⟨b, hb3, hle⟩
    · exact hne2 k hk (hat ▸ e)
    · rw [hb3] at e
      injection e with e
      have := hF k (hv.1 k hk)
      omega
  have hsz : w.heap.size ≤ w1.heap.size := hb1.size
  have hsz2 : (w1.setCell ⟨g, 2, none⟩ v1).heap.size = w1.heap.size := by simp [World.setCell]
  refine ⟨⟨vl, vy, v1, (blk_put hb2 2 v1 rfl), .inl hg, ?_, keep hl n2, keep hy n3, hv1, n1, n1' hl n2, n1' hy n3⟩, ⟨hb1.os, hb1.tape, hb1.output, by rw [hsz2]; exact hsz, fun k hk hn2 => ?_⟩⟩
  · rintro k (hk | hk)
    · rw [hsz2]
      have := hF k hk
      omega
    · rw [hsz2]
      exact hk.2
  · rw [Below.heap_setCell _ _ _ _ (fun e => hn2 (by rw [show k = g from e]; exact hg))]
    exact hgr.block k hk (fun e => hn2 (hn.1 k e.symm))

end Go.Proofs.Ytlieblnpkgnkfaa.V
