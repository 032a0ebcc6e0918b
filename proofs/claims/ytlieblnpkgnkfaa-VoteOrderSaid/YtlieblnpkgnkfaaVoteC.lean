/- The votes of package vote: what Yes and No answer and turn. Rows are shorter than 10^12. -/
import Derived.Test.YtlieblnpkgnkfaaVoteB
namespace Go.Proofs.Ytlieblnpkgnkfaa.V
open Go.RowKit Go.Proofs.YtlieblnpkgnkfaaW.PrintWords Go.Proofs.YtlieblnpkgnkfaaW.PrintLast Go.Proofs.YtlieblnpkgnkfaaW.PrintMore
section
variable (l yes no : List Int) (g : Nat) (F : Nat → Prop) (w : World) (id : Int)
theorem may_nil : Calls Try.prog 18 #[.pointer none, .int .i64 id] w fun e w' => e = .returned (.bool false) ∧ Drawn0 w w' := by
  go_enter Try.func18, Try.ntmps18
  go_wp2_with fail
  go_ret
  exact ⟨rfl, by repeat (first | exact Drawn0.refl _ | apply Drawn0.step)⟩

set_option maxHeartbeats 1000000 in
theorem Yes_calls (hv : VSt w g F l yes no) (h1 : l.length ≤ 1000000000000) (h2 : yes.length ≤ 1000000000000) (h3 : no.length ≤ 1000000000000) (hm : mayB l yes no id = true) :
    Calls Try.prog 10 #[.pointer (some ⟨g, 0, none⟩), .int .i64 id] w fun e w' => e = .returned (.bool true) ∧ ∃ F', VSt w' g F' l (yes ++ [id]) no ∧ Same F w w' ∧ ∀ k, F' k → F k ∨ w.heap.size ≤ k := by
  have HM := may_calls l yes no g F w id hv h1 h2 h3
  rw [hm] at HM
  clear hm
  have HV := Aside0.mk hv
  obtain ⟨vl, vy, vn, hb, hg, hF, hl, hy, hn, n1, n2, n3⟩ := hv
  have HP := fun v1 w1 => Aside0.mk (putYes (w := w) (w1 := w1) (v1 := v1) (id := id) hb hg hF hl hy hn n1 n2 n3)
  obtain ⟨Ay, cy, rfl, kx, -⟩ := row_reads F w hy
  have HR := Aside0.mk hy
  have HBK := Aside0.mk hb
  have HG := Aside0.mk (hF g hg)
  have z1 : w.cell? ⟨g, 1, none⟩ = some (.slice Ay yes.length cy) := blk_cell hb 1
  have hne : some g ≠ (Value.slice Ay yes.length cy).ownBlock := Kd.R_ne hy hb (by decide)
  have HN := Aside0.mk hne
  clear hb hg hF hl hy hn n1 n2 n3 hne
  go_enter Try.func10, Try.ntmps10
  go_wp2_with (first
    | (go_at_call 18; refine HM.mono ?_; rintro e w' ⟨rfl, ⟨nd, rfl⟩⟩)
    | (at_builtin; refine Kd.R_append (Kd.int .i64) (w0 := w) 0 rfl (.tmp 13) (.tmp 15) 22 3 (.int .i64 0) 8 rfl Try.underlying22 infoI rfl (by decide) (by omega) (.slice Ay yes.length cy) yes id _ (fun k => F k ∨ w.heap.size ≤ k) (fun _ => False) rfl rfl (show Kd.M (Kd.int .i64) _ _ _ id [.int .i64 id] from rfl) (fun _ h => h.elim) (fun k hk => .inr hk) (Kd.R_mono (Kd.R_drewN HR.out _) (fun k hk => .inl hk)) (pw_below_drewN (Below.refl 0 w) nd) (Nat.zero_le _) (by omega) ?_; intro v1 w1 ho1 hb1 hg1 hn1; have z3 : w1.cell? ⟨g, 1, none⟩ = some (.slice Ay yes.length cy) := (blk_cell (blk_grown (blk_drewN HBK.out nd) hg1 HN.out) 1); have z4 : w1.frozen? ⟨g, 1, none⟩ = false := blk_frozen (blk_grown (blk_drewN HBK.out nd) hg1 HN.out) 1; have Z := Aside0.mk ((HP v1 w1).out ho1 hb1 ⟨hg1.os, hg1.tape, hg1.output, hg1.size, hg1.block⟩ hn1); have hs1 : ∃ A n c, v1 = .slice A n c := (Kd.R_slice ho1).imp fun _ h => ⟨_, h⟩; clear ho1 hb1 hg1 hn1; obtain ⟨Ao, no_, co, rfl⟩ := hs1))
  go_ret
  exact ⟨rfl, _, Z.out.1, Z.out.2, fun k hk => hk.imp (fun h => h) (fun h => h.1)⟩
set_option maxHeartbeats 1000000 in
theorem Yes_not (hv : VSt w g F l yes no) (h1 : l.length ≤ 1000000000000) (h2 : yes.length ≤ 1000000000000) (h3 : no.length ≤ 1000000000000) (hm : mayB l yes no id = false) :
    Calls Try.prog 10 #[.pointer (some ⟨g, 0, none⟩), .int .i64 id] w fun e w' => e = .returned (.bool false) ∧ Drawn0 w w' := by
  have HM := may_calls l yes no g F w id hv h1 h2 h3
  rw [hm] at HM
  clear hm
  go_enter Try.func10, Try.ntmps10
  go_wp2_with (first | (go_at_call 18; refine HM.mono ?_; rintro e w' ⟨rfl, ⟨nd, rfl⟩⟩))
  go_ret
  exact ⟨rfl, by repeat (first | exact Drawn0.refl _ | apply Drawn0.step)⟩
theorem Yes_nil : Calls Try.prog 10 #[.pointer none, .int .i64 id] w fun e w' => e = .returned (.bool false) ∧ Drawn0 w w' := by
  have HM := may_nil w id
  go_enter Try.func10, Try.ntmps10
  go_wp2_with (first | (go_at_call 18; refine HM.mono ?_; rintro e w' ⟨rfl, ⟨nd, rfl⟩⟩))
  go_ret
  exact ⟨rfl, by repeat (first | exact Drawn0.refl _ | apply Drawn0.step)⟩

set_option maxHeartbeats 1000000 in
theorem No_calls (hv : VSt w g F l yes no) (h1 : l.length ≤ 1000000000000) (h2 : yes.length ≤ 1000000000000) (h3 : no.length ≤ 1000000000000) (hm : mayB l yes no id = true) :
    Calls Try.prog 11 #[.pointer (some ⟨g, 0, none⟩), .int .i64 id] w fun e w' => e = .returned (.bool true) ∧ ∃ F', VSt w' g F' l yes (no ++ [id]) ∧ Same F w w' ∧ ∀ k, F' k → F k ∨ w.heap.size ≤ k := by
  have HM := may_calls l yes no g F w id hv h1 h2 h3
  rw [hm] at HM
  clear hm
  have HV := Aside0.mk hv
  obtain ⟨vl, vy, vn, hb, hg, hF, hl, hy, hn, n1, n2, n3⟩ := hv
  have HP := fun v1 w1 => Aside0.mk (putNo (w := w) (w1 := w1) (v1 := v1) (id := id) hb hg hF hl hy hn n1 n2 n3)
  obtain ⟨An, cn, rfl, kx, -⟩ := row_reads F w hn
  have HR := Aside0.mk hn
  have HBK := Aside0.mk hb
  have HG := Aside0.mk (hF g hg)
  have z1 : w.cell? ⟨g, 2, none⟩ = some (.slice An no.length cn) := blk_cell hb 2
  have hne : some g ≠ (Value.slice An no.length cn).ownBlock := Kd.R_ne hn hb (by decide)
  have HN := Aside0.mk hne
  clear hb hg hF hl hy hn n1 n2 n3 hne
  go_enter Try.func11, Try.ntmps11
  go_wp2_with (first
    | (go_at_call 18; refine HM.mono ?_; rintro e w' ⟨rfl, ⟨nd, rfl⟩⟩)
    | (at_builtin; refine Kd.R_append (Kd.int .i64) (w0 := w) 0 rfl (.tmp 13) (.tmp 15) 22 3 (.int .i64 0) 8 rfl Try.underlying22 infoI rfl (by decide) (by omega) (.slice An no.length cn) no id _ (fun k => F k ∨ w.heap.size ≤ k) (fun _ => False) rfl rfl (show Kd.M (Kd.int .i64) _ _ _ id [.int .i64 id] from rfl) (fun _ h => h.elim) (fun k hk => .inr hk) (Kd.R_mono (Kd.R_drewN HR.out _) (fun k hk => .inl hk)) (pw_below_drewN (Below.refl 0 w) nd) (Nat.zero_le _) (by omega) ?_; intro v1 w1 ho1 hb1 hg1 hn1; have z3 : w1.cell? ⟨g, 2, none⟩ = some (.slice An no.length cn) := (blk_cell (blk_grown (blk_drewN HBK.out nd) hg1 HN.out) 2); have z4 : w1.frozen? ⟨g, 2, none⟩ = false := blk_frozen (blk_grown (blk_drewN HBK.out nd) hg1 HN.out) 2; have Z := Aside0.mk ((HP v1 w1).out ho1 hb1 ⟨hg1.os, hg1.tape, hg1.output, hg1.size, hg1.block⟩ hn1); have hs1 : ∃ A n c, v1 = .slice A n c := (Kd.R_slice ho1).imp fun _ h => ⟨_, h⟩; clear ho1 hb1 hg1 hn1; obtain ⟨Ao, no_, co, rfl⟩ := hs1))
  go_ret
  exact ⟨rfl, _, Z.out.1, Z.out.2, fun k hk => hk.imp (fun h => h) (fun h => h.1)⟩
set_option maxHeartbeats 1000000 in
theorem No_not (hv : VSt w g F l yes no) (h1 : l.length ≤ 1000000000000) (h2 : yes.length ≤ 1000000000000) (h3 : no.length ≤ 1000000000000) (hm : mayB l yes no id = false) :
    Calls Try.prog 11 #[.pointer (some ⟨g, 0, none⟩), .int .i64 id] w fun e w' => e = .returned (.bool false) ∧ Drawn0 w w' := by
  have HM := may_calls l yes no g F w id hv h1 h2 h3
  rw [hm] at HM
  clear hm
  go_enter Try.func11, Try.ntmps11
  go_wp2_with (first | (go_at_call 18; refine HM.mono ?_; rintro e w' ⟨rfl, ⟨nd, rfl⟩⟩))
  go_ret
  exact ⟨rfl, by repeat (first | exact Drawn0.refl _ | apply Drawn0.step)⟩
theorem No_nil : Calls Try.prog 11 #[.pointer none, .int .i64 id] w fun e w' => e = .returned (.bool false) ∧ Drawn0 w w' := by
  have HM := may_nil w id
  go_enter Try.func11, Try.ntmps11
  go_wp2_with (first | (go_at_call 18; refine HM.mono ?_; rintro e w' ⟨rfl, ⟨nd, rfl⟩⟩))
  go_ret
  exact ⟨rfl, by repeat (first | exact Drawn0.refl _ | apply Drawn0.step)⟩

end
end Go.Proofs.Ytlieblnpkgnkfaa.V
