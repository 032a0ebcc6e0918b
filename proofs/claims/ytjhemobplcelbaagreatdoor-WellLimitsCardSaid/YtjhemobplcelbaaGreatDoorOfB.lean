/- of: lefts of donatusref4. -/
import Derived.Test.YtjhemobplcelbaaGreatDoorOfA
namespace Go.Proofs.YtjhemobplcelbaaGreatDoor.O
open Go.RowKit Go.Proofs.YtjhemobplcelbaaGreatDoorW.PrintWords Go.Proofs.YtjhemobplcelbaaGreatDoorW.PrintLast Go.Proofs.YtjhemobplcelbaaGreatDoorW.PrintMore
set_option linter.unusedVariables false
set_option linter.unusedSimpArgs false
theorem infoS : (Tryz.prog.info? 9).map (fun i => (i.zero, i.size, i.bytes)) = some (some (.string ⟨#[]⟩), 1, 16) := by kernel_rfl
def leftStep (l : List ByteArray) (r : SRu) : List ByteArray := if plc r.f0 l 0 < 0 then l ++ [r.f0] else l
/-- The unlike Lefts. -/
def leftsF (rs : List SRu) : List ByteArray := rs.foldl leftStep []
def LfRel (W1 : World) (rs : List SRu) (kq : Nat) (v v3 : Value) (w' : World) : Prop := ∃ (i : Nat) (l : List ByteArray), i + kq = rs.length ∧ v = .int .i64 (i : Int) ∧ Kd.R Kd.string 9 w' W1.heap.size (fun _ => True) v3 l ∧ l.length ≤ i ∧ leftsF rs = (rs.drop i).foldl leftStep l ∧ Below W1.heap.size W1 w'
set_option maxHeartbeats 4000000 in
theorem lefts_calls (w : World) (A : Option Addr) (n c : Nat) (st : ByteArray) (ex : Int) (A2 : Option Addr) (c2 : Nat) (rs : List SRu) (hrs : Kd.C kRu w A2 rs.length rs) (hc : rs.length ≤ c2) (hl : rs.length ≤ 1000000) :
    Calls Tryz.prog 44 #[.agg #[.slice A n c, .string st, .int .i64 ex, .slice A2 rs.length c2]] w fun e w' => ∃ v, e = .returned v ∧ Kd.R Kd.string 9 w' w.heap.size (fun _ => True) v (leftsF rs) ∧ Below w.heap.size w w' := by
  have hb := below_alloc (Below.refl w.heap.size w) (.cells #[.slice A n c, .string st, .int .i64 ex, .slice A2 rs.length c2] 25)
  have hx : GBox (w.alloc (.cells #[.slice A n c, .string st, .int .i64 ex, .slice A2 rs.length c2] 25)) w.heap.size _ _ _ _ := GBox.new w
  have HX := Aside0.mk (And.intro (Kd.C_below hrs hb) (And.intro hb hl))
  clear hrs hl
  go_enter Tryz.func44, Tryz.ntmps44
  go_upto_region 1 with fail
  generalize w.alloc (.cells #[.slice A n c, .string st, .int .i64 ex, .slice A2 rs.length c2] 25) = W1 at *
  generalize hXe : w.heap.size = X at hx ⊢
  have HB := Aside0.mk hx
  have x3 := hx.c3
  clear hx hb
  go_wp2_with fail
  go_loopg [3, 4] rs.length (fun kq v3 v4 w' => LfRel W1 rs kq v4 v3 w')
  case atStart => exact ⟨0, [], by omega, rfl, Kd.R_nil _ _ _ _ _, Nat.le_refl _, rfl, Below.refl _ _⟩
  case round =>
    obtain ⟨i, l, hi, rfl, hr, hll, hs, hb⟩ := hrel
    have HI := Aside0.mk hi
    have HR := Aside0.mk (And.intro hr (And.intro hll (And.intro hs hb)))
    have y3 := (HB.out.move hb HB.out.lt).c3
    clear hi hr hll hs hb x3
    by_cases hil : i < rs.length
    · have t1 : decide ((i : Int) < (rs.length : Int)) = true := by simp; omega
      have hin : (i : Int) < (rs.length : Int) := by omega
      obtain ⟨ad, A1, c1, e1, hcl, _⟩ := ru_at HX.out.1 i hil
      have hc2 := pw_cell_below HR.out.2.2.2 hcl
      have HST : Aside0 (leftsF rs = (rs.drop (i + 1)).foldl leftStep (leftStep l rs[i])) := ⟨by rw [HR.out.2.2.1, List.drop_eq_getElem_cons hil, List.foldl_cons]⟩
      have HLS : Aside0 (leftStep l rs[i] = if plc rs[i].f0 l 0 < 0 then l ++ [rs[i].f0] else l) := ⟨rfl⟩
      generalize leftStep l rs[i] = l' at *
      generalize rs[i].f0 = x at *
      subst e1
      obtain ⟨Av, cv, ev, hcv, hrd⟩ := Kd.R_reads HR.out.1
      subst ev
      have C := Aside0.mk (place_calls wr Av cv l x hrd hcv)
      have hlen : l.length ≤ 1000001 := by have := HR.out.2.1; have := HX.out.2.2; omega
      have HIL := Aside0.mk hil
      clear hcl hcv hrd
      go_wp2_with fail
      go_at_call 45
      refine C.out.mono ?_
      rintro e w3 ⟨rfl, rfl⟩
      clear C
      by_cases hp : plc x l 0 < 0
      · have t5 : decide (plc x l 0 < 0) = true := decide_eq_true hp
        have HE : Aside0 (l' = l ++ [x]) := ⟨by rw [HLS.out, if_pos hp]⟩
        go_wp2_with (first
          | (at_builtin; refine Kd.R_append Kd.string (w0 := W1) W1.heap.size rfl (.tmp 21) (.tmp 28) 28 9 (.string ⟨#[]⟩) 16 rfl Tryz.underlying28 infoS rfl (by decide) (by omega) _ l x [.string x] (fun _ => True) (fun _ => False) rfl rfl (show Kd.M Kd.string _ _ _ x [.string x] from rfl) (fun _ h => h.elim) (fun _ _ => trivial) HR.out.1 HR.out.2.2.2 HR.out.2.2.2.size (by omega) ?_; intro v2 w5 ho2 hb2 hg2 hat2; have H5 := Aside0.mk (And.intro ho2 hb2); clear ho2 hb2 hg2 hat2))
        go_roundg (gk - 1)
        case measure => have := HI.out; have := HIL.out; omega
        case rel => exact ⟨i + 1, l ++ [x], by have := HI.out; have := HIL.out; omega, by have h1 := HIL.out; have h2 := HX.out.2.2; congr 1; unfold wrap64; omega, H5.out.1, by have := HR.out.2.1; simp; omega, by rw [HST.out, HE.out], H5.out.2⟩
      · have t5 : decide (plc x l 0 < 0) = false := decide_eq_false hp
        have HE : Aside0 (l' = l) := ⟨by rw [HLS.out, if_neg hp]⟩
        go_wp2_with fail
        go_roundg (gk - 1)
        case measure => have := HI.out; have := HIL.out; omega
        case rel => exact ⟨i + 1, l, by have := HI.out; have := HIL.out; omega, by have h1 := HIL.out; have h2 := HX.out.2.2; congr 1; unfold wrap64; omega, HR.out.1, by have := HR.out.2.1; omega, by rw [HST.out, HE.out], HR.out.2.2.2⟩
    · have t1 : decide ((i : Int) < (rs.length : Int)) = false := by simp; omega
      go_wp2_with fail
      go_ret
      refine ⟨_, rfl, ?_, HX.out.2.1.trans (HR.out.2.2.2.mono HX.out.2.1.size)⟩
      have h := HR.out.2.2.1
      rw [List.drop_of_length_le (by omega)] at h
      rw [h, ← hXe]
      exact Kd.R_lower HR.out.1 HX.out.2.1.size
end Go.Proofs.YtjhemobplcelbaaGreatDoor.O
