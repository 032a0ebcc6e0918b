/- wof: well.named (printed by wip/wof). -/
import Derived.Test.YtjhemobplcelbaaGreatDoorNofB
import Derived.Laws.EntriesVeiled
namespace Go.Proofs.YtjhemobplcelbaaGreatDoor.O
open Go.RowKit Go.Proofs.YtjhemobplcelbaaGreatDoorW.PrintWords Go.Proofs.YtjhemobplcelbaaGreatDoorW.PrintLast Go.Proofs.YtjhemobplcelbaaGreatDoorW.PrintMore
open Go.Proofs.YtjhemobplcelbaaGreatDoor.M (idxB idxB_at idxB_none idxB_any IRel)
set_option linter.unusedVariables false
set_option linter.unusedSimpArgs false
def wnamedB (ts : List STk) (rs : List SRu) (start : ByteArray) : Bool := !(rs.any (badB ts (leftsF rs))) && decide (0 ≤ plc start (leftsF rs) 0) && !((leftsF rs).any fun s => decide (0 ≤ plc s (ts.map STk.f0) 0))
set_option maxHeartbeats 4000000 in
theorem wnamed_calls (w : World) (A : Option Addr) (c : Nat) (ts : List STk) (st : ByteArray) (ex : Int) (A2 : Option Addr) (c2 : Nat) (rs : List SRu) (start : ByteArray) (hts : Kd.C kTk w A ts.length ts) (hrs : Kd.C kRu w A2 rs.length rs) (hc : rs.length ≤ c2) (hl : rs.length ≤ 1000000) :
    Calls Tryz.prog 63 #[.agg #[.slice A ts.length c, .string st, .int .i64 ex, .slice A2 rs.length c2], .string start] w fun e w' => e = .returned (.bool (wnamedB ts rs start)) ∧ Below w.heap.size w w' := by
  have hb := below_alloc (Below.refl w.heap.size w) (.cells #[.slice A ts.length c, .string st, .int .i64 ex, .slice A2 rs.length c2] 25)
  have hx : GBox (w.alloc (.cells #[.slice A ts.length c, .string st, .int .i64 ex, .slice A2 rs.length c2] 25)) w.heap.size _ _ _ _ := GBox.new w
  have HX := Aside0.mk hx
  have HB := Aside0.mk hb
  have HL := Aside0.mk (And.intro (Kd.C_below hts hb) (Kd.C_below hrs hb))
  have C0 := Aside0.mk (wlefts_calls (w.alloc (.cells #[.slice A ts.length c, .string st, .int .i64 ex, .slice A2 rs.length c2] 25)) A ts.length c st ex A2 c2 rs (Kd.C_below hrs hb) hc hl)
  have HWN : Aside0 (wnamedB ts rs start = (!(rs.any (badB ts (leftsF rs))) && decide (0 ≤ plc start (leftsF rs) 0) && !((leftsF rs).any fun s => decide (0 ≤ plc s (ts.map STk.f0) 0)))) := ⟨rfl⟩
  generalize wnamedB ts rs start = wb at *
  generalize leftsF rs = l at *
  clear hts hrs hb
  go_enter Tryz.func63, Tryz.ntmps63
  go_upto_region 1 with fail
  obtain ⟨X, hXe⟩ : ∃ X, X = w.heap.size := ⟨_, rfl⟩
  rw [← hXe] at hx
  rw [← hXe]
  have HX1 := Aside0.mk hx
  clear hXe
  have HBS : Aside0 (w.heap.size ≤ (w.alloc (.cells #[.slice A ts.length c, .string st, .int .i64 ex, .slice A2 rs.length c2] 25)).heap.size) := ⟨HB.out.size⟩
  generalize w.alloc (.cells #[.slice A ts.length c, .string st, .int .i64 ex, .slice A2 rs.length c2] 25) = W1 at *
  have x0 := hx.c0
  have x1 := hx.c1
  have x2 := hx.c2
  have x3 := hx.c3
  clear hx HX
  go_upto_region 2 with (first
    | (go_at_call 64; (with_reducible refine Calls.mono C0.out ?_); rintro e w2 ⟨v, rfl, hv, hd⟩; obtain ⟨Al, cl, hvc, hvr, hvC⟩ := Kd.R_reads hv; subst hvc; have HD := Aside0.mk hd; have HLC := Aside0.mk (And.intro hvr hvC); clear hd hv hvr hvC))
  go_upto_region 3 with fail
  have HQ := Aside0.mk (boxes2 w2 #[.slice Al l.length cl] #[.func (.func 82) #[] #[.pointer (some ⟨X, 0, none⟩), .pointer (some ⟨w2.heap.size, 0, none⟩)]] 28 75)
  generalize (w2.alloc (.cells #[.slice Al l.length cl] 28)).alloc (.cells #[.func (.func 82) #[] #[.pointer (some ⟨X, 0, none⟩), .pointer (some ⟨w2.heap.size, 0, none⟩)]] 75) = W4 at *
  obtain ⟨Y, Z, hY, hZ, b1, b2, hb2⟩ := HQ.out
  rw [← hZ, ← hY]
  rw [← hY] at b2
  have E4 : Aside0 (NEnv W4 X Y Z A c ts st ex A2 rs.length c2 Al cl l) := ⟨(HX1.out.move HD.out HX1.out.lt).move hb2 (HX1.out.move HD.out HX1.out.lt).lt, b1, b2, Kd.C_below (Kd.C_below HL.out.1 HD.out) hb2, Kd.C_below HLC.out.2 hb2, HLC.out.1⟩
  have HB4 : Aside0 (Below w.heap.size w W4) := ⟨HB.out.trans ((HD.out.trans (hb2.mono HD.out.size)).mono HBS.out)⟩
  have HR4 := Aside0.mk (Kd.C_below (Kd.C_below HL.out.2 HD.out) hb2)
  have CB := Aside0.mk (contains_bad W4 A2 c2 rs (badB ts l) X Z HR4.out (fun w' hb x Ax cx _ hC _ => bad_calls w' X Y Z A c ts st ex A2 rs.length c2 Al cl l (E4.out.move hb) x Ax cx hC))
  have CC : Aside0 (∀ w', Below W4.heap.size W4 w' → Calls Tryz.prog 84 #[.slice Al l.length cl, .string start] w' fun e w'' => e = .returned (.bool (decide (0 ≤ plc start l 0))) ∧ w'' = w') := ⟨fun w' hb => contains_calls w' Al cl l start (Kd.C_below E4.out.hl hb) E4.out.hc⟩
  have CI : Aside0 (∀ w', Below W4.heap.size W4 w' → Calls Tryz.prog 78 #[.slice Al l.length cl, .func (.func 87) #[] #[.pointer (some ⟨X, 0, none⟩)]] w' fun e w'' => e = .returned (.bool (l.any fun s => decide (0 ≤ plc s (ts.map STk.f0) 0))) ∧ Below w'.heap.size w' w'') := ⟨fun w' hb => contains_istok w' Al cl l (fun s => decide (0 ≤ plc s (ts.map STk.f0) 0)) X (Kd.C_below E4.out.hl hb) (fun w'' hb2 x => isTok_calls w'' X Y Z A c ts st ex A2 rs.length c2 Al cl l ((E4.out.move hb).move hb2) x)⟩
  have x3 := E4.out.gb.c3
  have y0 := E4.out.yb.c 0 rfl
  have HW2 : Aside0 (w.heap.size ≤ W4.heap.size) := ⟨HB4.out.size⟩
  clear hY hZ b1 b2 hb2 HQ HD HLC HL HR4 HB HBS HX1 C0 x0 x1 x2
  generalize (l.any fun s => decide (0 ≤ plc s (ts.map STk.f0) 0)) = b3 at *
  generalize decide (0 ≤ plc start l 0) = b2 at *
  generalize rs.any (badB ts l) = b1 at *
  go_upto_region 4 with (first
    | (go_at_call 74; (with_reducible refine Calls.mono CB.out ?_); rintro e w5 ⟨rfl, hd⟩; have HD5 := Aside0.mk hd; have y0 := (E4.out.yb.move hd E4.out.yb.lt).c 0 rfl; clear hd))
  cases b1 with
  | true =>
    go_wp2_with fail
    go_ret
    exact ⟨by rw [HWN.out]; rfl, HB4.out.trans (HD5.out.mono HW2.out)⟩
  | false =>
    have C5 := Aside0.mk (CC.out w5 HD5.out)
    cases b2 with
    | false =>
      go_wp2_with (first
        | (go_at_call 84; (with_reducible refine Calls.mono C5.out ?_); rintro e w6 ⟨rfl, rfl⟩))
      go_ret
      exact ⟨by rw [HWN.out]; rfl, HB4.out.trans (HD5.out.mono HW2.out)⟩
    | true =>
      have C6 := Aside0.mk (CI.out w5 HD5.out)
      go_wp2_with (first
        | (go_at_call 84; (with_reducible refine Calls.mono C5.out ?_); rintro e w6 ⟨rfl, rfl⟩)
        | (go_at_call 78; (with_reducible refine Calls.mono C6.out ?_); rintro e w7 ⟨rfl, hd⟩; have HD7 := Aside0.mk (HD5.out.trans (hd.mono HD5.out.size)); clear hd))
      go_ret
      exact ⟨by rw [HWN.out]; rfl, HB4.out.trans (HD7.out.mono HW2.out)⟩
theorem knownB_iff {ts : List STk} {rs : List SRu} {s : ByteArray} : knownB ts (leftsF rs) s = true ↔ known ts rs s := by
  unfold knownB known
  rw [Bool.or_eq_true, decide_eq_true_eq, decide_eq_true_eq]
  exact Or.comm
theorem badB_iff {ts : List STk} {rs : List SRu} {r : SRu} : badB ts (leftsF rs) r = false ↔ ruleOk ts rs r := by
  unfold badB ruleOk
  rw [Bool.or_eq_false_iff]
  constructor
  · rintro ⟨h1, h2⟩
    refine ⟨fun s hs => ?_, ?_⟩
    · rw [List.any_eq_false] at h2
      have := h2 s hs
      exact knownB_iff.1 (by simpa using this)
    · by_cases he : r.f2 = ⟨#[]⟩
      · exact .inl he
      · right
        rw [decide_eq_false he] at h1
        simp at h1
        omega
  · rintro ⟨h1, h2⟩
    refine ⟨?_, ?_⟩
    · rcases h2 with h2 | h2
      · rw [decide_eq_true h2]; rfl
      · rw [decide_eq_false (show ¬ plc r.f2 (ts.map STk.f0) 0 < 0 by omega)]; simp
    · rw [List.any_eq_false]
      intro s hs
      have := knownB_iff.2 (h1 s hs)
      simp [this]
/-- Where a grammar starts. -/
def startS (st : ByteArray) (rs : List SRu) : ByteArray := if st = ⟨#[]⟩ ∧ 0 < rs.length then (rs.headD zRu).f0 else st
theorem wnamed_iff {ts : List STk} {st : ByteArray} {rs : List SRu} : wnamedB ts rs (startS st rs) = true ↔ namedOk ts st rs := by
  have hempty : rs = [] → leftsF rs = [] := by rintro rfl; rfl
  have hhead : 0 < rs.length → (rs.headD zRu).f0 ∈ leftsF rs := by
    intro h
    cases rs with
    | nil => exact absurd h (Nat.lt_irrefl 0)
    | cons r rs => exact lefts_mem.2 ⟨r, List.mem_cons_self, rfl⟩
  unfold wnamedB namedOk
  simp only [Bool.and_eq_true, Bool.not_eq_true', decide_eq_true_eq]
  constructor
  · rintro ⟨⟨h1, h2⟩, h3⟩
    rw [List.any_eq_false] at h1 h3
    refine ⟨fun t ht => ?_, ?_, fun r hr => badB_iff.1 (by simpa using h1 r hr), ?_⟩
    · rcases Int.lt_or_le (plc t.f0 (leftsF rs) 0) 0 with h | h
      · exact h
      · have h4 := h3 t.f0 ((plc_mem _ _ 0).1 h)
        rw [decide_eq_true ((plc_mem _ _ 0).2 (List.mem_map.2 ⟨t, ht, rfl⟩))] at h4
        exact absurd rfl h4
    · rcases Nat.eq_zero_or_pos rs.length with h | h
      · have h0 := List.length_eq_zero_iff.1 h
        rw [hempty h0] at h2
        simp [plc] at h2
      · exact h
    · by_cases he : st = ⟨#[]⟩
      · exact .inl he
      · right
        unfold startS at h2
        rwa [if_neg (fun h => he h.1)] at h2
  · rintro ⟨h1, h2, h3, h4⟩
    refine ⟨⟨?_, ?_⟩, ?_⟩
    · rw [List.any_eq_false]
      intro r hr
      simp [badB_iff.2 (h3 r hr)]
    · unfold startS
      by_cases he : st = ⟨#[]⟩
      · rw [if_pos ⟨he, by omega⟩]
        exact (plc_mem _ _ 0).2 (hhead (by omega))
      · rw [if_neg (fun h => he h.1)]
        exact h4.resolve_left he
    · rw [List.any_eq_false]
      intro s hs h
      have h5 := (plc_mem _ _ 0).1 (of_decide_eq_true h)
      obtain ⟨t, ht, rfl⟩ := List.mem_map.1 h5
      have := h1 t ht
      have := (plc_mem t.f0 (leftsF rs) 0).2 hs
      omega
end Go.Proofs.YtjhemobplcelbaaGreatDoor.O
