/- Calls that contracts of library functions answer: strings.IndexByte, strings.Join, strconv.Itoa (below 100). No condition. -/
import Derived.Test.YtjhemobplcelbaaGreatDoorEvS1
import Derived.Test.YtjhemobplcelbaaGreatDoorGramShelf
import Derived.Shelf.Small.Strs
import Derived.KernelRfl
namespace Go.Proofs.YtjhemobplcelbaaGreatDoor.V
open Go.RowKit
set_option linter.unusedVariables false
set_option linter.unusedSimpArgs false
def idxB (c : UInt8) : List UInt8 → Nat → Int
  | [], _ => .negSucc 0
  | b :: l, i => match Nat.beq b.toNat c.toNat with
    | true => .ofNat i
    | false => idxB c l (i + 1)
theorem idxB_eq (c : UInt8) : ∀ (l : List UInt8) (i : Nat), idxB c l i = if Lib.indexByte l c == -1 then -1 else Lib.indexByte l c + i := by
  intro l
  induction l with
  | nil => intro i; rfl
  | cons b l ih =>
    intro i
    unfold idxB Lib.indexByte
    split
    · rename_i h
      have : b = c := UInt8.toNat_inj.1 (beq_t h)
      subst this
      simp
    · rename_i h
      have hne : b ≠ c := fun k => beq_f h (by rw [k])
      have hb : (b == c) = false := by simpa using hne
      rw [ih, hb]
      have hge := Lib.indexByte_ge l c
      cases hq : Lib.indexByte l c == -1 with
      | true => simp
      | false =>
        have hq' : Lib.indexByte l c ≠ -1 := by simpa using hq
        have h2 : ¬ (Lib.indexByte l c + 1 = -1) := by omega
        simp [h2]
        omega
theorem idxB_0 (c : UInt8) (l : List UInt8) : idxB c l 0 = Lib.indexByte l c := by
  rw [idxB_eq]
  split
  · rename_i h; simpa using (beq_iff_eq.1 h).symm
  · simp
def strsOf : List Value → Option (List (List UInt8))
  | [] => some []
  | .string ⟨⟨s⟩⟩ :: vs => match strsOf vs with
    | some l => some (s :: l)
    | none => none
  | _ => none
theorem strsOf_some {m : Map} : ∀ {l l' : List Value} {xs : List (List UInt8)}, F2 (SR m) l l' → strsOf l = some xs → l'.length = xs.length ∧ ∀ (j : Nat) x, (xs.map fun x => (⟨⟨x⟩⟩ : ByteArray))[j]? = some x → l'[j]? = some (.string x) := by
  intro l l' xs hF
  induction hF generalizing xs with
  | nil =>
    intro e
    obtain rfl := Option.some.inj e
    exact ⟨rfl, fun j x h => by simp at h⟩
  | cons hR hF ih =>
    intro e
    unfold strsOf at e
    split at e
    · rename_i h
      cases h
    · rename_i s vs hh
      injection hh with h1 h2
      subst h1 h2
      split at e
      · rename_i ys hys
        obtain rfl := Option.some.inj e
        obtain ⟨k1, k2⟩ := ih hys
        obtain rfl := hR.afEq rfl
        refine ⟨by simp [k1], fun j x hj => ?_⟩
        cases j with
        | zero => simp at hj; subst hj; rfl
        | succ j => simpa using k2 j x (by simpa using hj)
      · cases e
    · cases e
def itoaB (n : Nat) : List UInt8 := match Nat.blt n 10 with
  | true => [UInt8.ofNat (48 + n)]
  | false => [UInt8.ofNat (48 + n / 10), UInt8.ofNat (48 + n % 10)]
theorem itoaB_eq (n : Nat) (h : n < 100) : itoaB n = Lib.decDigits n := by
  unfold itoaB
  split
  · rename_i h1
    rw [Lib.decDigits, dif_pos (blt_t h1)]
  · rename_i h1
    have := blt_f h1
    rw [Lib.decDigits, dif_neg (by omega), Lib.decDigits, dif_pos (by omega)]
    rfl
def indexE (args : List Value) (h : CH) : Option (Value × CH) := match args with
  | [.string ⟨⟨s⟩⟩, .int .u8 (.ofNat c)] => some (.int .i64 (idxB c.toUInt8 s 0), h)
  | _ => none
def joinE (args : List Value) (h : CH) : Option (Value × CH) := match args with
  | [.slice a 0 _, .string _] => some (.string ⟨⟨[]⟩⟩, h)
  | [.slice (some ⟨b, o, none⟩) n c, .string ⟨⟨sep⟩⟩] => match h.loadL b o n with
    | some l => match strsOf l with
      | some xs => match Nat.ble n c && Nat.ble n 1000000 && Nat.ble (Lib.join xs sep).length 1000000 with
        | true => some (.string ⟨⟨Lib.join xs sep⟩⟩, h.look (2 ^ b))
        | false => none
      | none => none
    | none => none
  | _ => none
def itoaE (args : List Value) (h : CH) : Option (Value × CH) := match args with
  | [.int .i64 (.ofNat n)] => match Nat.blt n 100 with
    | true => some (.string ⟨⟨itoaB n⟩⟩, h)
    | false => none
  | _ => none
/-- The three. -/
def extS : Ext := fun f args h => match Nat.beq f 127 with
  | true => indexE args h
  | false => match Nat.beq f 146 with
    | true => joinE args h
    | false => match Nat.beq f 135 with
      | true => itoaE args h
      | false => none
def laysIB_ren : Go.Shelf.Ren := ⟨fun | 137 => 127 | 217 => 141 | 266 => 148 | n => n, fun | n => n, fun | n => n⟩
theorem laysIB : Go.Proofs.Lays.n137 Tryz.prog laysIB_ren := {
  mixed := by kernel_rfl
  f137 := Tryz.func127.trans (congrArg some (by kernel_rfl))
  f217 := Tryz.func141.trans (congrArg some (by kernel_rfl))
  f266 := Tryz.func148.trans (congrArg some (by kernel_rfl))
  t3 := Tryz.underlying3
  a3 := Tryz.isAgg3
  z3 := Tryz.sizeOf3
  v3 := Tryz.zeroValue3
  t5 := Tryz.underlying5
  a5 := Tryz.isAgg5
  z5 := Tryz.sizeOf5
  v5 := Tryz.zeroValue5
  t9 := Tryz.underlying9
  a9 := Tryz.isAgg9
  z9 := Tryz.sizeOf9
  v9 := Tryz.zeroValue9 }
theorem ba_eq (s : ByteArray) : (⟨s.data.toList.toArray⟩ : ByteArray) = s := by simp
theorem extS_ok : CallOk Tryz.prog extS := by
  intro f args h v h' e
  unfold extS at e
  split at e
  · rename_i hf
    obtain rfl := beq_t hf
    unfold indexE at e
    split at e
    · rename_i s c
      have e := Option.some.inj e
      injection e with e1 e2
      subst e1 e2
      refine ⟨⟨_, _, Tryz.func127, rfl⟩, Can.refl _, fun D top m w args' hT htop hr ha => ?_⟩
      cases ha with
      | cons h1 ha => cases ha with
        | cons h2 ha =>
          cases ha
          obtain rfl := h1.afEq rfl
          obtain rfl := h2.afEq rfl
          refine (Any.strings_IndexByte laysIB ⟨⟨s⟩⟩ (Int.ofNat c) w).mono fun e w' hh => ?_
          obtain ⟨rfl, rfl⟩ := hh
          refine ⟨m, _, rfl, ?_, Post.refl hr⟩
          rw [idxB_0]
          exact TR.same m rfl
    · cases e
  · split at e
    · rename_i hf
      obtain rfl := beq_t hf
      unfold joinE at e
      split at e
      · rename_i a c sep
        have e := Option.some.inj e
        injection e with e1 e2
        subst e1 e2
        refine ⟨⟨_, _, Tryz.func146, rfl⟩, Can.refl _, fun D top m w args' hT htop hr ha => ?_⟩
        cases ha with
        | cons h1 ha => cases ha with
          | cons h2 ha =>
            cases ha
            obtain rfl := h2.afEq rfl
            have key : ∀ (a' : Option Addr) (c' : Nat), Calls Tryz.prog 146 ⟨[.slice a' 0 c', .string sep]⟩ w fun e w' => ∃ m' v', e = .returned v' ∧ TR m' (.string ⟨⟨[]⟩⟩) v' ∧ Post D top m h w m' h w' := fun a' c' =>
              (YtjhemobplcelbaaGreatDoor.K.strings_Join_none a' c' sep w).mono fun e w' hh => by
                obtain ⟨rfl, rfl⟩ := hh
                exact ⟨m, _, rfl, TR.same m rfl, Post.refl hr⟩
            cases h1 with
            | o h1 => cases h1 with
              | s h1 => cases h1 with
                | b h1 => cases h1 with
                  | slN => exact key _ _
                  | sl => exact key _ _
                  | slE => exact key _ _
      · rename_i b o n c sep hn0
        split at e
        · rename_i l hl
          split at e
          · rename_i xs hxs
            split at e
            · rename_i hb
              rw [Bool.and_eq_true, Bool.and_eq_true] at hb
              have e := Option.some.inj e
              injection e with e1 e2
              subst e1 e2
              refine ⟨⟨_, _, Tryz.func146, rfl⟩, Can.look _ _, fun D top m w args' hT htop hr ha => ?_⟩
              have hD : D b := hT b (on_or.2 (.inr (on_pow b)))
              cases ha with
              | cons h1 ha => cases ha with
                | cons h2 ha =>
                  cases ha
                  obtain rfl := h2.afEq rfl
                  obtain ⟨p, l', k1, k2, k3, k4, k5⟩ := hr.load hD hl
                  obtain ⟨k6, k7⟩ := strsOf_some k2 hxs
                  have hlen : (xs.map fun x => (⟨⟨x⟩⟩ : ByteArray)).length = n := by rw [List.length_map, ← k6, k3]
                  have hmap : ((xs.map fun x => (⟨⟨x⟩⟩ : ByteArray)).map (·.data.toList)) = xs := by rw [List.map_map]; exact List.map_id _
                  have key : ∀ c', c ≤ c' → Calls Tryz.prog 146 ⟨[.slice (some ⟨p.r, p.s + o, none⟩) n c', .string ⟨⟨sep⟩⟩]⟩ w fun e w' => ∃ m' v', e = .returned v' ∧ TR m' (.string ⟨⟨Lib.join xs sep⟩⟩) v' ∧ Post D top m h w m' (h.look (2 ^ b)) w' := by
                    intro c' hc
                    have hC := YtjhemobplcelbaaGreatDoor.K.strings_Join p.r (p.s + o) c' (xs.map fun x => (⟨⟨x⟩⟩ : ByteArray)) ⟨⟨sep⟩⟩ w (fun j x hj => (k5 w (Below.refl _ _)).1 j _ (k7 j x hj)) (hr.lt b p k1) (by rw [hlen]; have := ble_t hb.1.2; omega) (by rw [hlen]; have := ble_t hb.1.1; omega) (by rw [hmap]; have := ble_t hb.2; show (Lib.join xs sep).length ≤ _; omega)
                    rw [hlen, hmap] at hC
                    refine hC.mono fun e w' hh => ?_
                    obtain ⟨rfl, hB⟩ := hh
                    refine ⟨m, _, rfl, TR.same m rfl, ⟨Map.le.refl m, (hr.masks _ _).below hB, fun W hf => ⟨hf.bel.trans (hB.mono (hf.bel.size)), hf.new⟩, hB.size, fun r hr' _ => hB.block r hr', fun b p h => .inl h⟩⟩
                  cases h1 with
                  | o h1 => cases h1 with
                    | s h1 => cases h1 with
                      | b h1 => cases h1 with
                        | sl q1 q2 q3 =>
                          rw [k1] at q1
                          obtain rfl := Option.some.inj q1
                          exact key _ q2
                        | slE => exact (hn0 rfl).elim
            · cases e
          · cases e
        · cases e
      · cases e
    · split at e
      · rename_i hf
        obtain rfl := beq_t hf
        unfold itoaE at e
        split at e
        · rename_i n
          split at e
          · rename_i hn
            have e := Option.some.inj e
            injection e with e1 e2
            subst e1 e2
            refine ⟨⟨_, _, Tryz.func135, rfl⟩, Can.refl _, fun D top m w args' hT htop hr ha => ?_⟩
            cases ha with
            | cons h1 ha =>
              cases ha
              obtain rfl := h1.afEq rfl
              refine (YtjhemobplcelbaaGreatDoor.K.strconv_Itoa_small n (blt_t hn) w).mono fun e w' hh => ?_
              obtain ⟨rfl, rfl⟩ := hh
              refine ⟨m, _, rfl, ?_, Post.refl hr⟩
              rw [itoaB_eq n (blt_t hn)]
              exact TR.same m rfl
          · cases e
        · cases e
      · cases e
end Go.Proofs.YtjhemobplcelbaaGreatDoor.V
