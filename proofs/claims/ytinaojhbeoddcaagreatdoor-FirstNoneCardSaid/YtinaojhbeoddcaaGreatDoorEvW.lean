/- Calls of slices.Insert at whole numbers, for the machine for closed calls (the library's contracts of the kit's shelf, laid at this program). No condition. -/
import Derived.Test.YtinaojhbeoddcaaGreatDoorEvX
import Derived.KernelRfl
import Derived.Shelf.Spec.SlicesInsert
import Derived.Shelf.Spec.SlicesInsertGrow
import Derived.Deep.WholeRow
namespace Go.Proofs.YtinaojhbeoddcaaGreatDoor.V
open Go.RowKit
set_option linter.unusedVariables false
set_option linter.unusedSimpArgs false
def laysIns_ren : Go.Shelf.Ren := ⟨fun | 21 => 164 | 27 => 196 | 28 => 197 | 35 => 215 | 39 => 224 | n => n, fun | 22 => 37 | n => n, fun | n => n⟩
theorem laysIns : Go.Proofs.Lays2.n21 Tryz.prog laysIns_ren := {
  mixed := by kernel_rfl
  f21 := Tryz.func164.trans (congrArg some (by kernel_rfl))
  f27 := Tryz.func196.trans (congrArg some (by kernel_rfl))
  f28 := Tryz.func197.trans (congrArg some (by kernel_rfl))
  f35 := Tryz.func215.trans (congrArg some (by kernel_rfl))
  f39 := Tryz.func224.trans (congrArg some (by kernel_rfl))
  t0 := Tryz.underlying0
  a0 := Tryz.isAgg0
  z0 := Tryz.sizeOf0
  v0 := Tryz.zeroValue0
  t3 := Tryz.underlying3
  a3 := Tryz.isAgg3
  z3 := Tryz.sizeOf3
  v3 := Tryz.zeroValue3
  t4 := Tryz.underlying4
  a4 := Tryz.isAgg4
  z4 := Tryz.sizeOf4
  v4 := Tryz.zeroValue4
  t22 := Tryz.underlying37
  a22 := Tryz.isAgg37
  z22 := Tryz.sizeOf37
  v22 := Tryz.zeroValue37
  i3 := by kernel_rfl }
/-- Cells set one by one, as a row. -/
theorem setCells_eq (g : Nat) (t : TypeId) (vs : List Value) (o : Nat) (w : World) (cs : Array Value) (hg : w.heap[g]? = some (.cells cs t (0, 0))) (ho : o + vs.length ≤ cs.size) (h1 : ∀ v ∈ vs, v.oneCell' = true) :
    w.setCells g o vs = w.setRow g (cs.toList.take o ++ vs ++ cs.toList.drop (o + vs.length)).toArray := by
  have e1 := run_storeCells_at (P := Tryz.prog) g o t vs 0 cs w hg ho h1
  have e2 := run_storeCells_cells (P := Tryz.prog) g o vs 0 w (fun j hj => by
    simp only [World.cell?, hg, Nat.add_zero]
    rw [if_neg (by simp), Array.getElem?_eq_getElem (by omega)]
    rfl) (fun j hj => by simp [World.frozen?, hg]) h1
  rw [e1] at e2
  injection e2 with _ e2
  exact e2.symm
theorem below_drew (w : World) : Below w.heap.size w w.drew := ⟨rfl, rfl, rfl, Nat.le_refl _, fun _ _ => rfl⟩
section
variable {D : Nat → Prop} {top : Nat} {m m' : Map} {h h1 h' : CH} {w w' : World}
theorem Post.after (k : Post D top m h w m' h' w') : Post D top m h w m' h' w'.drew :=
  ⟨k.le, k.hr.below (below_drew w'), fun W hf => ⟨(k.fr W hf).bel.trans ((below_drew w').mono (k.fr W hf).bel.size), (k.fr W hf).new⟩, k.sz, k.frame, k.newm⟩
theorem Post.ahead (k : Post D top m h w.drew m' h' w') : Post D top m h w m' h' w' :=
  ⟨k.le, k.hr, fun W hf => k.fr W ⟨hf.bel.trans ((below_drew w).mono hf.bel.size), hf.new⟩, k.sz, k.frame, k.newm⟩
theorem Post.of_n (hn : h1.n = h.n) (k : Post D top m h1 w m' h' w') : Post D top m h w m' h' w' :=
  ⟨k.le, k.hr, k.fr, k.sz, k.frame, fun b p e => by rw [← hn]; exact k.newm b p e⟩
end
/-- The row after both copies. -/
theorem ins_row (cs old : List Value) (u : Value) (q n i : Nat) (hi : i < n) (hq : q + (n + 1) ≤ cs.length) (ho : (cs.drop q).take n = old) :
    let r1 := cs.take (q + (i + 1)) ++ old.drop i ++ cs.drop (q + (i + 1) + (old.drop i).length)
    r1.length = cs.length ∧ r1.take (q + i) ++ [u] ++ r1.drop (q + i + [u].length) = cs.take q ++ (old.take i ++ u :: old.drop i) ++ cs.drop (q + (n + 1)) := by
  have hl : old.length = n := by rw [← ho, List.length_take, List.length_drop]; omega
  have hd : (old.drop i).length = n - i := by rw [List.length_drop, hl]
  intro r1
  have hr1 : r1 = cs.take (q + (i + 1)) ++ old.drop i ++ cs.drop (q + (i + 1) + (old.drop i).length) := rfl
  refine ⟨by rw [hr1]; simp only [List.length_append, List.length_take, List.length_drop, hl]; omega, ?_⟩
  have e1 : r1.take (q + i) = cs.take q ++ old.take i := by
    rw [hr1, List.append_assoc, List.take_append_of_le_length (by rw [List.length_take]; omega), List.take_take, Nat.min_eq_left (by omega), ← ho, List.take_take, Nat.min_eq_left (by omega), ← List.take_add]
  have e2 : r1.drop (q + i + [u].length) = old.drop i ++ cs.drop (q + (n + 1)) := by
    rw [hr1, List.append_assoc]
    have : q + i + [u].length = (cs.take (q + (i + 1))).length := by rw [List.length_take]; simp; omega
    rw [this, List.drop_left, hd]
    congr 2
    omega
  rw [e1, e2]
  simp
theorem grow_ins (row : Array Value) (old : List Value) (u : Value) (n i : Nat) (hi : i < n) (hl : old.length = n) (hr : n + 1 ≤ row.size) (ht : row.toList.take i = old.take i) :
    let r1 := row.toList.take i ++ [u] ++ row.toList.drop (i + [u].length)
    r1.length = row.size ∧ ∃ more, r1.take (i + 1) ++ old.drop i ++ r1.drop (i + 1 + (old.drop i).length) = (old.take i ++ u :: old.drop i) ++ more := by
  have hd : (old.drop i).length = n - i := by rw [List.length_drop, hl]
  intro r1
  have hr1 : r1 = row.toList.take i ++ [u] ++ row.toList.drop (i + [u].length) := rfl
  refine ⟨by rw [hr1]; simp only [List.length_append, List.length_take, List.length_drop, Array.length_toList, List.length_cons, List.length_nil]; omega, r1.drop (i + 1 + (old.drop i).length), ?_⟩
  · have e1 : r1.take (i + 1) = old.take i ++ [u] := by
      rw [hr1, ht]
      have : i + 1 = (old.take i ++ [u]).length := by rw [List.length_append, List.length_take]; simp; omega
      rw [this, List.take_left]
    rw [e1]
    simp
def insertE (args : List Value) (h : CH) : Option (Value × CH) := match args with
  | [.slice (some ⟨b, o, none⟩) n c, .int .i64 (.ofNat i), .slice (some ⟨x, ox, none⟩) 1 _] => match Nat.blt i n && Nat.ble n c && Nat.ble n 100000 with
    | true => match Nat.beq b x with
      | true => none
      | false => match h.loadL b o n, h.loadL x ox 1, h.t.get b with
        | some old, some [u], some y => match Nat.beq y.sz 1 && Nat.beq y.ty 3 with
          | true => match (h.look (2 ^ x)).drop b with
            | some h1 => match h1.new (old.take i ++ u :: old.drop i) 3 1 with
              | some h' => some (.slice (some ⟨h.n, 0, none⟩) (n + 1) (n + 1), h')
              | none => none
            | none => none
          | false => none
        | _, _, _ => none
    | false => none
  | _ => none
theorem shape_at {w : World} {g : Nat} {cs : Array Value} {t : TypeId} {f : Nat × Nat} (h : w.heap[g]? = some (.cells cs t f)) : w.shape? g = some (t, cs.size) := by
  simp [World.shape?, h]
theorem F2.take1 {R : Value → Value → Prop} {l' : List Value} {u : Value} (h : F2 R [u] l') : ∃ u', l' = [u'] ∧ R u u' := by
  cases h with
  | cons h k => cases k; exact ⟨_, rfl, h⟩
set_option maxHeartbeats 1000000 in
theorem insertE_ok {D : Nat → Prop} {top : Nat} {m : Map} {h h' : CH} {w : World} {args args' : List Value} {v : Value} (e : insertE args h = some (v, h')) (hT : Sub h'.rd D) (htop : h'.n ≤ top) (hr : HR D top m h w) (ha : F2 (TR m) args args') :
    Calls Tryz.prog 164 ⟨args'⟩ w fun e w' => ∃ m' v', e = .returned v' ∧ TR m' v v' ∧ Post D top m h w m' h' w' := by
  unfold insertE at e
  split at e
  · rename_i b o n c i x ox cx
    split at e
    · rename_i hb
      rw [Bool.and_eq_true, Bool.and_eq_true] at hb
      have hi := blt_t hb.1.1
      have hnc := ble_t hb.1.2
      have hn := ble_t hb.2
      split at e
      · cases e
      · rename_i hbx
        have hbx := beq_f hbx
        split at e
        · rename_i old u y hold hu hy
          split at e
          · rename_i hyy
            rw [Bool.and_eq_true] at hyy
            have hy1 := beq_t hyy.1
            have hy2 := beq_t hyy.2
            split at e
            · rename_i h1 hd
              split at e
              · rename_i h2 hw
                have e := Option.some.inj e
                injection e with e1 e2
                subst e1 e2
                obtain ⟨d1, d2, d3, d4⟩ := drop_some hd
                obtain ⟨n1, n2, n3, n4⟩ := new_some hw
                have hrd : h2.rd = (h.rd ||| 2 ^ x) ||| 2 ^ b := by rw [n3, d3]; rfl
                have hDb : D b := hT b (by rw [hrd]; exact on_or.2 (.inr (on_pow b)))
                have hDx : D x := hT x (by rw [hrd]; exact on_or.2 (.inl (on_or.2 (.inr (on_pow x)))))
                obtain ⟨p, old', p1, p2, p3, p4, p5⟩ := hr.load hDb hold
                obtain ⟨px, lu, x1, x2, x3, x4, x5⟩ := hr.load hDx hu
                obtain ⟨u', rfl, xu⟩ := x2.take1
                obtain ⟨p', cs, c1, c2, c3, c4, c5, c6⟩ := hr.blk b y hDb hy
                rw [p1] at c1
                obtain rfl := Option.some.inj c1
                obtain ⟨yx, hyx⟩ : ∃ yx, h.t.get x = some yx := by obtain ⟨yx, k, _⟩ := loadL_some hu; exact ⟨yx, k⟩
                obtain ⟨px', csx, f1, f2, f3, f4, f5, f6⟩ := hr.blk x yx hDx hyx
                rw [x1] at f1
                obtain rfl := Option.some.inj f1
                have hne : px.r ≠ p.r := fun k => hbx (hr.inj b x y yx p px hDb hDx hy hyx p1 x1 k.symm)
                rw [hy1] at c4
                rw [hy2] at c2
                have hr0 : HR D top m (h.look (2 ^ x)) w := hr.masks _ _
                have hfz : ∀ k, w.frozen? ⟨p.r, k, none⟩ = false := fun k => by simp [World.frozen?, c2]
                have hfx : ∀ k, w.frozen? ⟨px.r, k, none⟩ = false := fun k => by simp [World.frozen?, f2]
                have ol : old.length = n := by rw [p2.len, p3]
                have hnewF : F2 (SR m) (old.take i ++ u :: old.drop i) (old'.take i ++ u' :: old'.drop i) := (p2.take i).append (.cons xu (p2.drop i))
                have hone : ∀ v ∈ old', v.oneCell' = true := p2.oneCell
                have hone1 : ∀ v ∈ [u'], v.oneCell' = true := x2.oneCell
                have hcells : ∀ j v, old'[j]? = some v → w.cell? ⟨p.r, p.s + o + j, none⟩ = some v := (p5 w (Below.refl _ _)).1
                have hcs1 : ((cs.toList.drop (p.s + o)).take n) = old' := by
                  apply List.ext_getElem?
                  intro j
                  by_cases hj : j < n
                  · rw [List.getElem?_take, if_pos hj, List.getElem?_drop, Array.getElem?_toList, List.getElem?_eq_getElem (by omega)]
                    have := hcells j _ (List.getElem?_eq_getElem (by omega))
                    simpa [World.cell?, c2] using this
                  · rw [List.getElem?_eq_none (by rw [List.length_take]; omega), List.getElem?_eq_none (by omega)]
                cases ha with
                | cons ha1 ha => cases ha with
                  | cons ha2 ha => cases ha with
                    | cons ha3 ha =>
                      cases ha
                      obtain rfl := ha2.afEq rfl
                      rcases TR.sl ha3 with ⟨px2, cx', z1, z2, z3, rfl⟩ | ⟨k, _⟩
                      rotate_left
                      · cases k
                      rw [x1] at z1
                      obtain rfl := Option.some.inj z1
                      rcases TR.sl ha1 with ⟨p2', c', z4, z5, z6, rfl⟩ | ⟨k, _⟩
                      rotate_left
                      · omega
                      rw [p1] at z4
                      obtain rfl := Option.some.inj z4
                      rw [c4, Nat.mul_one] at z6
                      have hvs : ∀ j v, [u'][j]? = some v → w.cell? ⟨px.r, px.s + ox + j, none⟩ = some v := (x5 w (Below.refl _ _)).1
                      by_cases hroom : n + 1 ≤ c'
                      · have hC := Any2.slices_Insert_int_shift laysIns p.r (p.s + o) n c' i px.r (px.s + ox) 1 cx' old' [u'] w hi (by omega) hroom (by omega) hne p3 rfl hcells
                          (fun j hj => by
                            simp only [World.cell?, c2]
                            rw [if_neg (by simp), Array.getElem?_eq_getElem (by omega)]
                            rfl) (fun j _ => hfz _) hvs hone hone1 _ _ _ _ (shape_at f2) (shape_at c2) (by omega) (hfx _) (hfx _)
                        refine hC.mono fun e w' hh => ?_
                        obtain ⟨rfl, rfl⟩ := hh
                        have c2d : w.drew.heap[p.r]? = some (.cells cs 3 (0, 0)) := c2
                        have hir := ins_row cs.toList old' u' (p.s + o) n i hi (by rw [Array.length_toList]; omega) hcs1
                        have hdl : (old'.drop i).length = n - i := by rw [List.length_drop, p3]
                        have q1 := setCells_eq p.r 3 (old'.drop i) (p.s + o + (i + 1)) w.drew cs c2d (by rw [hdl]; omega) (fun v hv => hone v (List.mem_of_mem_drop hv))
                        rw [q1]
                        have q2 := setCells_eq p.r 3 [u'] (p.s + o + i) _ _ (setRow_heap w.drew p.r cs (cs.toList.take (p.s + o + (i + 1)) ++ old'.drop i ++ cs.toList.drop (p.s + o + (i + 1) + (old'.drop i).length)).toArray 3 (0, 0) c2d) (by rw [List.size_toArray, hir.1, Array.length_toList]; simp; omega) hone1
                        rw [q2, setRow_setRow]
                        have q3 := (hr0.below (below_drew w)).regrow (h' := h2) (by omega) (old := []) (old' := []) (q := p.s + o) (cs := cs) (p := p) (x := y) hDb hy p1 (by rw [hy2]; exact c2d) c3 hd (by rw [c4]; exact hw) hy2 .nil hnewF (by simp) (by simp only [List.length_append, List.length_cons, List.length_take, List.length_drop, List.length_nil, p3]; omega)
                        have hnl : (old'.take i ++ u' :: old'.drop i).length = n + 1 := by simp only [List.length_append, List.length_cons, List.length_take, List.length_drop, p3]; omega
                        have q4 : ((cs.toList.take (p.s + o + ([] : List Value).length) ++ (old'.take i ++ u' :: old'.drop i) ++ cs.toList.drop (p.s + o + ([] : List Value).length + (old'.take i ++ u' :: old'.drop i).length))) = cs.toList.take (p.s + o) ++ (old'.take i ++ u' :: old'.drop i) ++ cs.toList.drop (p.s + o + (n + 1)) := by
                          rw [hnl]; rfl
                        rw [q4] at q3
                        have q5 : (cs.toList.take (p.s + o + (i + 1)) ++ old'.drop i ++ cs.toList.drop (p.s + o + (i + 1) + (old'.drop i).length)).toArray.toList.take (p.s + o + i) ++ [u'] ++ (cs.toList.take (p.s + o + (i + 1)) ++ old'.drop i ++ cs.toList.drop (p.s + o + (i + 1) + (old'.drop i).length)).toArray.toList.drop (p.s + o + i + [u'].length) = cs.toList.take (p.s + o) ++ (old'.take i ++ u' :: old'.drop i) ++ cs.toList.drop (p.s + o + (n + 1)) := hir.2
                        rw [q5]
                        refine ⟨m.more h.n ⟨p.r, p.s + o, p.R, p.sz⟩, .slice (some ⟨p.r, p.s + o + 0, none⟩) (n + 1) c', rfl, .o (.s (.b (.sl (Map.more_new m h.n ⟨p.r, p.s + o, p.R, p.sz⟩) (by omega) (by show p.s + o + 0 + c' * p.sz ≤ p.R ∧ _; rw [c4]; omega)))), Post.of_n (h1 := h.look (2 ^ x)) rfl (Post.ahead q3)⟩
                      · obtain rfl : c' = n := by omega
                        have hC := Any2.slices_Insert_int_grow laysIns p.r (p.s + o) c' c' i px.r (px.s + ox) 1 cx' old' [u'] w hi (by omega) (Nat.le_refl _) (by omega) (by omega) p3 rfl hcells hvs hone hone1
                        refine hC.mono fun e w' hh => ?_
                        obtain ⟨rfl, rfl⟩ := hh
                        have hG := grownCap_ge w (c' + 1) c' 3
                        have hGm := grownCap_le_maxLen w (c' + 1) c' 3 (by unfold maxLen; omega)
                        show ∃ m' v', _ = Ending.returned v' ∧ _ ∧ _
                        change ∃ m' v', Ending.returned (Value.slice (some ⟨w.heap.size, 0, none⟩) (c' + 1) (grownCap w (c' + 1) c' 3)) = Ending.returned v' ∧ TR m' _ v' ∧ Post D top m h w m' h2 ((((w.alloc (.cells ((old'.take i).toArray ++ Builtin.zeroCells (Value.int .i64 0).cells (c' + 1 - i) ++ Builtin.zeroCells (Value.int .i64 0).cells (grownCap w (c' + 1) c' 3 - (c' + 1))) 3)).drew.setCells w.heap.size i [u']).drew).setCells w.heap.size (i + 1) (old'.drop i))
                        generalize grownCap w (c' + 1) c' 3 = G at *
                        obtain ⟨row, hrow⟩ : ∃ row, row = (old'.take i).toArray ++ Builtin.zeroCells (Value.int .i64 0).cells (c' + 1 - i) ++ Builtin.zeroCells (Value.int .i64 0).cells (G - (c' + 1)) := ⟨_, rfl⟩
                        rw [← hrow]
                        have hrs : row.size = G := by
                          rw [hrow]
                          simp [Builtin.zeroCells, Value.cells]
                          omega
                        have hrt : row.toList.take i = old'.take i := by
                          rw [hrow]
                          simp only [Array.toList_append, List.append_assoc]
                          rw [List.take_append_of_le_length (by simp only [List.length_take]; omega)]
                          exact List.take_of_length_le (by simp only [List.length_take]; omega)
                        obtain ⟨g1, more, g2⟩ := grow_ins row old' u' c' i hi p3 (by omega) hrt
                        have hA : (w.alloc (.cells row 3)).drew.heap[w.heap.size]? = some (.cells row 3 (0, 0)) := heap_alloc_new w _
                        have s1 := setCells_eq w.heap.size 3 [u'] i _ row hA (by simp; omega) hone1
                        rw [s1]
                        have hA2 := setRow_heap (w.alloc (.cells row 3)).drew w.heap.size row (row.toList.take i ++ [u'] ++ row.toList.drop (i + [u'].length)).toArray 3 (0, 0) hA
                        have hdl : (old'.drop i).length = c' - i := by rw [List.length_drop, p3]
                        have s2 := setCells_eq w.heap.size 3 (old'.drop i) (i + 1) ((w.alloc (.cells row 3)).drew.setRow w.heap.size (row.toList.take i ++ [u'] ++ row.toList.drop (i + [u'].length)).toArray).drew _ hA2 (by rw [List.size_toArray, g1, hdl]; omega) (fun v hv => hone v (List.mem_of_mem_drop hv))
                        rw [s2]
                        have g3 : (row.toList.take i ++ [u'] ++ row.toList.drop (i + [u'].length)).toArray.toList.take (i + 1) ++ old'.drop i ++ (row.toList.take i ++ [u'] ++ row.toList.drop (i + [u'].length)).toArray.toList.drop (i + 1 + (old'.drop i).length) = (old'.take i ++ u' :: old'.drop i) ++ more := g2
                        rw [g3]
                        have s3 : (((w.alloc (.cells row 3)).drew.setRow w.heap.size (row.toList.take i ++ [u'] ++ row.toList.drop (i + [u'].length)).toArray).drew).setRow w.heap.size ((old'.take i ++ u' :: old'.drop i) ++ more).toArray = ((w.alloc (.cells ((old'.take i ++ u' :: old'.drop i) ++ more).toArray 3)).drew).drew := by
                          have t1 : (((w.alloc (.cells row 3)).drew.setRow w.heap.size (row.toList.take i ++ [u'] ++ row.toList.drop (i + [u'].length)).toArray).drew).setRow w.heap.size ((old'.take i ++ u' :: old'.drop i) ++ more).toArray = ((((w.alloc (.cells row 3)).setRow w.heap.size (row.toList.take i ++ [u'] ++ row.toList.drop (i + [u'].length)).toArray).setRow w.heap.size ((old'.take i ++ u' :: old'.drop i) ++ more).toArray).drew).drew := rfl
                          rw [t1, setRow_setRow, World.setRow_alloc_new]
                        rw [s3]
                        have k1 := (hr0.drop hd).make (by omega) hw hnewF more
                        rw [d2] at k1
                        have hml : ((old'.take i ++ u' :: old'.drop i) ++ more).length = G := by
                          rw [← g2]
                          simp only [List.length_append, List.length_take, List.length_drop, g1, p3]
                          omega
                        refine ⟨_, .slice (some ⟨w.heap.size, 0 + 0, none⟩) (c' + 1) G, rfl, .o (.s (.b (.sl (Map.more_new m h.n _) (by omega) ?_))), ((Post.of_n (h := h) (h1 := h1) d2 k1).after).after⟩
                        show 0 + 0 + G * 1 ≤ ((old'.take i ++ u' :: old'.drop i) ++ more).length ∧ G ≤ 9223372036854775807
                        unfold maxLen at hGm
                        omega
              · cases e
            · cases e
          · cases e
        · cases e
    · cases e
  · cases e
theorem insertE_can {h h' : CH} {args : List Value} {v : Value} (e : insertE args h = some (v, h')) : Can h h' := by
  unfold insertE at e
  split at e
  · rename_i b o n c i x ox cx
    split at e
    · split at e
      · cases e
      · split at e
        · rename_i old u y hold hu hy
          split at e
          · split at e
            · rename_i h1 hd
              split at e
              · rename_i h2 hw
                have e := Option.some.inj e
                injection e with e1 e2
                subst e1 e2
                exact ((Can.look h (2 ^ x)).trans (drop_can (h := h.look (2 ^ x)) hy hd)).trans (new_can hw)
              · cases e
            · cases e
          · cases e
        · cases e
    · cases e
  · cases e
/-- slices.Insert too (at whole numbers, ahead of some). -/
def inserts (E : Ext) : Ext := fun f args h => match Nat.beq f 164 with
  | true => match insertE args h with
    | some r => some r
    | none => none
  | false => E f args h
theorem inserts_ok {E : Ext} (hE : CallOk Tryz.prog E) : CallOk Tryz.prog (inserts E) := by
  intro g args h v h' e
  unfold inserts at e
  split at e
  · rename_i hg
    obtain rfl := beq_t hg
    split at e
    · rename_i r hr
      obtain rfl := Option.some.inj e
      exact ⟨⟨_, _, Tryz.func164, rfl⟩, insertE_can hr, fun D top m w args' hT htop h1 ha => insertE_ok hr hT htop h1 ha⟩
    · cases e
  · exact hE g args h v h' e
end Go.Proofs.YtinaojhbeoddcaaGreatDoor.V
