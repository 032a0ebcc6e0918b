/- A machine for closed calls: what a call of a function answers, reckoned over a heap of its own. No condition. -/
import Derived.Test.YtjhemobplcelbaaGreatDoorProg
import Derived.Calls
import Derived.Deep.Quiet
namespace Go.Proofs.YtjhemobplcelbaaGreatDoor.V
set_option linter.unusedVariables false
set_option linter.unusedSimpArgs false
/-! Tables by numbers. -/
inductive T (α : Type) : Type where
  | nil
  | node (l : T α) (v : Option α) (r : T α)
def T.get {α : Type} : T α → Nat → Option α
  | .nil, _ => none
  | .node l v r, k => match Nat.beq k 0 with
    | true => v
    | false => match Nat.beq (k % 2) 1 with
      | true => l.get (k / 2)
      | false => r.get (k / 2 - 1)
def T.set {α : Type} (x : Option α) : Nat → T α → Nat → Option (T α)
  | 0, _, _ => none
  | f + 1, .nil, k => match Nat.beq k 0 with
    | true => some (.node .nil x .nil)
    | false => match Nat.beq (k % 2) 1 with
      | true => match T.set x f .nil (k / 2) with
        | some l => some (.node l none .nil)
        | none => none
      | false => match T.set x f .nil (k / 2 - 1) with
        | some r => some (.node .nil none r)
        | none => none
  | f + 1, .node l v r, k => match Nat.beq k 0 with
    | true => some (.node l x r)
    | false => match Nat.beq (k % 2) 1 with
      | true => match T.set x f l (k / 2) with
        | some l => some (.node l v r)
        | none => none
      | false => match T.set x f r (k / 2 - 1) with
        | some r => some (.node l v r)
        | none => none
/-! Memory: blocks by numbers; the next number; which blocks were looked at (rd); which were made, written or given up (wr): a bit each. -/
structure Blk where
  cs : List Value
  ty : TypeId
  sz : Nat
structure CH where
  t : T Blk
  n : Nat
  rd : Nat
  wr : Nat
/-- A whole number, reckoned to its end. -/
def nf {α : Type} (n : Int) (k : Int → Option α) : Option α :=
  match n with
  | .ofNat 0 => k (.ofNat 0)
  | .ofNat (m + 1) => k (.ofNat (m + 1))
  | .negSucc 0 => k (.negSucc 0)
  | .negSucc (m + 1) => k (.negSucc (m + 1))
def lf {α : Type} : List UInt8 → (List UInt8 → Option α) → Option α
  | [], k => k []
  | b :: l, k => lf l fun l => k (b :: l)
/-- A value with its numbers and texts reckoned. -/
def vf {α : Type} (v : Value) (k : Value → Option α) : Option α :=
  match v with
  | .int q n => nf n fun n => k (.int q n)
  | .bool true => k (.bool true)
  | .bool false => k (.bool false)
  | .string ⟨⟨l⟩⟩ => lf l fun l => k (.string ⟨⟨l⟩⟩)
  | .slice (some ⟨b, o, none⟩) n c => nf o fun o => nf n fun n => nf c fun c => k (.slice (some ⟨b, o.toNat, none⟩) n.toNat c.toNat)
  | v => k v
/-- A value without addresses. -/
def afS : Value → Bool
  | .bool _ | .int _ _ | .string _ | .pointer none | .nilFunc | .nilIface | .func _ ⟨[]⟩ ⟨[]⟩ => true
  | .slice none _ _ => true
  | _ => false
def af : Value → Bool
  | .agg ⟨l⟩ => l.all afS
  | .tuple ⟨l⟩ => l.all afS
  | v => afS v
/-! What runs without memory. -/
def crunP {α : Type} (P : Program) : Sem α → Option α
  | .pure a => some a
  | .program k => crunP P (k P)
  | .mark _ k => crunP P k
  | _ => none
/-- The same, and what comes is a value without addresses. -/
def crunA (P : Program) (s : Sem Value) : Option Value :=
  match crunP P s with
  | some v => match af v with
    | true => some v
    | false => none
  | none => none
def CH.loadL (h : CH) (b o : Nat) (n : Nat) : Option (List Value) :=
  match h.t.get b with
  | some x => match Nat.ble (o + n) x.cs.length with
    | true => some ((x.cs.drop o).take n)
    | false => none
  | none => none
def setL : List Value → Nat → List Value → List Value
  | xs, _, [] => xs
  | [], _, _ => []
  | x :: xs, 0, v :: vs => v :: setL xs 0 vs
  | x :: xs, o + 1, vs => x :: setL xs o vs
def CH.storeL (h : CH) (b o : Nat) (vs : List Value) : Option CH :=
  match h.t.get b with
  | some x => match Nat.ble (o + vs.length) x.cs.length with
    | true => match T.set (some { x with cs := setL x.cs o vs }) 40 h.t b with
      | some t => some ⟨t, h.n, h.rd ||| 2 ^ b, h.wr ||| 2 ^ b⟩
      | none => none
    | false => none
  | none => none
def CH.new (h : CH) (cs : List Value) (ty : TypeId) (sz : Nat) : Option CH :=
  match T.set (some ⟨cs, ty, sz⟩) 40 h.t h.n with
  | some t => some ⟨t, h.n + 1, h.rd, h.wr ||| 2 ^ h.n⟩
  | none => none
def CH.drop (h : CH) (b : Nat) : Option CH :=
  match T.set none 40 h.t b with
  | some t => some ⟨t, h.n, h.rd ||| 2 ^ b, h.wr ||| 2 ^ b⟩
  | none => none
def isAggB (P : Program) (t : TypeId) : Option Bool :=
  match P.underlying t with
  | some (.struct _) => some true
  | some (.array _ _) => some true
  | some _ => some false
  | none => none
def szOf (P : Program) (t : TypeId) : Option Nat := (P.info? t).map (·.size)
def zeroOf (P : Program) (t : TypeId) : Option Value := (P.info? t).bind (·.zero)
/-- Cells that are no aggregates. -/
def Value.one : Value → Bool
  | .agg _ | .tuple _ => false
  | _ => true
def loadV (P : Program) (h : CH) (t : TypeId) (b o : Nat) : Option Value :=
  match isAggB P t with
  | some true => match szOf P t with
    | some n => match h.loadL b o n with
      | some l => some (.agg ⟨l⟩)
      | none => none
    | none => none
  | some false => match h.loadL b o 1 with
    | some [v] => some v
    | _ => none
  | none => none
def elemOf (P : Program) (t : TypeId) : Option TypeId :=
  match P.underlying t with
  | some (.slice e) => some e
  | _ => none
/-- The first n elements' cells of a slice, or bytes of a text. -/
def srcCells (h : CH) (size n : Nat) : Value → Option (List Value)
  | .slice none _ _ => some []
  | .slice (some ⟨b, o, none⟩) _ _ => h.loadL b o (n * size)
  | .string ⟨⟨l⟩⟩ => some ((l.take n).map fun b => .int .u8 (.ofNat b.toNat))
  | _ => none
def lenV : Value → Option Nat
  | .slice _ n _ => some n
  | .string ⟨⟨l⟩⟩ => some l.length
  | _ => none
/-- A slice of this size that is appended to, and its block given up. -/
def growV (h : CH) (e size n k : Nat) (base : Option Addr) (new : List Value) : Option (Value × CH) :=
  match base with
  | none => match Nat.beq n 0 with
    | true => match h.new new e size with
      | some h' => some (.slice (some ⟨h.n, 0, none⟩) k k, h')
      | none => none
    | false => none
  | some ⟨b, o, none⟩ => match h.t.get b, h.loadL b o (n * size) with
    | some x, some old => match Nat.beq x.sz size && Nat.beq x.ty e with
      | true => match h.drop b with
        | some h1 => match h1.new (old ++ new) e size with
          | some h' => some (.slice (some ⟨h.n, 0, none⟩) (n + k) (n + k), h')
          | none => none
        | none => none
      | false => none
    | _, _ => none
  | _ => none
def appendV (P : Program) (h : CH) (st xt : TypeId) (s x : Value) : Option (Value × CH) :=
  match elemOf P st, lenV x, s with
  | some e, some k, .slice base n c => match szOf P e, zeroOf P e, (P.info? e).map (·.bytes), (match P.underlying xt with | some (.slice _) => true | some .string => true | _ => false) with
    | some size, some z, some bytes, true => match Nat.beq z.cells.toList.length size && Nat.ble (n + k) 100000 && Nat.ble 1 bytes && Nat.ble bytes 10000 with
      | true => match srcCells h size k x with
        | none => none
        | some new => match Nat.beq new.length (k * size) with
          | false => none
          | true => match Nat.ble (n + k) c with
            | true => match base with
              | none => some (.slice none (n + k) c, h)
              | some ⟨b, o, none⟩ => match h.storeL b (o + n * size) new with
                | some h => some (.slice (some ⟨b, o, none⟩) (n + k) c, h)
                | none => none
              | _ => none
            | false => growV h e size n k base new
      | false => none
    | _, _, _, _ => none
  | _, _, _ => none
def repL (z : List Value) : Nat → List Value
  | 0 => []
  | n + 1 => z ++ repL z n
def strOp (op : BinOp) (x y : List UInt8) : Option Value :=
  match op with
  | .add => some (.string ⟨⟨x ++ y⟩⟩)
  | .eql => some (.bool (x == y))
  | .neq => some (.bool (x != y))
  | .lss => some (.bool (Op.bytesLess x y))
  | .gtr => some (.bool (!(Op.bytesLess x y || x == y)))
  | .leq => some (.bool (Op.bytesLess x y || x == y))
  | .geq => some (.bool (!Op.bytesLess x y))
  | _ => none
def places (P : Program) : List Field → Option (List (Nat × Nat))
  | [] => some []
  | f :: fs => match szOf P f.type, places P fs with
    | some s, some l => some ((f.offset, s) :: l)
    | _, _ => none
def natOf : Value → Option Nat
  | .int _ (.ofNat n) => some n
  | _ => none
/-- What a function may hold on to. -/
def br : Value → Bool
  | .bool _ | .int _ _ | .string _ | .pointer _ | .slice _ _ _ | .nilFunc | .nilIface => true
  | _ => false
/-- One value (no list of results, no unknown one). -/
def vr : Value → Bool
  | .tuple _ | .chan _ => false
  | _ => true
/-- The value that an operation's operand has. What is not known is '.chan none'. -/
def opv (ts : T Value) : Operand → Value
  | .tmp t => (ts.get t).getD undef
  | .const v => match af v with
    | true => v
    | false => .chan none
  | .global _ => .chan none
  | .func f => .func (.func f) #[] #[]
def opvL (ρ : Operand → Value) : List Operand → List Value
  | [] => []
  | x :: xs => ρ x :: opvL ρ xs
def partsL (ρ : Operand → Value) : List (Nat × Operand) → Option (List (Nat × List Value))
  | [] => some []
  | (i, x) :: xs => match vr (ρ x), partsL ρ xs with
    | true, some l => some ((i, (ρ x).cells.toList) :: l)
    | _, _ => none
def fillL (fs : List (Nat × Nat)) (cs : List Value) : List (Nat × List Value) → Option (List Value)
  | [] => some cs
  | (i, v) :: rest => match fs[i]? with
    | none => none
    | some (off, size) => match Nat.beq v.length size && Nat.ble (off + size) cs.length with
      | true => fillL fs (setL cs off v) rest
      | false => none
def fillE (size : Nat) (cs : List Value) : List (Nat × List Value) → Option (List Value)
  | [] => some cs
  | (i, v) :: rest => match Nat.beq v.length size && Nat.ble (i * size + size) cs.length with
      | true => fillE size (setL cs (i * size) v) rest
      | false => none
def bytesOfL : List Value → Option (List UInt8)
  | [] => some []
  | .int .u8 n :: l => match bytesOfL l with
    | some l => some (UInt8.ofNat n.toNat :: l)
    | none => none
  | _ => none
/-- What an operation that only reads answers. -/
def readEv (P : Program) (op : Op) (ρ : Operand → Value) (H : CH) : Option Value :=
  match op with
  | .move x => some (ρ x)
  | .assign x => some (ρ x)
  | .pick c a b => match ρ c with
    | .bool true => some (ρ a)
    | .bool false => some (ρ b)
    | _ => none
  | .build t parts => match zeroOf P t with
    | some z => match af z, vr z, partsL ρ parts.toList with
      | true, true, some ps => match P.underlying t with
        | some (.struct fs) => match places P fs.toList with
          | some pl => match fillL pl z.cells.toList ps with
            | some l => some (.agg ⟨l⟩)
            | none => none
          | none => none
        | some (.array _ e) => match szOf P e with
          | some size => match fillE size z.cells.toList ps with
            | some l => some (.agg ⟨l⟩)
            | none => none
          | none => none
        | _ => none
      | _, _, _ => none
    | none => none
  | .load t a => match ρ a with
    | .pointer (some ⟨b, o, none⟩) => loadV P H t b o
    | _ => none
  | .nilCheck x => match ρ x with
    | .pointer (some a) => some (.pointer (some a))
    | _ => none
  | .binOp op t x y _ => match ρ x, ρ y with
    | .string ⟨⟨a⟩⟩, .string ⟨⟨b⟩⟩ => match Nat.ble (a.length + b.length) 1000000 with
      | true => strOp op a b
      | false => none
    | .pointer a, .pointer b => match P.underlying t with
      | some (.pointer e) => match (match a, b with
          | none, none => some true
          | none, some _ => some false
          | some _, none => some false
          | some ⟨a, i, none⟩, some ⟨b, j, none⟩ => match szOf P e, H.t.get a, H.t.get b with
            | some (_ + 1), some _, some _ => some (Nat.beq a b && Nat.beq i j)
            | _, _, _ => none
          | _, _ => none) with
        | some r => match op with
          | .eql => some (.bool r)
          | .neq => some (.bool (!r))
          | _ => none
        | none => none
      | _ => none
    | .slice a _ _, .slice none _ _ => match P.underlying t with
      | some (.slice _) => match op with
        | .eql => some (.bool a.isNone)
        | .neq => some (.bool a.isSome)
        | _ => none
      | _ => none
    | a, b => match af a && af b with
      | true => crunA P (do eqGuard op t x y a b; binOp op t a b)
      | false => none
  | .unOp op _ x => match af (ρ x) with
    | true => crunA P (Op.unary op (ρ x))
    | false => none
  | .convert s d x => match ρ x with
    | .slice (some ⟨b, o, none⟩) n _ => match P.underlying s, P.underlying d with
      | some (.slice e), some .string => match P.underlying e with
        | some (.int .u8) => match H.loadL b o n with
          | some l => match bytesOfL l with
            | some l => some (.string ⟨⟨l⟩⟩)
            | none => none
          | none => none
        | _ => none
      | _, _ => none
    | v => match af v with
      | true => crunA P (convert s d v)
      | false => none
  | .makeFunc fn first cap => match (opvL ρ first.toList).all br && (opvL ρ cap.toList).all br with
    | true => some (.func fn ⟨opvL ρ first.toList⟩ ⟨opvL ρ cap.toList⟩)
    | false => none
  | .slice t x lo hi none => match (match lo with | some x => natOf (ρ x) | none => some 0) with
    | some l => match ρ x with
      | .slice a n c => match (match hi with | some x => natOf (ρ x) | none => some n), P.underlying t with
        | some h, some (.slice e) => match szOf P e with
          | some size => match Nat.ble l h && Nat.ble h c with
            | true => match a with
              | none => some (.slice none (h - l) (c - l))
              | some ⟨b, o, none⟩ => match H.t.get b with
                | some y => match Nat.beq y.sz size with
                  | true => match Nat.beq c l with
                    | true => some (.slice (some ⟨b, o, none⟩) 0 0)
                    | false => some (.slice (some ⟨b, o + l * size, none⟩) (h - l) (c - l))
                  | false => none
                | none => none
              | _ => none
            | false => none
          | none => none
        | _, _ => none
      | .string ⟨⟨s⟩⟩ => match (match hi with | some x => natOf (ρ x) | none => some s.length), P.underlying t with
        | some h, some .string => match Nat.ble l h && Nat.ble h s.length with
          | true => some (.string ⟨⟨(s.take h).drop l⟩⟩)
          | false => none
        | _, _ => none
      | _ => none
    | none => none
  | .fieldAddr t x i => match ρ x with
    | .pointer (some ⟨b, o, none⟩) => match P.underlying t with
      | some (.struct fs) => match fs.toList[i]? with
        | some f => match szOf P f.type with
          | some (_ + 1) => some (.pointer (some ⟨b, o + f.offset, none⟩))
          | _ => none
        | none => none
      | _ => none
    | _ => none
  | .field t x i => match ρ x with
    | .agg ⟨cs⟩ => match P.underlying t with
      | some (.struct fs) => match fs.toList[i]? with
        | some f => match isAggB P f.type, szOf P f.type with
          | some true, some n => some (.agg ⟨(cs.drop f.offset).take n⟩)
          | some false, _ => cs[f.offset]?
          | _, _ => none
        | none => none
      | _ => none
    | _ => none
  | .indexAddr t x i => match natOf (ρ i) with
    | none => none
    | some i => match ρ x with
      | .slice (some ⟨b, o, none⟩) n _ => match Nat.blt i n, P.underlying t with
        | true, some (.slice e) => match szOf P e with
          | some size => some (.pointer (some ⟨b, o + i * size, none⟩))
          | none => none
        | _, _ => none
      | .pointer (some ⟨b, o, none⟩) => match P.underlying t with
        | some (.array n e) => match Nat.blt i n with
          | true => match szOf P e with
            | some size => some (.pointer (some ⟨b, o + i * size, none⟩))
            | none => none
          | false => none
        | _ => none
      | _ => none
  | .index t x i => match natOf (ρ i) with
    | none => none
    | some i => match ρ x with
      | .string ⟨⟨l⟩⟩ => match l[i]?, P.underlying t with
        | some b, some .string => some (.int .u8 (.ofNat b.toNat))
        | _, _ => none
      | .agg ⟨cs⟩ => match P.underlying t with
        | some (.array n e) => match Nat.blt i n, szOf P e, isAggB P e with
          | true, some 1, some false => cs[i]?
          | _, _, _ => none
        | _ => none
      | _ => none
  | .extract x i => match ρ x with
    | .tuple ⟨vs⟩ => vs[i]?
    | _ => none
  | .call { callee := .builtin b, args, argTypes } => match b, argTypes.toList, opvL ρ args.toList with
    | .len, t :: _, [.slice _ n _] => match P.underlying t with
      | some (.slice _) => some (.int .i64 (.ofNat n))
      | _ => none
    | .len, t :: _, [.string ⟨⟨l⟩⟩] => match P.underlying t with
      | some .string => some (.int .i64 (.ofNat l.length))
      | _ => none
    | .max, _, [.int k a, .int _ b] => some (.int k (if b > a then b else a))
    | .min, _, [.int k a, .int _ b] => some (.int k (if b < a then b else a))
    | _, _, _ => none
  | _ => none
/-- What an operation that makes or writes memory answers. -/
def writeEv (P : Program) (op : Op) (ρ : Operand → Value) (h : CH) : Option (Value × CH) :=
  match op with
  | .alloc e => match zeroOf P e with
    | some z => match af z && vr z with
      | true => match h.new z.cells.toList e 0 with
        | some h' => some (.pointer (some ⟨h.n, 0, none⟩), h')
        | none => none
      | false => none
    | none => none
  | .box e x => match vr (ρ x) with
    | true => match h.new (ρ x).cells.toList e 0 with
      | some h' => some (.pointer (some ⟨h.n, 0, none⟩), h')
      | none => none
    | false => none
  | .buildSlice t len parts => match elemOf P t with
    | some e => match szOf P e, zeroOf P e, partsL ρ parts.toList with
      | some size, some z, some ps => match af z && vr z && Nat.beq z.cells.toList.length size && Nat.ble (len * size + len) 10000 with
        | true => match fillE size (repL z.cells.toList len) ps with
          | some l => match h.new l e size with
            | some h' => some (.slice (some ⟨h.n, 0, none⟩) len len, h')
            | none => none
          | none => none
        | false => none
      | _, _, _ => none
    | none => none
  | .store t a x => match ρ a with
    | .pointer (some ⟨b, o, none⟩) => match szOf P t, vr (ρ x) with
      | some n, true => match Nat.beq n (ρ x).cells.toList.length with
        | true => match h.storeL b o (ρ x).cells.toList with
          | some h => some (undef, h)
          | none => none
        | false => none
      | _, _ => none
    | _ => none
  | .makeSlice t l c => match elemOf P t, natOf (ρ l), natOf (ρ c) with
    | some e, some l, some c => match szOf P e, zeroOf P e, (P.info? e).map (·.bytes) with
      | some size, some z, some bytes => match af z && vr z && Nat.beq z.cells.toList.length size && Nat.ble l c && Nat.ble c 10000 && Nat.ble bytes 10000 with
        | true => match h.new (repL z.cells.toList c) e size with
          | some h' => some (.slice (some ⟨h.n, 0, none⟩) l c, h')
          | none => none
        | false => none
      | _, _, _ => none
    | _, _, _ => none
  | .call { callee := .builtin b, args, argTypes } => match b, argTypes.toList, opvL ρ args.toList with
    | .append, [st, xt], [s, x] => appendV P h st xt s x
    | .clear, [t], [.slice a n _] => match elemOf P t with
      | some e => match a, zeroOf P e with
        | none, _ => some (.tuple #[], h)
        | some ⟨b, o, none⟩, some z => match af z && vr z with
          | true => match h.storeL b o (repL z.cells.toList n) with
            | some h => some (.tuple #[], h)
            | none => none
          | false => none
        | _, _ => none
      | none => none
    | .copy, [dt, _], [.slice a n _, x] => match elemOf P dt, lenV x with
      | some e, some k => match szOf P e with
        | some size => match srcCells h size (Nat.min k n) x with
          | some l => match a with
            | none => some (.int .i64 (.ofNat (Nat.min k n)), h)
            | some ⟨b, o, none⟩ => match h.storeL b o l with
              | some h => some (.int .i64 (.ofNat (Nat.min k n)), h)
              | none => none
            | _ => none
          | none => none
        | none => none
      | _, _ => none
    | _, _, _ => none
  | _ => none
/-- Which function an operation calls, with what. -/
def callOf (op : Op) (ρ : Operand → Value) : Option (FuncId × List Value) :=
  match op with
  | .call { callee := .value f, args, .. } => match ρ f with
    | .func (.func f) ⟨first⟩ ⟨cap⟩ => some (f, first ++ opvL ρ args.toList ++ cap)
    | _ => none
  | _ => none
inductive Knd where
  | r | w | c
def kindOf : Op → Knd
  | .alloc _ | .box .. | .buildSlice .. | .store .. | .makeSlice .. => .w
  | .call { callee := .value _, .. } => .c
  | .call { callee := .builtin .append, .. } | .call { callee := .builtin .clear, .. } | .call { callee := .builtin .copy, .. } => .w
  | _ => .r
/-- Is an operation wanted? -/
def wantedC (o : Oper) (ops : Array Oper) (ts : T Value) : Option Bool :=
  match o.guard with
  | none => some true
  | some (j, want) => match (ops.toList[j]?).bind (·.dst) with
    | none => some false
    | some d => match (ts.get d).getD undef with
      | .bool b => some (b == want)
      | .chan _ => none
      | _ => some false
def putC (N : Nat) (ts : T Value) (d : Option Tmp) (v : Value) : Option (T Value) :=
  match d with
  | none => some ts
  | some d => match Nat.blt d N with
    | true => vf v fun v => T.set (some v) 40 ts d
    | false => none
inductive Way where
  | normal
  | exit (id : Nat)
  | ret
abbrev Call' := FuncId → List Value → CH → Option (Value × CH)
/-- The block that a value points into. -/
def maskV : Value → Nat
  | .pointer (some ⟨b, _, _⟩) => 2 ^ b
  | .slice (some ⟨b, _, _⟩) _ _ => 2 ^ b
  | _ => 0
def maskL (ρ : Operand → Value) : List Operand → Nat
  | [] => 0
  | x :: xs => maskV (ρ x) ||| maskL ρ xs
/-- The blocks that an operation looks at. -/
def touch (op : Op) (ρ : Operand → Value) : Nat :=
  match op with
  | .load _ a => maskV (ρ a)
  | .convert _ _ x => maskV (ρ x)
  | .slice _ x _ _ _ => maskV (ρ x)
  | .binOp _ _ x y _ => maskV (ρ x) ||| maskV (ρ y)
  | .call { callee := .builtin .append, args, .. } => maskL ρ args.toList
  | .call { callee := .builtin .copy, args, .. } => maskL ρ args.toList
  | _ => 0
def CH.look (h : CH) (k : Nat) : CH := ⟨h.t, h.n, h.rd ||| k, h.wr⟩
/-- One operation. -/
def stepEv (P : Program) (call : Call') (ops : Array Oper) (o : Oper) (ts : T Value) (h : CH) : Option (Value × CH) :=
  match wantedC o ops ts with
  | none => none
  | some false => some (undef, h)
  | some true => match kindOf o.op with
    | .r => match readEv P o.op (opv ts) h with
      | some v => some (v, h.look (touch o.op (opv ts)))
      | none => none
    | .w => writeEv P o.op (opv ts) (h.look (touch o.op (opv ts)))
    | .c => match callOf o.op (opv ts) with
      | some (f, args) => call f args h
      | none => none
/-- The operations of a region, one behind the other. -/
def opsEv (P : Program) (call : Call') (N : Nat) (ops : Array Oper) : List Oper → T Value → CH → Option (T Value × CH)
  | [], ts, h => some (ts, h)
  | o :: rest, ts, h => match stepEv P call ops o ts h with
    | some (v, h) => match putC N ts o.dst v with
      | some ts => opsEv P call N ops rest ts h
      | none => none
    | none => none
/-- Does operation j wait for operation i? -/
def waits (ops : Array Oper) : Nat → Nat → Nat → Bool
  | 0, _, _ => false
  | k + 1, j, i => match ops.toList[j]? with
    | none => false
    | some o => o.after.toList.any fun e => Region.binds .any e && (Nat.beq e.on i || waits ops k e.on i)
/-- What an operation of a region whose order is open has to do with those ahead of it (a number, what it looked at, what it wrote): nothing, or it waits for them. -/
def apartAll (ops : Array Oper) (j rd wr : Nat) : List (Nat × Nat × Nat) → Bool
  | [] => true
  | (i, rd', wr') :: l => match (Nat.beq (wr' &&& (rd ||| wr)) 0 && Nat.beq (rd' &&& wr) 0) || waits ops ops.size j i with
    | true => apartAll ops j rd wr l
    | false => false
def opsD (P : Program) (call : Call') (N : Nat) (ops : Array Oper) : Nat → List (Nat × Nat × Nat) → List Oper → T Value → CH → Option (T Value × CH)
  | _, _, [], ts, h => some (ts, h)
  | j, before, o :: rest, ts, h => match stepEv P call ops o ts ⟨h.t, h.n, 0, 0⟩ with
    | some (v, h') => match apartAll ops j h'.rd h'.wr before with
      | true => match putC N ts o.dst v with
        | some ts => opsD P call N ops (j + 1) ((j, h'.rd, h'.wr) :: before) rest ts ⟨h'.t, h'.n, h.rd ||| h'.rd, h.wr ||| h'.wr⟩
        | none => none
      | false => none
    | none => none
def codeEv (P : Program) (call : Call') (N : Nat) : Nat → Code → T Value → CH → Option (Way × T Value × CH)
  | 0, _, _, _ => none
  | k + 1, c, ts, h => match c with
    | .skip => some (.normal, ts, h)
    | .region _ ops false => match opsEv P call N ops ops.toList ts h with
      | some (ts, h) => some (.normal, ts, h)
      | none => none
    | .region _ ops true => match Region.lexB .any ops with
      | true => match opsD P call N ops 0 [] ops.toList ts h with
        | some (ts, h) => some (.normal, ts, h)
        | none => none
      | false => none
    | .seq a b => match codeEv P call N k a ts h with
      | some (.normal, ts, h) => codeEv P call N k b ts h
      | r => r
    | .cond x a b => match opv ts x with
      | .bool true => codeEv P call N k a ts h
      | .bool false => codeEv P call N k b ts h
      | _ => none
    | .block id c => match codeEv P call N k c ts h with
      | some (.exit j, ts, h) => match Nat.beq j id with
        | true => some (.normal, ts, h)
        | false => some (.exit j, ts, h)
      | r => r
    | .loop c => match codeEv P call N k c ts h with
      | some (.normal, ts, h) => codeEv P call N k (.loop c) ts h
      | r => r
    | .exit id => some (.exit id, ts, h)
    | .ret => some (.ret, ts, h)
    | _ => none
def putArgs : List Value → Nat → T Value → Option (T Value)
  | [], _, ts => some ts
  | v :: vs, i, ts => match T.set (some v) 40 ts i with
    | some ts => putArgs vs (i + 1) ts
    | none => none
def resV (P : Program) (ts : T Value) (h : CH) : ResultVar → Option Value
  | .tmp t => ts.get t
  | .cell a t => match ts.get a with
    | some (.pointer (some ⟨b, o, none⟩)) => loadV P h t b o
    | _ => none
/-- What the results' cells look at. -/
def resT (ts : T Value) : List ResultVar → Nat
  | [] => 0
  | .tmp _ :: rs => resT ts rs
  | .cell a _ :: rs => maskV ((ts.get a).getD undef) ||| resT ts rs
def resVs (P : Program) (ts : T Value) (h : CH) : List ResultVar → Option (List Value)
  | [] => some []
  | r :: rs => match resV P ts h r, resVs P ts h rs with
    | some v, some vs => some (v :: vs)
    | _, _ => none
def one? : List Value → Option Value
  | [v] => some v
  | vs => match vs.all vr with
    | true => some (.tuple ⟨vs⟩)
    | false => none
abbrev Ext := Call'
/-- A call. E: calls that others answer. -/
def callEv (P : Program) (E : Ext) : Nat → FuncId → List Value → CH → Option (Value × CH)
  | 0, _, _, _ => none
  | k + 1, f, args, h => match E f args h with
    | some r => some r
    | none => match P.funcs[f]? with
      | none => none
      | some fn => match fn.body with
        | none => none
        | some c => match Nat.ble args.length fn.ntmps with
          | false => none
          | true => match putArgs args 0 .nil with
            | none => none
            | some ts => match codeEv P (callEv P E k) fn.ntmps (k + 1) c ts h with
              | some (.exit _, _, _) => none
              | some (_, ts, h) => match resVs P ts h fn.results.toList with
                | some vs => match one? vs with
                  | some v => some (v, h.look (resT ts fn.results.toList))
                  | none => none
                | none => none
              | none => none
end Go.Proofs.YtjhemobplcelbaaGreatDoor.V
