/- A machine of our own over the given program's code: runs it in the order of its text, with blocks that have numbers of their own. (Definitions.) -/
import Derived.Calls
import Derived.Orders
import Derived.LoopN
import Derived.Below
import Derived.Laws.Sem
import Derived.Laws.Cells
namespace Go.Proofs.Ytffokmamcempgaa.AM
open Go
set_option linter.unusedVariables false

/-! a table with numbers for keys -/
inductive Tr (α : Type) where
  | nil
  | node (l : Tr α) (v : Option α) (r : Tr α)
def Tr.get {α : Type} : Tr α → Nat → Option α
  | .nil, _ => none
  | .node _ v _, 0 => v
  | .node l _ r, n + 1 => match n % 2 with
    | 0 => l.get (n / 2)
    | _ + 1 => r.get (n / 2)
def Tr.put {α : Type} : Nat → Tr α → Nat → Option α → Tr α
  | 0, t, _, _ => t
  | f + 1, .nil, 0, x => .node .nil x .nil
  | f + 1, .node l _ r, 0, x => .node l x r
  | f + 1, .nil, n + 1, x => match n % 2 with
    | 0 => .node (Tr.put f .nil (n / 2) x) none .nil
    | _ + 1 => .node .nil none (Tr.put f .nil (n / 2) x)
  | f + 1, .node l v r, n + 1, x => match n % 2 with
    | 0 => .node (Tr.put f l (n / 2) x) v r
    | _ + 1 => .node l v (Tr.put f r (n / 2) x)
def Tr.set {α : Type} (t : Tr α) (n : Nat) (x : α) : Tr α := Tr.put (n + 1) t n (some x)
def Tr.del {α : Type} (t : Tr α) (n : Nat) : Tr α := Tr.put (n + 1) t n none

/-! values without addresses -/
def plainV : Nat → Value → Bool
  | _, .bool _ => true
  | _, .int _ _ => true
  | _, .float _ _ => true
  | _, .complex _ _ _ => true
  | _, .string _ => true
  | _, .pointer none => true
  | _, .map none => true
  | _, .chan none => true
  | _, .nilFunc => true
  | _, .nilIface => true
  | _, .slice none 0 0 => true
  | n + 1, .iface _ v => plainV n v
  | n + 1, .agg cs => cs.toList.all (plainV n)
  | n + 1, .tuple cs => cs.toList.all (plainV n)
  | n + 1, .func _ a b => a.toList.all (plainV n) && b.toList.all (plainV n)
  | _, _ => false

/-! blocks -/
inductive Blk where
  | cells (own : Bool) (elem : TypeId) (cs : List Value)
  | map (es : List MapEntry) (clock : Nat)
  | iter (s : ByteArray) (pos : Nat)
/-- wl: the blocks that were written or given up, the last one first. -/
structure Heap where
  t : Tr Blk
  next : Nat
  wl : List Nat
def Heap.get (H : Heap) (b : Nat) : Option Blk := H.t.get b
def Heap.new (H : Heap) (B : Blk) : Heap := ⟨H.t.set H.next B, H.next + 1, H.wl⟩
def Heap.upd (H : Heap) (b : Nat) (B : Blk) : Heap := ⟨H.t.set b B, H.next, b :: H.wl⟩
def Heap.kill (H : Heap) (b : Nat) : Heap := ⟨H.t.del b, H.next, b :: H.wl⟩
/-- A capacity that is not known. -/
def U : Nat := 18446744073709551616

/-! code -/
inductive Arg where
  | t (n : Nat)
  | c (v : Value)
def Arg.ev (T : Tr Value) : Arg → Value
  | .t n => (T.get n).getD undef
  | .c v => v
/-- Kinds of types that have a nil. -/
inductive NilK where
  | p
  | s
  | m
  | f
/-- Kinds of keys. -/
inductive KeyK where
  | s
  | i
  | o
/-- What has a length. -/
inductive LenK where
  | str
  | row
  | map
inductive AOp where
  | move (x : Arg)
  | pick (c a b : Arg)
  | new (e : TypeId) (zs : List Value)
  | box (e : TypeId) (x : Arg)
  | build (zs : List Value) (parts : List (Nat × Nat × Arg))
  | buildSlice (e : TypeId) (len : Nat) (zs : List Value) (parts : List (Nat × Nat × Arg))
  | load (n : Option Nat) (x : Arg)
  | store (n : Nat) (x v : Arg)
  | nilCheck (x : Arg)
  | bin (op : BinOp) (t : TypeId) (lit : Bool) (x y : Arg)
  | eqNil (k : NilK) (neg : Bool) (x y : Arg)
  | un (op : UnOp) (x : Arg)
  | convI (k : IntKind) (x : Arg)
  | convS (x : Arg)
  | bytes (e : TypeId) (x : Arg)
  | str (x : Arg)
  | mark (x : Arg)
  | iface (t : TypeId) (x : Arg)
  | func (fn : Fn) (first cap : List Arg)
  | makeMap
  | makeSlice (e : TypeId) (size bytes : Nat) (zs : List Value) (len cap : Arg)
  | cutS (x : Arg) (lo hi : Option Arg)
  | cut (e : TypeId) (size : Nat) (x : Arg) (lo hi mx : Option Arg)
  | fieldAddr (off : Nat) (x : Arg)
  | field (n : Option Nat) (off : Nat) (x : Arg)
  | indexAddr (size : Nat) (x i : Arg)
  | arrAddr (len size : Nat) (x i : Arg)
  | indexA (len : Nat) (n : Option Nat) (size : Nat) (x i : Arg)
  | indexS (x i : Arg)
  | lookup (q : KeyK) (k : TypeId) (zero : Value) (ok : Bool) (x i : Arg)
  | mapSet (q : KeyK) (k : TypeId) (m i v : Arg)
  | rangeS (x : Arg)
  | next (it : Arg)
  | assertT (t : TypeId) (zero : Value) (ok : Bool) (x : Arg)
  | extract (x : Arg) (i : Nat)
  | call (f : Arg) (args : List Arg)
  | append (e : TypeId) (size bytes : Nat) (zs : List Value) (zeros : Bool) (s x : Arg)
  | len (k : LenK) (x : Arg)
  | cap (x : Arg)
  | copy (size : Nat) (d s : Arg)
  | delete (q : KeyK) (k : TypeId) (m i : Arg)
  | mnmx (mx : Bool) (xs : List Arg)
structure AOper where
  dst : Option Nat
  guard : Option (Nat × Bool)
  fp : Bool
  op : AOp
inductive ACode where
  | skip
  | ops (l : List AOper)
  | draw (l : List AOper)
  | seq (a b : ACode)
  | cond (c : Arg) (x y : ACode)
  | block (id : Nat) (b : ACode)
  | loop (b : ACode)
  | scope (b : ACode)
  | exit (id : Nat)
  | ret
inductive ARes where
  | t (n : Nat)
  | cell (a : Nat) (n : Option Nat)
structure AFunc where
  ntmps : Nat
  results : List ARes
  body : ACode
inductive AExit where
  | normal
  | exit (id : Nat)
  | ret

/-! runs of what only reckons -/
def pr {α : Type} (P : Program) : Sem α → Option α
  | .pure a => some a
  | .program k => pr P (k P)
  | _ => none
def cellL : Value → List Value
  | .agg cs => cs.toList
  | v => [v]
def scalar : Value → Bool
  | .agg _ => false
  | .tuple _ => false
  | _ => true
def lcut (off n : Nat) (cs : List Value) : Option (List Value) :=
  let r := (cs.drop off).take n
  match Nat.beq r.length n with | true => some r | false => none
def splice (cs : List Value) (off : Nat) (vs : List Value) : Option (List Value) :=
  match Nat.ble (off + vs.length) cs.length with
  | true => some (cs.take off ++ vs ++ cs.drop (off + vs.length))
  | false => none
def partOf (n : Option Nat) (off : Nat) (cs : List Value) : Option Value :=
  match n with
  | none => cs[off]?
  | some n => (lcut off n cs).map fun r => .agg ⟨r⟩
def fillL (T : Tr Value) : List Value → List (Nat × Nat × Arg) → Option (List Value)
  | cs, [] => some cs
  | cs, (off, n, x) :: l =>
    let v := cellL (x.ev T)
    match Nat.beq v.length n with
    | true => (splice cs off v).bind fun cs => fillL T cs l
    | false => none
def fillV : List Value → List (Nat × Nat × Value) → Option (List Value)
  | cs, [] => some cs
  | cs, (off, n, x) :: l =>
    let v := cellL x
    match Nat.beq v.length n with
    | true => (splice cs off v).bind fun cs => fillV cs l
    | false => none
def natOf : Value → Option Nat
  | .int _ (.ofNat n) => some n
  | _ => none
def optNat (T : Tr Value) : Option Arg → Option (Option Nat)
  | none => some none
  | some x => (natOf (x.ev T)).map some
def isNil : NilK → Value → Option Bool
  | .p, .pointer a => some a.isNone
  | .s, .slice a _ _ => some a.isNone
  | .m, .map r => some r.isNone
  | .f, .nilFunc => some true
  | .f, .func .. => some false
  | _, _ => none
/-! whole numbers: the quick ways -/
def maxN : IntKind → Nat
  | .i8 => 127
  | .i16 => 32767
  | .i32 => 2147483647
  | .i64 => 9223372036854775807
  | .u8 => 255
  | .u16 => 65535
  | .u32 => 4294967295
  | .u64 => 18446744073709551615
def bitsN : IntKind → Nat
  | .i8 => 8
  | .i16 => 16
  | .i32 => 32
  | .i64 => 64
  | .u8 => 8
  | .u16 => 16
  | .u32 => 32
  | .u64 => 64
def kindB : IntKind → IntKind → Bool
  | .i64, .i64 => true
  | .i32, .i32 => true
  | .u8, .u8 => true
  | .u32, .u32 => true
  | .u64, .u64 => true
  | .i8, .i8 => true
  | .i16, .i16 => true
  | .u16, .u16 => true
  | _, _ => false
/-- A sum within bounds, or nothing. -/
def small (k : IntKind) (n : Nat) : Option Value := match Nat.ble n (maxN k) with | true => some (.int k (.ofNat n)) | false => none
def both (k : IntKind) (a b n : Nat) : Option Value := match Nat.ble a (maxN k), Nat.ble b (maxN k) with
  | true, true => some (.int k (.ofNat n))
  | _, _ => none
def subN (k : IntKind) (a b : Nat) : Option Value := match Nat.ble b a with | true => small k (a - b) | false => none
def quoN (k : IntKind) (a b : Nat) : Option Value := match b with | 0 => none | c + 1 => small k (a / (c + 1))
def remN (k : IntKind) (a b : Nat) : Option Value := match b with | 0 => none | c + 1 => some (.int k (.ofNat (a % (c + 1))))
def bin1 (op : BinOp) (k : IntKind) (a b : Nat) : Option Value := match op with
  | .add => small k (a + b)
  | .sub => subN k a b
  | .mul => small k (a * b)
  | .quo => quoN k a b
  | .rem => remN k a b
  | .and => both k a b (Nat.land a b)
  | .or => both k a b (Nat.lor a b)
  | .xor => both k a b (Nat.xor a b)
  | .eql => some (.bool (Nat.beq a b))
  | .neq => some (.bool (!Nat.beq a b))
  | .lss => some (.bool (Nat.blt a b))
  | .leq => some (.bool (Nat.ble a b))
  | .gtr => some (.bool (Nat.blt b a))
  | .geq => some (.bool (Nat.ble b a))
  | _ => none
def shN (op : BinOp) (k : IntKind) (a n : Nat) : Option Value := match op with
  | .shl => match Nat.ble n (bitsN k) with | true => small k (a * 2 ^ n) | false => none
  | .shr => match Nat.ble n (bitsN k) with | true => some (.int k (.ofNat (a / 2 ^ n))) | false => none
  | _ => none
def isShift : BinOp → Bool
  | .shl => true
  | .shr => true
  | _ => false
def slow (P : Program) (op : BinOp) (t : TypeId) (x y : Value) : Option Value :=
  match plainV 8 x, plainV 8 y with
  | true, true => (pr P (binOp op t x y)).bind fun v => match plainV 1 v with | true => some v | false => none
  | _, _ => none
def orSlow (P : Program) (op : BinOp) (t : TypeId) (x y : Value) : Option Value → Option Value
  | some v => some v
  | none => slow P op t x y
def binNN (P : Program) (op : BinOp) (t : TypeId) (k k' : IntKind) (a b : Nat) : Option Value :=
  match isShift op with
  | true => orSlow P op t (.int k (.ofNat a)) (.int k' (.ofNat b)) (shN op k a b)
  | false => match kindB k k' with
    | true => orSlow P op t (.int k (.ofNat a)) (.int k' (.ofNat b)) (bin1 op k a b)
    | false => none
def binII (P : Program) (op : BinOp) (t : TypeId) (k k' : IntKind) : Int → Int → Option Value
  | .ofNat a, .ofNat b => binNN P op t k k' a b
  | a, b => slow P op t (.int k a) (.int k' b)
def eqGuardB (P : Program) (t : TypeId) (lit : Bool) (a b : Value) : Bool :=
  match a, b with
  | .nilIface, .nilIface => lit
  | .agg _, .agg _ => match pr P (do if !(← program).eqGuardType (← program).depth t then pure false else Op.eqGuardIn Op.maxDepth t a b) with
    | some false => true
    | _ => false
  | _, _ => true
def eqGuardV (P : Program) (op : BinOp) (t : TypeId) (lit : Bool) (a b : Value) : Bool :=
  match op with
  | .eql => eqGuardB P t lit a b
  | .neq => eqGuardB P t lit a b
  | _ => true
def oBin (P : Program) (op : BinOp) (t : TypeId) (lit : Bool) (x y : Value) : Option Value :=
  match x, y with
  | .int k a, .int k' b => binII P op t k k' a b
  | x, y => match eqGuardV P op t lit x y with
    | true => slow P op t x y
    | false => none
/-! what reckons only -/
def oPick : Value → Value → Value → Option Value
  | .bool true, a, _ => some a
  | .bool false, _, b => some b
  | _, _, _ => none
def oBuild (T : Tr Value) (zs : List Value) (parts : List (Nat × Nat × Arg)) : Option Value := (fillL T zs parts).map fun cs => .agg ⟨cs⟩
def oNilCheck : Value → Option Value
  | .pointer (some a) => some (.pointer (some a))
  | _ => none
def eqNilGo (neg : Bool) : Option Bool → Option Bool → Option Value
  | some true, some q => some (.bool (neg != q))
  | some false, some true => some (.bool (neg != false))
  | _, _ => none
def oEqNil (k : NilK) (neg : Bool) (a b : Value) : Option Value := eqNilGo neg (isNil k a) (isNil k b)
def oUn (P : Program) (op : UnOp) (x : Value) : Option Value := match plainV 8 x with
  | true => (pr P (Op.unary op x)).bind fun v => match plainV 1 v with | true => some v | false => none
  | false => none
def convN (k : IntKind) (n : Int) : Value := match n with
  | .ofNat m => match Nat.ble m (maxN k) with
    | true => .int k (.ofNat m)
    | false => .int k (k.wrap n)
  | n => .int k (k.wrap n)
def oConvI (k : IntKind) : Value → Option Value
  | .int _ n => some (convN k n)
  | _ => none
def oConvS : Value → Option Value
  | .int _ n => some (.string (Utf8.encode n))
  | .string s => some (.string s)
  | _ => none
def oFunc (T : Tr Value) (fn : Fn) (first cap : List Arg) : Option Value := some (.func fn ⟨first.map (·.ev T)⟩ ⟨cap.map (·.ev T)⟩)
def oCutS (x : Value) (lo hi : Option (Option Nat)) : Option Value :=
  match x, lo, hi with
  | .string s, some lo, some hi =>
    match Nat.ble (hi.getD s.size) s.size, Nat.ble (lo.getD 0) (hi.getD s.size) with
    | true, true => some (.string (s.extract (lo.getD 0) (hi.getD s.size)))
    | _, _ => none
  | _, _, _ => none
def cutGo (size : Nat) (a : Option Addr) (len c l h m : Nat) (open_ : Bool) : Option Value :=
  match Nat.ble m c, Nat.ble h m, Nat.ble l h with
  | true, true, true => match open_ with
    | true => some (.slice (a.map (·.add (l * size))) (h - l) U)
    | false => some (.slice (match Nat.beq m l with | true => a | false => a.map (·.add (l * size))) (h - l) (m - l))
  | _, _, _ => none
def oCut (size : Nat) (x : Value) (lo hi mx : Option (Option Nat)) : Option Value :=
  match x, lo, hi, mx with
  | .slice a len cap, some lo, some hi, some mx => match Nat.beq cap U with
    | true => cutGo size a len len (lo.getD 0) (hi.getD len) (mx.getD len) mx.isNone
    | false => cutGo size a len cap (lo.getD 0) (hi.getD len) (mx.getD cap) false
  | _, _, _, _ => none
def oFieldAddr (off : Nat) : Value → Option Value
  | .pointer (some a) => some (.pointer (some (a.add off)))
  | _ => none
def oField (n : Option Nat) (off : Nat) : Value → Option Value
  | .agg cs => partOf n off cs.toList
  | _ => none
def oIndexAddr (size : Nat) (x : Value) (i : Option Nat) : Option Value :=
  match x, i with
  | .slice (some a) len _, some i => match Nat.blt i len with
    | true => some (.pointer (some (a.add (i * size))))
    | false => none
  | _, _ => none
def oArrAddr (len size : Nat) (x : Value) (i : Option Nat) : Option Value :=
  match x, i with
  | .pointer (some a), some i => match Nat.blt i len with
    | true => some (.pointer (some (a.add (i * size))))
    | false => none
  | _, _ => none
def oIndexA (len : Nat) (n : Option Nat) (size : Nat) (x : Value) (i : Option Nat) : Option Value :=
  match x, i with
  | .agg cs, some i => match Nat.blt i len with
    | true => partOf n (i * size) cs.toList
    | false => none
  | _, _ => none
def oIndexS (x : Value) (i : Option Nat) : Option Value :=
  match x, i with
  | .string s, some i => (s.data.toList[i]?).map fun b => .int .u8 b.toNat
  | _, _ => none
def oAssertT (t : TypeId) (zero : Value) (ok : Bool) : Value → Option Value
  | .iface u v => match Nat.beq t u, ok with
    | true, true => some (.tuple #[v, .bool true])
    | true, false => some v
    | false, true => some (.tuple #[zero, .bool false])
    | false, false => none
  | .nilIface => match ok with
    | true => some (.tuple #[zero, .bool false])
    | false => none
  | _ => none
def oExtract (i : Nat) : Value → Option Value
  | .tuple vs => vs.toList[i]?
  | _ => none
def oCap : Value → Option Value
  | .slice _ _ c => match Nat.beq c U with
    | true => none
    | false => some (.int .i64 c)
  | _ => none
def mnmxGo (mx : Bool) (k : IntKind) : Int → List Value → Option Value
  | a, [] => some (.int k a)
  | a, .int _ b :: l => mnmxGo mx k (match mx with | true => if b > a then b else a | false => if b < a then b else a) l
  | _, _ => none
def mnmxV (mx : Bool) : List Value → Option Value
  | .int k a :: l => mnmxGo mx k a l
  | _ => none
/-! runs over memory -/
/-- Equal bytes. -/
def eqL : List UInt8 → List UInt8 → Bool
  | [], [] => true
  | a :: x, b :: y => match Nat.beq a.toNat b.toNat with
    | true => eqL x y
    | false => false
  | _, _ => false
def eqI : Int → Int → Bool
  | .ofNat a, .ofNat b => Nat.beq a b
  | .negSucc a, .negSucc b => Nat.beq a b
  | _, _ => false
def findS (s : List UInt8) : List MapEntry → Nat → Option (Option Nat)
  | [], _ => some none
  | e :: es, i => match e.key with
    | .string u => match eqL s u.data.toList with
      | true => some (some i)
      | false => findS s es (i + 1)
    | _ => none
def findI (k : IntKind) (n : Int) : List MapEntry → Nat → Option (Option Nat)
  | [], _ => some none
  | e :: es, i => match e.key with
    | .int k' m => match kindB k k', eqI n m with
      | true, true => some (some i)
      | true, false => findI k n es (i + 1)
      | _, _ => none
    | _ => none
/-- Where a key stands in a map. -/
def findE (P : Program) (q : KeyK) (k : TypeId) (key : Value) (es : List MapEntry) : Option (Option Nat) :=
  match q, key with
  | .s, .string s => findS s.data.toList es 0
  | .i, .int k n => findI k n es 0
  | .o, key => match plainV 8 key with
    | true => (pr P (do Instr.checkKey true 10000 k key; Instr.checkKey false 10000 k key; Instr.findKey k key es)).map fun r => r.map (·.1)
    | false => none
  | _, _ => none
def bytesOf : List Value → Option (List UInt8)
  | [] => some []
  | .int .u8 n :: l => (bytesOf l).map (UInt8.ofNat n.toNat :: ·)
  | _ => none
def byteCells (l : List UInt8) : List Value := l.map fun b => .int .u8 b.toNat
def room : Nat := 70368744177664
/-- The cells that an append puts behind. -/
def newCells (T : Tr Value) (H : Heap) (size : Nat) (zs : List Value) : (zeros : Bool) → Value → Option (Nat × List Value)
  | true, .int _ (.ofNat n) => match Nat.ble n room with | true => some (n, (List.replicate n zs).flatten) | false => none
  | false, .string s => match Nat.beq size 1 with | true => some (s.size, byteCells s.data.toList) | false => none
  | false, .slice none 0 0 => some (0, [])
  | false, .slice (some ⟨b, off, none⟩) n _ => match H.get b with
    | some (.cells _ _ cs) => (lcut off (n * size) cs).map fun r => (n, r)
    | _ => none
  | _, _ => none
def up (H : Heap) : Option Value → Option (Value × Heap)
  | some v => some (v, H)
  | none => none
/-- A cut of a row whose elements are of the type. -/
def oCutH (H : Heap) (e : TypeId) (x : Value) (r : Option Value) : Option (Value × Heap) := match x with
  | .slice (some a) _ _ => match H.get a.block with
    | some (.cells _ e' _) => match Nat.beq e e' with
      | true => up H r
      | false => none
    | _ => none
  | _ => up H r
def fresh (H : Heap) (e : TypeId) (cs : List Value) : Option (Value × Heap) := some (.pointer (some ⟨H.next, 0, none⟩), H.new (.cells true e cs))
def freshRow (H : Heap) (e : TypeId) (n c : Nat) (cs : List Value) : Option (Value × Heap) := some (.slice (some ⟨H.next, 0, none⟩) n c, H.new (.cells true e cs))
def fits (n bytes : Nat) : Bool := match Nat.ble (n * bytes) room with
  | true => Nat.ble n room
  | false => false
/-- An append where the capacity is not known: the old row is given up. -/
def appU (H : Heap) (e : TypeId) (size : Nat) (own : Bool) (b off len : Nat) (cs : List Value) (n : Nat) (new : List Value) : Option (Value × Heap) := match n with
  | 0 => some (.slice (some ⟨b, off, none⟩) len U, H)
  | _ + 1 => match own, lcut off (len * size) cs with
    | true, some old => freshRow (H.kill b) e (len + n) U (old ++ new)
    | _, _ => none
/-- An append where it is known. -/
def appX (H : Heap) (e : TypeId) (size : Nat) (own : Bool) (b off len cap : Nat) (cs : List Value) (n : Nat) (new : List Value) : Option (Value × Heap) := match Nat.ble (len + n) cap with
  | true => match n with
    | 0 => some (.slice (some ⟨b, off, none⟩) len cap, H)
    | _ + 1 => match own, splice cs (off + len * size) new with
      | true, some cs => some (.slice (some ⟨b, off, none⟩) (len + n) cap, H.upd b (.cells true e cs))
      | _, _ => none
  | false => match lcut off (len * size) cs with
    | some old => freshRow H e (len + n) U (old ++ new)
    | none => none
def appendTo (H : Heap) (e : TypeId) (size bytes : Nat) (s : Value) (n : Nat) (new : List Value) : Option (Value × Heap) :=
  match s with
  | .slice none 0 0 => match n with
    | 0 => some (.slice none 0 0, H)
    | _ + 1 => match fits n bytes with
      | true => freshRow H e n U new
      | false => none
  | .slice (some ⟨b, off, none⟩) len cap =>
    match H.get b with
    | some (.cells own e' cs) => match Nat.beq e e', fits (len + n) bytes with
      | true, true => match Nat.beq cap U with
        | true => appU H e size own b off len cs n new
        | false => appX H e size own b off len cap cs n new
      | _, _ => none
    | _ => none
  | _ => none
def oBuildSlice (T : Tr Value) (H : Heap) (e : TypeId) (len : Nat) (zs : List Value) (parts : List (Nat × Nat × Arg)) : Option (Value × Heap) :=
  (fillL T zs parts).bind fun cs => freshRow H e len len cs
def oLoad (H : Heap) (n : Option Nat) : Value → Option (Value × Heap)
  | .pointer (some ⟨b, off, none⟩) => match H.get b with
    | some (.cells _ _ cs) => up H (partOf n off cs)
    | _ => none
  | _ => none
def oStore (H : Heap) (n : Nat) (x v : Value) : Option (Value × Heap) := match x with
  | .pointer (some ⟨b, off, none⟩) => match H.get b with
    | some (.cells true e cs) => match Nat.beq (cellL v).length n, (cellL v).all scalar with
      | true, true => (splice cs off (cellL v)).map fun cs => (undef, H.upd b (.cells true e cs))
      | _, _ => none
    | _ => none
  | _ => none
def oBytes (H : Heap) (e : TypeId) : Value → Option (Value × Heap)
  | .string s => match Nat.ble s.size room with
    | true => freshRow H e s.size U (byteCells s.data.toList)
    | false => none
  | _ => none
def oStr (H : Heap) : Value → Option (Value × Heap)
  | .slice none _ _ => some (.string ⟨#[]⟩, H)
  | .slice (some ⟨b, off, none⟩) n _ => match H.get b with
    | some (.cells _ _ cs) => ((lcut off n cs).bind bytesOf).map fun l => (.string ⟨⟨l⟩⟩, H)
    | _ => none
  | _ => none
def oMark (H : Heap) : Value → Option (Value × Heap)
  | .slice (some ⟨b, off, none⟩) n c => match H.get b with
    | some (.cells true e cs) => some (.slice (some ⟨b, off, none⟩) n c, H.upd b (.cells true e cs))
    | _ => none
  | _ => none
def oMakeSlice (H : Heap) (e : TypeId) (bytes : Nat) (zs : List Value) (len cap : Option Nat) : Option (Value × Heap) :=
  match len, cap with
  | some l, some c => match Nat.ble l c, Nat.ble (c * bytes) room, Nat.ble c room with
    | true, true, true => freshRow H e l c (List.replicate c zs).flatten
    | _, _, _ => none
  | _, _ => none
def giveV (H : Heap) (ok : Bool) (v : Value) (b : Bool) : Option (Value × Heap) := match ok with
  | true => some (.tuple #[v, .bool b], H)
  | false => some (v, H)
def oLookup (P : Program) (H : Heap) (q : KeyK) (k : TypeId) (zero : Value) (ok : Bool) (x i : Value) : Option (Value × Heap) := match x with
  | .map none => match findE P q k i [] with
    | some _ => giveV H ok zero false
    | none => none
  | .map (some b) => match H.get b with
    | some (.map es _) => match findE P q k i es with
      | some (some j) => match es[j]? with
        | some e => giveV H ok e.val true
        | none => none
      | some none => giveV H ok zero false
      | none => none
    | _ => none
  | _ => none
def oMapSet (P : Program) (H : Heap) (q : KeyK) (k : TypeId) (m i v : Value) : Option (Value × Heap) := match m with
  | .map (some b) => match H.get b with
    | some (.map es clock) => match findE P q k i es with
      | some (some j) => match es[j]? with
        | some e => match Instr.sameBits 10000 e.key i with
          | true => some (undef, H.upd b (.map (es.set j { e with key := i, val := v }) clock))
          | false => none
        | none => none
      | some none => some (undef, H.upd b (.map (es ++ [{ key := i, val := v, born := clock }]) (clock + 1)))
      | none => none
    | _ => none
  | _ => none
def oRangeS (H : Heap) : Value → Option (Value × Heap)
  | .string s => some (.pointer (some ⟨H.next, 0, none⟩), H.new (.iter s 0))
  | _ => none
def oNext (H : Heap) : Value → Option (Value × Heap)
  | .pointer (some ⟨b, 0, none⟩) => match H.get b with
    | some (.iter s pos) => match Nat.blt pos s.size with
      | true => some (.tuple #[.bool true, goInt pos, .int .i32 (Utf8.decode s pos).1], H.upd b (.iter s (pos + (Utf8.decode s pos).2)))
      | false => some (.tuple #[.bool false], H)
    | _ => none
  | _ => none
def oAppend (T : Tr Value) (H : Heap) (e : TypeId) (size bytes : Nat) (zs : List Value) (zeros : Bool) (s x : Value) : Option (Value × Heap) :=
  (newCells T H size zs zeros x).bind fun r => match r.2.all scalar with
    | true => appendTo H e size bytes s r.1 r.2
    | false => none
def oLen (H : Heap) : LenK → Value → Option (Value × Heap)
  | .str, .string s => some (goInt s.size, H)
  | .row, .slice _ n _ => some (goInt n, H)
  | .map, .map none => some (goInt 0, H)
  | .map, .map (some b) => match H.get b with
    | some (.map es _) => some (goInt es.length, H)
    | _ => none
  | _, _ => none
def oDelete (P : Program) (H : Heap) (q : KeyK) (k : TypeId) (m i : Value) : Option (Value × Heap) := match m with
  | .map none => match findE P q k i [] with
    | some _ => some (.tuple #[], H)
    | none => none
  | .map (some b) => match H.get b with
    | some (.map es clock) => match findE P q k i es with
      | some (some j) => some (.tuple #[], H.upd b (.map (es.eraseIdx j) clock))
      | some none => some (.tuple #[], H)
      | none => none
    | _ => none
  | _ => none

/-! runs of code -/
abbrev CallF := Nat → List Value → Heap → Option (Value × Heap)
def oCall (cf : CallF) (T : Tr Value) (H : Heap) (args : List Arg) : Value → Option (Value × Heap)
  | .func (.func g) first cap => cf g (first.toList ++ args.map (·.ev T) ++ cap.toList) H
  | _ => none
def opRun (P : Program) (cf : CallF) (T : Tr Value) (H : Heap) : AOp → Option (Value × Heap)
  | .move x => some (x.ev T, H)
  | .pick c a b => up H (oPick (c.ev T) (a.ev T) (b.ev T))
  | .build zs parts => up H (oBuild T zs parts)
  | .nilCheck x => up H (oNilCheck (x.ev T))
  | .bin op t lit x y => up H (oBin P op t lit (x.ev T) (y.ev T))
  | .eqNil k neg x y => up H (oEqNil k neg (x.ev T) (y.ev T))
  | .un op x => up H (oUn P op (x.ev T))
  | .convI k x => up H (oConvI k (x.ev T))
  | .convS x => up H (oConvS (x.ev T))
  | .iface t x => some (.iface t (x.ev T), H)
  | .func fn first cap => up H (oFunc T fn first cap)
  | .cutS x lo hi => up H (oCutS (x.ev T) (optNat T lo) (optNat T hi))
  | .cut e size x lo hi mx => oCutH H e (x.ev T) (oCut size (x.ev T) (optNat T lo) (optNat T hi) (optNat T mx))
  | .fieldAddr off x => up H (oFieldAddr off (x.ev T))
  | .field n off x => up H (oField n off (x.ev T))
  | .indexAddr size x i => up H (oIndexAddr size (x.ev T) (natOf (i.ev T)))
  | .arrAddr len size x i => up H (oArrAddr len size (x.ev T) (natOf (i.ev T)))
  | .indexA len n size x i => up H (oIndexA len n size (x.ev T) (natOf (i.ev T)))
  | .indexS x i => up H (oIndexS (x.ev T) (natOf (i.ev T)))
  | .assertT t zero ok x => up H (oAssertT t zero ok (x.ev T))
  | .extract x i => up H (oExtract i (x.ev T))
  | .cap x => up H (oCap (x.ev T))
  | .mnmx mx xs => up H (mnmxV mx (xs.map (·.ev T)))
  | .new e zs => fresh H e zs
  | .box e x => fresh H e (cellL (x.ev T))
  | .buildSlice e len zs parts => oBuildSlice T H e len zs parts
  | .load n x => oLoad H n (x.ev T)
  | .store n x v => oStore H n (x.ev T) (v.ev T)
  | .bytes e x => oBytes H e (x.ev T)
  | .str x => oStr H (x.ev T)
  | .mark x => oMark H (x.ev T)
  | .makeMap => some (.map (some H.next), H.new (.map [] 0))
  | .makeSlice e _ bytes zs len cap => oMakeSlice H e bytes zs (natOf (len.ev T)) (natOf (cap.ev T))
  | .lookup q k zero ok x i => oLookup P H q k zero ok (x.ev T) (i.ev T)
  | .mapSet q k m i v => oMapSet P H q k (m.ev T) (i.ev T) (v.ev T)
  | .rangeS x => oRangeS H (x.ev T)
  | .next it => oNext H (it.ev T)
  | .append e size bytes zs zeros s x => oAppend T H e size bytes zs zeros (s.ev T) (x.ev T)
  | .len k x => oLen H k (x.ev T)
  | .delete q k m i => oDelete P H q k (m.ev T) (i.ev T)
  | .call f args => oCall cf T H args (f.ev T)
  | .copy .. => none
def putT (T : Tr Value) (d : Option Nat) (v : Value) : Tr Value := match d with | some d => T.set d v | none => T
def wantedA (T : Tr Value) : Option (Nat × Bool) → Bool
  | none => true
  | some (d, b) => match T.get d with
    | some (.bool c) => c == b
    | _ => false
def opsRun (P : Program) (cf : CallF) : List AOper → Tr Value → Heap → Option (Tr Value × Heap)
  | [], T, H => some (T, H)
  | o :: l, T, H => match wantedA T o.guard with
    | true => match opRun P cf T H o.op with
      | some (v, H) => opsRun P cf l (putT T o.dst v) H
      | none => none
    | false => opsRun P cf l (putT T o.dst undef) H
/-- Does it act on memory (and not only look at it)? -/
def acts : AOp → Bool
  | .new .. => true
  | .box .. => true
  | .buildSlice .. => true
  | .store .. => true
  | .bytes .. => true
  | .mark _ => true
  | .makeMap => true
  | .makeSlice .. => true
  | .mapSet .. => true
  | .rangeS _ => true
  | .next _ => true
  | .append .. => true
  | .delete .. => true
  | .call .. => true
  | .copy .. => true
  | _ => false
/-- Does it look at memory only? -/
def looks : AOp → Bool
  | .cut .. => true
  | .load .. => true
  | .str _ => true
  | .lookup .. => true
  | .len .. => true
  | _ => false
def blockOf : Value → Option Nat
  | .pointer (some a) => some a.block
  | .slice (some a) _ _ => some a.block
  | .map (some b) => some b
  | _ => none
def lookBlk (T : Tr Value) : AOp → Option Nat
  | .cut _ _ x _ _ _ => blockOf (x.ev T)
  | .load _ x => blockOf (x.ev T)
  | .str x => blockOf (x.ev T)
  | .lookup _ _ _ _ x _ => blockOf (x.ev T)
  | .len _ x => blockOf (x.ev T)
  | _ => none
def has (b : Nat) : List Nat → Bool
  | [] => false
  | c :: l => match Nat.beq b c with
    | true => true
    | false => has b l
def apart (a : List Nat) : List Nat → Bool
  | [] => true
  | c :: l => match has c a with
    | true => false
    | false => apart a l
/-- May it come ahead of others, or behind them? R: blocks that were looked at; W: blocks that were written. -/
def mayMove (o : AOp) (T : Tr Value) (wl R W : List Nat) : Option (List Nat × List Nat) :=
  match acts o with
  | true => match apart R wl with
    | true => some (R, wl ++ W)
    | false => none
  | false => match lookBlk T o with
    | none => some (R, W)
    | some b => match has b W with
      | true => none
      | false => some (b :: R, W)
/-- The same, in a region that draws its order: what some may look at ahead of others or behind them these others do not write. -/
def drawRun (P : Program) (cf : CallF) : List AOper → List Nat → List Nat → Tr Value → Heap → Option (Tr Value × Heap)
  | [], _, _, T, H => some (T, H)
  | o :: l, R, W, T, H => match wantedA T o.guard with
    | true => match opRun P cf T ⟨H.t, H.next, []⟩ o.op with
      | some (v, H') => match o.fp with
        | false => drawRun P cf l R W (putT T o.dst v) ⟨H'.t, H'.next, H'.wl ++ H.wl⟩
        | true => match mayMove o.op T H'.wl R W with
          | some (R, W) => drawRun P cf l R W (putT T o.dst v) ⟨H'.t, H'.next, H'.wl ++ H.wl⟩
          | none => none
      | none => none
    | false => drawRun P cf l R W (putT T o.dst undef) H
abbrev Res := AExit × Tr Value × Heap
def iter (f : Tr Value → Heap → Option Res) : Nat → Tr Value → Heap → Option Res
  | 0, _, _ => none
  | k + 1, T, H => match f T H with
    | some (.normal, T, H) => iter f k T H
    | r => r
def exec (P : Program) (cf : CallF) (k : Nat) : ACode → Tr Value → Heap → Option Res
  | .skip, T, H => some (.normal, T, H)
  | .ops l, T, H => match opsRun P cf l T H with
    | some (T, H) => some (.normal, T, H)
    | none => none
  | .draw l, T, H => match drawRun P cf l [] [] T H with
    | some (T, H) => some (.normal, T, H)
    | none => none
  | .seq a b, T, H => match exec P cf k a T H with
    | some (.normal, T, H) => exec P cf k b T H
    | r => r
  | .cond c x y, T, H => match c.ev T with
    | .bool true => exec P cf k x T H
    | .bool false => exec P cf k y T H
    | _ => none
  | .block id b, T, H => match exec P cf k b T H with
    | some (.exit i, T, H) => match Nat.beq i id with
      | true => some (.normal, T, H)
      | false => some (.exit i, T, H)
    | r => r
  | .loop b, T, H => iter (exec P cf k b) k T H
  | .scope b, T, H => exec P cf k b T H
  | .exit id, T, H => some (.exit id, T, H)
  | .ret, T, H => some (.ret, T, H)
def argsT : Nat → List Value → Tr Value → Tr Value
  | _, [], T => T
  | i, v :: l, T => argsT (i + 1) l (T.set i v)
def resOf (T : Tr Value) (H : Heap) : List ARes → Option (List Value)
  | [] => some []
  | .t n :: l => (resOf T H l).map ((T.get n).getD undef :: ·)
  | .cell a n :: l => match (T.get a).getD undef with
    | .pointer (some ⟨b, off, none⟩) => match H.get b with
      | some (.cells _ _ cs) => (partOf n off cs).bind fun v => (resOf T H l).map (v :: ·)
      | _ => none
    | _ => none
def result (T : Tr Value) (H : Heap) (rs : List ARes) : Option Value :=
  match resOf T H rs with
  | some [v] => some v
  | some vs => some (.tuple ⟨vs⟩)
  | none => none
structure Env where
  fn : Nat → Option AFunc
  ext : Nat → Option (List Value → Heap → Option (Value × Heap))
  rounds : Nat
def callN (P : Program) (E : Env) : Nat → CallF
  | 0, _, _, _ => none
  | n + 1, f, args, H => match E.ext f with
    | some g => g args H
    | none => match E.fn f with
      | none => none
      | some fn => match Nat.ble args.length fn.ntmps with
        | true => match exec P (callN P E n) E.rounds fn.body (argsT 0 args .nil) H with
          | some (.exit _, _, _) => none
          | some (_, T, H) => (result T H fn.results).map (·, H)
          | none => none
        | false => none
end Go.Proofs.Ytffokmamcempgaa.AM

/- A machine of our own: what an operation of the given program is for it. (Definitions.) -/
namespace Go.Proofs.Ytffokmamcempgaa.AM
open Go
set_option linter.unusedVariables false

def compArg : Operand → Option Arg
  | .tmp t => some (.t t)
  | .const v => match plainV 8 v with
    | true => some (.c v)
    | false => none
  | .func f => some (.c (.func (.func f) #[] #[]))
  | .global _ => none
def compArgs : List Operand → Option (List Arg)
  | [] => some []
  | x :: l => (compArg x).bind fun y => (compArgs l).map (y :: ·)
def compOpt : Option Operand → Option (Option Arg)
  | none => some none
  | some x => (compArg x).map some
def aggD : TypeDesc → Bool
  | .struct _ => true
  | .array _ _ => true
  | _ => false
def aggN (P : Program) (t : TypeId) : Option (Option Nat) :=
  match P.underlying t, P.info? t with
  | some d, some i => some (match aggD d with | true => some i.size | false => none)
  | _, _ => none
def sizeP (P : Program) (t : TypeId) : Option Nat := (P.info? t).map (·.size)
def bytesP (P : Program) (t : TypeId) : Option Nat := (P.info? t).map (·.bytes)
def zeroP (P : Program) (t : TypeId) : Option Value :=
  match (P.info? t).bind (·.zero) with
  | some v => match plainV 8 v with
    | true => some v
    | false => none
  | none => none
def compParts (f : Nat → Option (Nat × Nat)) : List (Nat × Operand) → Option (List (Nat × Nat × Arg))
  | [] => some []
  | (i, x) :: l => match f i, compArg x, compParts f l with
    | some (off, n), some y, some r => some ((off, n, y) :: r)
    | _, _, _ => none
def fieldsP (P : Program) : List Field → Option (List (Nat × Nat))
  | [] => some []
  | f :: l => match sizeP P f.type, fieldsP P l with
    | some n, some r => some ((f.offset, n) :: r)
    | _, _ => none
def nilKind : TypeDesc → Option NilK
  | .pointer _ => some .p
  | .slice _ => some .s
  | .map _ _ => some .m
  | .func _ _ _ => some .f
  | _ => none
def dataType : TypeDesc → Bool
  | .bool => true
  | .int _ => true
  | .string => true
  | .interface _ => true
  | .struct _ => true
  | .array _ _ => true
  | _ => false
def litOp : Operand → Bool
  | .const _ => true
  | _ => false
def compBin (P : Program) (op : BinOp) (t : TypeId) (x y : Operand) : Option AOp :=
  match P.underlying t, compArg x, compArg y with
  | some d, some a, some b => match nilKind d with
    | some k => match op with
      | .eql => some (.eqNil k false a b)
      | .neq => some (.eqNil k true a b)
      | _ => none
    | none => match dataType d with
      | true => some (.bin op t (litOp x || litOp y) a b)
      | false => none
  | _, _, _ => none
def compConv (P : Program) (src dst : TypeId) (x : Operand) : Option AOp :=
  match P.underlying src, P.underlying dst, compArg x with
  | some (.int _), some (.int k), some a => some (.convI k a)
  | some (.int _), some .string, some a => some (.convS a)
  | some .string, some .string, some a => some (.convS a)
  | some .string, some (.slice e), some a => match P.underlying e, sizeP P e with
    | some (.int .u8), some 1 => some (.bytes e a)
    | _, _ => none
  | some (.slice e), some .string, some a => match P.underlying e with
    | some (.int .u8) => some (.str a)
    | _ => none
  | some (.slice _), some (.slice e), some a => match Nat.beq src dst, P.underlying e with
    | true, some (.int .u8) => some (.mark a)
    | _, _ => none
  | _, _, _ => none
def mapP (P : Program) (t : TypeId) : Option (TypeId × TypeId) :=
  match P.underlying t with
  | some (.map k e) => some (k, e)
  | _ => none
def quickKey (P : Program) (k : TypeId) : Option KeyK :=
  match P.underlying k with
  | some (.int _) => some .i
  | some .string => some .s
  | some _ => some .o
  | none => none
def sliceP (P : Program) (t : TypeId) : Option TypeId :=
  match P.underlying t with
  | some (.slice e) => some e
  | _ => none
def intD : TypeDesc → Bool
  | .int _ => true
  | _ => false
def compBuiltin (P : Program) (b : Builtin) (ts : List TypeId) (xs : List Operand) : Option AOp :=
  match b, ts, xs with
  | .append, t :: u :: _, [s, x] => match sliceP P t, compArg s, compArg x with
    | some e, some s, some x => match sizeP P e, bytesP P e, zeroP P e, P.underlying u with
      | some (n + 1), some b, some z, some d => match Nat.beq (cellL z).length (n + 1) with
        | true => some (.append e (n + 1) b (cellL z) (intD d) s x)
        | false => none
      | _, _, _, _ => none
    | _, _, _ => none
  | .len, t :: _, [x] => match P.underlying t, compArg x with
    | some .string, some x => some (.len .str x)
    | some (.slice _), some x => some (.len .row x)
    | some (.map _ _), some x => some (.len .map x)
    | _, _ => none
  | .cap, t :: _, [x] => match P.underlying t, compArg x with
    | some (.slice _), some x => some (.cap x)
    | _, _ => none
  | .delete, t :: _, [m, i] => match mapP P t, compArg m, compArg i with
    | some (k, _), some m, some i => (quickKey P k).map fun q => .delete q k m i
    | _, _, _ => none
  | .max, _, xs => (compArgs xs).map (.mnmx true)
  | .min, _, xs => (compArgs xs).map (.mnmx false)
  | _, _, _ => none
def compOp (P : Program) : Op → Option AOp
  | .move x => (compArg x).map .move
  | .assign x => (compArg x).map .move
  | .pick c a b => match compArg c, compArg a, compArg b with
    | some c, some a, some b => some (.pick c a b)
    | _, _, _ => none
  | .alloc e => (zeroP P e).map fun z => .new e (cellL z)
  | .box e x => match sizeP P e, compArg x with
    | some _, some x => some (.box e x)
    | _, _ => none
  | .build t ps => match P.underlying t, zeroP P t with
    | some (.struct fs), some z => match fieldsP P fs.toList with
      | some l => (compParts (l[·]?) ps.toList).map (.build (cellL z))
      | none => none
    | some (.array _ e), some z => match sizeP P e with
      | some n => (compParts (fun i => some (i * n, n)) ps.toList).map (.build (cellL z))
      | none => none
    | _, _ => none
  | .buildSlice t len ps => match sliceP P t with
    | some e => match sizeP P e, zeroP P e with
      | some (n + 1), some z => match Nat.ble (len * (n + 1)) 16777216, Nat.beq (cellL z).length (n + 1) with
        | true, true => (compParts (fun i => some (i * (n + 1), n + 1)) ps.toList).map (.buildSlice e len (List.replicate len (cellL z)).flatten)
        | _, _ => none
      | _, _ => none
    | none => none
  | .load t x => match aggN P t, compArg x with
    | some n, some x => some (.load n x)
    | _, _ => none
  | .store t x v => match sizeP P t, compArg x, compArg v with
    | some (n + 1), some x, some v => some (.store (n + 1) x v)
    | _, _, _ => none
  | .nilCheck x => (compArg x).map .nilCheck
  | .binOp op t x y _ => compBin P op t x y
  | .unOp op _ x => (compArg x).map (.un op)
  | .convert src dst x => compConv P src dst x
  | .makeInterface t x => match P.underlying t, compArg x with
    | some (.interface _), _ => none
    | some _, some x => some (.iface t x)
    | _, _ => none
  | .makeFunc fn first cap => match compArgs first.toList, compArgs cap.toList with
    | some a, some b => some (.func fn a b)
    | _, _ => none
  | .makeMap t none => (mapP P t).map fun _ => .makeMap
  | .makeSlice t l c => match sliceP P t, compArg l, compArg c with
    | some e, some l, some c => match sizeP P e, bytesP P e, zeroP P e with
      | some (n + 1), some b, some z => match Nat.beq (cellL z).length (n + 1) with
        | true => some (.makeSlice e (n + 1) b (cellL z) l c)
        | false => none
      | _, _, _ => none
    | _, _, _ => none
  | .slice t x lo hi mx => match P.underlying t, compArg x, compOpt lo, compOpt hi, compOpt mx with
    | some .string, some x, some lo, some hi, some none => some (.cutS x lo hi)
    | some (.slice e), some x, some lo, some hi, some mx => match mx, hi with
      | some _, none => none
      | _, _ => (sizeP P e).map fun n => .cut e n x lo hi mx
    | _, _, _, _, _ => none
  | .fieldAddr t x f => match P.underlying t, compArg x with
    | some (.struct fs), some x => match fs[f]? with
      | some f => match sizeP P f.type with
        | some (_ + 1) => some (.fieldAddr f.offset x)
        | _ => none
      | none => none
    | _, _ => none
  | .field t x f => match P.underlying t, compArg x with
    | some (.struct fs), some x => match fs[f]? with
      | some f => (aggN P f.type).map fun n => .field n f.offset x
      | none => none
    | _, _ => none
  | .indexAddr t x i => match P.underlying t, compArg x, compArg i with
    | some (.slice e), some x, some i => (sizeP P e).map fun n => .indexAddr n x i
    | some (.array len e), some x, some i => (sizeP P e).map fun n => .arrAddr len n x i
    | _, _, _ => none
  | .index t x i => match P.underlying t, compArg x, compArg i with
    | some .string, some x, some i => some (.indexS x i)
    | some (.array len e), some x, some i => match aggN P e, sizeP P e with
      | some n, some m => some (.indexA len n m x i)
      | _, _ => none
    | _, _, _ => none
  | .lookup t x i ok => match mapP P t, compArg x, compArg i with
    | some (k, e), some x, some i => match zeroP P e, quickKey P k with
      | some z, some q => some (.lookup q k z ok x i)
      | _, _ => none
    | _, _, _ => none
  | .mapUpdate t m i v => match mapP P t, compArg m, compArg i, compArg v with
    | some (k, _), some m, some i, some v => (quickKey P k).map fun q => .mapSet q k m i v
    | _, _, _, _ => none
  | .insert t m i v => match mapP P t, compArg m, compArg i, compArg v with
    | some (k, _), some m, some i, some v => (quickKey P k).map fun q => .mapSet q k m i v
    | _, _, _, _ => none
  | .range t x => match P.underlying t, compArg x with
    | some .string, some x => some (.rangeS x)
    | _, _ => none
  | .next it true => (compArg it).map .next
  | .typeAssert x _ t ok => match P.underlying t, compArg x with
    | some (.interface _), _ => none
    | some _, some x => (zeroP P t).map fun z => .assertT t z ok x
    | _, _ => none
  | .extract x i => (compArg x).map (.extract · i)
  | .call c => match c.callee with
    | .value f => match compArg f, compArgs c.args.toList with
      | some f, some xs => some (.call f xs)
      | _, _ => none
    | .builtin b => compBuiltin P b c.argTypes.toList c.args.toList
    | .invoke _ _ => none
  | _ => none

/-! regions -/
/-- What each operation waits for, directly or through others, as a set of bits. -/
def waits : List Oper → List Nat → List Nat
  | [], acc => acc
  | o :: l, acc => waits l (acc ++ [o.after.toList.foldl (fun s e => match Region.binds .any e with | true => s ||| 2 ^ e.on ||| acc.getD e.on 0 | false => s) 0])
def bitAt (l : List Nat) (i j : Nat) : Bool := (l.getD i 0).testBit j
def tmpOf : Operand → Option Nat
  | .tmp t => some t
  | _ => none
/-- The temporaries that an operation reads: its operands', and its guard's. -/
def readsOf (ops : List Oper) (o : Oper) : List Nat :=
  o.op.operands.toList.filterMap tmpOf ++ (match o.guard with
    | none => []
    | some (j, _) => match ops[j]? with
      | some p => p.dst.toList
      | none => [])
/-- Whoever reads or writes what another one writes waits for it, or the other way round. -/
def tempsOk (ops : List Oper) (W : List Nat) : Bool :=
  ops.zipIdx.all fun (o, j) => ops.zipIdx.all fun (p, i) => match p.dst with
    | none => true
    | some d => Nat.beq i j || (!(o.dst == some d) && !(readsOf ops o).contains d) || (match Nat.blt i j with | true => bitAt W j i | false => bitAt W i j)
/-- Edges lead back. -/
def backOk (ops : List Oper) : Bool := ops.zipIdx.all fun (o, j) => o.after.toList.all fun e => Nat.blt e.on j || !Region.binds .any e
def waitEach (W : List Nat) (i j : Nat) : Bool := match Nat.blt i j with | true => bitAt W j i | false => bitAt W i j
/-- Of those that act each waits for all that stand ahead of it. -/
def actsOk (W : List Nat) (as : List Bool) : Bool :=
  (List.range as.length).all fun j => (List.range j).all fun i => !(as.getD i false && as.getD j false) || bitAt W j i
/-- Is one of the others (that act, that look) in no order with it? -/
def freeOf (W : List Nat) (os : List Bool) (i : Nat) : Bool := (List.range os.length).any fun j => os.getD j false && !Nat.beq i j && !waitEach W i j
def guardOk (n : Nat) (ops : List Oper) : Option (Nat × Bool) → Option (Option (Nat × Bool))
  | none => some none
  | some (j, b) => match ops[j]? with
    | some p => p.dst.map fun d => some (d, b)
    | none => none
def dstOk (n : Nat) : Option Nat → Bool
  | none => true
  | some d => Nat.blt d n
def compOps (P : Program) (n : Nat) (all : List Oper) : List Oper → Option (List AOper)
  | [] => some []
  | o :: l => match compOp P o.op, guardOk n all o.guard, dstOk n o.dst, compOps P n all l with
    | some a, some g, true, some r => some (⟨o.dst, g, false, a⟩ :: r)
    | _, _, _, _ => none
def fpOf (W : List Nat) (as ls : List Bool) (i : Nat) (op : AOp) : Bool := match acts op, looks op with
  | true, _ => freeOf W ls i
  | false, true => freeOf W as i
  | false, false => false
def markFree (W : List Nat) (as ls : List Bool) : Nat → List AOper → List AOper
  | _, [] => []
  | i, o :: l => ⟨o.dst, o.guard, fpOf W as ls i o.op, o.op⟩ :: markFree W as ls (i + 1) l
def comp (P : Program) (n : Nat) : Code → Option ACode
  | .skip => some .skip
  | .label _ => some .skip
  | .region _ ops draw => match compOps P n ops.toList ops.toList, draw with
    | some l, false => some (.ops l)
    | some l, true =>
      let W := waits ops.toList []
      let as := l.map fun o => acts o.op
      match backOk ops.toList, tempsOk ops.toList W, actsOk W as with
      | true, true, true => some (.draw (markFree W as (l.map fun o => looks o.op) 0 l))
      | _, _, _ => none
    | none, _ => none
  | .seq a b => match comp P n a, comp P n b with
    | some a, some b => some (.seq a b)
    | _, _ => none
  | .cond c x y => match compArg c, comp P n x, comp P n y with
    | some c, some x, some y => some (.cond c x y)
    | _, _, _ => none
  | .block id b => (comp P n b).map (.block id)
  | .loop b => (comp P n b).map .loop
  | .scope b => (comp P n b).map .scope
  | .exit id => some (.exit id)
  | .ret => some .ret
  | _ => none
def compRes (P : Program) : List ResultVar → Option (List ARes)
  | [] => some []
  | .tmp t :: l => (compRes P l).map (.t t :: ·)
  | .cell a t :: l => match aggN P t, compRes P l with
    | some n, some r => some (.cell a n :: r)
    | _, _ => none
def compF (P : Program) (fn : Func) : Option AFunc :=
  match fn.body with
  | some c => match comp P fn.ntmps c, compRes P fn.results.toList with
    | some b, some r => some ⟨fn.ntmps, r, b⟩
    | _, _ => none
  | none => none
end Go.Proofs.Ytffokmamcempgaa.AM

/- A machine of our own: how its values and blocks stand to those of the given program's memory. -/
namespace Go.Proofs.Ytffokmamcempgaa.AM
open Go Go.RowKit
set_option linter.unusedVariables false
set_option linter.unusedSimpArgs false

/-! tables -/
theorem Tr.get_put {α : Type} : ∀ (f : Nat) (t : Tr α) (n : Nat) (x : Option α) (m : Nat), n < f → (Tr.put f t n x).get m = if m = n then x else t.get m
  | 0, _, _, _, _, h => absurd h (Nat.not_lt_zero _)
  | f + 1, t, 0, x, m, _ => by
    cases t <;> cases m <;> simp [Tr.put, Tr.get]
    all_goals (try (rename_i k; rcases Nat.mod_two_eq_zero_or_one k with h | h <;> simp [h, Tr.get]))
  | f + 1, t, n + 1, x, m, h => by
    have ih := Tr.get_put (α := α) f
    rcases Nat.mod_two_eq_zero_or_one n with hn | hn
    all_goals
      cases t <;> simp only [Tr.put, hn]
      all_goals
        cases m with
        | zero => simp [Tr.get]
        | succ m =>
          rcases Nat.mod_two_eq_zero_or_one m with hm | hm
          all_goals
            simp only [Tr.get, hm]
            first
              | (rw [ih _ _ _ _ (by omega)]
                 by_cases e : m = n
                 · rw [if_pos (by omega), if_pos (by omega)]
                 · rw [if_neg (by omega), if_neg (by omega)]
                   try simp [Tr.get])
              | (rw [if_neg (by omega)]
                 try simp [Tr.get])
theorem Tr.get_set {α : Type} (t : Tr α) (n : Nat) (x : α) (m : Nat) : (t.set n x).get m = if m = n then some x else t.get m := Tr.get_put _ _ _ _ _ (Nat.lt_succ_self n)
theorem Tr.get_del {α : Type} (t : Tr α) (n m : Nat) : (t.del n).get m = if m = n then none else t.get m := Tr.get_put _ _ _ _ _ (Nat.lt_succ_self n)
theorem Heap.get_new (H : Heap) (B : Blk) (b : Nat) : (H.new B).get b = if b = H.next then some B else H.get b := Tr.get_set _ _ _ _
theorem Heap.get_upd (H : Heap) (c : Nat) (B : Blk) (b : Nat) : (H.upd c B).get b = if b = c then some B else H.get b := Tr.get_set _ _ _ _
theorem Heap.get_kill (H : Heap) (c b : Nat) : (H.kill c).get b = if b = c then none else H.get b := Tr.get_del _ _ _

/-! values -/
/-- Where a block lies: in which block, from which cell on, how many cells that one has, of how many cells an element is, whether the call made it. -/
structure Loc where
  c : Nat
  s : Nat
  n : Nat
  e : Nat
  own : Bool
abbrev Ren := Nat → Option Loc
inductive VR (ρ : Ren) : Value → Value → Prop
  | bool (b : Bool) : VR ρ (.bool b) (.bool b)
  | int (k : IntKind) (n : Int) : VR ρ (.int k n) (.int k n)
  | float (k : FloatKind) (n : Nat) : VR ρ (.float k n) (.float k n)
  | complex (k : FloatKind) (m n : Nat) : VR ρ (.complex k m n) (.complex k m n)
  | string (s : ByteArray) : VR ρ (.string s) (.string s)
  | ptrNil : VR ρ (.pointer none) (.pointer none)
  | ptr (b off : Nat) (l : Loc) (h : ρ b = some l) : VR ρ (.pointer (some ⟨b, off, none⟩)) (.pointer (some ⟨l.c, l.s + off, none⟩))
  | sliceNil : VR ρ (.slice none 0 0) (.slice none 0 0)
  | slice (b off off' len cap cap' : Nat) (l : Loc) (h : ρ b = some l) (hc : cap = cap' ∨ cap = U) (hl : len ≤ cap') (ho : off' = l.s + off ∨ (len = 0 ∧ cap' = 0)) (hr : l.own = true → off' + cap' * l.e ≤ l.n) :
      VR ρ (.slice (some ⟨b, off, none⟩) len cap) (.slice (some ⟨l.c, off', none⟩) len cap')
  | mapNil : VR ρ (.map none) (.map none)
  | map (b : Nat) (l : Loc) (h : ρ b = some l) : VR ρ (.map (some b)) (.map (some l.c))
  | chanNil : VR ρ (.chan none) (.chan none)
  | nilFunc : VR ρ .nilFunc .nilFunc
  | nilIface : VR ρ .nilIface .nilIface
  | iface (t : TypeId) (v v' : Value) (h : VR ρ v v') : VR ρ (.iface t v) (.iface t v')
  | agg (xs ys : List Value) (h : xs.length = ys.length) (hv : ∀ (i : Nat) (x y : Value), xs[i]? = some x → ys[i]? = some y → VR ρ x y) : VR ρ (.agg ⟨xs⟩) (.agg ⟨ys⟩)
  | tuple (xs ys : List Value) (h : xs.length = ys.length) (hv : ∀ (i : Nat) (x y : Value), xs[i]? = some x → ys[i]? = some y → VR ρ x y) : VR ρ (.tuple ⟨xs⟩) (.tuple ⟨ys⟩)
  | func (fn : Fn) (xs ys us vs : List Value) (h : xs.length = ys.length) (hv : ∀ (i : Nat) (x y : Value), xs[i]? = some x → ys[i]? = some y → VR ρ x y) (h2 : us.length = vs.length) (hv2 : ∀ (i : Nat) (x y : Value), us[i]? = some x → vs[i]? = some y → VR ρ x y) :
      VR ρ (.func fn ⟨xs⟩ ⟨us⟩) (.func fn ⟨ys⟩ ⟨vs⟩)
/-- Lists of values, one by one. -/
def LR (ρ : Ren) (xs ys : List Value) : Prop := xs.length = ys.length ∧ ∀ (i : Nat) (x y : Value), xs[i]? = some x → ys[i]? = some y → VR ρ x y
def Sub (ρ ρ' : Ren) : Prop := ∀ b l, ρ b = some l → ρ' b = some l
theorem Sub.refl (ρ : Ren) : Sub ρ ρ := fun _ _ h => h
theorem Sub.trans {a b c : Ren} (h : Sub a b) (k : Sub b c) : Sub a c := fun x l e => k x l (h x l e)
theorem VR.mono {ρ ρ' : Ren} (hs : Sub ρ ρ') {v v' : Value} (h : VR ρ v v') : VR ρ' v v' := by
  induction h with
  | ptr b off l h => exact .ptr b off l (hs _ _ h)
  | slice b off off' len cap cap' l h hc hl ho hr => exact .slice b off off' len cap cap' l (hs _ _ h) hc hl ho hr
  | map b l h => exact .map b l (hs _ _ h)
  | iface t v v' h ih => exact .iface t v v' ih
  | agg xs ys h hv ih => exact .agg xs ys h ih
  | tuple xs ys h hv ih => exact .tuple xs ys h ih
  | func fn xs ys us vs h hv h2 hv2 ih ih2 => exact .func fn xs ys us vs h ih h2 ih2
  | _ => constructor
theorem LR.mono {ρ ρ' : Ren} (hs : Sub ρ ρ') {xs ys : List Value} (h : LR ρ xs ys) : LR ρ' xs ys := ⟨h.1, fun i x y hx hy => (h.2 i x y hx hy).mono hs⟩
theorem LR.nil (ρ : Ren) : LR ρ [] [] := ⟨rfl, fun i x y h => by simp at h⟩
theorem LR.cons {ρ : Ren} {x y : Value} {xs ys : List Value} (h : VR ρ x y) (hl : LR ρ xs ys) : LR ρ (x :: xs) (y :: ys) := by
  refine ⟨by simp [hl.1], fun i a b ha hb => ?_⟩
  cases i with
  | zero => simp at ha hb; subst ha; subst hb; exact h
  | succ i => exact hl.2 i a b (by simpa using ha) (by simpa using hb)
theorem LR.inv {ρ : Ren} {x : Value} {xs ys : List Value} (h : LR ρ (x :: xs) ys) : ∃ y ys', ys = y :: ys' ∧ VR ρ x y ∧ LR ρ xs ys' := by
  cases ys with
  | nil => have := h.1; simp at this
  | cons y ys => exact ⟨y, ys, rfl, h.2 0 x y rfl rfl, by have := h.1; simpa using this, fun i a b ha hb => h.2 (i + 1) a b (by simpa using ha) (by simpa using hb)⟩
theorem LR.at {ρ : Ren} {xs ys : List Value} (h : LR ρ xs ys) {i : Nat} {x : Value} (hx : xs[i]? = some x) : ∃ y, ys[i]? = some y ∧ VR ρ x y := by
  have hi : i < ys.length := by rw [← h.1]; exact (List.getElem?_eq_some_iff.1 hx).1
  exact ⟨ys[i], List.getElem?_eq_getElem hi, h.2 i x _ hx (List.getElem?_eq_getElem hi)⟩
theorem LR.append {ρ : Ren} {a b c d : List Value} (h : LR ρ a b) (k : LR ρ c d) : LR ρ (a ++ c) (b ++ d) := by
  refine ⟨by simp [h.1, k.1], fun i x y hx hy => ?_⟩
  by_cases hi : i < a.length
  · rw [List.getElem?_append_left hi] at hx
    rw [List.getElem?_append_left (by rw [← h.1]; exact hi)] at hy
    exact h.2 i x y hx hy
  · rw [List.getElem?_append_right (by omega)] at hx
    rw [List.getElem?_append_right (by rw [← h.1]; omega), ← h.1] at hy
    exact k.2 _ x y hx hy
theorem LR.drop {ρ : Ren} {a b : List Value} (h : LR ρ a b) (n : Nat) : LR ρ (a.drop n) (b.drop n) :=
  ⟨by simp [h.1], fun i x y hx hy => h.2 (n + i) x y (by simpa [List.getElem?_drop] using hx) (by simpa [List.getElem?_drop] using hy)⟩
theorem LR.take {ρ : Ren} {a b : List Value} (h : LR ρ a b) (n : Nat) : LR ρ (a.take n) (b.take n) := by
  refine ⟨by simp [h.1], fun i x y hx hy => ?_⟩
  rw [List.getElem?_take] at hx hy
  split at hx
  · rename_i hi; rw [if_pos hi] at hy; exact h.2 i x y hx hy
  · cases hx
theorem LR.map {ρ : Ren} {α : Type} (f g : α → Value) : ∀ l : List α, (∀ x ∈ l, VR ρ (f x) (g x)) → LR ρ (l.map f) (l.map g)
  | [], _ => LR.nil ρ
  | x :: l, h => LR.cons (h x (by simp)) (LR.map f g l fun y hy => h y (by simp [hy]))

theorem plain_slice {n l c : Nat} (h : plainV n (.slice none l c) = true) : l = 0 ∧ c = 0 := by
  cases l <;> cases c <;> cases n <;> simp_all [plainV]
theorem plain_refl (ρ : Ren) : ∀ (n : Nat) (v : Value), plainV n v = true → VR ρ v v := by
  intro n
  induction n with
  | zero =>
    intro v h
    cases v with
    | pointer a => cases a <;> first | exact .ptrNil | simp [plainV] at h
    | slice a l c =>
      cases a with
      | none => obtain ⟨rfl, rfl⟩ := plain_slice h; exact .sliceNil
      | some a => simp [plainV] at h
    | map r => cases r <;> first | exact .mapNil | simp [plainV] at h
    | chan r => cases r <;> first | exact .chanNil | simp [plainV] at h
    | _ => first | (simp [plainV] at h; done) | constructor
  | succ n ih =>
    intro v h
    have hl : ∀ l : List Value, l.all (plainV n) = true → ∀ (i : Nat) (x y : Value), l[i]? = some x → l[i]? = some y → VR ρ x y := by
      intro l hl i x y hx hy
      rw [hx] at hy
      cases hy
      exact ih x (List.all_eq_true.1 hl x (List.mem_of_getElem? hx))
    cases v with
    | pointer a => cases a <;> first | exact .ptrNil | simp [plainV] at h
    | slice a l c =>
      cases a with
      | none => obtain ⟨rfl, rfl⟩ := plain_slice h; exact .sliceNil
      | some a => simp [plainV] at h
    | map r => cases r <;> first | exact .mapNil | simp [plainV] at h
    | chan r => cases r <;> first | exact .chanNil | simp [plainV] at h
    | iface t v => exact .iface t v v (ih v (by simpa [plainV] using h))
    | agg cs => exact .agg cs.toList cs.toList rfl (hl _ (by simpa [plainV] using h))
    | tuple cs => exact .tuple cs.toList cs.toList rfl (hl _ (by simpa [plainV] using h))
    | func fn a b =>
      simp only [plainV, Bool.and_eq_true] at h
      exact .func fn a.toList a.toList b.toList b.toList rfl (hl _ h.1) rfl (hl _ h.2)
    | _ => constructor
theorem plain_same {ρ : Ren} : ∀ (n : Nat) (v v' : Value), plainV n v = true → VR ρ v v' → v' = v := by
  intro n
  induction n with
  | zero => intro v v' h hv; cases hv <;> first | rfl | simp [plainV] at h
  | succ n ih =>
    intro v v' h hv
    have hl : ∀ xs ys : List Value, xs.all (plainV n) = true → xs.length = ys.length → (∀ (i : Nat) (x y : Value), xs[i]? = some x → ys[i]? = some y → VR ρ x y) → ys = xs := by
      intro xs ys hp he hr
      refine List.ext_getElem? fun i => ?_
      by_cases hi : i < xs.length
      · have hx := List.getElem?_eq_getElem hi
        have hy := List.getElem?_eq_getElem (show i < ys.length by omega)
        rw [hx, hy]
        exact congrArg some (ih _ _ (List.all_eq_true.1 hp _ (List.getElem_mem hi)) (hr i _ _ hx hy))
      · rw [List.getElem?_eq_none (by omega), List.getElem?_eq_none (by omega)]
    cases hv with
    | ptr => simp [plainV] at h
    | slice => simp [plainV] at h
    | map => simp [plainV] at h
    | iface t v v' hv => rw [ih v v' (by simpa [plainV] using h) hv]
    | agg xs ys he hr => rw [hl xs ys (by simpa [plainV] using h) he hr]
    | tuple xs ys he hr => rw [hl xs ys (by simpa [plainV] using h) he hr]
    | func fn xs ys us vs he hr he2 hr2 =>
      simp only [plainV, Bool.and_eq_true] at h
      rw [hl xs ys h.1 he hr, hl us vs h.2 he2 hr2]
    | _ => rfl
theorem VR.undef (ρ : Ren) : VR ρ undef undef := .tuple [] [] rfl fun i x y h => by simp at h
theorem LR.agg {ρ : Ren} {xs ys : List Value} (h : LR ρ xs ys) : VR ρ (.agg ⟨xs⟩) (.agg ⟨ys⟩) := .agg xs ys h.1 h.2
theorem LR.tuple {ρ : Ren} {xs ys : List Value} (h : LR ρ xs ys) : VR ρ (.tuple ⟨xs⟩) (.tuple ⟨ys⟩) := .tuple xs ys h.1 h.2
theorem cellL_rel {ρ : Ren} {v v' : Value} (h : VR ρ v v') : LR ρ (cellL v) (cellL v') := by
  cases h with
  | agg xs ys h hv => exact ⟨h, hv⟩
  | _ => exact LR.cons (by constructor <;> assumption) (LR.nil ρ)
theorem cells_toList (v : Value) : v.cells.toList = cellL v := by cases v <;> rfl
theorem scalar_rel {ρ : Ren} {v v' : Value} (h : VR ρ v v') : scalar v' = scalar v := by cases h <;> rfl
theorem scalar_one (v : Value) : v.oneCell' = scalar v := by cases v <;> rfl
end Go.Proofs.Ytffokmamcempgaa.AM

/- A machine of our own: what a step does to its blocks and to the given program's memory. -/
namespace Go.Proofs.Ytffokmamcempgaa.AM
open Go Go.RowKit
set_option linter.unusedVariables false
set_option linter.unusedSimpArgs false

def MR (ρ : Ren) (es : List MapEntry) (es' : Array MapEntry) : Prop :=
  es.length = es'.size ∧ ∀ (i : Nat) (e e' : MapEntry), es[i]? = some e → es'[i]? = some e' → e'.key = e.key ∧ e'.born = e.born ∧ VR ρ e.val e'.val
def BR (P : Program) (ρ : Ren) (base : Nat) (l : Loc) : Blk → Option Obj → Prop
  | .cells own elem cs, o => ∃ arr elem' fr, o = some (.cells arr elem' fr) ∧ l.own = own ∧ arr.size = l.n ∧ sizeP P elem = some l.e ∧
      (∀ (k : Nat) (v : Value), cs[k]? = some v → ∃ v', arr[l.s + k]? = some v' ∧ VR ρ v v') ∧ (own = true → base ≤ l.c ∧ (fr.1 = fr.2 ∨ l.n ≤ fr.1)) ∧ (own = false → l.c < base)
  | .map es clock, o => ∃ es', o = some (.map es' clock) ∧ l.s = 0 ∧ base ≤ l.c ∧ MR ρ es es'
  | .iter s pos, o => o = some (.stringIter s pos) ∧ l.s = 0 ∧ base ≤ l.c
def ownB : Blk → Bool
  | .cells own _ _ => own
  | _ => true
theorem MR.mono {ρ ρ' : Ren} (hs : Sub ρ ρ') {es : List MapEntry} {es' : Array MapEntry} (h : MR ρ es es') : MR ρ' es es' :=
  ⟨h.1, fun i e e' he he' => ⟨(h.2 i e e' he he').1, (h.2 i e e' he he').2.1, (h.2 i e e' he he').2.2.mono hs⟩⟩
theorem BR.mono {P : Program} {ρ ρ' : Ren} (hs : Sub ρ ρ') {base : Nat} {l : Loc} {B : Blk} {o : Option Obj} (h : BR P ρ base l B o) : BR P ρ' base l B o := by
  cases B with
  | cells own elem cs =>
    obtain ⟨arr, elem', fr, h1, h2, h3, h4, h5, h6⟩ := h
    exact ⟨arr, elem', fr, h1, h2, h3, h4, fun k v hk => let ⟨v', a, b⟩ := h5 k v hk; ⟨v', a, b.mono hs⟩, h6⟩
  | map es clock => obtain ⟨es', h1, h2, h3, h4⟩ := h; exact ⟨es', h1, h2, h3, h4.mono hs⟩
  | iter s pos => exact h
theorem BR.base {P : Program} {ρ : Ren} {base : Nat} {l : Loc} {B : Blk} {o : Option Obj} (h : BR P ρ base l B o) (ho : ownB B = true) : base ≤ l.c := by
  cases B with
  | cells own elem cs => obtain ⟨arr, elem', fr, h1, h2, h3, h4, h5, h6, h7⟩ := h; exact (h6 ho).1
  | map es clock => obtain ⟨es', h1, h2, h3, h4⟩ := h; exact h3
  | iter s pos => exact h.2.2
theorem BR.far {P : Program} {ρ : Ren} {base : Nat} {l : Loc} {B : Blk} {o : Option Obj} (h : BR P ρ base l B o) (ho : ownB B = false) : l.c < base := by
  cases B with
  | cells own elem cs => obtain ⟨arr, elem', fr, h1, h2, h3, h4, h5, h6, h7⟩ := h; exact h7 ho
  | map es clock => cases ho
  | iter s pos => cases ho
structure HR (P : Program) (ρ : Ren) (H : Heap) (w0 w : World) : Prop where
  below : Below w0.heap.size w0 w
  dom : ∀ b l, ρ b = some l → b < H.next ∧ l.c < w.heap.size
  blk : ∀ b l B, ρ b = some l → H.get b = some B → BR P ρ w0.heap.size l B w.heap[l.c]?
  inj : ∀ b b' l l' B B', ρ b = some l → ρ b' = some l' → H.get b = some B → H.get b' = some B' → ownB B = true → ownB B' = true → l.c = l'.c → b = b'
  nxt : ∀ b, H.next ≤ b → H.get b = none
structure Post (P : Program) (ρ ρ' : Ren) (H H' : Heap) (w0 w w' : World) : Prop where
  hr : HR P ρ' H' w0 w'
  ext : ∀ b, b < H.next → ρ' b = ρ b
  next : H.next ≤ H'.next
  wl : ∀ b, b ∈ H.wl → b ∈ H'.wl
  frame : ∀ c, c < w.heap.size → (∀ b l, ρ b = some l → l.c = c → b ∉ H'.wl) → w'.heap[c]? = w.heap[c]?
  size : w.heap.size ≤ w'.heap.size
  new : ∀ b l, H.next ≤ b → ρ' b = some l → l.c < w.heap.size → ∃ a k, ρ a = some k ∧ k.c = l.c ∧ a ∈ H'.wl
  keep : ∀ b, b < H.next → b ∉ H'.wl → H'.get b = H.get b
section
variable {P : Program} {ρ ρ' ρ'' : Ren} {H H' H'' : Heap} {w0 w w' w'' : World}
theorem Post.sub (h : Post P ρ ρ' H H' w0 w w') (hr : HR P ρ H w0 w) : Sub ρ ρ' := fun b l e => by rw [h.ext b (hr.dom b l e).1]; exact e
theorem Post.refl (h : HR P ρ H w0 w) : Post P ρ ρ H H w0 w w :=
  ⟨h, fun _ _ => rfl, Nat.le_refl _, fun _ hb => hb, fun _ _ _ => rfl, Nat.le_refl _, fun b l hb e _ => absurd (h.dom b l e).1 (by omega), fun _ _ _ => rfl⟩
theorem Post.trans (hr : HR P ρ H w0 w) (h : Post P ρ ρ' H H' w0 w w') (k : Post P ρ' ρ'' H' H'' w0 w' w'') : Post P ρ ρ'' H H'' w0 w w'' := {
  hr := k.hr
  ext := fun b hb => by rw [k.ext b (Nat.lt_of_lt_of_le hb h.next), h.ext b hb]
  next := Nat.le_trans h.next k.next
  wl := fun b hb => k.wl b (h.wl b hb)
  frame := fun c hc hf => by
    rw [k.frame c (Nat.lt_of_lt_of_le hc h.size), h.frame c hc (fun b l e1 e2 hb => hf b l e1 e2 (k.wl b hb))]
    intro b l e1 e2 hb
    by_cases hn : b < H.next
    · rw [h.ext b hn] at e1; exact hf b l e1 e2 hb
    · obtain ⟨a, j, f1, f2, f3⟩ := h.new b l (by omega) e1 (by omega)
      exact hf a j f1 (by omega) (k.wl a f3)
  size := Nat.le_trans h.size k.size
  new := fun b l hb e hc => by
    by_cases hn : b < H'.next
    · rw [k.ext b hn] at e
      obtain ⟨a, j, f1, f2, f3⟩ := h.new b l hb e hc
      exact ⟨a, j, f1, f2, k.wl a f3⟩
    · obtain ⟨a, j, f1, f2, f3⟩ := k.new b l (by omega) e (Nat.lt_of_lt_of_le hc h.size)
      by_cases hm : a < H.next
      · rw [h.ext a hm] at f1; exact ⟨a, j, f1, f2, f3⟩
      · obtain ⟨a2, j2, g1, g2, g3⟩ := h.new a j (by omega) f1 (by omega)
        exact ⟨a2, j2, g1, by omega, k.wl a2 g3⟩
  keep := fun b hb hn => by rw [k.keep b (Nat.lt_of_lt_of_le hb h.next) hn, h.keep b hb (fun hx => hn (k.wl b hx))] }
/-- The world's streams, and how many blocks it has. -/
structure Alike (w w' : World) : Prop where
  os : w'.os = w.os
  tape : w'.tape = w.tape
  output : w'.output = w.output
theorem Alike.refl (w : World) : Alike w w := ⟨rfl, rfl, rfl⟩
theorem below_of {B : Nat} (h : Below B w0 w) (ha : Alike w w') (hs : w.heap.size ≤ w'.heap.size) (hb : ∀ k, k < B → w'.heap[k]? = w.heap[k]?) : Below B w0 w' :=
  h.trans ⟨ha.os, ha.tape, ha.output, hs, hb⟩
def put (ρ : Ren) (b : Nat) (l : Loc) : Ren := fun x => if x = b then some l else ρ x
theorem put_same (ρ : Ren) (b : Nat) (l : Loc) : put ρ b l b = some l := if_pos rfl
theorem put_other (ρ : Ren) {b x : Nat} (l : Loc) (h : x ≠ b) : put ρ b l x = ρ x := if_neg h
/-- Only the draws have gone on. -/
theorem Post.drew (h : HR P ρ H w0 w) (ha : Alike w w') (hh : w'.heap = w.heap) : Post P ρ ρ H H w0 w w' := {
  hr := ⟨below_of h.below ha (by rw [hh]; exact Nat.le_refl _) (fun _ _ => by rw [hh]), fun b l e => by rw [hh]; exact h.dom b l e, fun b l B e1 e2 => by rw [hh]; exact h.blk b l B e1 e2, h.inj, h.nxt⟩
  ext := fun _ _ => rfl
  next := Nat.le_refl _
  wl := fun _ hb => hb
  frame := fun c _ _ => by rw [hh]
  size := by rw [hh]; exact Nat.le_refl _
  new := fun b l hb e _ => absurd (h.dom b l e).1 (by omega)
  keep := fun _ _ _ => rfl }
/-- A new block. -/
theorem Post.alloc (h : HR P ρ H w0 w) {B : Blk} {o : Obj} {l : Loc} (ha : Alike w w') (hh : w'.heap = w.heap.push o) (hl : l.c = w.heap.size) (hB : BR P ρ w0.heap.size l B (some o)) : Post P ρ (put ρ H.next l) H (H.new B) w0 w w' := by
  have hsz : w'.heap.size = w.heap.size + 1 := by rw [hh]; simp
  have hold : ∀ k, k < w.heap.size → w'.heap[k]? = w.heap[k]? := fun k hk => by rw [hh, Array.getElem?_push, if_neg (by omega)]
  have hnew : w'.heap[w.heap.size]? = some o := by rw [hh, Array.getElem?_push, if_pos rfl]
  have hs : Sub ρ (put ρ H.next l) := fun b k e => by
    rw [put_other ρ l (by have := (h.dom b k e).1; omega)]; exact e
  have hbase : w0.heap.size ≤ w.heap.size := h.below.size
  have hinv : ∀ b k, put ρ H.next l b = some k → (b = H.next ∧ k = l) ∨ (b < H.next ∧ ρ b = some k) := fun b k e => by
    by_cases hb : b = H.next
    · subst hb; rw [put_same] at e; exact .inl ⟨rfl, (Option.some.inj e).symm⟩
    · rw [put_other ρ l hb] at e; exact .inr ⟨(h.dom b k e).1, e⟩
  have hget : ∀ b, b < H.next → (H.new B).get b = H.get b := fun b hb => by rw [Heap.get_new, if_neg (by omega)]
  refine ⟨⟨below_of h.below ha (by omega) (fun k hk => hold k (by omega)), ?_, ?_, ?_, ?_⟩, ?_, Nat.le_succ _, fun _ hb => hb, fun c hc _ => hold c hc, by omega, ?_, fun b hb _ => hget b hb⟩
  · intro b k e
    rcases hinv b k e with ⟨rfl, rfl⟩ | ⟨hb, e⟩
    · exact ⟨Nat.lt_succ_self _, by omega⟩
    · have := h.dom b k e; exact ⟨Nat.lt_succ_of_lt this.1, by omega⟩
  · intro b k B' e hB'
    rcases hinv b k e with ⟨rfl, rfl⟩ | ⟨hb, e⟩
    · rw [Heap.get_new, if_pos rfl] at hB'
      cases hB'
      rw [hl, hnew]
      exact hB.mono hs
    · rw [hget b hb] at hB'
      rw [hold k.c (h.dom b k e).2]
      exact (h.blk b k B' e hB').mono hs
  · intro b b' k k' B1 B2 e e' h1 h2 o1 o2 hc
    rcases hinv b k e with ⟨q1, q2⟩ | ⟨hb, f⟩ <;> rcases hinv b' k' e' with ⟨r1, r2⟩ | ⟨hb', f'⟩
    · rw [q1, r1]
    · have := (h.dom b' k' f').2; rw [q2] at hc; omega
    · have := (h.dom b k f).2; rw [r2] at hc; omega
    · rw [hget b hb] at h1; rw [hget b' hb'] at h2
      exact h.inj b b' k k' B1 B2 f f' h1 h2 o1 o2 hc
  · intro b hb
    have hb' : H.next + 1 ≤ b := hb
    rw [Heap.get_new, if_neg (by omega)]
    exact h.nxt b (by omega)
  · exact fun b hb => put_other ρ l (by omega)
  · intro b k hb e hc
    rcases hinv b k e with ⟨rfl, rfl⟩ | ⟨hb', e⟩
    · omega
    · omega
/-- A block of the call's own is written. -/
theorem Post.upd (h : HR P ρ H w0 w) {b : Nat} {B B' : Blk} {l : Loc} (hb : ρ b = some l) (hg : H.get b = some B) (ho : ownB B = true) (ho' : ownB B' = true) (ha : Alike w w') (hs : w'.heap.size = w.heap.size) (hh : ∀ k, k ≠ l.c → w'.heap[k]? = w.heap[k]?)
    (hB : BR P ρ w0.heap.size l B' w'.heap[l.c]?) : Post P ρ ρ H (H.upd b B') w0 w w' := by
  have hbase := (h.blk b l B hb hg).base ho
  have hd := h.dom b l hb
  have hget : ∀ x, x ≠ b → (H.upd b B').get x = H.get x := fun x hx => by rw [Heap.get_upd, if_neg hx]
  refine ⟨⟨below_of h.below ha (by omega) (fun k hk => hh k (by omega)), fun x k e => by rw [hs]; exact h.dom x k e, ?_, ?_, ?_⟩, fun _ _ => rfl, Nat.le_refl _, fun _ hx => List.mem_cons_of_mem _ hx, ?_, by omega, fun x k hx e _ => absurd (h.dom x k e).1 (by omega), ?_⟩
  · intro x k C e hC
    by_cases hx : x = b
    · subst hx
      rw [Heap.get_upd, if_pos rfl] at hC
      cases hC
      rw [hb] at e
      cases e
      exact hB
    · rw [hget x hx] at hC
      have hbr := h.blk x k C e hC
      have hne : k.c ≠ l.c := fun hc => by
        cases hoc : ownB C with
        | true => exact hx (h.inj x b k l C B e hb hC hg hoc ho hc)
        | false => have := hbr.far hoc; omega
      rw [hh k.c hne]
      exact hbr
  · intro x y k k' C D e e' hC hD oC oD hc
    have old : ∀ z Z, (H.upd b B').get z = some Z → ∃ Z', H.get z = some Z' ∧ (ownB Z = true → ownB Z' = true) := fun z Z hZ => by
      by_cases hz : z = b
      · subst hz; exact ⟨B, hg, fun _ => ho⟩
      · rw [hget z hz] at hZ; exact ⟨Z, hZ, fun q => q⟩
    obtain ⟨C', h1, h2⟩ := old x C hC
    obtain ⟨D', h3, h4⟩ := old y D hD
    exact h.inj x y k k' C' D' e e' h1 h3 (h2 oC) (h4 oD) hc
  · intro x hx
    have hx' : H.next ≤ x := hx
    rw [hget x (by omega)]
    exact h.nxt x hx'
  · intro c hc hf
    refine hh c fun e => ?_
    subst e
    exact hf b l hb rfl (List.mem_cons_self ..)
  · intro x _ hx
    exact hget x fun e => hx (by subst e; exact List.mem_cons_self ..)
/-- A block is given up. -/
theorem Post.kill (h : HR P ρ H w0 w) (b : Nat) : Post P ρ ρ H (H.kill b) w0 w w := by
  have hget : ∀ x B, (H.kill b).get x = some B → H.get x = some B ∧ x ≠ b := fun x B hx => by
    rw [Heap.get_kill] at hx
    split at hx
    · cases hx
    · rename_i hne; exact ⟨hx, hne⟩
  refine ⟨⟨h.below, h.dom, fun x l B e hx => h.blk x l B e (hget x B hx).1, fun x y l l' B B' e e' hx hy => h.inj x y l l' B B' e e' (hget x B hx).1 (hget y B' hy).1, ?_⟩, fun _ _ => rfl, Nat.le_refl _, fun _ hx => List.mem_cons_of_mem _ hx, fun _ _ _ => rfl, Nat.le_refl _, fun x l hx e _ => absurd (h.dom x l e).1 (by omega), ?_⟩
  · intro x hx
    have hx' : H.next ≤ x := hx
    rw [Heap.get_kill]
    split
    · rfl
    · exact h.nxt x hx'
  · intro x _ hx
    rw [Heap.get_kill, if_neg (fun e => hx (by subst e; exact List.mem_cons_self ..))]
/-- A block is given up, and its room taken by a new one. -/
theorem Post.take (h : HR P ρ H w0 w) {b : Nat} {B B' : Blk} {l l' : Loc} (hb : ρ b = some l) (hg : H.get b = some B) (ho : ownB B = true) (ha : Alike w w') (hs : w'.heap.size = w.heap.size) (hh : ∀ k, k ≠ l.c → w'.heap[k]? = w.heap[k]?) (hl : l'.c = l.c)
    (hB : BR P ρ w0.heap.size l' B' w'.heap[l.c]?) : Post P ρ (put ρ H.next l') H ((H.kill b).new B') w0 w w' := by
  have hbase := (h.blk b l B hb hg).base ho
  have hd := h.dom b l hb
  have hs' : Sub ρ (put ρ H.next l') := fun x k e => by
    rw [put_other ρ l' (by have := (h.dom x k e).1; omega)]; exact e
  have hinv : ∀ x k, put ρ H.next l' x = some k → (x = H.next ∧ k = l') ∨ (x < H.next ∧ ρ x = some k) := fun x k e => by
    by_cases hx : x = H.next
    · subst hx; rw [put_same] at e; exact .inl ⟨rfl, (Option.some.inj e).symm⟩
    · rw [put_other ρ l' hx] at e; exact .inr ⟨(h.dom x k e).1, e⟩
  have hget : ∀ x, x < H.next → x ≠ b → ((H.kill b).new B').get x = H.get x := fun x hx hne => by
    have : (H.kill b).next = H.next := rfl
    rw [Heap.get_new, if_neg (by omega), Heap.get_kill, if_neg hne]
  have hgb : ((H.kill b).new B').get b = none := by
    have : (H.kill b).next = H.next := rfl
    rw [Heap.get_new, if_neg (by omega), Heap.get_kill, if_pos rfl]
  have hgn : ((H.kill b).new B').get H.next = some B' := by
    have : (H.kill b).next = H.next := rfl
    rw [Heap.get_new, if_pos this.symm]
  have old : ∀ x k C, x < H.next → ρ x = some k → ((H.kill b).new B').get x = some C → H.get x = some C ∧ k.c ≠ l.c := fun x k C hx e hC => by
    by_cases hxb : x = b
    · subst hxb; rw [hgb] at hC; cases hC
    · rw [hget x hx hxb] at hC
      refine ⟨hC, fun hc => ?_⟩
      cases hoc : ownB C with
      | true => exact hxb (h.inj x b k l C B e hb hC hg hoc ho hc)
      | false => have := (h.blk x k C e hC).far hoc; omega
  refine ⟨⟨below_of h.below ha (by omega) (fun k hk => hh k (by omega)), ?_, ?_, ?_, ?_⟩, fun x hx => put_other ρ l' (by omega), Nat.le_succ _, fun _ hx => List.mem_cons_of_mem _ hx, ?_, by omega, ?_, ?_⟩
  · intro x k e
    rcases hinv x k e with ⟨rfl, rfl⟩ | ⟨hx, e⟩
    · exact ⟨Nat.lt_succ_self _, by omega⟩
    · have := h.dom x k e; exact ⟨Nat.lt_succ_of_lt this.1, by omega⟩
  · intro x k C e hC
    rcases hinv x k e with ⟨rfl, rfl⟩ | ⟨hx, e⟩
    · rw [hgn] at hC; cases hC; rw [hl]; exact hB.mono hs'
    · obtain ⟨h1, h2⟩ := old x k C hx e hC
      rw [hh k.c h2]
      exact (h.blk x k C e h1).mono hs'
  · intro x y k k' C D e e' hC hD oC oD hc
    rcases hinv x k e with ⟨q1, q2⟩ | ⟨hx, f⟩ <;> rcases hinv y k' e' with ⟨r1, r2⟩ | ⟨hy, f'⟩
    · rw [q1, r1]
    · have := (old y k' D hy f' hD).2; rw [q2] at hc; omega
    · have := (old x k C hx f hC).2; rw [r2] at hc; omega
    · exact h.inj x y k k' C D f f' (old x k C hx f hC).1 (old y k' D hy f' hD).1 oC oD hc
  · intro x hx
    have hx' : H.next + 1 ≤ x := hx
    have : (H.kill b).next = H.next := rfl
    rw [Heap.get_new, if_neg (by omega), Heap.get_kill, if_neg (by omega)]
    exact h.nxt x (by omega)
  · intro c hc hf
    refine hh c fun e => ?_
    subst e
    exact hf b l hb rfl (List.mem_cons_self ..)
  · intro x k hx e hc
    rcases hinv x k e with ⟨rfl, rfl⟩ | ⟨hx', e⟩
    · exact ⟨b, l, hb, hl.symm, List.mem_cons_self ..⟩
    · omega
  · intro x hx hne
    exact hget x hx fun e => hne (by subst e; exact List.mem_cons_self ..)
end
end Go.Proofs.Ytffokmamcempgaa.AM

/- A machine of our own: operations that only reckon answer as the given program's do. -/
namespace Go.Proofs.Ytffokmamcempgaa.AM
open Go Go.RowKit
set_option linter.unusedVariables false
set_option linter.unusedSimpArgs false

section
variable {P : Program} {ρ : Ren}
theorem pr_run {α : Type} : ∀ {s : Sem α} {a : α}, pr P s = some a → ∀ w, s.run P w = .ok a w := by
  intro s
  induction s with
  | pure a => intro b h w; simp only [pr, Option.some.injEq] at h; subst h; rfl
  | program k ih => intro b h w; simp only [pr] at h; exact ih P h w
  | _ => intro b h; simp [pr] at h
theorem info_of {t n : Nat} (h : sizeP P t = some n) : ∃ i, P.info? t = some i ∧ i.size = n := by
  unfold sizeP at h
  cases hi : P.info? t with
  | none => rw [hi] at h; cases h
  | some i => rw [hi] at h; exact ⟨i, rfl, Option.some.inj h⟩
theorem run_info {t : TypeId} {i : TypeInfo} (h : P.info? t = some i) (w : World) : (typeInfo t).run P w = .ok i w := by simp [typeInfo, h]
theorem run_und {t : TypeId} {d : TypeDesc} (h : P.underlying t = some d) (w : World) : (underlying t).run P w = .ok d w := by simp [underlying, h]
theorem run_size {t n : Nat} (h : sizeP P t = some n) (w : World) : (sizeOf t).run P w = .ok n w := by
  obtain ⟨i, hi, rfl⟩ := info_of h
  simp [sizeOf, run_info hi]
theorem zero_of {t : TypeId} {z : Value} (h : zeroP P t = some z) : plainV 8 z = true ∧ ∃ i, P.info? t = some i ∧ i.zero = some z := by
  unfold zeroP at h
  cases hi : P.info? t with
  | none => rw [hi] at h; simp at h
  | some i =>
    rw [hi] at h
    simp only [Option.bind_some] at h
    cases hz : i.zero with
    | none => rw [hz] at h; simp at h
    | some v =>
      rw [hz] at h
      simp only at h
      split at h
      · rename_i hp; cases h; exact ⟨hp, i, rfl, hz⟩
      · cases h
theorem run_zero {t : TypeId} {z : Value} (h : zeroP P t = some z) (w : World) : (zeroValue t).run P w = .ok z w := by
  obtain ⟨_, i, hi, hz⟩ := zero_of h
  simp [zeroValue, run_info hi, hz]
theorem aggN_of {t : TypeId} {n : Option Nat} (h : aggN P t = some n) : (∀ w, (isAgg t).run P w = .ok n.isSome w) ∧ (∀ m, n = some m → sizeP P t = some m) := by
  unfold aggN at h
  cases hu : P.underlying t with
  | none => rw [hu] at h; simp at h
  | some d =>
    cases hi : P.info? t with
    | none => rw [hu, hi] at h; simp at h
    | some i =>
      rw [hu, hi] at h
      simp only [Option.some.injEq] at h
      subst h
      refine ⟨fun w => ?_, fun m hm => ?_⟩
      · unfold isAgg
        simp only [Sem.run_bind, run_und hu, Result.andThen_ok]
        cases d <;> rfl
      · unfold sizeP
        rw [hi]
        cases d <;> simp [aggD] at hm <;> simp [hm]
theorem lcut_some {off n : Nat} {cs r : List Value} (h : lcut off n cs = some r) : r = (cs.drop off).take n ∧ r.length = n := by
  unfold lcut at h
  simp only at h
  split at h
  · rename_i hb; cases h; exact ⟨rfl, Nat.eq_of_beq_eq_true hb⟩
  · cases h
theorem lcut_of {off n : Nat} {cs : List Value} (h : off + n ≤ cs.length) : lcut off n cs = some ((cs.drop off).take n) := by
  unfold lcut
  simp only
  rw [show ((cs.drop off).take n).length = n by simp; omega, Nat.beq_refl]
theorem lcut_rel {off n : Nat} {cs cs' r : List Value} (hl : LR ρ cs cs') (h : lcut off n cs = some r) : ∃ r', lcut off n cs' = some r' ∧ LR ρ r r' := by
  obtain ⟨rfl, hn⟩ := lcut_some h
  refine ⟨(cs'.drop off).take n, ?_, (hl.drop off).take n⟩
  unfold lcut
  simp only
  have := ((hl.drop off).take n).1
  rw [← this, hn, Nat.beq_refl]
theorem partOf_rel {n : Option Nat} {off : Nat} {cs cs' : List Value} {v : Value} (hl : LR ρ cs cs') (h : partOf n off cs = some v) : ∃ v', partOf n off cs' = some v' ∧ VR ρ v v' := by
  cases n with
  | none => exact hl.at h
  | some n =>
    simp only [partOf, Option.map_eq_some_iff] at h
    obtain ⟨r, hr, rfl⟩ := h
    obtain ⟨r', h1, h2⟩ := lcut_rel hl hr
    exact ⟨.agg ⟨r'⟩, by simp [partOf, h1], h2.agg⟩
theorem part_run {t : TypeId} {n : Option Nat} (ht : aggN P t = some n) {off : Nat} {cs : Array Value} {v : Value} (h : partOf n off cs.toList = some v) (w : World) : (part t cs off).run P w = .ok v w := by
  obtain ⟨h1, h2⟩ := aggN_of ht
  unfold part
  simp only [Sem.run_bind, h1, Result.andThen_ok]
  cases n with
  | none =>
    simp only [partOf] at h
    have h' : cs[off]? = some v := by simpa using h
    simp [h']
  | some m =>
    simp only [partOf, Option.map_eq_some_iff] at h
    obtain ⟨r, hr, rfl⟩ := h
    obtain ⟨rfl, hn⟩ := lcut_some hr
    simp only [Option.isSome_some, if_true, Sem.run_bind, run_size (h2 m rfl), Result.andThen_ok, Sem.run_pure]
    congr 2
    apply Array.ext'
    simp [Array.toList_extract, List.extract]
theorem splice_some {off : Nat} {cs vs r : List Value} (h : splice cs off vs = some r) : off + vs.length ≤ cs.length ∧ r = cs.take off ++ vs ++ cs.drop (off + vs.length) := by
  unfold splice at h
  split at h
  · rename_i hb; cases h; exact ⟨Nat.le_of_ble_eq_true hb, rfl⟩
  · cases h
theorem splice_of {off : Nat} {cs vs : List Value} (h : off + vs.length ≤ cs.length) : splice cs off vs = some (cs.take off ++ vs ++ cs.drop (off + vs.length)) := by
  unfold splice
  rw [Nat.ble_eq_true_of_le h]
theorem splice_rel {off : Nat} {cs cs' vs vs' r : List Value} (hc : LR ρ cs cs') (hv : LR ρ vs vs') (h : splice cs off vs = some r) : ∃ r', splice cs' off vs' = some r' ∧ LR ρ r r' := by
  obtain ⟨h1, rfl⟩ := splice_some h
  refine ⟨_, splice_of (by rw [← hc.1, ← hv.1]; exact h1), ?_⟩
  rw [← hv.1]
  exact ((hc.take _).append hv).append (hc.drop _)
theorem splice_get {off : Nat} {cs vs r : List Value} (h : splice cs off vs = some r) (k : Nat) : r[k]? = if off ≤ k ∧ k < off + vs.length then vs[k - off]? else cs[k]? := by
  obtain ⟨h1, rfl⟩ := splice_some h
  by_cases a : k < off
  · rw [if_neg (by omega), List.append_assoc, List.getElem?_append_left (by simp; omega), List.getElem?_take, if_pos a]
  · by_cases b : k < off + vs.length
    · rw [if_pos ⟨by omega, b⟩, List.append_assoc, List.getElem?_append_right (by simp; omega), List.getElem?_append_left (by simp; omega)]
      congr 1
      simp
      omega
    · rw [if_neg (by omega), List.getElem?_append_right (by simp; omega), List.getElem?_drop]
      congr 1
      simp
      omega
theorem foldl_set (off : Nat) : ∀ (vs : List Value) (j : Nat) (arr : Array Value), off + j + vs.length ≤ arr.size →
    (((vs.zipIdx j).foldl (fun cs (x : Value × Nat) => cs.setIfInBounds (off + x.2) x.1) arr).size = arr.size ∧
    ∀ k, ((vs.zipIdx j).foldl (fun cs (x : Value × Nat) => cs.setIfInBounds (off + x.2) x.1) arr)[k]? = if off + j ≤ k ∧ k < off + j + vs.length then vs[k - (off + j)]? else arr[k]?)
  | [], j, arr, _ => ⟨rfl, fun k => by simp; intro h1 h2; omega⟩
  | v :: vs, j, arr, h => by
    simp only [List.length_cons] at h
    obtain ⟨h1, h2⟩ := foldl_set off vs (j + 1) (arr.setIfInBounds (off + j) v) (by simp; omega)
    simp only [List.zipIdx_cons, List.foldl_cons]
    refine ⟨by rw [h1]; simp, fun k => ?_⟩
    rw [h2 k, List.length_cons]
    by_cases a : k = off + j
    · subst a
      rw [if_neg (by omega), if_pos (by omega), Nat.sub_self, List.getElem?_cons_zero, Array.getElem?_setIfInBounds_self_of_lt (by omega)]
    · by_cases b : off + j ≤ k ∧ k < off + j + (vs.length + 1)
      · rw [if_pos (by omega), if_pos b, show k - (off + j) = (k - (off + (j + 1))) + 1 by omega, List.getElem?_cons_succ]
      · rw [if_neg (by omega), if_neg b, Array.getElem?_setIfInBounds_ne (by omega)]
theorem fill_splice {off : Nat} {zs r : List Value} {v : Value} (h : splice zs off (cellL v) = some r) :
    v.cells.zipIdx.foldl (fun cs (x : Value × Nat) => cs.setIfInBounds (off + x.2) x.1) (⟨zs⟩ : Array Value) = ⟨r⟩ := by
  obtain ⟨h1, _⟩ := splice_some h
  have hc := cells_toList v
  rw [← Array.foldl_toList, Array.toList_zipIdx, hc]
  obtain ⟨h2, h3⟩ := foldl_set off (cellL v) 0 ⟨zs⟩ (by simpa using h1)
  apply Array.ext_getElem?
  intro k
  rw [h3 k]
  have := splice_get h k
  simp only [Nat.add_zero]
  simpa using this.symm
theorem fill_rel {f : Nat → Option (Nat × Nat)} {T : Tr Value} {a : Act} : ∀ (ps : List (Nat × Operand)) (l : List (Nat × Nat × Arg)) (zs zs' cs : List Value), compParts f ps = some l →
    (∀ p ∈ ps, ∀ y, compArg p.2 = some y → VR ρ (y.ev T) (a.eval p.2)) → LR ρ zs zs' → fillL T zs l = some cs → ∃ cs', Instr.fill f ⟨zs'⟩ (ps.map fun p => (p.1, a.eval p.2)) = some ⟨cs'⟩ ∧ LR ρ cs cs'
  | [], l, zs, zs', cs, hc, _, hz, h => by
    simp only [compParts, Option.some.injEq] at hc
    subst hc
    simp only [fillL, Option.some.injEq] at h
    subst h
    exact ⟨zs', by simp [Instr.fill], hz⟩
  | (i, x) :: ps, l, zs, zs', cs, hc, hv, hz, h => by
    simp only [compParts] at hc
    split at hc
    · rename_i off n y r hf hx hr
      cases hc
      simp only [fillL] at h
      split at h
      · rename_i hb
        simp only [Option.bind_eq_some_iff] at h
        obtain ⟨m, hm, h⟩ := h
        have hxr := cellL_rel (hv (i, x) (by simp) y hx)
        obtain ⟨m', hm', hmr⟩ := splice_rel hz hxr hm
        obtain ⟨cs', h1, h2⟩ := fill_rel ps r m m' cs hr (fun p hp => hv p (by simp [hp])) hmr h
        refine ⟨cs', ?_, h2⟩
        simp only [List.map_cons, Instr.fill, hf]
        have hsz : (a.eval x).cells.size = n := by
          rw [← Array.length_toList, cells_toList, ← hxr.1]
          exact Nat.eq_of_beq_eq_true hb
        have hle := (splice_some hm').1
        rw [← cells_toList, Array.length_toList] at hle
        rw [if_neg (by simp [hsz]; rw [← hsz]; simpa using hle)]
        rw [fill_splice hm']
        exact h1
      · cases h
    · cases hc
theorem places_run : ∀ (fs : List Field) (l : List (Nat × Nat)), fieldsP P fs = some l → ∀ w, (fs.mapM fun f => (do pure (f.offset, ← sizeOf f.type) : Sem (Nat × Nat))).run P w = .ok l w
  | [], l, h, w => by simp only [fieldsP, Option.some.injEq] at h; subst h; rfl
  | f :: fs, l, h, w => by
    simp only [fieldsP] at h
    split at h
    · rename_i n r hn hr
      cases h
      have ih := places_run fs r hr w
      simp at ih
      simp [run_size hn, ih]
    · cases h
end
end Go.Proofs.Ytffokmamcempgaa.AM

/- A machine of our own: its quick ways with whole numbers are the given program's. -/
namespace Go.Proofs.Ytffokmamcempgaa.AM
open Go Go.RowKit
set_option linter.unusedVariables false
set_option linter.unusedSimpArgs false

theorem wrap_nat (k : IntKind) (n : Nat) (h : n ≤ maxN k) : k.wrap (.ofNat n) = .ofNat n := by
  cases k <;> simp only [maxN] at h <;> simp [IntKind.wrap, IntKind.bits, IntKind.signed] <;> omega
theorem bits_eq (k : IntKind) : k.bits = bitsN k := by cases k <;> rfl
theorem kindB_eq {k k' : IntKind} (h : kindB k k' = true) : k = k' := by cases k <;> cases k' <;> first | rfl | cases h
theorem maxN_lt (k : IntKind) : ∃ m, m ≤ k.bits ∧ maxN k + 1 = 2 ^ m := by
  cases k
  · exact ⟨7, by decide, rfl⟩
  · exact ⟨15, by decide, rfl⟩
  · exact ⟨31, by decide, rfl⟩
  · exact ⟨63, by decide, rfl⟩
  · exact ⟨8, by decide, rfl⟩
  · exact ⟨16, by decide, rfl⟩
  · exact ⟨32, by decide, rfl⟩
  · exact ⟨64, by decide, rfl⟩
theorem small_some {k : IntKind} {n : Nat} {v : Value} (h : small k n = some v) : n ≤ maxN k ∧ v = .int k (.ofNat n) := by
  unfold small at h
  split at h
  · rename_i hb; cases h; exact ⟨Nat.le_of_ble_eq_true hb, rfl⟩
  · cases h
theorem both_some {k : IntKind} {a b n : Nat} {v : Value} (h : both k a b n = some v) : a ≤ maxN k ∧ b ≤ maxN k ∧ v = .int k (.ofNat n) := by
  unfold both at h
  split at h
  · rename_i h1 h2; cases h; exact ⟨Nat.le_of_ble_eq_true h1, Nat.le_of_ble_eq_true h2, rfl⟩
  · cases h
theorem ofInt_nat (k : IntKind) (a : Nat) (h : a ≤ maxN k) : (BitVec.ofInt k.bits (.ofNat a)).toNat = a := by
  obtain ⟨m, hm, he⟩ := maxN_lt k
  have : 2 ^ m ≤ 2 ^ k.bits := Nat.pow_le_pow_right (by omega) hm
  have h1 : (BitVec.ofInt k.bits (.ofNat a)) = BitVec.ofNat k.bits a := by simp
  rw [h1, BitVec.toNat_ofNat, Nat.mod_eq_of_lt (by omega)]
theorem bits_small (k : IntKind) {a b : Nat} (ha : a ≤ maxN k) (hb : b ≤ maxN k) : (a &&& b) ≤ maxN k ∧ (a ||| b) ≤ maxN k ∧ (a ^^^ b) ≤ maxN k := by
  obtain ⟨m, hm, he⟩ := maxN_lt k
  have h1 : a < 2 ^ m := by omega
  have h2 : b < 2 ^ m := by omega
  have h3 := Nat.and_lt_two_pow a h2
  have h4 := Nat.or_lt_two_pow h1 h2
  have h5 := Nat.xor_lt_two_pow h1 h2
  omega
section
variable {P : Program}
theorem bin1_run {op : BinOp} {t : TypeId} {k : IntKind} {a b : Nat} {v : Value} (h : bin1 op k a b = some v) (hs : isShift op = false) (w : World) : (binOp op t (.int k (.ofNat a)) (.int k (.ofNat b))).run P w = .ok v w := by
  cases op <;> simp only [bin1] at h <;> (first | (cases h; done) | skip) <;> (try (cases hs; done))
  case add =>
    obtain ⟨h1, rfl⟩ := small_some h
    simp only [binOp, ne_eq, not_true_eq_false, if_false, Op.intArith, Sem.run_pure]
    rw [show (Int.ofNat a + Int.ofNat b) = Int.ofNat (a + b) from rfl, wrap_nat k _ h1]
  case sub =>
    unfold subN at h
    split at h
    · rename_i hb
      have hle := Nat.le_of_ble_eq_true hb
      obtain ⟨h1, rfl⟩ := small_some h
      simp only [binOp, ne_eq, not_true_eq_false, if_false, Op.intArith, Sem.run_pure]
      rw [show (Int.ofNat a - Int.ofNat b) = Int.ofNat (a - b) from by simp only [Int.ofNat_eq_natCast]; omega, wrap_nat k _ h1]
    · cases h
  case mul =>
    obtain ⟨h1, rfl⟩ := small_some h
    simp only [binOp, ne_eq, not_true_eq_false, if_false, Op.intArith, Sem.run_pure]
    rw [show (Int.ofNat a * Int.ofNat b) = Int.ofNat (a * b) from rfl, wrap_nat k _ h1]
  case quo =>
    unfold quoN at h
    cases b with
    | zero => cases h
    | succ c =>
      obtain ⟨h1, rfl⟩ := small_some h
      simp only [binOp, ne_eq, not_true_eq_false, if_false, Op.intDiv]
      rw [if_neg (by simp only [Int.ofNat_eq_natCast]; omega)]
      simp only [Sem.run_pure]
      rw [show (Int.ofNat a).tdiv (Int.ofNat (c + 1)) = Int.ofNat (a / (c + 1)) from rfl, wrap_nat k _ h1]
  case rem =>
    unfold remN at h
    cases b with
    | zero => cases h
    | succ c =>
      cases h
      simp only [binOp, ne_eq, not_true_eq_false, if_false, Op.intDiv]
      rw [if_neg (by simp only [Int.ofNat_eq_natCast]; omega)]
      rfl
  case and =>
    obtain ⟨h1, h2, rfl⟩ := both_some h
    simp only [binOp, ne_eq, not_true_eq_false, if_false, Op.intBits, Sem.run_pure]
    rw [BitVec.toNat_and, ofInt_nat k a h1, ofInt_nat k b h2]
    exact congrArg (fun z => Result.ok (Value.int k z) w) (wrap_nat k _ (bits_small k h1 h2).1)
  case or =>
    obtain ⟨h1, h2, rfl⟩ := both_some h
    simp only [binOp, ne_eq, not_true_eq_false, if_false, Op.intBits, Sem.run_pure]
    rw [BitVec.toNat_or, ofInt_nat k a h1, ofInt_nat k b h2]
    exact congrArg (fun z => Result.ok (Value.int k z) w) (wrap_nat k _ (bits_small k h1 h2).2.1)
  case xor =>
    obtain ⟨h1, h2, rfl⟩ := both_some h
    simp only [binOp, ne_eq, not_true_eq_false, if_false, Op.intBits, Sem.run_pure]
    rw [BitVec.toNat_xor, ofInt_nat k a h1, ofInt_nat k b h2]
    exact congrArg (fun z => Result.ok (Value.int k z) w) (wrap_nat k _ (bits_small k h1 h2).2.2)
  case eql =>
    cases h
    simp only [binOp, ne_eq, not_true_eq_false, if_false, Op.intCmp, Sem.run_pure]
    congr 2
    rw [Bool.eq_iff_iff]
    simp [Nat.beq_eq]
    omega
  case neq =>
    cases h
    simp only [binOp, ne_eq, not_true_eq_false, if_false, Op.intCmp, Sem.run_pure]
    congr 2
    rw [Bool.eq_iff_iff]
    have hb : a.beq b = false ↔ ¬ a = b := by rw [← Bool.not_eq_true, Nat.beq_eq]
    simp [bne, hb]
    omega
  case lss =>
    cases h
    simp only [binOp, ne_eq, not_true_eq_false, if_false, Op.intCmp, Sem.run_pure]
    congr 2
    rw [Bool.eq_iff_iff]
    simp [Nat.blt]
    omega
  case leq =>
    cases h
    simp only [binOp, ne_eq, not_true_eq_false, if_false, Op.intCmp, Sem.run_pure]
    congr 2
    rw [Bool.eq_iff_iff]
    simp
  case gtr =>
    cases h
    simp only [binOp, ne_eq, not_true_eq_false, if_false, Op.intCmp, Sem.run_pure]
    congr 2
    rw [Bool.eq_iff_iff]
    simp [Nat.blt]
    omega
  case geq =>
    cases h
    simp only [binOp, ne_eq, not_true_eq_false, if_false, Op.intCmp, Sem.run_pure]
    congr 2
    rw [Bool.eq_iff_iff]
    simp
theorem shN_run {op : BinOp} {t : TypeId} {k k' : IntKind} {a n : Nat} {v : Value} (h : shN op k a n = some v) (w : World) : (binOp op t (.int k (.ofNat a)) (.int k' (.ofNat n))).run P w = .ok v w := by
  have hneg : ¬ (Int.ofNat n < 0) := by simp only [Int.ofNat_eq_natCast]; omega
  cases op <;> simp only [shN] at h <;> (first | (cases h; done) | skip)
  case shl =>
    split at h
    · rename_i hb
      have hle : n ≤ k.bits := by rw [bits_eq]; exact Nat.le_of_ble_eq_true hb
      obtain ⟨h1, rfl⟩ := small_some h
      simp only [binOp, Op.shift, if_neg hneg, Sem.run_pure]
      rw [show min (Int.ofNat n).toNat k.bits = n by simp; omega, show Int.ofNat a * 2 ^ n = Int.ofNat (a * 2 ^ n) by simp, wrap_nat k _ h1]
    · cases h
  case shr =>
    split at h
    · rename_i hb
      have hle : n ≤ k.bits := by rw [bits_eq]; exact Nat.le_of_ble_eq_true hb
      cases h
      simp only [binOp, Op.shift, if_neg hneg, Sem.run_pure]
      rw [show min (Int.ofNat n).toNat k.bits = n by simp; omega]
      congr 2
      rw [show ((2 : Int) ^ n) = Int.ofNat (2 ^ n) by simp]
      exact Int.fdiv_eq_ediv_of_nonneg _ (Int.natCast_nonneg _)
    · cases h
theorem slow_run {ρ : Ren} {op : BinOp} {t : TypeId} {x y x' y' v : Value} (h : slow P op t x y = some v) (hx : VR ρ x x') (hy : VR ρ y y') : (∀ w, (binOp op t x' y').run P w = .ok v w) ∧ VR ρ v v := by
  unfold slow at h
  split at h
  · rename_i h1 h2
    simp only [Option.bind_eq_some_iff] at h
    obtain ⟨u, hu, h⟩ := h
    split at h
    · rename_i hp
      cases h
      rw [plain_same 8 x x' h1 hx, plain_same 8 y y' h2 hy]
      exact ⟨fun w => pr_run hu w, plain_refl ρ 1 _ hp⟩
    · cases h
  · cases h
theorem bin1_int {op : BinOp} {k : IntKind} {a b : Nat} {v : Value} (h : bin1 op k a b = some v) : plainV 0 v = true := by
  have hs : ∀ n, small k n = some v → plainV 0 v = true := fun n e => by obtain ⟨_, rfl⟩ := small_some e; rfl
  have hb : ∀ n, both k a b n = some v → plainV 0 v = true := fun n e => by obtain ⟨_, _, rfl⟩ := both_some e; rfl
  cases op <;> simp only [bin1] at h <;> first | (cases h; done) | exact hs _ h | exact hb _ h | (cases h; rfl) | skip
  case sub => unfold subN at h; split at h <;> first | exact hs _ h | cases h
  case quo => unfold quoN at h; split at h <;> first | exact hs _ h | cases h
  case rem => unfold remN at h; split at h <;> first | (cases h; rfl) | cases h
theorem binII_run {ρ : Ren} {op : BinOp} {t : TypeId} {k k' : IntKind} {a b : Int} {v : Value} (h : binII P op t k k' a b = some v) : (∀ w, (binOp op t (.int k a) (.int k' b)).run P w = .ok v w) ∧ VR ρ v v := by
  have hslow : ∀ a b : Int, slow P op t (.int k a) (.int k' b) = some v → (∀ w, (binOp op t (.int k a) (.int k' b)).run P w = .ok v w) ∧ VR ρ v v := fun a b e => slow_run e (.int k a) (.int k' b)
  unfold binII at h
  split at h
  · rename_i a b
    unfold binNN at h
    split at h
    · rename_i hs
      unfold orSlow at h
      split at h
      · rename_i u hu
        cases h
        refine ⟨fun w => shN_run hu w, ?_⟩
        cases op <;> simp only [shN] at hu <;> (first | (cases hu; done) | skip)
        · split at hu
          · obtain ⟨_, rfl⟩ := small_some hu; exact .int _ _
          · cases hu
        · split at hu
          · cases hu; exact .int _ _
          · cases hu
      · exact hslow _ _ h
    · rename_i hs
      split at h
      · rename_i hk
        have hkk := kindB_eq hk
        subst hkk
        unfold orSlow at h
        split at h
        · rename_i u hu
          cases h
          exact ⟨fun w => bin1_run hu hs w, plain_refl ρ 0 _ (bin1_int hu)⟩
        · exact hslow _ _ h
      · cases h
  · exact hslow _ _ h
end
end Go.Proofs.Ytffokmamcempgaa.AM

/- A machine of our own: each operation that only reckons answers as the given program's. -/
namespace Go.Proofs.Ytffokmamcempgaa.AM
open Go Go.RowKit
set_option linter.unusedVariables false
set_option linter.unusedSimpArgs false

section
variable {P : Program} {ρ : Ren}
theorem arg_rel {T : Tr Value} {a : Act} {x : Operand} {y : Arg} (h : compArg x = some y) (ht : ∀ t, tmpOf x = some t → VR ρ ((T.get t).getD undef) (a.tmps.getD t undef)) : VR ρ (y.ev T) (a.eval x) := by
  cases x with
  | tmp t => simp only [compArg, Option.some.injEq] at h; subst h; exact ht t rfl
  | const v =>
    simp only [compArg] at h
    split at h
    · rename_i hp; cases h; exact plain_refl ρ 8 v hp
    · cases h
  | func f => simp only [compArg, Option.some.injEq] at h; subst h; exact plain_refl ρ 1 _ rfl
  | global g => simp [compArg] at h
theorem args_rel {T : Tr Value} {a : Act} : ∀ (xs : List Operand) (ys : List Arg), compArgs xs = some ys → (∀ x ∈ xs, ∀ y, compArg x = some y → VR ρ (y.ev T) (a.eval x)) → LR ρ (ys.map (·.ev T)) (xs.map a.eval)
  | [], ys, h, _ => by simp only [compArgs, Option.some.injEq] at h; subst h; exact LR.nil ρ
  | x :: xs, ys, h, hv => by
    simp only [compArgs, Option.bind_eq_some_iff, Option.map_eq_some_iff] at h
    obtain ⟨y, hy, r, hr, rfl⟩ := h
    exact LR.cons (hv x (by simp) y hy) (args_rel xs r hr fun z hz => hv z (by simp [hz]))
theorem isNil_rel {k : NilK} {v v' : Value} (h : VR ρ v v') : isNil k v' = isNil k v := by cases h <;> cases k <;> rfl
theorem natOf_rel {v v' : Value} (h : VR ρ v v') : natOf v' = natOf v := by cases h <;> rfl
theorem natOf_some {v : Value} {n : Nat} (h : natOf v = some n) : ∃ k, v = .int k (.ofNat n) := by
  unfold natOf at h
  split at h
  · cases h; exact ⟨_, rfl⟩
  · cases h
theorem lit_cases (x y : Operand) (P : Prop) (h1 : (litOp x || litOp y) = false → P) (h2 : ∀ v, x = .const v → P) (h3 : ∀ v, y = .const v → P) : P := by
  cases x with
  | const v => exact h2 v rfl
  | _ => cases y with
    | const v => exact h3 v rfl
    | _ => exact h1 rfl
theorem eqGuard_two {op : BinOp} (hop : op = .eql ∨ op = .neq) {t : TypeId} {x y : Operand} {a b : Value} (h : eqGuardB P t (litOp x || litOp y) a b = true) (w : World) : (eqGuard op t x y a b).run P w = .ok () w := by
  unfold eqGuardB at h
  split at h
  · refine lit_cases x y _ (fun hf => by rw [hf] at h; cases h) ?_ ?_
    · rintro v rfl
      rcases hop with rfl | rfl <;> simp [eqGuard]
    · rintro v rfl
      rcases hop with rfl | rfl <;> cases x <;> simp [eqGuard]
  · rename_i xs ys
    split at h
    · rename_i hp
      have hr := pr_run hp w
      simp only [Sem.run_bind, run_program, Result.andThen_ok] at hr
      by_cases hq : P.eqGuardType P.depth t = true
      · simp only [hq, Bool.not_true, Bool.false_eq_true, if_false] at hr
        rcases hop with rfl | rfl <;> simp [eqGuard, hq, hr]
      · rcases hop with rfl | rfl <;> simp [eqGuard, hq]
    · cases h
  · rename_i h1 h2
    rcases hop with rfl | rfl <;> cases a <;> cases b <;> first | (simp at h1; done) | (simp at h2; done) | rfl
theorem eqGuard_run {op : BinOp} {t : TypeId} {x y : Operand} {a b : Value} (h : eqGuardV P op t (litOp x || litOp y) a b = true) (w : World) : (eqGuard op t x y a b).run P w = .ok () w := by
  cases op
  case eql => exact eqGuard_two (.inl rfl) h w
  case neq => exact eqGuard_two (.inr rfl) h w
  all_goals rfl
theorem eqGuard_int (op : BinOp) (t : TypeId) (x y : Operand) (k k' : IntKind) (m n : Int) (w : World) : (eqGuard op t x y (.int k m) (.int k' n)).run P w = .ok () w := by
  cases op <;> rfl
end
end Go.Proofs.Ytffokmamcempgaa.AM

/- A machine of our own: each operation that only reckons answers as the given program's. (All of them.) -/
namespace Go.Proofs.Ytffokmamcempgaa.AM
open Go Go.RowKit
set_option linter.unusedVariables false
set_option linter.unusedSimpArgs false

section
variable {P : Program} {ρ : Ren} {cf : CallF} {T : Tr Value} {H H' : Heap} {a : Act}
theorem up_some {x : Option Value} {v : Value} (h : up H x = some (v, H')) : H' = H ∧ x = some v := by
  cases x <;> simp only [up, Option.some.injEq, Prod.mk.injEq] at h <;> first | exact ⟨h.2.symm, by rw [h.1]⟩ | cases h
theorem partOf_part {t : TypeId} {n : Option Nat} (ht : aggN P t = some n) {off : Nat} {cs cs' : List Value} {v : Value} (hl : LR ρ cs cs') (h : partOf n off cs = some v) : ∃ v', (∀ w, (part t ⟨cs'⟩ off).run P w = .ok v' w) ∧ VR ρ v v' := by
  obtain ⟨v', h1, h2⟩ := partOf_rel hl h
  exact ⟨v', fun w => part_run ht h1 w, h2⟩
theorem add_rel {s off n : Nat} : (⟨s, off, none⟩ : Addr).add n = ⟨s, off + n, none⟩ := by
  unfold Addr.add
  split
  · rename_i h; rw [h]; rfl
  · rfl
/-- A bound that may be left out. -/
def OptIs (a : Act) (n : Option Nat) (x : Option Operand) : Prop :=
  match n with
  | none => x = none
  | some n => ∃ z k, x = some z ∧ a.eval z = .int k (.ofNat n)
theorem optNat_rel {x : Option Operand} {y : Option Arg} (h : compOpt x = some y) (hv : ∀ z, x = some z → ∀ u, compArg z = some u → VR ρ (u.ev T) (a.eval z)) {n : Option Nat} (hn : optNat T y = some n) : OptIs a n x := by
  cases x with
  | none => simp only [compOpt, Option.some.injEq] at h; subst h; simp only [optNat, Option.some.injEq] at hn; subst hn; exact (rfl : (none : Option Operand) = none)
  | some z =>
    simp only [compOpt, Option.map_eq_some_iff] at h
    obtain ⟨u, hu, rfl⟩ := h
    simp only [optNat, Option.map_eq_some_iff] at hn
    obtain ⟨m, hm, rfl⟩ := hn
    have hr := hv z rfl u hu
    obtain ⟨k, hk⟩ := natOf_some hm
    rw [hk] at hr
    cases hr' : a.eval z <;> rw [hr'] at hr <;> cases hr
    exact ⟨z, _, rfl, hr'⟩
theorem bound_run {k : IntKind} {n y : Nat} (h : n ≤ y) (c : BoundsCode) (w : World) : (Instr.sliceBound (.int k (.ofNat n)) y c).run P w = .ok n w := by
  unfold Instr.sliceBound
  simp only [asIntOf, Sem.run_bind, Sem.run_pure, Result.andThen_ok]
  rw [if_pos ⟨Int.natCast_nonneg n, by simp only [Int.ofNat_eq_natCast]; omega⟩]
  rfl
/-- The bounds of a slice expression, as they come out. -/
theorem bounds_run {s : Bool} {len cap : Nat} {lo hi mx : Option Operand} {l h m : Option Nat} {m' : Nat}
    (hl : OptIs a l lo)
    (hh : OptIs a h hi)
    (hm : OptIs a m mx)
    (hmh : m ≠ none → h ≠ none)
    (e : m' = m.getD cap) (h1 : m' ≤ cap) (h2 : h.getD len ≤ m') (h3 : l.getD 0 ≤ h.getD len) (w : World) :
    (Instr.sliceBounds s len cap (lo.map a.eval) (hi.map a.eval) (mx.map a.eval)).run P w = .ok (l.getD 0, h.getD len, m') w := by
  unfold Instr.sliceBounds
  unfold OptIs at hl hh hm
  cases m with
  | none =>
    simp only at hm
    subst hm
    simp only [Option.getD_none] at e
    subst e
    cases h with
    | none =>
      simp only at hh
      subst hh
      cases l with
      | none => simp only at hl; subst hl; simp
      | some n =>
        obtain ⟨z, k, rfl, hz⟩ := hl
        simp only [Option.getD_none, Option.getD_some] at h3
        simp only [Option.map_none, Option.map_some, Sem.run_bind, Sem.run_pure, Result.andThen_ok, hz, bound_run h3]
        rfl
    | some q =>
      obtain ⟨y, k, rfl, hy⟩ := hh
      simp only [Option.getD_some] at h2 h3
      cases l with
      | none =>
        simp only at hl; subst hl
        simp only [Option.map_none, Option.map_some, Sem.run_bind, Sem.run_pure, Result.andThen_ok, hy, bound_run h2]
        rfl
      | some n =>
        obtain ⟨z, k, rfl, hz⟩ := hl
        simp only [Option.getD_some] at h3
        simp only [Option.map_none, Option.map_some, Sem.run_bind, Sem.run_pure, Result.andThen_ok, hy, hz, bound_run h2, bound_run h3]
        rfl
  | some r =>
    obtain ⟨x, k, rfl, hx⟩ := hm
    simp only [Option.getD_some] at e
    subst e
    cases h with
    | none => exact absurd rfl (hmh (by simp))
    | some q =>
      obtain ⟨y, k, rfl, hy⟩ := hh
      simp only [Option.getD_some] at h2 h3
      cases l with
      | none =>
        simp only at hl; subst hl
        simp only [Option.map_none, Option.map_some, Sem.run_bind, Sem.run_pure, Result.andThen_ok, hx, hy, bound_run h1, bound_run h2]
        rfl
      | some n =>
        obtain ⟨z, k, rfl, hz⟩ := hl
        simp only [Option.getD_some] at h3
        simp only [Option.map_none, Option.map_some, Sem.run_bind, Sem.run_pure, Result.andThen_ok, hx, hy, hz, bound_run h1, bound_run h2, bound_run h3]
        rfl
theorem equalIn_nil (n : Nat) {k : NilK} {x y : Value} {p q : Bool} {t : TypeId} {d : TypeDesc} (ht : P.underlying t = some d) (hk : nilKind d = some k) (hx : isNil k x = some p) (hy : isNil k y = some q) (hpq : p = true ∨ q = true) (w : World) :
    (Op.equalIn (n + 1) t x y).run P w = .ok (p && q) w := by
  simp only [Op.equalIn, Sem.run_bind, run_und ht, Result.andThen_ok]
  cases k with
  | p =>
    cases d <;> simp only [nilKind] at hk <;> (try (cases hk; done))
    cases x <;> simp only [isNil] at hx <;> (try (cases hx; done))
    cases y <;> simp only [isNil] at hy <;> (try (cases hy; done))
    rename_i b c
    cases hx; cases hy
    cases b <;> cases c <;> first | rfl | simp at hpq
  | s =>
    cases d <;> simp only [nilKind] at hk <;> (try (cases hk; done))
    cases x with
    | slice b _ _ =>
      cases y with
      | slice c _ _ => cases hx; cases hy; cases b <;> cases c <;> first | rfl | simp at hpq
      | _ => cases hy
    | _ => cases hx
  | m =>
    cases d <;> simp only [nilKind] at hk <;> (try (cases hk; done))
    cases x with
    | map b =>
      cases y with
      | map c => cases hx; cases hy; cases b <;> cases c <;> first | rfl | simp at hpq
      | _ => cases hy
    | _ => cases hx
  | f =>
    cases d <;> simp only [nilKind] at hk <;> (try (cases hk; done))
    cases x <;> simp only [isNil] at hx <;> (try (cases hx; done)) <;> cases y <;> simp only [isNil] at hy <;> (try (cases hy; done)) <;> cases hx <;> cases hy <;> first | rfl | simp at hpq
theorem equal_nil {k : NilK} {x y : Value} {p q : Bool} {t : TypeId} {d : TypeDesc} (ht : P.underlying t = some d) (hk : nilKind d = some k) (hx : isNil k x = some p) (hy : isNil k y = some q) (hpq : p = true ∨ q = true) (w : World) :
    (Op.equal t x y).run P w = .ok (p && q) w := equalIn_nil 9999 ht hk hx hy hpq w
theorem bin_eql {k : NilK} {x y : Value} {p q : Bool} (t : TypeId) (hx : isNil k x = some p) (hy : isNil k y = some q) : binOp .eql t x y = (do pure (.bool (← Op.equal t x y))) ∧ binOp .neq t x y = (do pure (.bool (!(← Op.equal t x y)))) := by
  cases k <;> cases x <;> simp only [isNil] at hx <;> (try (cases hx; done)) <;> cases y <;> simp only [isNil] at hy <;> (try (cases hy; done)) <;> exact ⟨rfl, rfl⟩
theorem eqGuard_nil {k : NilK} {x y : Value} {p q : Bool} (op : BinOp) (t : TypeId) (u u' : Operand) (hx : isNil k x = some p) (hy : isNil k y = some q) (w : World) : (eqGuard op t u u' x y).run P w = .ok () w := by
  cases k <;> cases x <;> simp only [isNil] at hx <;> (try (cases hx; done)) <;> cases y <;> simp only [isNil] at hy <;> (try (cases hy; done)) <;> cases op <;> rfl
theorem eqNil_some {k : NilK} {neg : Bool} {x y v : Value} (h : oEqNil k neg x y = some v) : ∃ p q, isNil k x = some p ∧ isNil k y = some q ∧ (p = true ∨ q = true) ∧ v = .bool (neg != (p && q)) := by
  unfold oEqNil at h
  cases hx : isNil k x with
  | none => rw [hx] at h; cases hy : isNil k y <;> rw [hy] at h <;> cases h
  | some p =>
    rw [hx] at h
    cases hy : isNil k y with
    | none => rw [hy] at h; cases p <;> cases h
    | some q =>
      rw [hy] at h
      cases p <;> cases q <;> simp only [eqNilGo] at h <;> (try (cases h; done)) <;> cases h <;> exact ⟨_, _, rfl, rfl, by simp, rfl⟩
end
end Go.Proofs.Ytffokmamcempgaa.AM

/- A machine of our own: each operation that only reckons answers as the given program's. (Put together.) -/
namespace Go.Proofs.Ytffokmamcempgaa.AM
open Go Go.RowKit
set_option linter.unusedVariables false
set_option linter.unusedSimpArgs false

section
variable {P : Program} {ρ : Ren} {cf : CallF} {T : Tr Value} {H H' : Heap} {a : Act}
theorem room_cut {off l m c e n : Nat} (h1 : l ≤ m) (h2 : m ≤ c) (h : off + c * e ≤ n) : off + l * e + (m - l) * e ≤ n := by
  have h3 : l * e + (m - l) * e = m * e := by rw [← Nat.add_mul]; congr 1; omega
  have h4 : m * e ≤ c * e := Nat.mul_le_mul_right e h2
  omega
theorem cutGo_some {size : Nat} {A : Option Addr} {len c l h m : Nat} {o : Bool} {v : Value} (hr : cutGo size A len c l h m o = some v) : m ≤ c ∧ h ≤ m ∧ l ≤ h ∧
    v = if o then .slice (A.map (·.add (l * size))) (h - l) U else .slice (if m = l then A else A.map (·.add (l * size))) (h - l) (m - l) := by
  unfold cutGo at hr
  split at hr
  · rename_i h1 h2 h3
    refine ⟨Nat.le_of_ble_eq_true h1, Nat.le_of_ble_eq_true h2, Nat.le_of_ble_eq_true h3, ?_⟩
    cases o
    · cases hr
      simp only [Bool.false_eq_true, if_false]
      congr 1
      by_cases e : m = l
      · rw [e, Nat.beq_refl, if_pos rfl]
      · rw [if_neg e, show Nat.beq m l = false from by rw [← Bool.not_eq_true, Nat.beq_eq]; exact e]
    · cases hr; rfl
  · cases hr
theorem cut_run {t e : TypeId} (ht : P.underlying t = some (.slice e)) {size : Nat} (he : sizeP P e = some size) {x x' v : Value} {lo hi mx : Option Operand} {l h m : Option Nat} (hx : VR ρ x x')
    (hl : OptIs a l lo)
    (hh : OptIs a h hi)
    (hm : OptIs a m mx)
    (hmh : m ≠ none → h ≠ none) (hsz : ∀ A n c loc, x = .slice (some A) n c → ρ A.block = some loc → loc.e = size)
    (hr : oCut size x (some l) (some h) (some m) = some v) : ∃ v', (∀ w, (Instr.slice t x' (lo.map a.eval) (hi.map a.eval) (mx.map a.eval)).run P w = .ok v' w) ∧ VR ρ v v' := by
  have run : ∀ (A : Option Addr) (len cap m' : Nat), m' = m.getD cap → m' ≤ cap → h.getD len ≤ m' → l.getD 0 ≤ h.getD len → ∀ w, (Instr.slice t (.slice A len cap) (lo.map a.eval) (hi.map a.eval) (mx.map a.eval)).run P w =
      .ok (.slice (if m' = l.getD 0 then A else A.map (·.add (l.getD 0 * size))) (h.getD len - l.getD 0) (m' - l.getD 0)) w := by
    intro A len cap m' e h1 h2 h3 w
    unfold Instr.slice
    simp only [Sem.run_bind, run_und ht, Result.andThen_ok, bounds_run hl hh hm hmh e h1 h2 h3, run_size he, Sem.run_pure]
  cases hx with
  | sliceNil =>
    simp only [oCut] at hr
    rw [show Nat.beq 0 U = false from rfl] at hr
    obtain ⟨h1, h2, h3, rfl⟩ := cutGo_some hr
    refine ⟨_, run none 0 0 _ rfl h1 h2 h3, ?_⟩
    have e1 : m.getD 0 = 0 := by omega
    have e2 : h.getD 0 = 0 := by omega
    have e3 : l.getD 0 = 0 := by omega
    rw [e1, e2, e3]
    exact .sliceNil
  | slice b off off' len cap cap' loc hb hc hlc ho hroom =>
    have hes := hsz ⟨b, off, none⟩ len cap loc rfl hb
    -- the closed case
    have closed : ∀ m' : Nat, m' ≤ cap' → h.getD len ≤ m' → l.getD 0 ≤ h.getD len →
        VR ρ (.slice (if m' = l.getD 0 then some ⟨b, off, none⟩ else (some ⟨b, off, none⟩ : Option Addr).map (·.add (l.getD 0 * size))) (h.getD len - l.getD 0) (m' - l.getD 0))
          (.slice (if m' = l.getD 0 then some ⟨loc.c, off', none⟩ else (some ⟨loc.c, off', none⟩ : Option Addr).map (·.add (l.getD 0 * size))) (h.getD len - l.getD 0) (m' - l.getD 0)) := by
      intro m' h1 h2 h3
      by_cases hq : m' = l.getD 0
      · rw [if_pos hq, if_pos hq]
        refine .slice b off off' _ _ _ loc hb (.inl rfl) (by omega) (.inr ⟨by omega, by omega⟩) (fun q => ?_)
        have := hroom q
        rw [show m' - l.getD 0 = 0 by omega, Nat.zero_mul]
        omega
      · rw [if_neg hq, if_neg hq]
        simp only [Option.map_some, add_rel]
        refine .slice b _ _ _ _ _ loc hb (.inl rfl) (by omega) (.inl ?_) (fun q => ?_)
        · rcases ho with ho | ⟨h5, h6⟩ <;> omega
        · rw [← hes]
          exact room_cut (by omega) h1 (hroom q)
    simp only [oCut] at hr
    split at hr
    · rename_i hu
      obtain ⟨h1, h2, h3, rfl⟩ := cutGo_some hr
      cases m with
      | none =>
        simp only [Option.getD_none] at h1 h2
        refine ⟨_, run (some ⟨loc.c, off', none⟩) len cap' _ rfl (Nat.le_refl _) (by simp only [Option.getD_none]; omega) h3, ?_⟩
        simp only [Option.getD_none, Option.isNone_none, if_true, Option.map_some, add_rel]
        by_cases hq : cap' = l.getD 0
        · rw [if_pos hq]
          refine .slice b _ _ _ _ _ loc hb (.inr rfl) (by omega) (.inr ⟨by omega, by omega⟩) (fun q => ?_)
          have := hroom q
          rw [show cap' - l.getD 0 = 0 by omega, Nat.zero_mul]
          omega
        · rw [if_neg hq]
          refine .slice b _ _ _ _ _ loc hb (.inr rfl) (by omega) (.inl ?_) (fun q => ?_)
          · rcases ho with ho | ⟨h5, h6⟩ <;> omega
          · rw [← hes]
            exact room_cut (by omega) (Nat.le_refl _) (hroom q)
      | some r =>
        simp only [Option.getD_some] at h1 h2
        refine ⟨_, run (some ⟨loc.c, off', none⟩) len cap' r rfl (by omega) h2 h3, ?_⟩
        simp only [Option.getD_some, Option.isNone_some, Bool.false_eq_true, if_false]
        exact closed r (by omega) h2 h3
    · rename_i hu
      have hcc : cap = cap' := hc.resolve_right fun e => by rw [e, Nat.beq_refl] at hu; cases hu
      subst hcc
      obtain ⟨h1, h2, h3, rfl⟩ := cutGo_some hr
      refine ⟨_, run (some ⟨loc.c, off', none⟩) len cap _ rfl h1 h2 h3, ?_⟩
      simp only [Bool.false_eq_true, if_false]
      exact closed _ h1 h2 h3
  | _ => simp [oCut] at hr
end
end Go.Proofs.Ytffokmamcempgaa.AM

/- A machine of our own: an operation that only reckons answers as the given program's, whatever the world. -/
namespace Go.Proofs.Ytffokmamcempgaa.AM
open Go Go.RowKit
set_option linter.unusedVariables false
set_option linter.unusedSimpArgs false

section
variable {P : Program} {ρ : Ren} {cf : CallF} {T : Tr Value} {H H' : Heap} {a : Act}
/-- An operation's answer, in whatever world. -/
def Gives (P : Program) (a : Act) (o : Oper) (v : Value) : Prop := ∀ w, (execOp a.eval o).run P w = .ok (.value v) w
theorem mnmx_run {mx : Bool} {k : IntKind} : ∀ (l l' : List Value) (n : Int) (v : Value), LR ρ l l' → mnmxGo mx k n l = some v → (∀ w, (l'.foldlM (if mx then Builtin.max2 else Builtin.min2) (.int k n)).run P w = .ok v w) ∧ VR ρ v v
  | [], l', n, v, hl, h => by
    have : l' = [] := by have := hl.1; simpa using this.symm
    subst this
    simp only [mnmxGo, Option.some.injEq] at h
    subst h
    exact ⟨fun w => rfl, .int _ _⟩
  | x :: l, l', n, v, hl, h => by
    obtain ⟨y, l2, rfl, hy, hl2⟩ := hl.inv
    cases x <;> simp only [mnmxGo] at h <;> (try (cases h; done))
    rename_i k2 b
    cases hy
    obtain ⟨h1, h2⟩ := mnmx_run l l2 _ v hl2 h
    refine ⟨fun w => ?_, h2⟩
    rw [List.foldlM_cons]
    cases mx
    · simp only [Bool.false_eq_true, if_false, Builtin.min2, Sem.run_bind, Sem.run_pure, Result.andThen_ok]
      exact h1 w
    · simp only [if_true, Builtin.max2, Sem.run_bind, Sem.run_pure, Result.andThen_ok]
      exact h1 w
theorem pure_sound {o : Oper} {ao : AOp} {v : Value} (hc : compOp P o.op = some ao) (hv : ∀ x ∈ o.op.operands.toList, ∀ y, compArg x = some y → VR ρ (y.ev T) (a.eval x)) (hna : acts ao = false) (hnl : looks ao = false)
    (hr : opRun P cf T H ao = some (v, H')) : H' = H ∧ ∃ v', Gives P a o v' ∧ VR ρ v v' := by
  obtain ⟨dst, op, type, pos, after, guard⟩ := o
  simp only at hc hv
  unfold Gives
  have one : ∀ {x : Operand} {y : Arg}, x ∈ op.operands.toList → compArg x = some y → VR ρ (y.ev T) (a.eval x) := fun h1 h2 => hv _ h1 _ h2
  cases op with
  | move x =>
    simp only [compOp, Option.map_eq_some_iff] at hc
    obtain ⟨y, hy, rfl⟩ := hc
    simp only [opRun, Option.some.injEq, Prod.mk.injEq] at hr
    obtain ⟨rfl, rfl⟩ := hr
    exact ⟨rfl, _, fun w => rfl, one (by simp [Op.operands]) hy⟩
  | assign x =>
    simp only [compOp, Option.map_eq_some_iff] at hc
    obtain ⟨y, hy, rfl⟩ := hc
    simp only [opRun, Option.some.injEq, Prod.mk.injEq] at hr
    obtain ⟨rfl, rfl⟩ := hr
    exact ⟨rfl, _, fun w => rfl, one (by simp [Op.operands]) hy⟩
  | pick c x y =>
    simp only [compOp] at hc
    split at hc
    · rename_i c' x' y' h1 h2 h3
      cases hc
      simp only [opRun] at hr
      replace hr := up_some hr; obtain ⟨rfl, hr⟩ := hr
      have r1 := one (by simp [Op.operands]) h1
      have r2 := one (by simp [Op.operands]) h2
      have r3 := one (by simp [Op.operands]) h3
      refine ⟨rfl, ?_⟩
      generalize c'.ev T = cv at hr r1
      generalize hb : a.eval c = cw at r1
      cases r1 <;> simp only [oPick] at hr <;> (try (cases hr; done))
      rename_i b
      cases b <;> simp only [oPick, Option.some.injEq] at hr <;> subst hr
      · exact ⟨_, fun w => by simp [execOp, hb, asBool], r3⟩
      · exact ⟨_, fun w => by simp [execOp, hb, asBool], r2⟩
    · cases hc
  | build t ps =>
    simp only [compOp] at hc
    have hps : ∀ p ∈ ps.toList, ∀ y, compArg p.2 = some y → VR ρ (y.ev T) (a.eval p.2) := fun p hp y hy => one (by simp [Op.operands]; exact ⟨p.1, by simpa using hp⟩) hy
    have hmap : (ps.map fun (x : Nat × Operand) => (x.1, a.eval x.2)).toList = ps.toList.map fun p => (p.1, a.eval p.2) := by simp
    split at hc
    · rename_i fs z hu hz
      split at hc
      · rename_i l hl
        simp only [Option.map_eq_some_iff] at hc
        obtain ⟨parts, hp, rfl⟩ := hc
        simp only [opRun, oBuild] at hr
        replace hr := up_some hr; obtain ⟨rfl, hr⟩ := hr
        simp only [Option.map_eq_some_iff] at hr
        obtain ⟨cs, hcs, rfl⟩ := hr
        have hz2 := zero_of hz
        obtain ⟨cs', h1, h2⟩ := fill_rel ps.toList parts (cellL z) (cellL z) cs hp hps (cellL_rel (plain_refl ρ 8 z hz2.1)) hcs
        refine ⟨rfl, .agg ⟨cs'⟩, fun w => ?_, h2.agg⟩
        have hplaces : (fs.mapM fun f => (do pure (f.offset, ← sizeOf f.type) : Sem (Nat × Nat))).run P w = .ok l.toArray w := by
          have := places_run fs.toList l hl w
          rw [← Array.toArray_toList (xs := fs), List.mapM_toArray]
          simp only [Sem.run_map, this, Result.andThen_ok]
        simp only [execOp, Instr.build, Sem.run_bind, run_zero hz, Result.andThen_ok, run_und hu, hplaces, Sem.run_pure]
        have hzc : z.cells = ⟨cellL z⟩ := by apply Array.ext'; rw [cells_toList]
        rw [hzc]
        have hf : (fun (i : Nat) => l.toArray[i]?) = (fun (i : Nat) => l[i]?) := by funext i; simp
        rw [show (ps.map fun x => match x with | (i, x) => (i, a.eval x)).toList = ps.toList.map (fun p => (p.1, a.eval p.2)) from hmap, hf, h1]
        rfl
      · cases hc
    · rename_i n e z hu hz
      split at hc
      · rename_i m hm
        simp only [Option.map_eq_some_iff] at hc
        obtain ⟨parts, hp, rfl⟩ := hc
        simp only [opRun, oBuild] at hr
        replace hr := up_some hr; obtain ⟨rfl, hr⟩ := hr
        simp only [Option.map_eq_some_iff] at hr
        obtain ⟨cs, hcs, rfl⟩ := hr
        have hz2 := zero_of hz
        obtain ⟨cs', h1, h2⟩ := fill_rel ps.toList parts (cellL z) (cellL z) cs hp hps (cellL_rel (plain_refl ρ 8 z hz2.1)) hcs
        refine ⟨rfl, .agg ⟨cs'⟩, fun w => ?_, h2.agg⟩
        simp only [execOp, Instr.build, Sem.run_bind, run_zero hz, Result.andThen_ok, run_und hu, run_size hm, Sem.run_pure]
        have hzc : z.cells = ⟨cellL z⟩ := by apply Array.ext'; rw [cells_toList]
        rw [hzc, show (ps.map fun x => match x with | (i, x) => (i, a.eval x)).toList = ps.toList.map (fun p => (p.1, a.eval p.2)) from hmap, h1]
        rfl
      · cases hc
    · cases hc
  | nilCheck x =>
    simp only [compOp, Option.map_eq_some_iff] at hc
    obtain ⟨y, hy, rfl⟩ := hc
    simp only [opRun] at hr
    replace hr := up_some hr; obtain ⟨rfl, hr⟩ := hr
    have r1 := one (by simp [Op.operands]) hy
    refine ⟨rfl, ?_⟩
    generalize y.ev T = yv at hr r1
    generalize hx : a.eval x = xv at r1
    cases r1 <;> simp only [oNilCheck] at hr <;> (try (cases hr; done))
    rename_i b off loc hb
    cases hr
    exact ⟨_, fun w => by simp [execOp, hx], .ptr b off loc hb⟩
  | binOp op t x y yt =>
    simp only [compOp, compBin] at hc
    split at hc
    · rename_i d x' y' hd hx hy
      have r1 := one (by simp [Op.operands]) hx
      have r2 := one (by simp [Op.operands]) hy
      split at hc
      · rename_i k hk
        have main : ∀ neg, op = (if neg then BinOp.neq else .eql) → ao = .eqNil k neg x' y' → H' = H ∧ ∃ v', (∀ w, (execOp a.eval { dst := dst, op := .binOp op t x y yt, type := type, pos := pos, after := after, guard := guard }).run P w = .ok (.value v') w) ∧ VR ρ v v' := by
          rintro neg hop rfl
          simp only [opRun] at hr
          replace hr := up_some hr; obtain ⟨rfl, hr⟩ := hr
          obtain ⟨p, q, h1, h2, h3, rfl⟩ := eqNil_some hr
          rw [← isNil_rel r1] at h1
          rw [← isNil_rel r2] at h2
          refine ⟨rfl, .bool (neg != (p && q)), fun w => ?_, .bool _⟩
          simp only [execOp, Sem.run_bind, eqGuard_nil op t x y h1 h2, Result.andThen_ok]
          obtain ⟨b1, b2⟩ := bin_eql t h1 h2
          subst hop
          cases neg
          · simp only [Bool.false_eq_true, if_false, b1, Sem.run_bind, equal_nil hd hk h1 h2 h3, Result.andThen_ok, Sem.run_pure]
            simp
          · simp only [if_true, b2, Sem.run_bind, equal_nil hd hk h1 h2 h3, Result.andThen_ok, Sem.run_pure]
            simp
        cases op <;> simp only at hc <;> (try (cases hc; done)) <;> cases hc
        · exact main false rfl rfl
        · exact main true rfl rfl
      · split at hc
        · rename_i hdt
          cases hc
          simp only [opRun] at hr
          replace hr := up_some hr; obtain ⟨rfl, hr⟩ := hr
          refine ⟨rfl, ?_⟩
          unfold oBin at hr
          split at hr
          · rename_i k m k' n e1 e2
            rw [e1] at r1
            rw [e2] at r2
            generalize hx : a.eval x = xv at r1
            generalize hy : a.eval y = yv at r2
            cases r1
            cases r2
            obtain ⟨h1, h2⟩ := binII_run (ρ := ρ) hr
            exact ⟨v, fun w => by simp only [execOp, hx, hy, Sem.run_bind, eqGuard_int, Result.andThen_ok, h1]; rfl, h2⟩
          · split at hr
            · rename_i hg
              have hs := slow_run hr r1 r2
              have hpx : a.eval x = x'.ev T ∧ a.eval y = y'.ev T := by
                unfold slow at hr
                split at hr
                · rename_i q1 q2
                  exact ⟨plain_same 8 _ _ q1 r1, plain_same 8 _ _ q2 r2⟩
                · cases hr
              refine ⟨v, fun w => ?_, hs.2⟩
              have hg' : eqGuardV P op t (litOp x || litOp y) (a.eval x) (a.eval y) = true := by rw [hpx.1, hpx.2]; exact hg
              simp only [execOp, Sem.run_bind, eqGuard_run hg', Result.andThen_ok, hs.1]
              rfl
            · cases hr
        · cases hc
    · cases hc
  | unOp op t x =>
    simp only [compOp, Option.map_eq_some_iff] at hc
    obtain ⟨y, hy, rfl⟩ := hc
    simp only [opRun] at hr
    replace hr := up_some hr; obtain ⟨rfl, hr⟩ := hr
    have r1 := one (by simp [Op.operands]) hy
    unfold oUn at hr
    split at hr
    · rename_i hp
      simp only [Option.bind_eq_some_iff] at hr
      obtain ⟨u, hu, hr⟩ := hr
      split at hr
      · rename_i hp1
        cases hr
        refine ⟨rfl, _, fun w => ?_, plain_refl ρ 1 _ hp1⟩
        simp only [execOp, plain_same 8 _ _ hp r1, Sem.run_bind, pr_run hu, Result.andThen_ok]
        rfl
      · cases hr
    · cases hr
  | convert s d x =>
    simp only [compOp, compConv] at hc
    split at hc
    · -- numbers
      rename_i k1 k2 y hs hd hy
      cases hc
      simp only [opRun] at hr
      replace hr := up_some hr; obtain ⟨rfl, hr⟩ := hr
      have r1 := one (by simp [Op.operands]) hy
      refine ⟨rfl, ?_⟩
      generalize y.ev T = yv at hr r1
      generalize hx : a.eval x = xv at r1
      cases r1 <;> simp only [oConvI] at hr <;> (try (cases hr; done))
      rename_i k n
      cases hr
      have hcn : convN k2 n = .int k2 (k2.wrap n) := by
        unfold convN
        split
        · split
          · rename_i m hm
            rw [wrap_nat k2 _ (Nat.le_of_ble_eq_true hm)]
          · rfl
        · rfl
      refine ⟨.int k2 (k2.wrap n), fun w => ?_, by rw [hcn]; exact .int _ _⟩
      simp only [execOp, hx, convert, Sem.run_bind, run_und hs, run_und hd, Result.andThen_ok, Conv.intToInt, Sem.run_pure]
    · -- a number's text
      rename_i k1 y hs hd hy
      cases hc
      simp only [opRun] at hr
      replace hr := up_some hr; obtain ⟨rfl, hr⟩ := hr
      have r1 := one (by simp [Op.operands]) hy
      refine ⟨rfl, ?_⟩
      generalize y.ev T = yv at hr r1
      generalize hx : a.eval x = xv at r1
      cases r1 <;> simp only [oConvS] at hr <;> (try (cases hr; done)) <;> cases hr
      · exact ⟨_, fun w => by simp only [execOp, hx, convert, Sem.run_bind, run_und hs, run_und hd, Result.andThen_ok, Conv.intToString, Sem.run_pure], .string _⟩
      · exact ⟨_, fun w => by simp only [execOp, hx, convert, Sem.run_bind, run_und hs, run_und hd, Result.andThen_ok, Sem.run_pure], .string _⟩
    · rename_i y hs hd hy
      cases hc
      simp only [opRun] at hr
      replace hr := up_some hr; obtain ⟨rfl, hr⟩ := hr
      have r1 := one (by simp [Op.operands]) hy
      refine ⟨rfl, ?_⟩
      generalize y.ev T = yv at hr r1
      generalize hx : a.eval x = xv at r1
      cases r1 <;> simp only [oConvS] at hr <;> (try (cases hr; done)) <;> cases hr
      · exact ⟨_, fun w => by simp only [execOp, hx, convert, Sem.run_bind, run_und hs, run_und hd, Result.andThen_ok, Conv.intToString, Sem.run_pure], .string _⟩
      · exact ⟨_, fun w => by simp only [execOp, hx, convert, Sem.run_bind, run_und hs, run_und hd, Result.andThen_ok, Sem.run_pure], .string _⟩
    · split at hc <;> (try (cases hc; done)); cases hc; cases hna
    · split at hc <;> (try (cases hc; done)); cases hc; cases hnl
    · split at hc <;> (try (cases hc; done)); cases hc; cases hna
    · cases hc
  | makeInterface t x =>
    simp only [compOp] at hc
    split at hc
    · cases hc
    · rename_i d y h1 hd hy
      cases hc
      simp only [opRun, Option.some.injEq, Prod.mk.injEq] at hr
      obtain ⟨rfl, rfl⟩ := hr
      refine ⟨rfl, .iface t (a.eval x), fun w => ?_, .iface t _ _ (one (by simp [Op.operands]) hy)⟩
      simp only [execOp, Instr.makeInterface, Sem.run_bind, run_und hd, Result.andThen_ok]
      cases d <;> first | rfl | exact absurd rfl (hd _ _)
    · cases hc
  | makeFunc fn first cap =>
    simp only [compOp] at hc
    split at hc
    · rename_i f c hf hcp
      cases hc
      simp only [opRun, oFunc] at hr
      replace hr := up_some hr; obtain ⟨rfl, hr⟩ := hr
      cases hr
      have l1 := args_rel first.toList f hf fun x hx => hv x (by simp [Op.operands]; exact .inl (by simpa using hx))
      have l2 := args_rel cap.toList c hcp fun x hx => hv x (by simp [Op.operands]; exact .inr (by simpa using hx))
      refine ⟨rfl, .func fn ⟨first.toList.map a.eval⟩ ⟨cap.toList.map a.eval⟩, fun w => ?_, .func fn _ _ _ _ l1.1 l1.2 l2.1 l2.2⟩
      simp only [execOp, Instr.makeFunc, Sem.run_bind, Sem.run_pure, Result.andThen_ok]
      congr 3 <;> (apply Array.ext'; simp)
    · cases hc
  | slice t x lo hi mx =>
    simp only [compOp] at hc
    split at hc
    · rename_i y l h hu hy hl hh hmx
      have hmn : mx = none := by cases mx with | none => rfl | some z => simp [compOpt] at hmx
      subst hmn
      cases hc
      simp only [opRun] at hr
      replace hr := up_some hr; obtain ⟨rfl, hr⟩ := hr
      have r1 := one (by simp [Op.operands]) hy
      refine ⟨rfl, ?_⟩
      unfold oCutS at hr
      split at hr
      · rename_i s l' h' e1 e2 e3
        split at hr
        · rename_i b1 b2
          cases hr
          have q1 := optNat_rel (a := a) hl (fun z hz u hu' => hv z (by subst hz; simp [Op.operands]) u hu') e2
          have q2 := optNat_rel (a := a) hh (fun z hz u hu' => hv z (by subst hz; simp [Op.operands]) u hu') e3
          rw [e1] at r1
          generalize hx : a.eval x = xv at r1
          cases r1
          refine ⟨_, fun w => ?_, .string _⟩
          have hb := bounds_run (P := P) (a := a) (s := false) (len := s.size) (cap := s.size) (mx := none) (m := none) (m' := s.size) q1 q2 (rfl : (none : Option Operand) = none) (by simp) rfl (Nat.le_refl _) (Nat.le_of_ble_eq_true b1) (Nat.le_of_ble_eq_true b2) w
          simp only [Option.map_none] at hb
          simp only [execOp, Instr.sliceAt, Sem.run_bind, run_und hu, Result.andThen_ok, hx, Instr.slice, Option.map_none, Option.isSome_none, Bool.false_eq_true, if_false, hb, Sem.run_pure]
        · cases hr
      · cases hr
    · split at hc
      · cases hc
      · simp only [Option.map_eq_some_iff] at hc
        obtain ⟨n, hn, rfl⟩ := hc
        cases hnl
    · cases hc
  | fieldAddr t x f =>
    simp only [compOp] at hc
    split at hc
    · rename_i fs y hu hy
      split at hc
      · rename_i fd hf
        split at hc
        · rename_i n hn
          cases hc
          simp only [opRun] at hr
          replace hr := up_some hr; obtain ⟨rfl, hr⟩ := hr
          have r1 := one (by simp [Op.operands]) hy
          refine ⟨rfl, ?_⟩
          generalize y.ev T = yv at hr r1
          generalize hx : a.eval x = xv at r1
          cases r1 <;> simp only [oFieldAddr] at hr <;> (try (cases hr; done))
          rename_i b off loc hb
          cases hr
          refine ⟨.pointer (some ((⟨loc.c, loc.s + off, none⟩ : Addr).add fd.offset)), fun w => ?_, ?_⟩
          · simp only [execOp, hx, Instr.fieldAt, Sem.run_bind, run_und hu, Result.andThen_ok, hf, Instr.sureAddr, Sem.run_pure, fieldPlace, run_size hn, Sem.run_ite, Nat.add_eq_zero_iff, Nat.succ_ne_zero, and_false, if_false]
          · rw [add_rel, add_rel, Nat.add_assoc]
            exact .ptr b _ loc hb
        · cases hc
      · cases hc
    · cases hc
  | field t x f =>
    simp only [compOp] at hc
    split at hc
    · rename_i fs y hu hy
      split at hc
      · rename_i fd hf
        simp only [Option.map_eq_some_iff] at hc
        obtain ⟨n, hn, rfl⟩ := hc
        simp only [opRun] at hr
        replace hr := up_some hr; obtain ⟨rfl, hr⟩ := hr
        have r1 := one (by simp [Op.operands]) hy
        refine ⟨rfl, ?_⟩
        generalize y.ev T = yv at hr r1
        generalize hx : a.eval x = xv at r1
        cases r1 <;> simp only [oField] at hr <;> (try (cases hr; done))
        rename_i xs ys hl hlr
        obtain ⟨v', h1, h2⟩ := partOf_part hn (show LR ρ xs ys from ⟨hl, hlr⟩) hr
        refine ⟨v', fun w => ?_, h2⟩
        simp only [execOp, hx, Instr.field, Sem.run_bind, run_und hu, Result.andThen_ok, hf, asAgg, Sem.run_pure, h1]
      · cases hc
    · cases hc
  | indexAddr t x i =>
    simp only [compOp] at hc
    split at hc
    · rename_i e y j hu hy hj
      simp only [Option.map_eq_some_iff] at hc
      obtain ⟨n, hn, rfl⟩ := hc
      simp only [opRun] at hr
      replace hr := up_some hr; obtain ⟨rfl, hr⟩ := hr
      have r1 := one (by simp [Op.operands]) hy
      have r2 := one (by simp [Op.operands]) hj
      refine ⟨rfl, ?_⟩
      unfold oIndexAddr at hr
      split at hr
      · rename_i A len cap m e1 e2
        split at hr
        · rename_i hlt
          cases hr
          obtain ⟨k, hk⟩ := natOf_some e2
          rw [e1] at r1
          rw [hk] at r2
          generalize hx : a.eval x = xv at r1
          generalize hi : a.eval i = iv at r2
          cases r2
          cases r1 with
          | slice b off off' len cap cap' loc hb hcc hlc ho hroom =>
            have hm : m < len := by
              simp only [Nat.blt] at hlt
              exact Nat.le_of_ble_eq_true hlt
            have hoff : off' = loc.s + off := ho.resolve_right fun q => by omega
            refine ⟨.pointer (some ((⟨loc.c, off', none⟩ : Addr).add (m * n))), fun w => ?_, ?_⟩
            · simp only [execOp, hx, hi, Instr.indexAt, asIntOf, Sem.run_bind, Sem.run_pure, Result.andThen_ok, run_und hu]
              rw [if_pos ⟨Int.natCast_nonneg m, by simp only [Int.ofNat_eq_natCast]; omega⟩]
              simp only [Sem.run_bind, run_size hn, Result.andThen_ok, Sem.run_pure]
              rfl
            · rw [add_rel, add_rel, hoff, Nat.add_assoc]
              exact .ptr b _ loc hb
        · cases hr
      · cases hr
    · rename_i len e y j hu hy hj
      simp only [Option.map_eq_some_iff] at hc
      obtain ⟨n, hn, rfl⟩ := hc
      simp only [opRun] at hr
      replace hr := up_some hr; obtain ⟨rfl, hr⟩ := hr
      have r1 := one (by simp [Op.operands]) hy
      have r2 := one (by simp [Op.operands]) hj
      refine ⟨rfl, ?_⟩
      unfold oArrAddr at hr
      split at hr
      · rename_i A m e1 e2
        split at hr
        · rename_i hlt
          cases hr
          obtain ⟨k, hk⟩ := natOf_some e2
          rw [e1] at r1
          rw [hk] at r2
          generalize hx : a.eval x = xv at r1
          generalize hi : a.eval i = iv at r2
          cases r2
          cases r1 with
          | ptr b off loc hb =>
            have hm : m < len := by
              simp only [Nat.blt] at hlt
              exact Nat.le_of_ble_eq_true hlt
            refine ⟨.pointer (some ((⟨loc.c, loc.s + off, none⟩ : Addr).add (m * n))), fun w => ?_, ?_⟩
            · simp only [execOp, hx, hi, Instr.indexAt, asIntOf, Sem.run_bind, Sem.run_pure, Result.andThen_ok, run_und hu, Instr.sureAddr]
              rw [if_pos ⟨Int.natCast_nonneg m, by simp only [Int.ofNat_eq_natCast]; omega⟩]
              simp only [Sem.run_bind, run_size hn, Result.andThen_ok, Sem.run_pure]
              rfl
            · rw [add_rel, add_rel, Nat.add_assoc]
              exact .ptr b _ loc hb
        · cases hr
      · cases hr
    · cases hc
  | index t x i =>
    simp only [compOp] at hc
    split at hc
    · rename_i y j hu hy hj
      cases hc
      simp only [opRun] at hr
      replace hr := up_some hr; obtain ⟨rfl, hr⟩ := hr
      have r1 := one (by simp [Op.operands]) hy
      have r2 := one (by simp [Op.operands]) hj
      refine ⟨rfl, ?_⟩
      unfold oIndexS at hr
      split at hr
      · rename_i s m e1 e2
        simp only [Option.map_eq_some_iff] at hr
        obtain ⟨b, hb, rfl⟩ := hr
        obtain ⟨k, hk⟩ := natOf_some e2
        rw [e1] at r1
        rw [hk] at r2
        generalize hx : a.eval x = xv at r1
        generalize hi : a.eval i = iv at r2
        cases r2
        cases r1
        refine ⟨_, fun w => ?_, .int _ _⟩
        simp only [execOp, hx, hi, Instr.index, asIntOf, Sem.run_bind, Sem.run_pure, Result.andThen_ok, run_und hu]
        rw [if_pos (show (0 : Int) ≤ Int.ofNat m from Int.natCast_nonneg m)]
        have hb' : s[(Int.ofNat m).toNat]? = some b := by
          have hlt := (List.getElem?_eq_some_iff.1 hb).1
          have hg := (List.getElem?_eq_some_iff.1 hb).2
          have hsz : m < s.size := by simpa using hlt
          rw [show (Int.ofNat m).toNat = m from rfl]
          rw [getElem?_pos s m hsz]
          congr 1
        rw [hb']
        rfl
      · cases hr
    · rename_i len e y j hu hy hj
      split at hc
      · rename_i n m hn hm
        cases hc
        simp only [opRun] at hr
        replace hr := up_some hr; obtain ⟨rfl, hr⟩ := hr
        have r1 := one (by simp [Op.operands]) hy
        have r2 := one (by simp [Op.operands]) hj
        refine ⟨rfl, ?_⟩
        unfold oIndexA at hr
        split at hr
        · rename_i cs q e1 e2
          split at hr
          · rename_i hlt
            obtain ⟨k, hk⟩ := natOf_some e2
            rw [e1] at r1
            rw [hk] at r2
            generalize hx : a.eval x = xv at r1
            generalize hi : a.eval i = iv at r2
            cases r2
            cases r1 with
            | agg xs ys hl hlr =>
              obtain ⟨v', h1, h2⟩ := partOf_part hn (show LR ρ xs ys from ⟨hl, hlr⟩) hr
              have hq : q < len := by
                simp only [Nat.blt] at hlt
                exact Nat.le_of_ble_eq_true hlt
              refine ⟨v', fun w => ?_, h2⟩
              simp only [execOp, hx, hi, Instr.index, asIntOf, Sem.run_bind, Sem.run_pure, Result.andThen_ok, run_und hu]
              rw [if_pos ⟨Int.natCast_nonneg q, by simp only [Int.ofNat_eq_natCast]; omega⟩]
              simp only [Sem.run_bind, run_size hm, Result.andThen_ok]
              have := h1 w
              rw [show (Int.ofNat q).toNat = q from rfl, this]
              rfl
          · cases hr
        · cases hr
      · cases hc
    · cases hc
  | typeAssert x xt t ok =>
    simp only [compOp] at hc
    split at hc
    · cases hc
    · rename_i d y hneg h1 hy
      simp only [Option.map_eq_some_iff] at hc
      obtain ⟨z, hz, rfl⟩ := hc
      simp only [opRun] at hr
      replace hr := up_some hr; obtain ⟨rfl, hr⟩ := hr
      have r1 := one (by simp [Op.operands]) hy
      have hzr := plain_refl ρ 8 z (zero_of hz).1
      have hni : ∀ ms, d ≠ .interface ms := fun ms e => hneg ms e
      refine ⟨rfl, ?_⟩
      generalize y.ev T = yv at hr r1
      generalize hx : a.eval x = xv at r1
      cases r1 <;> simp only [oAssertT] at hr <;> (try (cases hr; done))
      · -- nil
        split at hr
        · cases hr
          refine ⟨.tuple #[z, .bool false], fun w => ?_, (LR.cons hzr (LR.cons (.bool false) (LR.nil ρ))).tuple⟩
          simp only [execOp, hx, Instr.typeAssert, Sem.run_bind, run_und h1, Result.andThen_ok]
          cases d <;> first | exact absurd rfl (hni _) | simp [run_zero hz]
        · cases hr
      · rename_i u v1 v2 hvv
        split at hr
        · rename_i hb
          cases hr
          have htu := Nat.eq_of_beq_eq_true hb
          refine ⟨.tuple #[v2, .bool true], fun w => ?_, (LR.cons hvv (LR.cons (.bool true) (LR.nil ρ))).tuple⟩
          simp only [execOp, hx, Instr.typeAssert, Sem.run_bind, run_und h1, Result.andThen_ok]
          cases d <;> first | exact absurd rfl (hni _) | simp [htu]
        · rename_i hb
          cases hr
          have htu := Nat.eq_of_beq_eq_true hb
          refine ⟨v2, fun w => ?_, hvv⟩
          simp only [execOp, hx, Instr.typeAssert, Sem.run_bind, run_und h1, Result.andThen_ok]
          cases d <;> first | exact absurd rfl (hni _) | simp [htu]
        · rename_i hb
          cases hr
          have htu : ¬ u = t := fun e => by rw [e, Nat.beq_refl] at hb; cases hb
          refine ⟨.tuple #[z, .bool false], fun w => ?_, (LR.cons hzr (LR.cons (.bool false) (LR.nil ρ))).tuple⟩
          simp only [execOp, hx, Instr.typeAssert, Sem.run_bind, run_und h1, Result.andThen_ok]
          cases d <;> first | exact absurd rfl (hni _) | simp [htu, run_zero hz]
        · cases hr
    · cases hc
  | extract x i =>
    simp only [compOp, Option.map_eq_some_iff] at hc
    obtain ⟨y, hy, rfl⟩ := hc
    simp only [opRun] at hr
    replace hr := up_some hr; obtain ⟨rfl, hr⟩ := hr
    have r1 := one (by simp [Op.operands]) hy
    refine ⟨rfl, ?_⟩
    generalize y.ev T = yv at hr r1
    generalize hx : a.eval x = xv at r1
    cases r1 <;> simp only [oExtract] at hr <;> (try (cases hr; done))
    rename_i xs ys hl hlr
    obtain ⟨v', h1, h2⟩ := (show LR ρ xs ys from ⟨hl, hlr⟩).at hr
    refine ⟨v', fun w => ?_, h2⟩
    simp only [execOp, hx, Instr.extract]
    rw [show (⟨ys⟩ : Array Value)[i]? = some v' by simpa using h1]
    rfl
  | call c =>
    simp only [compOp] at hc
    split at hc
    · split at hc <;> (try (cases hc; done)); cases hc; cases hna
    · rename_i b hb
      unfold compBuiltin at hc
      split at hc
      · split at hc <;> (try (cases hc; done))
        split at hc <;> (try (cases hc; done))
        split at hc <;> (try (cases hc; done)); cases hc; cases hna
      · split at hc <;> (try (cases hc; done)) <;> cases hc <;> cases hnl
      · rename_i t ts x e0 e2
        split at hc <;> (try (cases hc; done))
        rename_i e y hu hy
        cases hc
        simp only [opRun] at hr
        replace hr := up_some hr; obtain ⟨rfl, hr⟩ := hr
        have hx0 : x ∈ (Op.call c).operands.toList := by
          simp only [Op.operands, Call.operands, hb]
          simp
          have : x ∈ c.args.toList := by rw [e2]; simp
          simpa using this
        have r1 := one hx0 hy
        have e1 : c.argTypes[0]? = some t := by rw [← Array.getElem?_toList, ‹c.argTypes.toList = _›]; rfl
        have e2' : c.args[0]? = some x := by rw [← Array.getElem?_toList, e2]; rfl
        refine ⟨rfl, ?_⟩
        generalize y.ev T = yv at hr r1
        generalize hx : a.eval x = xv at r1
        cases r1 <;> simp only [oCap] at hr <;> (try (cases hr; done))
        · cases hr
          refine ⟨_, fun w => ?_, .int _ _⟩
          simp [execOp, resolve, hb, invoke, builtin, Builtin.cap_, e1, e2', hx, run_und hu]
          rfl
        · rename_i b1 off off' len cap cap' loc h1 h2 h3 h4 h5
          split at hr
          · cases hr
          · rename_i hu2
            cases hr
            have hcc : cap = cap' := h2.resolve_right fun e => by rw [e, Nat.beq_refl] at hu2; cases hu2
            refine ⟨_, fun w => ?_, .int _ _⟩
            simp [execOp, resolve, hb, invoke, builtin, Builtin.cap_, e1, e2', hx, run_und hu]
            rw [hcc]
            rfl
      · split at hc <;> (try (cases hc; done))
        simp only [Option.map_eq_some_iff] at hc
        obtain ⟨q, hq, rfl⟩ := hc
        cases hna
      · simp only [Option.map_eq_some_iff] at hc
        obtain ⟨ys, hys, rfl⟩ := hc
        simp only [opRun] at hr
        replace hr := up_some hr; obtain ⟨rfl, hr⟩ := hr
        have hl := args_rel c.args.toList ys hys fun x hx => hv x (by simp [Op.operands, Call.operands, hb]; simpa using hx)
        refine ⟨rfl, ?_⟩
        have hm : (c.args.map a.eval).toList = c.args.toList.map a.eval := by simp
        generalize ys.map (·.ev T) = l at hr hl
        generalize c.args.toList.map a.eval = l' at hm hl
        cases l with
        | nil => cases hr
        | cons x l =>
          obtain ⟨y, l2, rfl, hy, hl2⟩ := hl.inv
          cases x <;> simp only [mnmxV] at hr <;> (try (cases hr; done))
          generalize hyv : y = yv at hy
          cases hy
          obtain ⟨h1, h2⟩ := mnmx_run (P := P) l l2 _ v hl2 hr
          refine ⟨v, fun w => ?_, h2⟩
          have h1 := h1 w
          simp only [if_true] at h1
          simp only [execOp, resolve, hb, Sem.run_bind, Sem.run_pure, Result.andThen_ok, invoke, builtin, Builtin.max_, hm, hyv, h1]
      · simp only [Option.map_eq_some_iff] at hc
        obtain ⟨ys, hys, rfl⟩ := hc
        simp only [opRun] at hr
        replace hr := up_some hr; obtain ⟨rfl, hr⟩ := hr
        have hl := args_rel c.args.toList ys hys fun x hx => hv x (by simp [Op.operands, Call.operands, hb]; simpa using hx)
        refine ⟨rfl, ?_⟩
        have hm : (c.args.map a.eval).toList = c.args.toList.map a.eval := by simp
        generalize ys.map (·.ev T) = l at hr hl
        generalize c.args.toList.map a.eval = l' at hm hl
        cases l with
        | nil => cases hr
        | cons x l =>
          obtain ⟨y, l2, rfl, hy, hl2⟩ := hl.inv
          cases x <;> simp only [mnmxV] at hr <;> (try (cases hr; done))
          generalize hyv : y = yv at hy
          cases hy
          obtain ⟨h1, h2⟩ := mnmx_run (P := P) l l2 _ v hl2 hr
          refine ⟨v, fun w => ?_, h2⟩
          have h1 := h1 w
          simp only [Bool.false_eq_true, if_false] at h1
          simp only [execOp, resolve, hb, Sem.run_bind, Sem.run_pure, Result.andThen_ok, invoke, builtin, Builtin.min_, hm, hyv, h1]
      · cases hc
    · cases hc
  | makeMap t r =>
    cases r with
    | none => simp only [compOp, Option.map_eq_some_iff] at hc; obtain ⟨_, _, rfl⟩ := hc; cases hna
    | some r => simp [compOp] at hc
  | next it s =>
    cases s with
    | true => simp only [compOp, Option.map_eq_some_iff] at hc; obtain ⟨_, _, rfl⟩ := hc; cases hna
    | false => simp [compOp] at hc
  | _ =>
    simp only [compOp] at hc
    first
      | (cases hc; done)
      | (repeat' (split at hc)) <;> (try (cases hc; done)) <;> (try (cases hc; first | (cases hna; done) | (cases hnl; done))) <;> (try (simp only [Option.map_eq_some_iff] at hc; obtain ⟨_, _, rfl⟩ := hc; first | (cases hna; done) | (cases hnl; done)))
end
end Go.Proofs.Ytffokmamcempgaa.AM
