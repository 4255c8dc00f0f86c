/- The symbolic machine's operations: what each of the model's operations does to symbolic values and to the machine's own blocks. -/
import Derived.Test.YthechjccpljljaaSym0
namespace Go.Sym
open Go.RowKit

/-- What is known of a type. -/
inductive TD where
  | int (k : IntKind) | bool | ptr (e : TypeId) | slice (e : TypeId) | array (n : Nat) (e : TypeId) | struct (fs : List (Nat × TypeId)) | other
def TD.of : TypeDesc → TD
  | .int k => .int k
  | .bool => .bool
  | .pointer e => .ptr e
  | .slice e => .slice e
  | .array n e => .array n e
  | .struct fs => .struct (fs.toList.map fun f => (f.offset, f.type))
  | _ => .other
def TD.agg : TD → Bool
  | .array _ _ | .struct _ => true
  | _ => false
structure TI where
  d : TD
  size : Nat
  bytes : Nat
  zero : List Value
/-- A table of types. -/
abbrev TT := List (TypeId × TI)
structure TIOK (P : Program) (t : TypeId) (i : TI) : Prop where
  info : (P.info? t).map (fun x => (x.zero.map (·.cells.toList), x.size, x.bytes)) = some (some i.zero, i.size, i.bytes)
  und : (P.underlying t).map TD.of = some i.d
  guard : P.eqGuardType P.depth t = false
def TTOK (P : Program) (tt : TT) : Prop := ∀ t i, tt.lookup t = some i → TIOK P t i
theorem TTOK.nil (P : Program) : TTOK P [] := fun _ _ h => by simp at h
theorem TTOK.cons {P : Program} {t : TypeId} {i : TI} {tt : TT} (h : TIOK P t i) (k : TTOK P tt) : TTOK P ((t, i) :: tt) := by
  intro t' i' h'
  simp only [List.lookup_cons] at h'
  split at h'
  · rename_i e; have e' := eq_of_beq e; simp at h'; subst e'; subst h'; exact h
  · exact k t' i' h'

abbrev Blk := List SV
/-- A step's outcome: what must hold for it, its value, the blocks that it writes. -/
structure Out where
  pre : Option Prop
  sv : SV
  ws : List (Nat × Blk)
def Ok : Option Prop → Prop
  | none => True
  | some p => p
def Out.ok (o : Out) : Prop := Ok o.pre
/-- What a call comes to: out of its arguments. -/
abbrev SpecF := List SV → Option (Option Prop × SV)
/-- The same of a call that writes blocks that its arguments lead to. -/
abbrev MSpecF := (Nat → Option Blk) → List SV → Option Out
inductive SpecE where
  | pure (s : SpecF)
  | mem (s : MSpecF)
instance : Coe SpecF SpecE := ⟨.pure⟩
abbrev Specs := List (FuncId × SpecE)

/-- May it be stored in one cell? -/
def SV.one : SV → Bool
  | .i64 _ | .u64 _ | .u32 _ | .u8 _ | .bool _ | .ptr _ _ | .slc _ _ _ _ | .lst _ | .lel _ | .ro _ _ | .fn _ _ | .sl _ _ _ | .lp _ _ => true
  | .val v => v.oneCell'
  | _ => false
/-- The cells that a value takes. -/
def SV.cells? : SV → Option (List SV)
  | .agg cs => if cs.all SV.one = true then some cs else none
  | v => if v.one = true then some [v] else none
mutual
/-- It names none of the machine's own blocks. -/
def SV.noName : SV → Bool
  | .ptr _ _ | .slc _ _ _ _ | .sl _ _ _ | .lp _ _ => false
  | .lel x => x.noName
  | .ro cs _ | .agg cs | .tup cs | .fn _ cs => noNameL cs
  | _ => true
def noNameL : List SV → Bool
  | [] => true
  | c :: cs => c.noName && noNameL cs
end
/-- A value that leads nowhere. -/
def SV.flat1 : SV → Bool
  | .i64 _ | .u64 _ | .u32 _ | .u8 _ | .bool _ | .val _ => true
  | _ => false
mutual
def SV.flat : SV → Bool
  | .agg cs | .tup cs => flatL cs
  | v => v.flat1
def flatL : List SV → Bool
  | [] => true
  | c :: cs => c.flat && flatL cs
end

def u64k (n : Nat) : UInt64 := UInt64.ofNat n
def shl64 (x : UInt64) (n : Nat) : UInt64 := UInt64.ofNat (x.toNat * 2 ^ n)
def shr64 (x : UInt64) (n : Nat) : UInt64 := UInt64.ofNat (x.toNat / 2 ^ n)
def shl32 (x : UInt32) (n : Nat) : UInt32 := UInt32.ofNat (x.toNat * 2 ^ n)
def shr32 (x : UInt32) (n : Nat) : UInt32 := UInt32.ofNat (x.toNat / 2 ^ n)
def shl8 (x : UInt8) (n : Nat) : UInt8 := UInt8.ofNat (x.toNat * 2 ^ n)
def shr8 (x : UInt8) (n : Nat) : UInt8 := UInt8.ofNat (x.toNat / 2 ^ n)

def binI (op : BinOp) (x y : Int) : Option SV :=
  match op with
  | .add => some (.i64 (IntKind.i64.wrap (x + y)))
  | .sub => some (.i64 (IntKind.i64.wrap (x - y)))
  | .mul => some (.i64 (IntKind.i64.wrap (x * y)))
  | .quo => if y = 0 then none else some (.i64 (IntKind.i64.wrap (x.tdiv y)))
  | .rem => if y = 0 then none else some (.i64 (x.tmod y))
  | .eql => some (.bool (x == y))
  | .neq => some (.bool (x != y))
  | .lss => some (.bool (decide (x < y)))
  | .leq => some (.bool (decide (x ≤ y)))
  | .gtr => some (.bool (decide (x > y)))
  | .geq => some (.bool (decide (x ≥ y)))
  | _ => none
def binU64 (op : BinOp) (x y : UInt64) : Option SV :=
  match op with
  | .add => some (.u64 (x + y))
  | .sub => some (.u64 (x - y))
  | .mul => some (.u64 (x * y))
  | .quo => if y = 0 then none else some (.u64 (x / y))
  | .rem => if y = 0 then none else some (.u64 (x % y))
  | .and => some (.u64 (x &&& y))
  | .or => some (.u64 (x ||| y))
  | .xor => some (.u64 (x ^^^ y))
  | .andNot => some (.u64 (x &&& ~~~y))
  | .eql => some (.bool (x == y))
  | .neq => some (.bool (x != y))
  | .lss => some (.bool (decide (x < y)))
  | .leq => some (.bool (decide (x ≤ y)))
  | .gtr => some (.bool (decide (y < x)))
  | .geq => some (.bool (decide (y ≤ x)))
  | _ => none
def binU32 (op : BinOp) (x y : UInt32) : Option SV :=
  match op with
  | .add => some (.u32 (x + y))
  | .sub => some (.u32 (x - y))
  | .and => some (.u32 (x &&& y))
  | .or => some (.u32 (x ||| y))
  | .xor => some (.u32 (x ^^^ y))
  | .eql => some (.bool (x == y))
  | .neq => some (.bool (x != y))
  | _ => none
def binU8 (op : BinOp) (x y : UInt8) : Option SV :=
  match op with
  | .add => some (.u8 (x + y))
  | .sub => some (.u8 (x - y))
  | .and => some (.u8 (x &&& y))
  | .or => some (.u8 (x ||| y))
  | .xor => some (.u8 (x ^^^ y))
  | .eql => some (.bool (x == y))
  | .neq => some (.bool (x != y))
  | .lss => some (.bool (decide (x < y)))
  | .leq => some (.bool (decide (x ≤ y)))
  | .gtr => some (.bool (decide (y < x)))
  | .geq => some (.bool (decide (y ≤ x)))
  | _ => none
/-- A shift's count. -/
def SV.count : SV → Option Nat
  | .i64 n => if 0 ≤ n then some n.toNat else none
  | .u64 x => some x.toNat
  | .u8 x => some x.toNat
  | .u32 x => some x.toNat
  | _ => none
def shift (op : BinOp) (x : SV) (n : Nat) : Option SV :=
  match op, x with
  | .shl, .u64 x => some (.u64 (shl64 x n))
  | .shr, .u64 x => some (.u64 (shr64 x n))
  | .shl, .u32 x => some (.u32 (shl32 x n))
  | .shr, .u32 x => some (.u32 (shr32 x n))
  | .shl, .u8 x => some (.u8 (shl8 x n))
  | .shr, .u8 x => some (.u8 (shr8 x n))
  | .shr, .i64 x => some (.i64 (x.fdiv (2 ^ (min n 64))))
  | _, _ => none
/-- Are two lists of numbers the same? -/
def eqCells : List SV → List SV → Option Bool
  | [], [] => some true
  | .u64 x :: xs, .u64 y :: ys => (eqCells xs ys).map fun b => (x == y) && b
  | _, _ => none
def binN (op : BinOp) (x y : SV) : Option SV :=
  match op, x, y with
  | .shl, x, y => y.count.bind (shift .shl x)
  | .shr, x, y => y.count.bind (shift .shr x)
  | op, .i64 a, .i64 b => binI op a b
  | op, .u64 a, .u64 b => binU64 op a b
  | op, .u32 a, .u32 b => binU32 op a b
  | op, .u8 a, .u8 b => binU8 op a b
  | _, _, _ => none
def binB (op : BinOp) (x y : SV) : Option SV :=
  match op, x, y with
  | .eql, .bool a, .bool b => some (.bool (a == b))
  | .neq, .bool a, .bool b => some (.bool (!(a == b)))
  | _, _, _ => none
def binP (op : BinOp) (x y : SV) : Option SV :=
  match op, x, y with
  | .eql, .ptr _ _, .val (.pointer none) | .eql, .ro _ _, .val (.pointer none) => some (.bool false)
  | .neq, .ptr _ _, .val (.pointer none) | .neq, .ro _ _, .val (.pointer none) => some (.bool true)
  | .eql, .val (.pointer none), .val (.pointer none) => some (.bool true)
  | .neq, .val (.pointer none), .val (.pointer none) => some (.bool false)
  | _, _, _ => none
def una (op : UnOp) (x : SV) : Option SV :=
  match op, x with
  | .not, .bool b => some (.bool (!b))
  | .neg, .u64 x => some (.u64 (0 - x))
  | .neg, .i64 n => some (.i64 (IntKind.i64.wrap (0 - n)))
  | .xor, .u64 x => some (.u64 (~~~x))
  | .xor, .u32 x => some (.u32 (~~~x))
  | _, _ => none
def conv (k : IntKind) (x : SV) : Option SV :=
  match k, x with
  | .i64, .i64 n => some (.i64 (IntKind.i64.wrap n))
  | .i64, .u64 x => some (.i64 (IntKind.i64.wrap (x.toNat : Int)))
  | .i64, .u32 x => some (.i64 (x.toNat : Int))
  | .i64, .u8 x => some (.i64 (x.toNat : Int))
  | .u64, .i64 n => some (.u64 (UInt64.ofInt n))
  | .u64, .u64 x => some (.u64 x)
  | .u64, .u32 x => some (.u64 x.toUInt64)
  | .u64, .u8 x => some (.u64 x.toUInt64)
  | .u32, .u64 x => some (.u32 x.toUInt32)
  | .u32, .u32 x => some (.u32 x)
  | .u32, .u8 x => some (.u32 x.toUInt32)
  | .u32, .i64 n => some (.u32 (UInt32.ofInt n))
  | .u8, .u64 x => some (.u8 x.toUInt8)
  | .u8, .u32 x => some (.u8 x.toUInt8)
  | .u8, .u8 x => some (.u8 x)
  | .u8, .i64 n => some (.u8 (UInt8.ofInt n))
  | _, _ => none

/-- Parts laid into cells. -/
def fillL (place : Nat → Option (Nat × Nat)) (cells : List SV) : List (Nat × SV) → Option (List SV)
  | [] => some cells
  | (i, v) :: rest =>
    match place i with
    | none => none
    | some (off, size) =>
      match v.cells? with
      | some vs => if vs.length = size ∧ off + vs.length ≤ cells.length then fillL place (cells.take off ++ vs ++ cells.drop (off + vs.length)) rest else none
      | none => none

def sizeT (tt : TT) (t : TypeId) : Option Nat := (tt.lookup t).map (·.size)
def placesT (tt : TT) : List (Nat × TypeId) → Option (List (Nat × Nat))
  | [] => some []
  | f :: fs => match sizeT tt f.2, placesT tt fs with
    | some s, some r => some ((f.1, s) :: r)
    | _, _ => none
/-- What a pointer leads to. -/
def target (look : Nat → Option Blk) : SV → Option (Blk × Nat)
  | .ptr b off => (look b).map (·, off)
  | .ro cs off => some (cs, off)
  | _ => none
def SV.toI : SV → Option Int
  | .i64 n => some n
  | .u64 x => some (x.toNat : Int)
  | .u8 x => some (x.toNat : Int)
  | .u32 x => some (x.toNat : Int)
  | _ => none
/-- A list's cell. -/
def LV.at_ (l : LV) (i : Nat) : SV :=
  match l with
  | .ints xs => .i64 (xs.getD i 0)
  | .bytes xs => .u8 (xs.getD i 0)
  | .words xs => .u64 (xs.getD i 0)
  | .halfs xs => .u32 (xs.getD i 0)
  | .num n => .i64 ((Dig.dg n).getD i 0)
def LV.cut (l : LV) (lo hi : Nat) : LV :=
  match l with
  | .ints xs => .ints ((xs.take hi).drop lo)
  | .bytes xs => .bytes ((xs.take hi).drop lo)
  | .words xs => .words ((xs.take hi).drop lo)
  | .halfs xs => .halfs ((xs.take hi).drop lo)
  | .num n => .ints (((Dig.dg n).take hi).drop lo)

/-- A list of noughts. -/
def LV.rep (k : IntKind) (n : Nat) : Option LV :=
  match k with
  | .i64 => some (.ints (List.replicate n 0))
  | .u64 => some (.words (List.replicate n 0))
  | .u32 => some (.halfs (List.replicate n 0))
  | .u8 => some (.bytes (List.replicate n 0))
  | _ => none
def LV.app : LV → LV → Option LV
  | .ints a, .ints b => some (.ints (a ++ b))
  | .words a, .words b => some (.words (a ++ b))
  | .halfs a, .halfs b => some (.halfs (a ++ b))
  | .ints a, .num n => some (.ints (a ++ Dig.dg n))
  | .bytes a, .bytes b => some (.bytes (a ++ b))
  | _, _ => none
def LV.setAt : LV → Nat → SV → Option LV
  | .ints a, i, .i64 x => some (.ints (a.set i x))
  | .words a, i, .u64 x => some (.words (a.set i x))
  | .halfs a, i, .u32 x => some (.halfs (a.set i x))
  | .bytes a, i, .u8 x => some (.bytes (a.set i x))
  | _, _, _ => none
/-- Cells of numbers, as a list. -/
def asI64s : List SV → Option (List Int)
  | [] => some []
  | .i64 x :: cs => (asI64s cs).map (x :: ·)
  | _ => none
def asU64s : List SV → Option (List UInt64)
  | [] => some []
  | .u64 x :: cs => (asU64s cs).map (x :: ·)
  | _ => none
def asU32s : List SV → Option (List UInt32)
  | [] => some []
  | .u32 x :: cs => (asU32s cs).map (x :: ·)
  | _ => none
def asU8s : List SV → Option (List UInt8)
  | [] => some []
  | .u8 x :: cs => (asU8s cs).map (x :: ·)
  | _ => none
def asLV (cs : List SV) : Option LV :=
  match cs with
  | .i64 _ :: _ => (asI64s cs).map .ints
  | .u64 _ :: _ => (asU64s cs).map .words
  | .u32 _ :: _ => (asU32s cs).map .halfs
  | .u8 _ :: _ => (asU8s cs).map .bytes
  | _ => none

/-- An argument as the callee sees it: nobody writes the caller's blocks while it runs. Its second part: the own lists that are handed in; its third: are other own blocks handed in? -/
def lend (look : Nat → Option Blk) : SV → Option (SV × List Nat × Bool)
  | .ptr b off => (look b).map fun cs => (.ro cs off, [], true)
  | .slc b off len cap => (look b).bind fun cs => if off + len ≤ cs.length ∧ 0 < len ∧ len ≤ cap then (asLV ((cs.drop off).take len)).map fun l => (.lst l, [], true) else none
  | .sl b lo len => match look b with
    | some [.own l] => some (.lst (l.cut lo (lo + len)), [b], false)
    | _ => none
  | .any | .undef | .lp _ _ | .own _ => none
  | v => some (v, [], false)
def lendL (look : Nat → Option Blk) : List SV → Option (List SV × List Nat × Bool)
  | [] => some ([], [], false)
  | v :: vs => match lend look v, lendL look vs with
    | some (v', ks, b), some (vs', ks', c) => some (v' :: vs', ks ++ ks', b || c)
    | _, _ => none

/-- What is appended. -/
def rowOf (look : Nat → Option Blk) (k : IntKind) (y : SV) : Option LV :=
  match y with
  | .val (.slice none 0 0) => LV.rep k 0
  | y => match lend look y with
    | some (.lst l, _, _) => some l
    | _ => none
def appLim : Nat := 17592186044416
def coreAppend (tt : TT) (look : Nat → Option Blk) (fresh : Nat) (x y : SV) (t : TypeId) : Option Out :=
  match tt.lookup t with
  | some ⟨.slice e, _, _, _⟩ => match tt.lookup e with
    | some ⟨.int k, 1, by_, [_]⟩ => if by_ ≤ 8 then match rowOf look k y with
        | some ny => match x with
          | .val (.slice none 0 0) => match LV.rep k 0 with
            | some l0 => match l0.app ny with
              | some l' => some ⟨some (l'.len ≤ appLim), .sl fresh 0 l'.len, [(fresh, [.own l'])]⟩
              | none => none
            | none => none
          | .sl b lo len => match look b with
            | some [.own l] => match (l.cut lo l.len).app ny with
              | some l' => some ⟨some (lo + len = l.len ∧ l'.len ≤ appLim), .sl fresh 0 l'.len, [(b, []), (fresh, [.own l'])]⟩
              | none => none
            | _ => none
          | _ => none
        | none => none
      else none
    | _ => none
  | _ => none
def boundI (ρ : Operand → SV) (o : Option Operand) (d : Int) : Option Int :=
  match o with
  | some v => (ρ v).toI
  | none => some d
def mk (sv : SV) : Option Out := some ⟨none, sv, []⟩
def mk? : Option SV → Option Out
  | some sv => some ⟨none, sv, []⟩
  | none => none

def ldAt (agg : Bool) (size : Nat) : Option (Blk × Nat) → Option Out
  | some (cs, off) => if agg then (if off + size ≤ cs.length then mk (.agg ((cs.drop off).take size)) else none) else mk? (cs[off]?)
  | none => none

/-- Does it make a block? -/
def makes : Op → Bool
  | .alloc _ | .box _ _ | .buildSlice _ _ _ | .makeSlice _ _ _ => true
  | .call c => match c.callee with
    | .builtin .append => true
    | _ => false
  | _ => false

def coreCall (sp : Specs) (look : Nat → Option Blk) (f : SV) (args : List SV) : Option Out :=
  match f with
  | .fn f cap => match sp.lookup f with
    | some (.pure s) => match lendL look (args ++ cap) with
      | some (as, ks, fx) => match s as with
        | some (pre, r) => match (noNameL as && r.flat) with
          | true => some ⟨pre, r, []⟩
          | false => match fx with
            | false => some ⟨pre, r, ks.map fun k => (k, [])⟩
            | true => none
        | none => none
      | none => none
    | some (.mem s) => s look (args ++ cap)
    | none => none
  | _ => none
def coreBuiltin (tt : TT) (look : Nat → Option Blk) (fresh : Nat) (b : Builtin) (args : List SV) (ts : List TypeId) : Option Out :=
  match b, args, ts with
  | .len, [x], [t] => match tt.lookup t with
    | some ⟨.slice _, _, _, _⟩ => match x with
      | .slc _ _ len _ => mk (.i64 len)
      | .sl _ _ len => mk (.i64 len)
      | .lst l => mk (.i64 l.len)
      | .val (.slice none n _) => mk (.i64 n)
      | _ => none
    | some ⟨.array n _, _, _, _⟩ => mk (.i64 n)
    | _ => none
  | .append, [x, y], [t, t'] => if t = t' then coreAppend tt look fresh x y t else none
  | .min, [.i64 a, .i64 b], _ => mk (.i64 (if b < a then b else a))
  | .max, [.i64 a, .i64 b], _ => mk (.i64 (if b > a then b else a))
  | _, _, _ => none

/-- A quotient, a rest, by what is no constant. -/
def symDiv (op : BinOp) (y : Operand) (a b : SV) : Option Out :=
  match y with
  | .tmp _ => match op, a, b with
    | .quo, .i64 m, .i64 n => some ⟨some (n ≠ 0), .i64 (IntKind.i64.wrap (m.tdiv n)), []⟩
    | .rem, .i64 m, .i64 n => some ⟨some (n ≠ 0), .i64 (m.tmod n), []⟩
    | _, _, _ => none
  | _ => none
def core (tt : TT) (sp : Specs) (look : Nat → Option Blk) (fresh : Nat) (ρ : Operand → SV) (op : Op) : Option Out :=
  match op with
  | .move x | .assign x => mk (ρ x)
  | .pick c a b => match ρ c, ρ a, ρ b with
    | .bool c, .bool x, .bool y => mk (.bool (cond c x y))
    | .bool true, x, _ => mk x
    | .bool false, _, y => mk y
    | _, _, _ => none
  | .alloc t => match tt.lookup t with
    | some i => some ⟨none, .ptr fresh 0, [(fresh, i.zero.map SV.ofV)]⟩
    | none => none
  | .box _ x => match (ρ x).cells? with
    | some cs => some ⟨none, .ptr fresh 0, [(fresh, cs)]⟩
    | none => none
  | .build t parts => match tt.lookup t with
    | some ⟨.struct fs, _, _, zero⟩ => match placesT tt fs with
      | some pl => match fillL (pl[·]?) (zero.map SV.ofV) (parts.toList.map fun p => (p.1, ρ p.2)) with
        | some cs => mk (.agg cs)
        | none => none
      | none => none
    | some ⟨.array _ e, _, _, zero⟩ => match sizeT tt e with
      | some s => match fillL (fun i => some (i * s, s)) (zero.map SV.ofV) (parts.toList.map fun p => (p.1, ρ p.2)) with
        | some cs => mk (.agg cs)
        | none => none
      | none => none
    | _ => none
  | .buildSlice t len parts => match tt.lookup t with
    | some ⟨.slice e, _, _, _⟩ => match tt.lookup e with
      | some ⟨_, 1, _, [z]⟩ => if 0 < len ∧ len ≤ 65536 then match fillL (fun i => some (i * 1, 1)) (List.replicate len (SV.ofV z)) (parts.toList.map fun p => (p.1, ρ p.2)) with
          | some cs => match asLV cs with
            | some l => some ⟨none, .sl fresh 0 len, [(fresh, [.own l])]⟩
            | none => some ⟨none, .slc fresh 0 len len, [(fresh, cs)]⟩
          | none => none
        else none
      | _ => none
    | _ => none
  | .load t x => match tt.lookup t with
    | some i => match ρ x with
      | .lel v => if i.d.agg then none else mk v
      | .lp b j => match look b with
        | some [.own l] => if i.d.agg then none else mk (l.at_ j)
        | _ => none
      | p => ldAt i.d.agg i.size (target look p)
    | none => none
  | .store t x y => match tt.lookup t, ρ x with
    | some i, .lp b j => match look b with
      | some [.own l] => match l.setAt j (ρ y) with
        | some l' => if i.size = 1 then some ⟨none, .undef, [(b, [.own l'])]⟩ else none
        | none => none
      | _ => none
    | some i, .ptr b off => match look b, (ρ y).cells? with
      | some cs, some vs => if vs.length = i.size ∧ off + vs.length ≤ cs.length then
          some ⟨none, .undef, [(b, cs.take off ++ vs ++ cs.drop (off + vs.length))]⟩ else none
      | _, _ => none
    | _, _ => none
  | .nilCheck x => match ρ x with
    | .ptr b off => mk (.ptr b off)
    | .ro cs off => mk (.ro cs off)
    | .lel v => mk (.lel v)
    | .fn f cs => mk (.fn f cs)
    | _ => none
  | .binOp op t x y _ => match op, ρ x, ρ y with
    | .eql, .agg xs, .agg ys => match tt.lookup t with
      | some ⟨.array n e, _, _, _⟩ => match tt.lookup e with
        | some ⟨.int .u64, 1, _, _⟩ => if xs.length = n ∧ ys.length = n then (match eqCells xs ys with | some b => mk (.bool b) | none => none) else none
        | _ => none
      | _ => none
    | .neq, .agg xs, .agg ys => match tt.lookup t with
      | some ⟨.array n e, _, _, _⟩ => match tt.lookup e with
        | some ⟨.int .u64, 1, _, _⟩ => if xs.length = n ∧ ys.length = n then (match eqCells xs ys with | some b => mk (.bool (!b)) | none => none) else none
        | _ => none
      | _ => none
    | _, _, _ => match symDiv op y (ρ x) (ρ y) with
      | some out => some out
      | none => match binN op (ρ x) (ρ y) with
        | some r => mk r
        | none => match tt.lookup t with
          | some ⟨.bool, _, _, _⟩ => mk? (binB op (ρ x) (ρ y))
          | some ⟨.ptr _, _, _, _⟩ => mk? (binP op (ρ x) (ρ y))
          | _ => none
  | .unOp op _ x => mk? (una op (ρ x))
  | .convert src dst x => match tt.lookup dst, tt.lookup src with
    | some ⟨.int k, _, _, _⟩, some _ => mk? (conv k (ρ x))
    | _, _ => none
  | .makeFunc fn first captured => match fn, first.toList with
    | .func f, [] => mk (.fn f (captured.toList.map ρ))
    | _, _ => none
  | .makeSlice t l c => match tt.lookup t, ρ l, ρ c with
    | some ⟨.slice e, _, _, _⟩, .i64 n, .i64 m => match tt.lookup e with
      | some ⟨.int k, 1, by_, [.int k' 0]⟩ => match LV.rep k n.toNat with
        | some l => if k = k' ∧ by_ ≤ 8 then some ⟨some (0 ≤ n ∧ m = n ∧ n ≤ 1099511627776), .sl fresh 0 n.toNat, [(fresh, [.own l])]⟩ else none
        | none => none
      | some ⟨_, 1, by_, [z]⟩ => if 0 < n ∧ n ≤ 65536 ∧ m = n ∧ by_ ≤ 1024 then some ⟨none, .slc fresh 0 n.toNat n.toNat, [(fresh, List.replicate n.toNat (SV.ofV z))]⟩ else none
      | _ => none
    | _, _, _ => none
  | .fieldAddr t x f => match tt.lookup t with
    | some ⟨.struct fs, _, _, _⟩ => match fs[f]? with
      | some (o, ft) => match sizeT tt ft with
        | some (_ + 1) => match ρ x with
          | .ptr b off => mk (.ptr b (off + o))
          | .ro cs off => mk (.ro cs (off + o))
          | _ => none
        | _ => none
      | none => none
    | _ => none
  | .field t x f => match tt.lookup t, ρ x with
    | some ⟨.struct fs, _, _, _⟩, .agg cs => match fs[f]? with
      | some (o, ft) => match tt.lookup ft with
        | some i => ldAt i.d.agg i.size (some (cs, o))
        | none => none
      | none => none
    | _, _ => none
  | .indexAddr t x ix => match tt.lookup t, (ρ ix).toI with
    | some ⟨.array n e, _, _, _⟩, some i => match sizeT tt e with
      | some s => if 0 ≤ i ∧ i < n then match ρ x with
          | .ptr b off => mk (.ptr b (off + i.toNat * s))
          | .ro cs off => mk (.ro cs (off + i.toNat * s))
          | _ => none
        else none
      | none => none
    | some ⟨.slice e, _, _, _⟩, some i => match sizeT tt e with
      | some 1 => match ρ x with
        | .slc b off len _ => if 0 ≤ i ∧ i < len then mk (.ptr b (off + i.toNat)) else none
        | .sl b lo len => some ⟨some (0 ≤ i ∧ i < (len : Int)), .lp b (lo + i.toNat), []⟩
        | .lst l => some ⟨some (0 ≤ i ∧ i < (l.len : Int)), .lel (l.at_ i.toNat), []⟩
        | _ => none
      | _ => none
    | _, _ => none
  | .index t x ix => match tt.lookup t, ρ x, (ρ ix).toI with
    | some ⟨.array n e, _, _, _⟩, .agg cs, some i => match tt.lookup e with
      | some j => if 0 ≤ i ∧ i < n then ldAt j.d.agg j.size (some (cs, i.toNat * j.size)) else none
      | none => none
    | _, _, _ => none
  | .slice t x lo hi mx => match tt.lookup t, mx with
    | some ⟨.slice e, _, _, _⟩, none => match sizeT tt e with
      | some 1 => match ρ x, boundI ρ lo 0 with
        | .slc b off len cap, some l => match boundI ρ hi len with
          | some h => if 0 ≤ l ∧ l ≤ h ∧ h ≤ cap ∧ l < cap then mk (.slc b (off + l.toNat) (h.toNat - l.toNat) (cap - l.toNat)) else none
          | none => none
        | .sl b lo len, some l => match boundI ρ hi len with
          | some h => some ⟨some (0 ≤ l ∧ l ≤ h ∧ h ≤ (len : Int)), .sl b (lo + l.toNat) (h.toNat - l.toNat), []⟩
          | none => none
        | .lst v, some l => match boundI ρ hi v.len with
          | some h => some ⟨some (0 ≤ l ∧ l ≤ h ∧ h ≤ (v.len : Int)), .lst (v.cut l.toNat h.toNat), []⟩
          | none => none
        | _, _ => none
      | _ => none
    | _, _ => none
  | .extract x i => match ρ x with
    | .tup cs => mk? (cs[i]?)
    | _ => none
  | .call c => match c.callee with
    | .value f => coreCall sp look (ρ f) (c.args.toList.map ρ)
    | .builtin b => coreBuiltin tt look fresh b (c.args.toList.map ρ) c.argTypes.toList
    | _ => none
  | _ => none

end Go.Sym
