/- A symbolic reading of the model's code: abstract values, abstract memory, and what each operation does to them. Definitions. -/
import Derived.Test.YtapnedegcnmhgaaDoorSyA0
namespace Go.Sy
open Go
noncomputable section
/-! ### Shut: the kernel does not reckon through it -/

noncomputable def hide {α : Type} (a : α) : α := (Classical.choice (⟨⟨a, rfl⟩⟩ : Nonempty { b : α // b = a })).1
theorem hide_eq {α : Type} (a : α) : hide a = a := (Classical.choice (⟨⟨a, rfl⟩⟩ : Nonempty { b : α // b = a })).2

/-- 2 to the power of 256. -/
def M256 : Nat := 115792089237316195423570985008687907853269984665640564039457584007913129639936

/-- The i-th limb of 64 bits. -/
def limb (x i : Nat) : Int := ((x / 2 ^ (64 * i) % 18446744073709551616 : Nat) : Int)
/-- The number with its i-th limb replaced. -/
def setLimb (x i : Nat) (v : Int) : Nat := x - (x / 2 ^ (64 * i) % 18446744073709551616) * 2 ^ (64 * i) + (v % 18446744073709551616).toNat * 2 ^ (64 * i)
def ofLimbs (l : List Int) : Nat := setLimb (setLimb (setLimb (setLimb 0 0 (l.getD 0 0)) 1 (l.getD 1 0)) 2 (l.getD 2 0)) 3 (l.getD 3 0)
def limbs (x : Nat) : List Int := [limb x 0, limb x 1, limb x 2, limb x 3]
/-- Is it a number of 64 bits? -/
def inU64 (w : Int) : Bool := decide (0 ≤ w) && decide (w < 18446744073709551616)
def u256eq (x y : Nat) : Bool := x % M256 == y % M256

/-- Shapes of the elements of arrays and slices. -/
inductive Sh where
  | int (k : IntKind) | u256 | u2 | pt | jac | bytes | d (i : DSh)

@[reducible] def Sh.T : Sh → Type
  | .int _ => Int
  | .u256 => Nat
  | .u2 => Nat × Nat
  | .pt => Nat × Nat × Bool
  | .jac => Nat × Nat × Nat
  | .bytes => List Int
  | .d i => i.T

def Sh.size : Sh → Nat
  | .int _ => 1 | .u256 => 4 | .u2 => 8 | .pt => 9 | .jac => 12 | .bytes => 1 | .d i => i.size

def Sh.dflt : (s : Sh) → s.T
  | .int _ => (0 : Int)
  | .u256 => (0 : Nat)
  | .u2 => (0, 0)
  | .pt => (0, 0, false)
  | .jac => (0, 0, 0)
  | .bytes => ([] : List Int)
  | .d i => i.dflt

/-- A step into a struct or an array. -/
inductive Step where
  | fld (i off : Nat)
  | idx (i sz : Nat)

inductive AV where
  | undef
  | int (k : IntKind) (n : Int)
  | bool (b : Bool)
  | u256 (x : Nat)
  | arr (s : Sh) (n : Nat) (l : List s.T)
  | st (l : List AV)
  | tup (l : List AV)
  /-- a pointer into a block of the call's own -/
  | ptr (n : Nat) (p : List Step)
  /-- a pointer into memory that stays as it is (fr: for good, not for this call alone); what lies there -/
  | pim (fr : Bool) (v : AV)
  /-- a slice of an array of the call's own: the first element, length, capacity -/
  | sl (n : Nat) (p : List Step) (s : Sh) (i len cap : Nat)
  /-- the slice of all that is known of a row of the call's own; nil, perhaps, where the row is empty -/
  | own (n : Nat) (s : Sh)
  /-- a part of a row of the call's own -/
  | osl (n : Nat) (s : Sh) (i len : Nat)
  /-- a slice of memory that stays as it is -/
  | isl (fr : Bool) (s : Sh) (l : List s.T)
  /-- a nil slice -/
  | nsl (s : Sh)
  | nilp
  | fn (f : Nat) (caps : List AV)
  /-- a block's content: a row that begins so (what is behind it is not known) -/
  | row (s : Sh) (l : List s.T)
  | str (l : List UInt8)
  /-- a value of memory that stays for good -/
  | el (i : DSh) (t : i.T)
  /-- a pointer, or none, to memory that stays for good -/
  | pimq (ok : Bool) (v : AV)
  /-- a slice of memory that stays: what is known of the memory, how long the slice is -/
  | isw (fr : Bool) (s : Sh) (l : List s.T) (n : Nat)
  /-- an interface's value, or none -/
  | ifc (t : TypeId) (v : AV)
  | nili

mutual
def DV.av : DV → AV
  | .int k n => .int k n
  | .bool b => .bool b
  | .u256 x => .u256 x
  | .str l => .str l
  | .ints k l => .isl true (.int k) l
  | .wints k l n => .isw true (.int k) l n
  | .sl i l => .isl true (.d i) l
  | .wsl i l n => .isw true (.d i) l n
  | .ptr ok v => .pimq ok v.av
  | .st l => .st (DV.avs l)
def DV.avs : List DV → List AV
  | [] => []
  | v :: l => v.av :: DV.avs l
end

/-- An element's value: a text lies open. -/
def DSh.el : (i : DSh) → i.T → AV
  | .str, l => .str l
  | i, t => .el i t

/-- A value that is laid open. -/
def AV.open : AV → AV
  | .el i t => (i.view t).av
  | v => v

mutual
def AV.toDV : AV → Option DV
  | .int k n => some (.int k n)
  | .bool b => some (.bool b)
  | .u256 x => some (.u256 x)
  | .str l => some (.str l)
  | .isl true (.int k) l => some (.ints k l)
  | .isl true (.d i) l => some (.sl i l)
  | .isw true (.int k) l n => some (.wints k l n)
  | .isw true (.d i) l n => some (.wsl i l n)
  | .nsl (.int k) => some (.ints k [])
  | .nsl (.d i) => some (.sl i [])
  | .pimq ok v => (AV.toDV v).bind fun v => some (.ptr ok v)
  | .pim true v => (AV.toDV v).bind fun v => some (.ptr true v)
  | .nilp => some (.ptr false (.st []))
  | .el i t => some (i.view t)
  | .st l => (AV.toDVs l).bind fun l => some (.st l)
  | _ => none
def AV.toDVs : List AV → Option (List DV)
  | [] => some []
  | v :: l => (AV.toDV v).bind fun v => (AV.toDVs l).bind fun l => some (v :: l)
end

def Sh.av : (s : Sh) → s.T → AV
  | .int k, n => .int k n
  | .u256, x => .u256 x
  | .u2, p => .st [.u256 p.1, .u256 p.2]
  | .pt, p => .st [.u256 p.1, .u256 p.2.1, .bool p.2.2]
  | .jac, p => .st [.u256 p.1, .u256 p.2.1, .u256 p.2.2]
  | .bytes, l => .isl false (.int .u8) l
  | .d i, t => i.el t

def Sh.de : (s : Sh) → AV → Option s.T
  | .int k, .int k' n => if k = k' then some n else none
  | .u256, .u256 x => some x
  | .u2, .st [.u256 x, .u256 y] => some (x, y)
  | .pt, .st [.u256 x, .u256 y, .bool b] => some (x, y, b)
  | .jac, .st [.u256 x, .u256 y, .u256 z] => some (x, y, z)
  | .bytes, .isl false (.int .u8) l => some l
  | .bytes, .nsl (.int .u8) => some ([] : List Int)
  | .d i, .el j t => j.cast i t
  | .d i, v => (AV.toDV v).bind i.make
  | _, _ => none

mutual
/-- How many cells. -/
def AV.size : AV → Nat
  | .u256 _ => 4
  | .arr s n _ => n * s.size
  | .st l => AV.sizes l
  | .tup _ => 0
  | .undef => 0
  | .el i _ => i.size
  | _ => 1
def AV.sizes : List AV → Nat
  | [] => 0
  | v :: l => v.size + AV.sizes l
end

def AV.isAgg : AV → Bool
  | .u256 _ | .arr .. | .st _ => true
  | .el i _ => i.agg
  | _ => false

/-- Is it the value of a variable? -/
def AV.plain : AV → Bool
  | .undef | .tup _ | .row .. => false
  | _ => true

mutual
/-- Do all blocks that it names satisfy 'ok'? -/
def AV.named (ok : Nat → Bool) : AV → Bool
  | .st l | .tup l | .fn _ l => AV.nameds ok l
  | .ptr n _ | .sl n .. | .own n _ | .osl n .. => ok n
  | .pim _ v => v.named ok
  | .pimq _ v => v.named ok
  | .ifc _ v => v.named ok
  | _ => true
def AV.nameds (ok : Nat → Bool) : List AV → Bool
  | [] => true
  | v :: l => v.named ok && AV.nameds ok l
end

section
variable {β : Type}

/-- What lies at a place inside a value. -/
def getK (v : AV) : List Step → (AV → Option β) → Option β
  | [], k => k v
  | .fld i off :: p, k =>
    match v.open with
    | .st l => if AV.sizes (l.take i) = off then (match l[i]? with | some u => getK u p k | none => none) else none
    | _ => none
  | .idx i sz :: p, k =>
    match v.open with
    | .arr s n l => if sz = s.size then cond (Nat.blt i n) (getK (s.av (l.getD i s.dflt)) p k) none else none
    | .u256 x => if sz = 1 then cond (Nat.blt i 4) (getK (.int .u64 (limb x i)) p k) none else none
    | .st l => if AV.sizes (l.take i) = i * sz then (match l[i]? with | some u => getK u p k | none => none) else none
    | _ => none

/-- The value with another at a place inside. -/
def setK (v : AV) : List Step → AV → (AV → Option β) → Option β
  | [], u, k => if v.size = u.size ∧ v.isAgg = u.isAgg then k u else none
  | .fld i off :: p, u, k =>
    match v.open with
    | .st l => if AV.sizes (l.take i) = off then (match l[i]? with | some w => setK w p u (fun w' => k (.st (l.set i w'))) | none => none) else none
    | _ => none
  | .idx i sz :: p, u, k =>
    match v.open with
    | .arr s n l => if sz = s.size then cond (Nat.blt i n) (setK (s.av (l.getD i s.dflt)) p u (fun w' => match s.de w' with | some t => k (.arr s n (l.set i t)) | none => none)) none else none
    | .u256 x => if sz = 1 then cond (Nat.blt i 4) (match p, u with | [], .int .u64 w => cond (inU64 w) (k (.u256 (setLimb x i w))) none | _, _ => none) none else none
    | _ => none

/-- As 'getK' and 'setK', of a block. -/
def getB (c : AV) (p : List Step) (k : AV → Option β) : Option β :=
  match c with
  | .row s l => match p with
    | .idx i sz :: q => if sz = s.size then cond (Nat.blt i l.length) (getK (s.av (l.getD i s.dflt)) q k) none else none
    | _ => none
  | .undef | .tup _ => none
  | c => getK c p k

def setB (c : AV) (p : List Step) (u : AV) (k : AV → Option β) : Option β :=
  match c with
  | .row s l => match p with
    | .idx i sz :: q => if sz = s.size then cond (Nat.blt i l.length) (setK (s.av (l.getD i s.dflt)) q u (fun w => match s.de w with | some t => k (.row s (l.set i t)) | none => none)) none else none
    | _ => none
  | .undef | .tup _ => none
  | c => setK c p u k
end

/-! ### Literal cells -/

mutual
/-- The cells of a value without pointers. -/
def DT.litD : DT → Option (List Value)
  | .int k n => some [.int k n]
  | .bool b => some [.bool b]
  | .u256 x => some ((limbs x).map (.int .u64))
  | .str l => some [.string ⟨l.toArray⟩]
  | .st l => DT.litDs l
  | _ => none
def DT.litDs : List DT → Option (List Value)
  | [] => some []
  | v :: l => match v.litD, DT.litDs l with
    | some a, some b => some (a ++ b)
    | _, _ => none
end

def AV.litCells : AV → Option (List Value)
  | .int k n => some [.int k n]
  | .bool b => some [.bool b]
  | .u256 x => some ((limbs x).map (.int .u64))
  | .arr (.int k) n l => if (l : List Int).length = n then some ((l : List Int).map (.int k)) else none
  | .arr .u256 n l => if (l : List Nat).length = n then some ((l : List Nat).flatMap fun x => (limbs x).map (.int .u64)) else none
  | .arr .u2 n l => if (l : List (Nat × Nat)).length = n then some ((l : List (Nat × Nat)).flatMap fun p => (limbs p.1).map (.int .u64) ++ (limbs p.2).map (.int .u64)) else none
  | .arr .pt n l => if (l : List (Nat × Nat × Bool)).length = n then some ((l : List (Nat × Nat × Bool)).flatMap fun p => (limbs p.1).map (.int .u64) ++ (limbs p.2.1).map (.int .u64) ++ [.bool p.2.2]) else none
  | .arr .jac n l => if (l : List (Nat × Nat × Nat)).length = n then some ((l : List (Nat × Nat × Nat)).flatMap fun p => (limbs p.1).map (.int .u64) ++ (limbs p.2.1).map (.int .u64) ++ (limbs p.2.2).map (.int .u64)) else none
  | .arr (.d i) n l => if l.length = n then DT.litDs (l.map i.toD) else none
  | .nsl _ => some [.slice none 0 0]
  | .str l => some [.string ⟨l.toArray⟩]
  | .nilp => some [.pointer none]
  | .nili => some [.nilIface]
  | .st l => litAll l
  | _ => none
where
  litAll : List AV → Option (List Value)
  | [] => some []
  | v :: l => match v.litCells, litAll l with
    | some a, some b => some (a ++ b)
    | _, _ => none

def sameCell : Value → Value → Bool
  | .int k n, .int k' n' => if k = k' then n == n' else false
  | .bool b, .bool b' => b == b'
  | .slice none 0 0, .slice none 0 0 => true
  | .pointer none, .pointer none => true
  | .nilIface, .nilIface => true
  | .string a, .string b => a.data.toList == b.data.toList
  | _, _ => false

def sameCells : List Value → List Value → Bool
  | [], [] => true
  | v :: l, v' :: l' => sameCell v v' && sameCells l l'
  | _, _ => false

/-! ### Types -/

def AV.shape : AV → Option Sh
  | .int k _ => some (.int k)
  | .u256 _ => some .u256
  | .st [.u256 _, .u256 _] => some .u2
  | .st [.u256 _, .u256 _, .bool _] => some .pt
  | .st [.u256 _, .u256 _, .u256 _] => some .jac
  | .isl _ (.int .u8) _ | .nsl (.int .u8) => some .bytes
  | .str _ => some (.d .str)
  | .el i _ => some (.d i)
  | _ => none

/-- Is it the type of such data, by its name? -/
def dshT (P : Program) (t : TypeId) : Option DSh :=
  match P.info? t with
  | some i => match i.desc with
    | .named n _ => if n = "waybill/api.Value" then some .val else if n = "waybill/waybillref22.Type" then some .rtyp else if n = "waybill/abi.base" then some .base else none
    | .pointer e => match P.info? e with
      | some i => match i.desc with
        | .named n _ => if n = "waybill/abi.kind" then some .kind else none
        | _ => none
      | none => none
    | .string => some .str
    | _ => none
  | none => none

/-- The zero value of a type. -/
def zeroAV (P : Program) : Nat → TypeId → Option AV
  | 0, _ => none
  | d + 1, t =>
    match P.underlying t with
    | some (.int k) => some (.int k 0)
    | some .bool => some (.bool false)
    | some (.array n e) =>
      match zeroAV P d e with
      | some (.int .u64 _) => if n = 4 then some (.u256 0) else some (.arr (.int .u64) n (List.replicate n (0 : Int)))
      | some z => match z.shape with
        | some s => some (.arr s n (List.replicate n s.dflt))
        | none => none
      | none => none
    | some (.struct fs) => match fs.toList.mapM (fun f => zeroAV P d f.type) with
      | some l => some (.st l)
      | none => none
    | some (.slice e) => match dshT P e with
      | some i => some (.nsl (.d i))
      | none => match zeroAV P d e with
        | some z => match z.shape with
          | some s => some (.nsl s)
          | none => none
        | none => none
    | some .string => some (.str [])
    | some (.pointer _) => some .nilp
    | some (.interface _) => some .nili
    | _ => none

def zeroT (P : Program) (t : TypeId) : Option AV := zeroAV P 12 t

/-- Is it the zero value that the table tells? -/
def zeroOK (P : Program) (t : TypeId) (z : AV) : Bool :=
  match (P.info? t).bind (·.zero), z.litCells with
  | some v, some l => sameCells v.cells.toList l
  | _, _ => false

/-- Is the table's zero value several cells, as this one is? -/
def zeroForm (P : Program) (t : TypeId) (z : AV) : Bool :=
  match (P.info? t).bind (·.zero) with
  | some (.agg _) => z.isAgg
  | some _ => !z.isAgg
  | none => false

def aggT (P : Program) (t : TypeId) : Option Bool :=
  match P.underlying t with
  | some (.struct _) | some (.array _ _) => some true
  | some _ => some false
  | none => none

def sizeT (P : Program) (t : TypeId) : Option Nat := (P.info? t).map (·.size)

/-- Is it a value of that type's size and kind? -/
def fitsT (P : Program) (t : TypeId) (v : AV) : Bool :=
  match aggT P t, sizeT P t with
  | some a, some n => (a == v.isAgg) && v.plain && Nat.beq n v.size
  | _, _ => false

/-- The shape of a type's values, as elements. -/
def shapeT (P : Program) (t : TypeId) : Option Sh :=
  match zeroT P t with
  | some z => if zeroOK P t z then (match dshT P t with
    | some i => some (.d i)
    | none => z.shape) else none
  | none => none

mutual
/-- The cells of such a value that is zero. -/
def DV.lits : DV → Option (List Value)
  | .int k n => some [.int k n]
  | .bool b => some [.bool b]
  | .u256 x => some ((limbs x).map (.int .u64))
  | .str [] => some [.string ⟨#[]⟩]
  | .ints _ [] => some [.slice none 0 0]
  | .sl _ [] => some [.slice none 0 0]
  | .wints _ [] 0 => some [.slice none 0 0]
  | .wsl _ [] 0 => some [.slice none 0 0]
  | .ptr false _ => some [.pointer none]
  | .st l => DV.litss l
  | _ => none
def DV.litss : List DV → Option (List Value)
  | [] => some []
  | v :: l => (DV.lits v).bind fun a => (DV.litss l).bind fun b => some (a ++ b)
end

/-- The cells of an element that is zero. -/
def Sh.dfltCells : Sh → List Value
  | .int k => [.int k 0]
  | .u256 => (limbs 0).map (.int .u64)
  | .u2 => (limbs 0).map (.int .u64) ++ (limbs 0).map (.int .u64)
  | .pt => (limbs 0).map (.int .u64) ++ (limbs 0).map (.int .u64) ++ [.bool false]
  | .jac => (limbs 0).map (.int .u64) ++ (limbs 0).map (.int .u64) ++ (limbs 0).map (.int .u64)
  | .bytes => [.slice none 0 0]
  | .d i => ((i.view i.dflt).lits).getD []

/-- The shape of a type's values, whose zero value and size are the shape's. -/
def shapeZ (P : Program) (t : TypeId) : Option Sh :=
  match shapeT P t, (P.info? t).bind (·.zero), sizeT P t with
  | some s, some v, some n => if sameCells v.cells.toList s.dfltCells && Nat.beq n s.size then some s else none
  | _, _, _ => none

/-! ### Operations on numbers -/

def shlI (k : IntKind) (x y : Int) : Int := k.wrap (x * 2 ^ (min y.toNat k.bits))
def shrI (k : IntKind) (x y : Int) : Int := x.fdiv (2 ^ (min y.toNat k.bits))
def andI (k : IntKind) (x y : Int) : Int := k.wrap (BitVec.ofInt k.bits x &&& BitVec.ofInt k.bits y).toNat
def orI (k : IntKind) (x y : Int) : Int := hide (k.wrap (BitVec.ofInt k.bits x ||| BitVec.ofInt k.bits y).toNat)
theorem orI_eq (k : IntKind) (x y : Int) : orI k x y = k.wrap (BitVec.ofInt k.bits x ||| BitVec.ofInt k.bits y).toNat := hide_eq _
def xorI (k : IntKind) (x y : Int) : Int := k.wrap (BitVec.ofInt k.bits x ^^^ BitVec.ofInt k.bits y).toNat
def andNotI (k : IntKind) (x y : Int) : Int := k.wrap (BitVec.ofInt k.bits x &&& ~~~ (BitVec.ofInt k.bits y)).toNat

/-- Are the fields of two structs the same (r: of a field)? -/
def eqFs (P : Program) (r : TypeId → AV → AV → Option Bool) : List Field → Nat → List AV → List AV → Option Bool
  | [], _, [], [] => some true
  | f :: fs, off, v :: l, v' :: l' =>
    if f.name ≠ "_" ∧ f.offset = off ∧ sizeT P f.type = some v.size ∧ v'.size = v.size ∧ aggT P f.type = some v.isAgg ∧ v'.isAgg = v.isAgg then
      match r f.type v v' with
      | some a => if l.isEmpty && l'.isEmpty && fs.isEmpty then some a else
        (match eqFs P r fs (off + v.size) l l' with
        | some b => some (a && b)
        | none => none)
      | none => none
    else none
  | _, _, _, _ => none

/-- Are two values of a type the same? -/
def eqTV (P : Program) : Nat → TypeId → AV → AV → Option Bool
  | 0, _, _, _ => none
  | d + 1, t, a, b =>
    match P.underlying t with
    | some .bool => (match a, b with
      | .bool x, .bool y => some (x == y)
      | _, _ => none)
    | some (.int _) => (match a, b with
      | .int k x, .int k' y => if k = k' then some (x == y) else none
      | _, _ => none)
    | some (.pointer _) => (match a.open, b.open with
      | .nilp, .nilp => some true
      | .ptr .., .nilp | .nilp, .ptr .. | .pim .., .nilp | .nilp, .pim .. => some false
      | .pimq ok _, .nilp | .nilp, .pimq ok _ => some (!ok)
      | _, _ => none)
    | some (.interface ms) => if ms.isEmpty then (match a, b with
      | .nili, .nili => some true
      | .ifc .., .nili | .nili, .ifc .. => some false
      | _, _ => none) else none
    | some .string => (match a, b with
      | .str x, .str y => some (x == y)
      | _, _ => none)
    | some (.array n e) =>
      if aggT P e = some false ∧ sizeT P e = some 1 then
        match P.underlying e with
        | some (.int _) => (match a, b with
          | .u256 x, .u256 y => if n = 4 then some (u256eq x y) else none
          | .arr (.int k) m l, .arr (.int k') m' l' => if k = k' ∧ m = n ∧ m' = n then some ((l : List Int) == (l' : List Int)) else none
          | _, _ => none)
        | _ => none
      else none
    | some (.struct fs) => if P.stoodInHeld t then none else
      match a, b with
      | .st l, .st l' => eqFs P (eqTV P d) fs.toList 0 l l'
      | _, _ => none
    | _ => none

section
variable {β : Type}

def binK (P : Program) (op : BinOp) (t : TypeId) (a b : AV) (k : AV → Option β) : Option β :=
  match a, b with
  | .int ka x, .int kb y =>
    match op with
    | .shl => cond (decide (y < 0)) none (k (.int ka (shlI ka x y)))
    | .shr => cond (decide (y < 0)) none (k (.int ka (shrI ka x y)))
    | op => if ka = kb then
      match op with
      | .add => k (.int ka (ka.wrap (x + y)))
      | .sub => k (.int ka (ka.wrap (x - y)))
      | .mul => k (.int ka (ka.wrap (x * y)))
      | .quo => cond (y == 0) none (k (.int ka (ka.wrap (x.tdiv y))))
      | .rem => cond (y == 0) none (k (.int ka (x.tmod y)))
      | .and => k (.int ka (andI ka x y))
      | .or => k (.int ka (orI ka x y))
      | .xor => k (.int ka (xorI ka x y))
      | .andNot => k (.int ka (andNotI ka x y))
      | .eql => k (.bool (x == y))
      | .neq => k (.bool (x != y))
      | .lss => k (.bool (decide (x < y)))
      | .leq => k (.bool (decide (x ≤ y)))
      | .gtr => k (.bool (decide (x > y)))
      | .geq => k (.bool (decide (x ≥ y)))
      | _ => none
      else none
  | .str x, .str y =>
    match op with
    | .add => cond (Nat.ble (x.length + y.length) 9223372036854775807) (k (.str (x ++ y))) none
    | .eql => k (.bool (x == y))
    | .neq => k (.bool (!(x == y)))
    | .lss => k (.bool (Op.bytesLess x y))
    | .leq => k (.bool (Op.bytesLess x y || x == y))
    | .gtr => k (.bool (!(Op.bytesLess x y || x == y)))
    | .geq => k (.bool (!(Op.bytesLess x y)))
    | _ => none
  | a, b =>
    if P.eqGuardType P.depth t then none else
      match op, eqTV P 12 t a b with
      | .eql, some c => k (.bool c)
      | .neq, some c => k (.bool (!c))
      | _, _ => none

def unK (op : UnOp) (a : AV) (k : AV → Option β) : Option β :=
  match op, a with
  | .not, .bool b => k (.bool (!b))
  | .neg, .int ka x => k (.int ka (ka.wrap (0 - x)))
  | .xor, .int ka x => k (.int ka (xorI ka (if ka.signed then -1 else ka.max) x))
  | _, _ => none
end

/-! ### Names of blocks -/

mutual
/-- The blocks that a value names, in order. -/
def AV.names : AV → List Nat
  | .st l | .tup l | .fn _ l => AV.namess l
  | .ptr n _ | .sl n .. | .own n _ | .osl n .. => [n]
  | .pim _ v => v.names
  | .pimq _ v => v.names
  | .ifc _ v => v.names
  | _ => []
def AV.namess : List AV → List Nat
  | [] => []
  | v :: l => v.names ++ AV.namess l
end

mutual
/-- Other names for the blocks. -/
def AV.ren (σ : Nat → Option Nat) : AV → Option AV
  | .st l => (AV.rens σ l).bind fun l' => some (.st l')
  | .tup l => (AV.rens σ l).bind fun l' => some (.tup l')
  | .fn f l => (AV.rens σ l).bind fun l' => some (.fn f l')
  | .ptr n p => (σ n).bind fun m => some (.ptr m p)
  | .sl n p s i len cap => (σ n).bind fun m => some (.sl m p s i len cap)
  | .own n s => (σ n).bind fun m => some (.own m s)
  | .osl n s i len => (σ n).bind fun m => some (.osl m s i len)
  | .pim fr v => (v.ren σ).bind fun v' => some (.pim fr v')
  | .pimq ok v => (v.ren σ).bind fun v' => some (.pimq ok v')
  | .ifc t v => (v.ren σ).bind fun v' => some (.ifc t v')
  | v => some v
def AV.rens (σ : Nat → Option Nat) : List AV → Option (List AV)
  | [] => some []
  | v :: l => (v.ren σ).bind fun v' => (AV.rens σ l).bind fun l' => some (v' :: l')
end

def memN (n : Nat) : List Nat → Bool
  | [] => false
  | m :: l => Nat.beq n m || memN n l

/-- The place of a name in a list. -/
def placeN (n : Nat) : List Nat → Option Nat
  | [] => none
  | m :: l => cond (Nat.beq n m) (some 0) ((placeN n l).bind fun j => some (j + 1))

/-- All blocks that are named, and those that they name. -/
def reachN (hp : Nat → Option AV) : Nat → List Nat → List Nat → List Nat
  | 0, _, acc => acc
  | _, [], acc => acc
  | d + 1, n :: todo, acc => cond (memN n acc) (reachN hp d todo acc) (reachN hp d (todo ++ (match hp n with | some c => c.names | none => [])) (acc ++ [n]))

/-! ### The context: contracts of callees and loops -/

/-- A function's contract: how its arguments and the blocks that are lent to it are read, what it answers, how that is laid. -/
structure Entry where
  α : Type
  ρ : Type
  /-- how many blocks are lent -/
  nb : Nat
  /-- no block is lent, none is made -/
  quiet : Bool
  /-- which arguments are handed over as they are (the others: as memory that stays during the call) -/
  modes : List Bool
  dec : List AV → List AV → Option α
  F : α → Option ρ
  enc : ρ → List AV
  /-- the blocks behind the call: those that were lent have the names below 'nb' -/
  out : ρ → List (Nat × AV)
  /-- does it ever panic? -/
  pans : Bool := false
  /-- is the answer a panic's value? -/
  pan : ρ → Bool := fun _ => false
  /-- the ways of answering, told apart -/
  elim : {β : Type} → ρ → (ρ → Option β) → Option β := fun r k => k r
  elim_eq : ∀ {β : Type} (r : ρ) (k : ρ → Option β), elim r k = k r := by intros; rfl

/-- How a piece of code is left. -/
inductive Ex where
  | normal | exit (id : Nat) | ret
  /-- the panic's value is in the slot behind the temporaries -/
  | panic

structure St where
  env : List (Nat × AV)
  heap : List (Nat × AV)

structure LEntry where
  α : Type
  ρ : Type
  dec : St → Option α
  F : α → Option ρ
  enc : α → ρ → Ex × St
  run : {β : Type} → α → (Ex → St → Option β) → Option β
  run_eq : ∀ (β : Type) x (k : Ex → St → Option β), run x k = (F x).bind fun r => k (enc x r).1 (enc x r).2

/-- What may be said anew of the memory, where nothing is done: a block stays as it is from now on; the empty part of a row is a row; a row is a part of itself; a row's elements are shown by blocks, what is in temporaries may be appended to; a row's elements are shown. -/
inductive Ghost where
  | ice (n : Nat) | cut (n d : Nat) | part (n : Nat) | share (t d : Nat) | shown (t : Nat) | iceT (t : Nat) | pack (t : Nat) (i : DSh) | packB (n : Nat) (i : DSh)

structure Cx where
  P : Program
  /-- how many temporaries -/
  N : Nat
  calls : Nat → Option Entry
  loops : Nat → Option LEntry
  /-- what an unrolled loop keeps from round to round: temporaries, blocks -/
  keep : Nat → Option (List Nat × List Nat)
  globs : Nat → Option AV
  /-- what is said anew ahead of a region, a loop (1000000 and its first region), the answers (2000000) -/
  ghost : Nat → List Ghost := fun _ => []

def lk : Nat → List (Nat × AV) → Option AV
  | _, [] => none
  | n, (m, v) :: l => cond (Nat.beq n m) (some v) (lk n l)

def St.e (S : St) (n : Nat) : Option AV := lk n S.env
def St.h (S : St) (n : Nat) : Option AV := lk n S.heap

def ofConst (P : Program) (t : TypeId) : Value → AV
  | .int k n => .int k n
  | .bool b => .bool b
  | .pointer none => .nilp
  | .slice none 0 0 => match P.underlying t with
    | some (.slice e) => match shapeT P e with
      | some s => .nsl s
      | none => .undef
    | _ => .undef
  | .string b => .str b.data.toList
  | .nilIface => .nili
  | _ => .undef

/-- An operand's value (t: its type, for a nil slice). -/
def ev (cx : Cx) (env : Nat → Option AV) (t : TypeId) : Operand → AV
  | .tmp n => (env n).getD .undef
  | .const v => ofConst cx.P t v
  | .global g => match cx.globs g with
    | some v => .pim false v
    | none => .undef
  | .func f => .fn f []

def Sh.flat : Sh → Bool
  | .bytes => false
  | _ => true

mutual
/-- Numbers alone? -/
def AV.flat : AV → Bool
  | .int .. | .bool _ | .u256 _ | .str _ | .el .. | .nili => true
  | .arr s _ _ => s.flat
  | .pimq _ v => v.flat
  | .ifc _ v => v.flat
  | .st l => AV.flats l
  | _ => false
def AV.flats : List AV → Bool
  | [] => true
  | v :: l => v.flat && AV.flats l
end

/-- Is the block known? -/
def AV.live : AV → Bool
  | .undef | .tup _ => false
  | _ => true

theorem live_ne {c : AV} (h : c.live = true) : c ≠ .undef := fun e => by subst e; cases h

/-- Has each one cell? -/
def AV.ones : List AV → Bool
  | [] => true
  | v :: l => (v.size == 1) && AV.ones l

/-- A list of such data, of the kind. -/
def castD : (i j : DSh) → List j.T → Option (List i.T)
  | .str, .str, l => some l
  | .val, .val, l => some l
  | .valx, .valx, l => some l
  | .kind, .kind, l => some l
  | .rtyp, .rtyp, l => some l
  | .base, .base, l => some l
  | _, _, _ => none

def castL : (s s' : Sh) → List s'.T → Option (List s.T)
  | .int k, .int k', l => if k = k' then some l else none
  | .u256, .u256, l => some l
  | .u2, .u2, l => some l
  | .pt, .pt, l => some l
  | .jac, .jac, l => some l
  | .bytes, .bytes, l => some l
  | .d i, .d j, l => castD i j l
  | _, _, _ => none

def shEq : Sh → Sh → Bool
  | .int k, .int k' => if k = k' then true else false
  | .u256, .u256 | .u2, .u2 | .pt, .pt | .jac, .jac | .bytes, .bytes => true
  | .d i, .d j => i.beq j
  | _, _ => false

section
variable {β : Type}

/-- What a slice shows (of a row, an array, memory that stays). -/
def listK0 (hp : Nat → Option AV) (v : AV) (k : (s : Sh) → List s.T → Option β) : Option β :=
  match v with
  | .isl _ s l => k s l
  | .isw _ s l n => k s (l.take n)
  | .nsl s => k s []
  | .own n s => match hp n with
    | some (.row s' l) => if shEq s s' then k s' l else none
    | _ => none
  | .osl n s i len => match hp n with
    | some (.row s' l) => if shEq s s' then cond (Nat.ble (i + len) l.length) (k s' ((l.drop i).take len)) none else none
    | _ => none
  | .sl n p s i len _ => match hp n with
    | some c => getB c p fun a => match a with
      | .arr s' m l => if shEq s s' then cond (Nat.ble (i + len) m) (k s' ((l.drop i).take len)) none else none
      | .u256 x => if shEq s (.int .u64) then cond (Nat.ble (i + len) 4) (k (.int .u64) (((limbs x).drop i).take len)) none else none
      | _ => none
    | none => none
  | _ => none

/-- The texts of a list of slices. -/
def textsK (hp : Nat → Option AV) : List AV → (List (List Int) → Option β) → Option β
  | [], k => k []
  | v :: l, k => listK0 hp v fun s xs => match s, xs with
    | .int .u8, xs => textsK hp l fun r => k ((xs : List Int) :: r)
    | _, _ => none

def listK (hp : Nat → Option AV) (v : AV) (k : (s : Sh) → List s.T → Option β) : Option β :=
  match v with
  | .sl n [] .bytes i len cap => match hp n with
    | some (.st l) => cond (Nat.ble (i + len) l.length && AV.ones l) (textsK hp ((l.drop i).take len) fun r => k .bytes r) none
    | _ => listK0 hp (.sl n [] .bytes i len cap) k
  | v => listK0 hp v k

/-- A value as a callee sees it: memory of the call's own is laid open. -/
def immK (hp : Nat → Option AV) (v : AV) (k : AV → Option β) : Option β :=
  match v with
  | .isl .. | .isw .. | .nsl _ | .own .. | .osl .. | .sl .. => listK hp v fun s l => k (.isl false s l)
  | .pim _ v => if v.flat then k (.pim false v) else none
  | .ptr n p => match hp n with
    | some c => getB c p fun a => if a.flat then k (.pim false a) else none
    | none => none
  | v => if v.flat then k v else none

/-- The blocks that are not lent. -/
def maskN (σ : Nat → Option Nat) (hp : Nat → Option AV) : Nat → Option AV := fun n => match σ n with
  | some _ => none
  | none => hp n

/-- The arguments as the callee sees them. -/
def argsK (hp : Nat → Option AV) (σ : Nat → Option Nat) : List Bool → List AV → (List AV → Option β) → Option β
  | _, [], k => k []
  | true :: ms, v :: l, k => if v.plain then (v.ren σ).bind fun v' => argsK hp σ ms l fun l' => k (v' :: l') else none
  | ms, v :: l, k => immK (maskN σ hp) v fun v' => argsK hp σ ms.tail l fun l' => k (v' :: l')

/-- Is it a name of a row whose known elements may be shown elsewhere: it may be appended to, not written? -/
def froN (n : Nat) : Bool := Nat.ble 1000000000000000 n

/-- Is it a name of a block that the call has made? -/
def newN (n : Nat) : Bool := Nat.ble 1000 n && Nat.blt n 1000000000
theorem newN_iff {n : Nat} : newN n = true ↔ 1000 ≤ n ∧ n < 1000000000 := by
  simp [newN]

mutual
/-- Does it stand on memory that stays for good alone, and on blocks with names? -/
def AV.pers : AV → Bool
  | .isl fr s _ => fr && s.flat
  | .isw fr s _ _ => fr && s.flat
  | .pim fr v => fr && v.pers
  | .pimq _ v => v.pers
  | .ifc _ v => v.pers
  | .arr s _ _ | .row s _ => s.flat
  | .st l | .tup l | .fn _ l => AV.perss l
  | .undef => false
  | _ => true
def AV.perss : List AV → Bool
  | [] => true
  | v :: l => v.pers && AV.perss l
end

/-- The arguments that are handed over as they are. -/
def asIs : List Bool → List AV → List AV
  | true :: ms, v :: l => v :: asIs ms l
  | _ :: ms, _ :: l => asIs ms l
  | _, _ => []

/-- The contents of the blocks that are lent. -/
def lentK (hp : Nat → Option AV) (σ : Nat → Option Nat) : List Nat → (List AV → Option β) → Option β
  | [], k => k []
  | n :: ns, k => match hp n with
    | some c => if c.live then (c.ren σ).bind fun c' => lentK hp σ ns fun l => k (c' :: l) else none
    | none => none

/-- One result stands for itself, several for a tuple. -/
def one : List AV → AV
  | [v] => v
  | l => .tup l

/-- The caller's names for the blocks behind a call. -/
def backN (ns : List Nat) (d : Option Nat) (j : Nat) : Option Nat :=
  match ns[j]? with
  | some n => some n
  | none => match d with
    | some d => some (d + 1000 * (j + 1 - ns.length))
    | none => none

/-- The blocks behind a call, by the caller's names: those that were lent keep them, the others' are new. -/
def outK (hp : Nat → Option AV) (nb : Nat) (τ : Nat → Option Nat) : List (Nat × AV) → Option (List (Nat × AV))
  | [] => some []
  | (j, c) :: l => (τ j).bind fun n => (c.ren τ).bind fun c' => if c.live && c.pers && (Nat.blt j nb || ((hp n).isNone && (!newN n || newN j))) && !froN j then (outK hp nb τ l).bind fun r => some ((n, c') :: r) else none

def keysN : List (Nat × AV) → List Nat
  | [] => []
  | (n, _) :: l => n :: keysN l

def nodupN : List Nat → Bool
  | [] => true
  | n :: l => !memN n l && nodupN l

/-- What was lent is not known any more, where nothing is told of it. -/
def lostN : List Nat → List (Nat × AV)
  | [] => []
  | n :: l => (n, .undef) :: lostN l

/-- A call: what is behind it (k), or behind its panic (kp). -/
def callG (cx : Cx) (hp : Nat → Option AV) (d : Option Nat) (f : Nat) (args : List AV) (k kp : AV → List (Nat × AV) → Option β) : Option β :=
  match cx.calls f with
  | some e =>
    if e.quiet then
      argsK hp (fun _ => none) e.modes args fun args' =>
      match e.dec args' [] with
      | some a => (e.F a).bind fun r => e.elim r fun r => if AV.perss (e.enc r) then cond (e.pan r) (kp (one (e.enc r)) []) (k (one (e.enc r)) []) else none
      | none => none
    else
      callB hp d e args (reachN hp 40 (AV.namess (asIs e.modes args)) []) k kp
  | none => none
where
  callB (hp : Nat → Option AV) (d : Option Nat) (e : Entry) (args : List AV) (ns : List Nat) (k kp : AV → List (Nat × AV) → Option β) : Option β :=
    if Nat.beq ns.length e.nb && (nodupN ns && (Nat.ble ns.length 1000 && ns.all fun n => !froN n)) then
      argsK hp (fun n => placeN n ns) e.modes args fun args' =>
      lentK hp (fun n => placeN n ns) ns fun bs =>
      match e.dec args' bs with
      | some a => (e.F a).bind fun r => e.elim r fun r =>
        match AV.rens (backN ns d) (e.enc r), outK hp e.nb (backN ns d) (e.out r) with
        | some vs, some bs' => if nodupN (keysN bs') && AV.perss (e.enc r) then cond (e.pan r) (kp (one vs) (bs' ++ lostN ns)) (k (one vs) (bs' ++ lostN ns)) else none
        | _, _ => none
      | none => none
    else none

/-- A call that does not panic. -/
def callK (cx : Cx) (hp : Nat → Option AV) (d : Option Nat) (f : Nat) (args : List AV) (k : AV → List (Nat × AV) → Option β) : Option β := callG cx hp d f args k fun _ _ => none

def asNat (v : AV) (k : Nat → Option β) : Option β :=
  match v with
  | .int _ n => cond (decide (0 ≤ n)) (k n.toNat) none
  | _ => none

/-- A bound of a slice expression: at most 'most'. -/
def boundK (cx : Cx) (env : Nat → Option AV) (o : Option Operand) (dflt most : Nat) (k : Nat → Option β) : Option β :=
  match o with
  | none => k dflt
  | some x => asNat (ev cx env 0 x) fun n => cond (Nat.ble n most) (k n) none

/-- Are the sizes of all fields told? -/
def sizedT (P : Program) (t : TypeId) : Bool :=
  match P.underlying t with
  | some (.struct fs) => fs.toList.all fun f => (sizeT P f.type).isSome
  | some (.array _ e) => (sizeT P e).isSome
  | _ => false

def partsK (P : Program) (t : TypeId) (v : AV) : List (Nat × AV) → (AV → Option β) → Option β
  | [], k => k v
  | (i, u) :: rest, k =>
    match P.underlying t with
    | some (.struct fs) => (match fs[i]? with
      | some f => if fitsT P f.type u then setK v [.fld i f.offset] u (fun v' => partsK P t v' rest k) else none
      | none => none)
    | some (.array _ e) => (match sizeT P e with
      | some sz => if fitsT P e u then setK v [.idx i sz] u (fun v' => partsK P t v' rest k) else none
      | none => none)
    | _ => none

def spliceL {α : Type} (l : List α) (i : Nat) (xs : List α) : List α := l.take i ++ xs ++ l.drop (i + xs.length)

/-- A list of whole numbers out of an array's value, and back. -/
def intsOf : AV → Option (IntKind × Nat × List Int)
  | .u256 x => some (.u64, 4, limbs x)
  | .arr (.int k) n l => some (k, n, l)
  | _ => none

def intsTo (v : AV) (l : List Int) : AV :=
  match v with
  | .u256 _ => .u256 (ofLimbs l)
  | .arr (.int k) n _ => .arr (.int k) n l
  | v => v

/-- May the numbers be those of such an array? -/
def intsFit (v : AV) (l : List Int) : Bool :=
  match v with
  | .u256 _ => l.all inU64
  | _ => true

def copyK (hp : Nat → Option AV) (dst src : AV) (k : AV → List (Nat × AV) → Option β) : Option β :=
  match dst with
  | .own n s => listK0 hp src fun s1 xs => match hp n with
    | some (.row s2 l) => if shEq s s2 && !froN n then (castL s2 s1 xs).bind fun ys => k (.int .i64 (min ys.length l.length : Nat)) [(n, .row s2 (spliceL l 0 (ys.take l.length)))] else none
    | _ => none
  | .osl n s i len => listK0 hp src fun s1 xs => match hp n with
    | some (.row s2 l) => if shEq s s2 && !froN n then (castL s2 s1 xs).bind fun ys => cond (Nat.ble (i + len) l.length) (k (.int .i64 (min ys.length len : Nat)) [(n, .row s2 (spliceL l i (ys.take len)))]) none else none
    | _ => none
  | .sl n p (.int kb) i len _ => listK0 hp src fun s1 xs => match s1, xs with
    | .int ka, xs => if ka = kb ∧ froN n = false then
        match hp n with
        | some c => getB c p fun a => match intsOf a with
          | some (kc, m, l) => if kc = ka then
              cond (Nat.ble (i + len) m && intsFit a (spliceL l i ((xs : List Int).take len)))
                (setB c p (intsTo a (spliceL l i ((xs : List Int).take len))) fun c' => k (.int .i64 (min (xs : List Int).length len : Nat)) [(n, c')]) none
            else none
          | none => none
        | none => none
      else none
    | _, _ => none
  | _ => none

/-- How long a slice is. -/
def lenV : AV → Option Nat
  | .sl _ _ _ _ len _ => some len
  | .osl _ _ _ len => some len
  | .isl _ _ l => some l.length
  | .isw _ _ _ n => some n
  | .nsl _ => some 0
  | _ => none

/-- So many bytes may one piece of memory have. -/
def roomB (bytes n : Nat) : Bool := Nat.ble n 140737488355328 && Nat.ble (n * bytes) 140737488355328

/-- 'append': behind it the first slice's row has another name, and its length alone is known by its old one. -/
def appendK (hp : Nat → Option AV) (d : Nat) (bytes : Nat) (dst src : AV) (k : AV → List (Nat × AV) → Option β) : Option β :=
  match dst with
  | .nsl s => listK0 hp src fun s1 xs => (castL s s1 xs).bind fun ys => cond (roomB bytes ys.length) (k (.own d s) [(d, .row s ys)]) none
  | .own n s => listK0 hp src fun s1 xs => match hp n with
    | some (.row s2 l) => if shEq s s2 then (castL s2 s1 xs).bind fun ys => cond (roomB bytes (l.length + ys.length)) (k (.own d s2) [(d, .row s2 (l ++ ys)), (n, .tup [.int .i64 (l.length : Nat)])]) none else none
    | _ => none
  | .osl n s i len => listK0 hp src fun s1 xs => match hp n with
    | some (.row s2 l) => if shEq s s2 && (Nat.beq i 0 && !froN n) then (castL s2 s1 xs).bind fun ys => cond (Nat.ble len l.length && roomB bytes (len + ys.length)) (k (.own d s2) [(d, .row s2 (l.take len ++ ys)), (n, .tup [.int .i64 (l.length : Nat)])]) none else none
    | _ => none
  | .sl n p s i len cap => listK0 hp src fun s1 xs => listK0 hp (.sl n p s i len cap) fun s2 l => (castL s2 s1 xs).bind fun ys =>
    match lenV src with
    | some m => if Nat.blt cap (len + m) then cond (roomB bytes (len + ys.length)) (k (.own d s2) [(d, .row s2 (l ++ ys))]) none else none
    | none => none
  | _ => none

/-- A name for a new row: another one, where the first is taken. -/
def freeN (hp : Nat → Option AV) (d : Nat) : Nat := match hp d with
  | none => d
  | some _ => d + 1000000
theorem freeN_big (hp : Nat → Option AV) (d : Nat) (h : 1000 ≤ d) : 1000 ≤ freeN hp d := by unfold freeN; split <;> omega

/-- The name of a row that goes on with another: of a block that the call has made only where that is one. -/
def apN (dst : AV) (d : Nat) : Nat := match dst with
  | .own n _ | .osl n .. => cond (froN n) (d + 1000000000000000) (cond (newN n) d (d + 1000000000))
  | _ => d
theorem apN_own {n : Nat} {s : Sh} {d : Nat} (h : newN (apN (.own n s) d) = true) : newN n = true := by
  unfold apN at h
  cases hn : newN n with
  | true => rfl
  | false => exfalso; cases hf : froN n <;> simp only [hn, hf, cond_true, cond_false] at h <;> have := newN_iff.1 h <;> omega
theorem apN_osl {n i len : Nat} {s : Sh} {d : Nat} (h : newN (apN (.osl n s i len) d) = true) : newN n = true := by
  unfold apN at h
  cases hn : newN n with
  | true => rfl
  | false => exfalso; cases hf : froN n <;> simp only [hn, hf, cond_true, cond_false] at h <;> have := newN_iff.1 h <;> omega
theorem apN_fro {n : Nat} {s : Sh} {d : Nat} (h : froN n = true) : froN (apN (.own n s) d) = true := by
  unfold apN
  simp only [h, cond_true]
  exact Nat.ble_eq_true_of_le (Nat.le_add_left _ _)
theorem apN_big (dst : AV) (d : Nat) (h : 1000 ≤ d) : 1000 ≤ apN dst d := by
  unfold apN
  split
  · cases froN _ <;> cases newN _ <;> simp <;> omega
  · cases froN _ <;> cases newN _ <;> simp <;> omega
  · exact h

def bytesT (P : Program) (t : TypeId) : Option Nat := (P.info? t).map (·.bytes)

/-- The elements of a literal, of the shape. -/
def partsL (s : Sh) : List (Nat × AV) → List s.T → Option (List s.T)
  | [], l => some l
  | (i, v) :: r, l => match s.de v with
    | some t => cond (Nat.blt i l.length) (partsL s r (l.set i t)) none
    | none => none

/-- The elements of a literal, as they are. -/
def partsV (P : Program) (t : TypeId) : List (Nat × AV) → List AV → Option (List AV)
  | [], l => some l
  | (i, v) :: r, l => if fitsT P t v && v.plain && !v.isAgg then cond (Nat.blt i l.length) (partsV P t r (l.set i v)) none else none

/-- May they be captured: one cell each. -/
def capsOK : List AV → Bool
  | [] => true
  | v :: l => v.plain && !v.isAgg && capsOK l

def opK (cx : Cx) (o : Oper) (env hp : Nat → Option AV) (k : AV → List (Nat × AV) → Option β) : Option β :=
  match o.op with
  | .move x | .assign x => k (ev cx env o.type x) []
  | .pick c a b => match ev cx env 0 c with
    | .bool t => cond t (k (ev cx env o.type a) []) (k (ev cx env o.type b) [])
    | _ => none
  | .alloc t => match o.dst, zeroT cx.P t with
    | some d, some z => if (hp (d + 1000)).isNone && zeroOK cx.P t z then k (.ptr (d + 1000) []) [(d + 1000, z)] else none
    | _, _ => none
  | .box t x => match o.dst with
    | some d => if (hp (d + 1000)).isNone && (ev cx env t x).plain then k (.ptr (d + 1000) []) [(d + 1000, ev cx env t x)] else none
    | none => none
  | .build t parts => match zeroT cx.P t with
    | some z => if zeroOK cx.P t z && z.isAgg && sizedT cx.P t then partsK cx.P t z (parts.toList.map fun (i, x) => (i, ev cx env 0 x)) fun v => k v [] else none
    | none => none
  | .buildSlice t n parts => match o.dst, cx.P.underlying t with
    | some d, some (.slice e) => if (hp (d + 1000)).isNone then match shapeZ cx.P e with
      | some s => if Nat.ble (n * s.size) 16777216 then (match partsL s (parts.toList.map fun (i, x) => (i, ev cx env e x)) (List.replicate n s.dflt) with
          | some l => k (.own (d + 1000) s) [(d + 1000, .row s l)]
          | none => match zeroT cx.P e with
            | some z => if zeroOK cx.P e z && Nat.beq s.size 1 && Nat.beq z.size 1 then (match partsV cx.P e (parts.toList.map fun (i, x) => (i, ev cx env e x)) (List.replicate n z) with
              | some l => k (.sl (d + 1000) [] s 0 n n) [(d + 1000, .st l)]
              | none => none) else none
            | none => none) else none
      | none => none
      else none
    | _, _ => none
  | .makeSlice t len cap => match o.dst, cx.P.underlying t with
    | some d, some (.slice e) => if (hp (d + 1000)).isNone then match shapeZ cx.P e, bytesT cx.P e, ev cx env 0 len, ev cx env 0 cap with
      | some s, some b, .int .i64 n, .int .i64 c =>
          cond (decide (0 ≤ n)) (cond (decide (n ≤ c)) (cond (roomB b c.toNat) (
            if sameOp len cap then k (.own (d + 1000) s) [(d + 1000, .row s (List.replicate n.toNat s.dflt))]
            else k (.osl (d + 1000) s 0 n.toNat) [(d + 1000, .row s (List.replicate c.toNat s.dflt))]) none) none) none
      | _, _, _, _ => none
      else none
    | _, _ => none
  | .load t a => match (ev cx env 0 a).open with
    | .ptr n p => (match hp n with
      | some c => getB c p fun v => if fitsT cx.P t v then k v [] else none
      | none => none)
    | .pim _ v => if fitsT cx.P t v then k v [] else none
    | .pimq ok v => cond ok (if fitsT cx.P t v then k v [] else none) none
    | _ => none
  | .store t a x => match ev cx env 0 a with
    | .ptr n p => (match hp n with
      | some c => if fitsT cx.P t (ev cx env t x) && !froN n then setB c p (ev cx env t x) fun c' => k .undef [(n, c')] else none
      | none => none)
    | _ => none
  | .nilCheck x => match (ev cx env 0 x).open with
    | .ptr n p => k (.ptr n p) []
    | .pim fr v => k (.pim fr v) []
    | .pimq ok v => cond ok (k (.pim true v) []) none
    | _ => none
  | .binOp op t x y _ => binK cx.P op t (ev cx env 0 x) (ev cx env 0 y) fun v => k v []
  | .unOp op _ x => unK op (ev cx env 0 x) fun v => k v []
  | .convert s d x => match cx.P.underlying s, cx.P.underlying d, ev cx env 0 x with
    | some _, some (.int kd), .int _ n => k (.int kd (kd.wrap n)) []
    | some .string, some (.slice e), .str l => (match cx.P.underlying e with
      | some (.int .u8) => k (.isl true (.int .u8) (l.map fun c => ((c.toNat : Nat) : Int))) []
      | _ => none)
    | some (.slice e), some .string, v => (match cx.P.underlying e with
      | some (.int .u8) => listK0 hp v fun s l => (match s, l with
        | .int .u8, l => k (.str ((l : List Int).map fun n => UInt8.ofNat n.toNat)) []
        | _, _ => none)
      | _ => none)
    | _, _, _ => none
  | .fieldAddr s x f => match cx.P.underlying s with
    | some (.struct fs) => (match fs[f]?, (ev cx env 0 x).open with
      | some fd, .ptr n p => if (sizeT cx.P fd.type).getD 0 = 0 then none else k (.ptr n (p ++ [.fld f fd.offset])) []
      | some fd, .pim fr v => if (sizeT cx.P fd.type).getD 0 = 0 then none else getK v [.fld f fd.offset] fun u => k (.pim fr u) []
      | some fd, .pimq ok v => cond ok (if (sizeT cx.P fd.type).getD 0 = 0 then none else getK v [.fld f fd.offset] fun u => k (.pim true u) []) none
      | _, _ => none)
    | _ => none
  | .field t x f => match cx.P.underlying t with
    | some (.struct fs) => (match fs[f]? with
      | some fd => getK (ev cx env 0 x) [.fld f fd.offset] fun u => if fitsT cx.P fd.type u then k u [] else none
      | none => none)
    | _ => none
  | .indexAddr t x i => match ev cx env 0 i with
    | .int _ j => cond (decide (0 ≤ j)) (match cx.P.underlying t with
      | some (.array n e) => cond (Nat.blt j.toNat n) (match sizeT cx.P e with
        | some sz => (match ev cx env 0 x with
          | .ptr m p => k (.ptr m (p ++ [.idx j.toNat sz])) []
          | .pim fr v => getK v [.idx j.toNat sz] fun u => k (.pim fr u) []
          | _ => none)
        | none => none) none
      | some (.slice e) => (match sizeT cx.P e with
        | some sz => (match ev cx env 0 x with
          | .sl m p s i0 len _ => if sz = s.size then cond (Nat.blt j.toNat len) (k (.ptr m (p ++ [.idx (i0 + j.toNat) sz])) []) none else none
          | .own m s => (match hp m with
            | some (.row s' l) => if sz = s.size ∧ shEq s s' then cond (Nat.blt j.toNat l.length) (k (.ptr m [.idx j.toNat sz]) []) none else none
            | _ => none)
          | .osl m s i0 len => if sz = s.size then cond (Nat.blt j.toNat len) (k (.ptr m [.idx (i0 + j.toNat) sz]) []) none else none
          | .isl fr s l => if sz = s.size then cond (Nat.blt j.toNat l.length) (k (.pim fr (s.av (l.getD j.toNat s.dflt))) []) none else none
          | .isw fr s l n => if sz = s.size then cond (Nat.blt j.toNat n && Nat.ble n l.length) (k (.pim fr (s.av (l.getD j.toNat s.dflt))) []) none else none
          | _ => none)
        | none => none)
      | _ => none) none
    | _ => none
  | .index t x i => match ev cx env 0 i with
    | .int _ j => cond (decide (0 ≤ j)) (match cx.P.underlying t with
      | some (.array n e) => cond (Nat.blt j.toNat n) (match sizeT cx.P e with
        | some sz => getK (ev cx env 0 x) [.idx j.toNat sz] fun u => if fitsT cx.P e u then k u [] else none
        | none => none) none
      | some .string => (match ev cx env 0 x with
        | .str l => cond (Nat.blt j.toNat l.length) (k (.int .u8 ((l.getD j.toNat 0).toNat : Nat)) []) none
        | _ => none)
      | _ => none) none
    | _ => none
  | .extract t i => match ev cx env 0 t with
    | .tup l => (match l[i]? with
      | some v => k v []
      | none => none)
    | _ => none
  | .slice t x lo hi none => match cx.P.underlying t with
    | some (.array n e) => (match shapeT cx.P e, ev cx env 0 x with
      | some s, .ptr m p => if sizeT cx.P e = some s.size then boundK cx env hi n n fun h => boundK cx env lo 0 h fun l => k (.sl m p s l (h - l) (n - l)) [] else none
      | _, _ => none)
    | some (.slice e) => (match ev cx env 0 x with
      | .sl m p s i len cap => if sizeT cx.P e = some s.size then boundK cx env hi len cap fun h => boundK cx env lo 0 h fun l => k (.sl m p s (i + l) (h - l) (cap - l)) [] else none
      | .own m s => (match hp m with
        | some (.row s' l0) => if sizeT cx.P e = some s.size ∧ shEq s s' then (match lo, hi with
          | none, none => k (.own m s) []
          | _, _ => boundK cx env hi l0.length l0.length fun h => boundK cx env lo 0 h fun l => k (.osl m s l (h - l)) []) else none
        | _ => none)
      | .osl m s i len => (match hp m with
        | some (.row s' l0) => if sizeT cx.P e = some s.size ∧ shEq s s' then boundK cx env hi len (l0.length - i) fun h => boundK cx env lo 0 h fun l => k (.osl m s (i + l) (h - l)) [] else none
        | _ => none)
      | .isl fr s l0 => if sizeT cx.P e = some s.size then boundK cx env hi l0.length l0.length fun h => boundK cx env lo 0 h fun l => k (.isl fr s ((l0.drop l).take (h - l))) [] else none
      | .isw fr s l0 n => if sizeT cx.P e = some s.size then boundK cx env hi n l0.length fun h => boundK cx env lo 0 h fun l => k (.isw fr s (l0.drop l) (h - l)) [] else none
      | _ => none)
    | some .string => (match ev cx env 0 x with
      | .str l0 => boundK cx env hi l0.length l0.length fun h => boundK cx env lo 0 h fun l => k (.str ((l0.drop l).take (h - l))) []
      | _ => none)
    | _ => none
  | .call c => match c.callee with
    | .value f => (match ev cx env 0 f with
      | .fn g caps => if capsOK caps then callK cx hp o.dst g ((c.args.toList.zipIdx.map fun (x, j) => ev cx env (c.argTypes.getD j 0) x) ++ caps) k else none
      | _ => none)
    | .builtin .len => (match c.args.toList.map (ev cx env 0), c.argTypes[0]?.bind cx.P.underlying with
      | [.sl _ _ _ _ len _], some (.slice _) => k (.int .i64 (len : Nat)) []
      | [.osl _ _ _ len], some (.slice _) => k (.int .i64 (len : Nat)) []
      | [.own n s], some (.slice _) => (match hp n with
        | some (.row s' l) => if shEq s s' then k (.int .i64 (l.length : Nat)) [] else none
        | some (.tup [.int .i64 m]) => k (.int .i64 m) []
        | _ => none)
      | [.isl _ _ l], some (.slice _) => k (.int .i64 (l.length : Nat)) []
      | [.isw _ _ _ n], some (.slice _) => k (.int .i64 (n : Nat)) []
      | [.nsl _], some (.slice _) => k (.int .i64 0) []
      | [.str l], some .string => k (.int .i64 (l.length : Nat)) []
      | _, some (.array n _) => (match c.args[0]? with
        | some _ => k (.int .i64 (n : Nat)) []
        | none => none)
      | _, _ => none)
    | .builtin .copy => (match c.args.toList.map (ev cx env 0), c.argTypes[0]?.bind cx.P.underlying with
      | [d, s], some (.slice e) => if sizeT cx.P e = (sliceSh d).map (·.size) then copyK hp d s k else none
      | _, _ => none)
    | .builtin .append => (match o.dst, c.args.toList.zipIdx.map (fun (x, j) => ev cx env (c.argTypes.getD j 0) x), c.argTypes[0]?.bind cx.P.underlying, c.argTypes[1]?.bind cx.P.underlying with
      | some dd, [d, s], some (.slice e), some (.slice _) => if (hp (apN d (freeN hp (dd + 1000)))).isNone && appOK cx.P e (sliceSh d) && Nat.beq c.argTypes.size 2 then (match bytesT cx.P e with
        | some b => appendK hp (apN d (freeN hp (dd + 1000))) b d s k
        | none => none) else none
      | _, _, _, _ => none)
    | .builtin .min => (match c.args.toList.map (ev cx env 0) with
      | [.int ka x, .int kb y] => if ka = kb then k (.int ka (if y < x then y else x)) [] else none
      | _ => none)
    | .builtin .max => (match c.args.toList.map (ev cx env 0) with
      | [.int ka x, .int kb y] => if ka = kb then k (.int ka (if x < y then y else x)) [] else none
      | _ => none)
    | _ => none
  | .makeInterface t x => match cx.P.underlying t with
    | some (.interface _) => none
    | some _ => if fitsT cx.P t (ev cx env t x) then k (.ifc t (ev cx env t x)) [] else none
    | none => none
  | .typeAssert x _ asserted true => match cx.P.underlying asserted with
    | some (.interface _) => none
    | some _ => (match ev cx env 0 x, zeroT cx.P asserted with
      | .ifc t v, some z => if v.plain && zeroOK cx.P asserted z && zeroForm cx.P asserted z then (if t = asserted then k (.tup [v, .bool true]) [] else k (.tup [z, .bool false]) []) else none
      | .nili, some z => if zeroOK cx.P asserted z && zeroForm cx.P asserted z then k (.tup [z, .bool false]) [] else none
      | _, _ => none)
    | none => none
  | .makeFunc (.func g) first caps => if first.size = 0 ∧ capsOK (caps.toList.map (ev cx env 0)) = true then k (.fn g (caps.toList.map (ev cx env 0))) [] else none
  | _ => none
where
  sameOp : Operand → Operand → Bool
    | .tmp n, .tmp m => Nat.beq n m
    | _, _ => false
  sliceSh : AV → Option Sh
    | .sl _ _ s .. | .own _ s | .osl _ s .. | .isl _ s _ | .nsl s => some s
    | _ => none
  appOK (P : Program) (e : TypeId) (s : Option Sh) : Bool :=
    match s, shapeZ P e with
    | some s, some s' => shEq s s'
    | _, _ => false


/-- May it panic (a panic, a call of a function that may)? -/
def panicky (cx : Cx) (o : Oper) : Bool :=
  match o.op with
  | .panic _ => true
  | .call c => match c.callee with
    | .value (.func g) => match cx.calls g with
      | some e => e.pans
      | none => false
    | _ => false
  | _ => false

/-- Such an operation. -/
def opP (cx : Cx) (o : Oper) (env hp : Nat → Option AV) (k kp : AV → List (Nat × AV) → Option β) : Option β :=
  match o.op with
  | .panic x => match ev cx env 0 x with
    | .ifc t v => kp (.ifc t v) []
    | _ => none
  | .call c => match c.callee with
    | .value (.func g) => callG cx hp o.dst g (c.args.toList.zipIdx.map fun (x, j) => ev cx env (c.argTypes.getD j 0) x) k kp
    | _ => none
  | _ => none
end
end
end Go.Sy
