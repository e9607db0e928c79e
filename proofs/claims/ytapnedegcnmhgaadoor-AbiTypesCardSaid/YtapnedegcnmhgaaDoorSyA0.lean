/- Data that stays as it is: texts and trees as values. Definitions. -/
import Derived.Below
import Derived.Still
import Derived.Orders
import Derived.LoopN
import Derived.KernelRfl
import Derived.Laws.Cells
import Derived.Laws.CopyRow
namespace Go.Sy
open Go
noncomputable section

/-- A value of a contract's: a number, a text, or values. -/
inductive VT where
  | mk (num : Nat) (data : List Int) (items : List VT)
/-- The same with what stands behind its text and its list: how long these are. -/
inductive VX where
  | mk (num : Nat) (data : List Int) (dlen : Nat) (items : List VX) (ilen : Nat)
/-- A type that has been read (or none). -/
inductive KT where
  | mk (ok : Bool) (what wide : Int) (of : List KT) (text : List UInt8) (dyn : Bool) (head width deep : Int)
/-- A type of the document's. -/
inductive RT where
  | mk (kind n : Int) (ins : List RT)

def VT.num : VT → Nat | .mk n _ _ => n
def VT.data : VT → List Int | .mk _ d _ => d
def VT.items : VT → List VT | .mk _ _ l => l
def VX.num : VX → Nat | .mk n _ _ _ _ => n
def VX.data : VX → List Int | .mk _ d _ _ _ => d
def VX.dlen : VX → Nat | .mk _ _ n _ _ => n
def VX.items : VX → List VX | .mk _ _ _ l _ => l
def VX.ilen : VX → Nat | .mk _ _ _ _ n => n
def KT.ok : KT → Bool | .mk b .. => b
def KT.what : KT → Int | .mk _ a .. => a
def KT.wide : KT → Int | .mk _ _ a .. => a
def KT.of : KT → List KT | .mk _ _ _ a .. => a
def KT.text : KT → List UInt8 | .mk _ _ _ _ a .. => a
def KT.dyn : KT → Bool | .mk _ _ _ _ _ a .. => a
def KT.head : KT → Int | .mk _ _ _ _ _ _ a .. => a
def KT.width : KT → Int | .mk _ _ _ _ _ _ _ a _ => a
def KT.deep : KT → Int | .mk _ _ _ _ _ _ _ _ a => a
def KT.none : KT := .mk false 0 0 [] [] false 0 0 0
def RT.kind : RT → Int | .mk a _ _ => a
def RT.n : RT → Int | .mk _ a _ => a
def RT.ins : RT → List RT | .mk _ _ a => a

/-- Kinds of such data. -/
inductive DSh where
  | str | val | valx | kind | rtyp | base

@[reducible] def DSh.T : DSh → Type
  | .str => List UInt8
  | .val => VT
  | .valx => VX
  | .kind => KT
  | .rtyp => RT
  | .base => List UInt8 × Int × Int × Int × Int × Int

/-- A kind of data in place of another, where it is that. -/
def DSh.cast : (i j : DSh) → i.T → Option j.T
  | .str, .str, t => some t
  | .val, .val, t => some t
  | .valx, .valx, t => some t
  | .kind, .kind, t => some t
  | .rtyp, .rtyp, t => some t
  | .base, .base, t => some t
  | _, _, _ => none
def DSh.beq : DSh → DSh → Bool
  | .str, .str | .val, .val | .valx, .valx | .kind, .kind | .rtyp, .rtyp | .base, .base => true
  | _, _ => false

/-- Such a value, all of it. -/
inductive DT where
  | int (k : IntKind) (n : Int)
  | bool (b : Bool)
  | u256 (x : Nat)
  | str (l : List UInt8)
  /-- a slice of numbers: what is known of its memory, how long it is -/
  | ints (k : IntKind) (l : List Int) (n : Nat)
  | sl (l : List DT) (n : Nat)
  | ptr (ok : Bool) (v : DT)
  | st (l : List DT)

mutual
def VT.toD : VT → DT
  | .mk n d l => .st [.u256 n, .ints .u8 d d.length, .sl (VT.toDs l) l.length]
def VT.toDs : List VT → List DT
  | [] => []
  | t :: l => t.toD :: VT.toDs l
end
mutual
def VX.toD : VX → DT
  | .mk n d dn l ln => .st [.u256 n, .ints .u8 d dn, .sl (VX.toDs l) ln]
def VX.toDs : List VX → List DT
  | [] => []
  | t :: l => t.toD :: VX.toDs l
end
mutual
def KT.toD : KT → DT
  | .mk ok a b l tx dy h w d => .ptr ok (.st [.int .i64 a, .int .i64 b, .sl (KT.toDs l) l.length, .str tx, .bool dy, .int .i64 h, .int .i64 w, .int .i64 d])
def KT.toDs : List KT → List DT
  | [] => []
  | t :: l => t.toD :: KT.toDs l
end
mutual
def RT.toD : RT → DT
  | .mk a b l => .st [.int .i64 a, .int .i64 b, .sl (RT.toDs l) l.length]
def RT.toDs : List RT → List DT
  | [] => []
  | t :: l => t.toD :: RT.toDs l
end
theorem VT.toDs_map : ∀ l, VT.toDs l = l.map VT.toD
  | [] => rfl
  | t :: l => by simp [VT.toDs, VT.toDs_map l]
theorem VX.toDs_map : ∀ l, VX.toDs l = l.map VX.toD
  | [] => rfl
  | t :: l => by simp [VX.toDs, VX.toDs_map l]
theorem KT.toDs_map : ∀ l, KT.toDs l = l.map KT.toD
  | [] => rfl
  | t :: l => by simp [KT.toDs, KT.toDs_map l]
theorem RT.toDs_map : ∀ l, RT.toDs l = l.map RT.toD
  | [] => rfl
  | t :: l => by simp [RT.toDs, RT.toDs_map l]

def DSh.toD : (i : DSh) → i.T → DT
  | .str, l => .str l
  | .val, t => t.toD
  | .valx, t => t.toD
  | .kind, t => t.toD
  | .rtyp, t => t.toD
  | .base, p => .st [.str p.1, .int .i64 p.2.1, .int .i64 p.2.2.1, .int .i64 p.2.2.2.1, .int .i64 p.2.2.2.2.1, .int .i64 p.2.2.2.2.2]

def DSh.size : DSh → Nat
  | .str => 1 | .val => 6 | .valx => 6 | .kind => 1 | .rtyp => 3 | .base => 6
def DSh.agg : DSh → Bool
  | .str | .kind => false
  | _ => true
def DSh.dflt : (i : DSh) → i.T
  | .str => ([] : List UInt8)
  | .val => VT.mk 0 [] []
  | .valx => VX.mk 0 [] 0 [] 0
  | .kind => KT.none
  | .rtyp => RT.mk 0 0 []
  | .base => ([], 0, 0, 0, 0, 0)

/-- Such a value, one step deep. -/
inductive DV where
  | int (k : IntKind) (n : Int)
  | bool (b : Bool)
  | u256 (x : Nat)
  | str (l : List UInt8)
  | ints (k : IntKind) (l : List Int)
  | wints (k : IntKind) (l : List Int) (n : Nat)
  | sl (i : DSh) (l : List i.T)
  | wsl (i : DSh) (l : List i.T) (n : Nat)
  | ptr (ok : Bool) (v : DV)
  | st (l : List DV)

mutual
def DV.toD : DV → DT
  | .int k n => .int k n
  | .bool b => .bool b
  | .u256 x => .u256 x
  | .str l => .str l
  | .ints k l => .ints k l l.length
  | .wints k l n => .ints k l n
  | .sl i l => .sl (l.map i.toD) l.length
  | .wsl i l n => .sl (l.map i.toD) n
  | .ptr ok v => .ptr ok v.toD
  | .st l => .st (DV.toDs l)
def DV.toDs : List DV → List DT
  | [] => []
  | v :: l => v.toD :: DV.toDs l
end

def DSh.view : (i : DSh) → i.T → DV
  | .str, l => .str l
  | .val, t => .st [.u256 t.num, .ints .u8 t.data, .sl .val t.items]
  | .valx, t => .st [.u256 t.num, .wints .u8 t.data t.dlen, .wsl .valx t.items t.ilen]
  | .kind, t => .ptr t.ok (.st [.int .i64 t.what, .int .i64 t.wide, .sl .kind t.of, .str t.text, .bool t.dyn, .int .i64 t.head, .int .i64 t.width, .int .i64 t.deep])
  | .rtyp, t => .st [.int .i64 t.kind, .int .i64 t.n, .sl .rtyp t.ins]
  | .base, p => .st [.str p.1, .int .i64 p.2.1, .int .i64 p.2.2.1, .int .i64 p.2.2.2.1, .int .i64 p.2.2.2.2.1, .int .i64 p.2.2.2.2.2]

theorem DSh.view_toD (i : DSh) (t : i.T) : (i.view t).toD = i.toD t := by
  cases i with
  | str => rfl
  | base => rfl
  | val => cases t; simp [DSh.view, DSh.toD, DV.toD, DV.toDs, VT.toD, VT.num, VT.data, VT.items, VT.toDs_map]
  | valx => cases t; simp [DSh.view, DSh.toD, DV.toD, DV.toDs, VX.toD, VX.num, VX.data, VX.items, VX.dlen, VX.ilen, VX.toDs_map]
  | kind => cases t; simp [DSh.view, DSh.toD, DV.toD, DV.toDs, KT.toD, KT.ok, KT.what, KT.wide, KT.of, KT.text, KT.dyn, KT.head, KT.width, KT.deep, KT.toDs_map]
  | rtyp => cases t; simp [DSh.view, DSh.toD, DV.toD, DV.toDs, RT.toD, RT.kind, RT.n, RT.ins, RT.toDs_map]

def DSh.make : (i : DSh) → DV → Option i.T
  | .str, v => match v with
    | .str l => some l
    | _ => none
  | .val, v => match v with
    | .st [.u256 n, .ints .u8 d, .sl .val l] => some (VT.mk n d l)
    | _ => none
  | .valx, v => match v with
    | .st [.u256 n, .wints .u8 d dn, .wsl .valx l ln] => some (VX.mk n d dn l ln)
    | _ => none
  | .kind, v => match v with
    | .ptr ok (.st [.int .i64 a, .int .i64 b, .sl .kind l, .str tx, .bool dy, .int .i64 h, .int .i64 w, .int .i64 d]) => some (KT.mk ok a b l tx dy h w d)
    | .ptr false _ => some KT.none
    | _ => none
  | .rtyp, v => match v with
    | .st [.int .i64 a, .int .i64 b, .sl .rtyp l] => some (RT.mk a b l)
    | _ => none
  | .base, v => match v with
    | .st [.str s, .int .i64 a, .int .i64 b, .int .i64 c, .int .i64 d, .int .i64 e] => some (s, a, b, c, d, e)
    | _ => none

/-- As a value, or both are no pointer. -/
def DT.like : DT → DT → Prop
  | .ptr false _, .ptr false _ => True
  | a, b => a = b

theorem DSh.make_toD {i : DSh} {v : DV} {t : i.T} (h : i.make v = some t) : (i.toD t).like v.toD := by
  cases i with
  | str =>
    simp only [DSh.make] at h
    split at h
    · cases h; rfl
    · cases h
  | val =>
    simp only [DSh.make] at h
    split at h
    · cases h; simp [DSh.toD, VT.toD, DV.toD, DV.toDs, DT.like, VT.toDs_map]
    · cases h
  | valx =>
    simp only [DSh.make] at h
    split at h
    · cases h; simp [DSh.toD, VX.toD, DV.toD, DV.toDs, DT.like, VX.toDs_map]
    · cases h
  | kind =>
    simp only [DSh.make] at h
    split at h
    · rename_i ok a b l tx dy h' w d
      cases h
      cases ok <;> simp [DSh.toD, KT.toD, DV.toD, DV.toDs, DT.like, KT.toDs_map]
    · cases h; simp [DSh.toD, KT.none, KT.toD, DV.toD, DT.like]
    · cases h
  | rtyp =>
    simp only [DSh.make] at h
    split at h
    · cases h; simp [DSh.toD, RT.toD, DV.toD, DV.toDs, DT.like, RT.toDs_map]
    · cases h
  | base =>
    simp only [DSh.make] at h
    split at h
    · cases h; rfl
    · cases h

theorem DSh.cast_eq {i j : DSh} {t : i.T} {u : j.T} (h : i.cast j t = some u) : ∃ e : i = j, e ▸ t = u := by
  cases i <;> cases j <;> simp only [DSh.cast] at h <;> (first | (cases h; exact ⟨rfl, rfl⟩) | cases h)

mutual
def DT.size : DT → Nat
  | .u256 _ => 4
  | .st l => DT.sizes l
  | _ => 1
def DT.sizes : List DT → Nat
  | [] => 0
  | v :: l => v.size + DT.sizes l
end
def DT.isAgg : DT → Bool
  | .u256 _ | .st _ => true
  | _ => false
theorem DSh.toD_size (i : DSh) (t : i.T) : (i.toD t).size = i.size := by
  cases i with
  | str => rfl
  | base => rfl
  | val => cases t; rfl
  | valx => cases t; rfl
  | kind => cases t; rfl
  | rtyp => cases t; rfl
theorem DSh.toD_agg (i : DSh) (t : i.T) : (i.toD t).isAgg = i.agg := by
  cases i with
  | str => rfl
  | base => rfl
  | val => cases t; rfl
  | valx => cases t; rfl
  | kind => cases t; rfl
  | rtyp => cases t; rfl
end
end Go.Sy
