/- Data that stays as it is: texts and trees as values. Definitions. -/
import Derived.Below
import Derived.Still
import Derived.Orders
import Derived.LoopN
import Derived.KernelRfl
import Derived.Laws.Cells
import Derived.Laws.CopyRow
namespace Go.Sy
open Go
noncomputable section
inductive VT where
 | mk (num : Nat) (data : List Int) (dlen : Nat) (items : List VT) (ilen : Nat)
inductive KT where
 | mk (ok : Bool) (what wide : Int) (of : List KT) (text : List UInt8) (dyn : Bool) (head width deep : Int)
inductive RT where
 | mk (kind n : Int) (ins : List RT)
def VT.num : VT → Nat | .mk n _ _ _ _ => n
def VT.data : VT → List Int | .mk _ d _ _ _ => d
def VT.dlen : VT → Nat | .mk _ _ n _ _ => n
def VT.items : VT → List VT | .mk _ _ _ l _ => l
def VT.ilen : VT → Nat | .mk _ _ _ _ n => n
def KT.ok : KT → Bool | .mk b .. => b
def KT.what : KT → Int | .mk _ a .. => a
def KT.wide : KT → Int | .mk _ _ a .. => a
def KT.of : KT → List KT | .mk _ _ _ a .. => a
def KT.text : KT → List UInt8 | .mk _ _ _ _ a .. => a
def KT.dyn : KT → Bool | .mk _ _ _ _ _ a .. => a
def KT.head : KT → Int | .mk _ _ _ _ _ _ a .. => a
def KT.width : KT → Int | .mk _ _ _ _ _ _ _ a _ => a
def KT.deep : KT → Int | .mk _ _ _ _ _ _ _ _ a => a
def KT.none : KT := .mk false 0 0 [] [] false 0 0 0
def RT.kind : RT → Int | .mk a _ _ => a
def RT.n : RT → Int | .mk _ a _ => a
def RT.ins : RT → List RT | .mk _ _ a => a
inductive DSh where
 | str | val | kind | rtyp | base
@[reducible] def DSh.T : DSh → Type
 | .str => List UInt8
 | .val => VT
 | .kind => KT
 | .rtyp => RT
 | .base => List UInt8 × Int × Int × Int × Int × Int
def DSh.cast : (i j : DSh) → i.T → Option j.T
 | .str, .str, t => some t
 | .val, .val, t => some t
 | .kind, .kind, t => some t
 | .rtyp, .rtyp, t => some t
 | .base, .base, t => some t
 | _, _, _ => none
def DSh.beq : DSh → DSh → Bool
 | .str, .str | .val, .val | .kind, .kind | .rtyp, .rtyp | .base, .base => true
 | _, _ => false
inductive DT where
 | int (k : IntKind) (n : Int)
 | bool (b : Bool)
 | u256 (x : Nat)
 | str (l : List UInt8)
 | ints (k : IntKind) (l : List Int) (n : Nat)
 | sl (l : List DT) (n : Nat)
 | ptr (ok : Bool) (v : DT)
 | st (l : List DT)
mutual
def VT.toD : VT → DT
 | .mk n d dn l ln => .st [.u256 n, .ints .u8 d dn, .sl (VT.toDs l) ln]
def VT.toDs : List VT → List DT
 | [] => []
 | t :: l => t.toD :: VT.toDs l
end
mutual
def KT.toD : KT → DT
 | .mk ok a b l tx dy h w d => .ptr ok (.st [.int .i64 a, .int .i64 b, .sl (KT.toDs l) l.length, .str tx, .bool dy, .int .i64 h, .int .i64 w, .int .i64 d])
def KT.toDs : List KT → List DT
 | [] => []
 | t :: l => t.toD :: KT.toDs l
end
mutual
def RT.toD : RT → DT
 | .mk a b l => .st [.int .i64 a, .int .i64 b, .sl (RT.toDs l) l.length]
def RT.toDs : List RT → List DT
 | [] => []
 | t :: l => t.toD :: RT.toDs l
end
theorem VT.toDs_map : ∀ l, VT.toDs l = l.map VT.toD
 | [] => rfl
 | t :: l => by simp [VT.toDs, VT.toDs_map l]
theorem KT.toDs_map : ∀ l, KT.toDs l = l.map KT.toD
 | [] => rfl
 | t :: l => by simp [KT.toDs, KT.toDs_map l]
theorem RT.toDs_map : ∀ l, RT.toDs l = l.map RT.toD
 | [] => rfl
 | t :: l => by simp [RT.toDs, RT.toDs_map l]
def DSh.toD : (i : DSh) → i.T → DT
 | .str, l => .str l
 | .val, t => t.toD
 | .kind, t => t.toD
 | .rtyp, t => t.toD
 | .base, p => .st [.str p.1, .int .i64 p.2.1, .int .i64 p.2.2.1, .int .i64 p.2.2.2.1, .int .i64 p.2.2.2.2.1, .int .i64 p.2.2.2.2.2]
def DSh.size : DSh → Nat
 | .str => 1 | .val => 6 | .kind => 1 | .rtyp => 3 | .base => 6
def DSh.agg : DSh → Bool
 | .str | .kind => false
 | _ => true
def DSh.dflt : (i : DSh) → i.T
 | .str => ([] : List UInt8)
 | .val => VT.mk 0 [] 0 [] 0
 | .kind => KT.none
 | .rtyp => RT.mk 0 0 []
 | .base => ([], 0, 0, 0, 0, 0)
inductive DV where
 | int (k : IntKind) (n : Int)
 | bool (b : Bool)
 | u256 (x : Nat)
 | str (l : List UInt8)
 | ints (k : IntKind) (l : List Int)
 | wints (k : IntKind) (l : List Int) (n : Nat)
 | sl (i : DSh) (l : List i.T)
 | wsl (i : DSh) (l : List i.T) (n : Nat)
 | ptr (ok : Bool) (v : DV)
 | st (l : List DV)
mutual
def DV.toD : DV → DT
 | .int k n => .int k n
 | .bool b => .bool b
 | .u256 x => .u256 x
 | .str l => .str l
 | .ints k l => .ints k l l.length
 | .wints k l n => .ints k l n
 | .sl i l => .sl (l.map i.toD) l.length
 | .wsl i l n => .sl (l.map i.toD) n
 | .ptr ok v => .ptr ok v.toD
 | .st l => .st (DV.toDs l)
def DV.toDs : List DV → List DT
 | [] => []
 | v :: l => v.toD :: DV.toDs l
end
def DSh.view : (i : DSh) → i.T → DV
 | .str, l => .str l
 | .val, t => .st [.u256 t.num, .wints .u8 t.data t.dlen, .wsl .val t.items t.ilen]
 | .kind, t => .ptr t.ok (.st [.int .i64 t.what, .int .i64 t.wide, .sl .kind t.of, .str t.text, .bool t.dyn, .int .i64 t.head, .int .i64 t.width, .int .i64 t.deep])
 | .rtyp, t => .st [.int .i64 t.kind, .int .i64 t.n, .sl .rtyp t.ins]
 | .base, p => .st [.str p.1, .int .i64 p.2.1, .int .i64 p.2.2.1, .int .i64 p.2.2.2.1, .int .i64 p.2.2.2.2.1, .int .i64 p.2.2.2.2.2]
theorem DSh.view_toD (i : DSh) (t : i.T) : (i.view t).toD = i.toD t := by
 cases i with
 | str => rfl
 | base => rfl
 | val => cases t; simp [DSh.view, DSh.toD, DV.toD, DV.toDs, VT.toD, VT.num, VT.data, VT.items, VT.dlen, VT.ilen, VT.toDs_map]
 | kind => cases t; simp [DSh.view, DSh.toD, DV.toD, DV.toDs, KT.toD, KT.ok, KT.what, KT.wide, KT.of, KT.text, KT.dyn, KT.head, KT.width, KT.deep, KT.toDs_map]
 | rtyp => cases t; simp [DSh.view, DSh.toD, DV.toD, DV.toDs, RT.toD, RT.kind, RT.n, RT.ins, RT.toDs_map]
def DV.bytesW : DV → Option (List Int × Nat)
 | .ints .u8 d => some (d, d.length)
 | .wints .u8 d n => some (d, n)
 | _ => none
def DV.valsW : DV → Option (List VT × Nat)
 | .sl .val l => some (l, l.length)
 | .wsl .val l n => some (l, n)
 | _ => none
def DSh.make : (i : DSh) → DV → Option i.T
 | .str, v => match v with
  | .str l => some l
  | _ => none
 | .val, v => match v with
  | .st [.u256 n, a, b] => match a.bytesW, b.valsW with
   | some (d, dn), some (l, ln) => some (VT.mk n d dn l ln)
   | _, _ => none
  | _ => none
 | .kind, v => match v with
  | .ptr ok (.st [.int .i64 a, .int .i64 b, .sl .kind l, .str tx, .bool dy, .int .i64 h, .int .i64 w, .int .i64 d]) => some (KT.mk ok a b l tx dy h w d)
  | .ptr false _ => some KT.none
  | _ => none
 | .rtyp, v => match v with
  | .st [.int .i64 a, .int .i64 b, .sl .rtyp l] => some (RT.mk a b l)
  | _ => none
 | .base, v => match v with
  | .st [.str s, .int .i64 a, .int .i64 b, .int .i64 c, .int .i64 d, .int .i64 e] => some (s, a, b, c, d, e)
  | _ => none
def DT.like : DT → DT → Prop
 | .ptr false _, .ptr false _ => True
 | a, b => a = b
theorem DSh.make_toD {i : DSh} {v : DV} {t : i.T} (h : i.make v = some t) : (i.toD t).like v.toD := by
 cases i with
 | str =>
  simp only [DSh.make] at h
  split at h
  ·cases h; rfl
  ·cases h
 | val =>
  simp only [DSh.make] at h
  split at h
  ·rename_i n a b
   split at h
   ·rename_i d dn l ln h1 h2
    cases h
    have e1 : a.toD = .ints .u8 d dn := by
     unfold DV.bytesW at h1
     split at h1
     ·simp only [Option.some.injEq, Prod.mk.injEq] at h1; obtain ⟨rfl, rfl⟩ := h1; rfl
     ·simp only [Option.some.injEq, Prod.mk.injEq] at h1; obtain ⟨rfl, rfl⟩ := h1; rfl
     ·cases h1
    have e2 : b.toD = .sl (l.map VT.toD) ln := by
     unfold DV.valsW at h2
     split at h2
     ·simp only [Option.some.injEq, Prod.mk.injEq] at h2; obtain ⟨rfl, rfl⟩ := h2; rfl
     ·simp only [Option.some.injEq, Prod.mk.injEq] at h2; obtain ⟨rfl, rfl⟩ := h2; rfl
     ·cases h2
    simp [DSh.toD, VT.toD, DV.toD, DV.toDs, DT.like, VT.toDs_map, e1, e2]
   ·cases h
  ·cases h
 | kind =>
  simp only [DSh.make] at h
  split at h
  ·rename_i ok a b l tx dy h' w d
   cases h
   cases ok <;> simp [DSh.toD, KT.toD, DV.toD, DV.toDs, DT.like, KT.toDs_map]
  ·cases h; simp [DSh.toD, KT.none, KT.toD, DV.toD, DT.like]
  ·cases h
 | rtyp =>
  simp only [DSh.make] at h
  split at h
  ·cases h; simp [DSh.toD, RT.toD, DV.toD, DV.toDs, DT.like, RT.toDs_map]
  ·cases h
 | base =>
  simp only [DSh.make] at h
  split at h
  ·cases h; rfl
  ·cases h
theorem DSh.cast_eq {i j : DSh} {t : i.T} {u : j.T} (h : i.cast j t = some u) : ∃ e : i = j, e ▸ t = u := by
 cases i <;> cases j <;> simp only [DSh.cast] at h <;> (first | (cases h; exact ⟨rfl, rfl⟩) | cases h)
mutual
def DT.size : DT → Nat
 | .u256 _ => 4
 | .st l => DT.sizes l
 | _ => 1
def DT.sizes : List DT → Nat
 | [] => 0
 | v :: l => v.size + DT.sizes l
end
def DT.isAgg : DT → Bool
 | .u256 _ | .st _ => true
 | _ => false
theorem DSh.toD_size (i : DSh) (t : i.T) : (i.toD t).size = i.size := by
 cases i with
 | str => rfl
 | base => rfl
 | val => cases t; rfl
 | kind => cases t; rfl
 | rtyp => cases t; rfl
theorem DSh.toD_agg (i : DSh) (t : i.T) : (i.toD t).isAgg = i.agg := by
 cases i with
 | str => rfl
 | base => rfl
 | val => cases t; rfl
 | kind => cases t; rfl
 | rtyp => cases t; rfl
end
end Go.Sy
namespace Go.Sy
open Go
noncomputable section
noncomputable def hide {α : Type} (a : α) : α := (Classical.choice (⟨⟨a, rfl⟩⟩ : Nonempty { b : α // b = a })).1
theorem hide_eq {α : Type} (a : α) : hide a = a := (Classical.choice (⟨⟨a, rfl⟩⟩ : Nonempty { b : α // b = a })).2
def M256 : Nat := 115792089237316195423570985008687907853269984665640564039457584007913129639936
def limb (x i : Nat) : Int := ((x / 2 ^ (64 * i) % 18446744073709551616 : Nat) : Int)
def setLimb (x i : Nat) (v : Int) : Nat := x - (x / 2 ^ (64 * i) % 18446744073709551616) * 2 ^ (64 * i) + (v % 18446744073709551616).toNat * 2 ^ (64 * i)
def ofLimbs (l : List Int) : Nat := setLimb (setLimb (setLimb (setLimb 0 0 (l.getD 0 0)) 1 (l.getD 1 0)) 2 (l.getD 2 0)) 3 (l.getD 3 0)
def limbs (x : Nat) : List Int := [limb x 0, limb x 1, limb x 2, limb x 3]
def inU64 (w : Int) : Bool := decide (0 ≤ w) && decide (w < 18446744073709551616)
def u256eq (x y : Nat) : Bool := x % M256 == y % M256
inductive Sh where
 | int (k : IntKind) | u256 | u2 | pt | jac | bytes | d (i : DSh)
@[reducible] def Sh.T : Sh → Type
 | .int _ => Int
 | .u256 => Nat
 | .u2 => Nat × Nat
 | .pt => Nat × Nat × Bool
 | .jac => Nat × Nat × Nat
 | .bytes => List Int
 | .d i => i.T
def Sh.size : Sh → Nat
 | .int _ => 1 | .u256 => 4 | .u2 => 8 | .pt => 9 | .jac => 12 | .bytes => 1 | .d i => i.size
def Sh.dflt : (s : Sh) → s.T
 | .int _ => (0 : Int)
 | .u256 => (0 : Nat)
 | .u2 => (0, 0)
 | .pt => (0, 0, false)
 | .jac => (0, 0, 0)
 | .bytes => ([] : List Int)
 | .d i => i.dflt
inductive Step where
 | fld (i off : Nat)
 | idx (i sz : Nat)
inductive AV where
 | undef
 | int (k : IntKind) (n : Int)
 | bool (b : Bool)
 | u256 (x : Nat)
 | arr (s : Sh) (n : Nat) (l : List s.T)
 | st (l : List AV)
 | tup (l : List AV)
 | ptr (n : Nat) (p : List Step)
 | pim (fr : Bool) (v : AV)
 | sl (n : Nat) (p : List Step) (s : Sh) (i len cap : Nat)
 | own (n : Nat) (s : Sh)
 | osl (n : Nat) (s : Sh) (i len : Nat)
 | isl (fr : Bool) (s : Sh) (l : List s.T)
 | nsl (s : Sh)
 | nilp
 | fn (f : Nat) (caps : List AV)
 | row (s : Sh) (l : List s.T)
 | str (l : List UInt8)
 | el (i : DSh) (t : i.T)
 | pimq (ok : Bool) (v : AV)
 | isw (fr : Bool) (s : Sh) (l : List s.T) (n : Nat)
 | ifc (t : TypeId) (v : AV)
 | nili
mutual
def DV.av : DV → AV
 | .int k n => .int k n
 | .bool b => .bool b
 | .u256 x => .u256 x
 | .str l => .str l
 | .ints k l => .isl true (.int k) l
 | .wints k l n => .isw true (.int k) l n
 | .sl i l => .isl true (.d i) l
 | .wsl i l n => .isw true (.d i) l n
 | .ptr ok v => .pimq ok v.av
 | .st l => .st (DV.avs l)
def DV.avs : List DV → List AV
 | [] => []
 | v :: l => v.av :: DV.avs l
end
def DSh.el : (i : DSh) → i.T → AV
 | .str, l => .str l
 | i, t => .el i t
def AV.open : AV → AV
 | .el i t => (i.view t).av
 | v => v
mutual
def AV.toDV : AV → Option DV
 | .int k n => some (.int k n)
 | .bool b => some (.bool b)
 | .u256 x => some (.u256 x)
 | .str l => some (.str l)
 | .isl true (.int k) l => some (.ints k l)
 | .isl true (.d i) l => some (.sl i l)
 | .isw true (.int k) l n => some (.wints k l n)
 | .isw true (.d i) l n => some (.wsl i l n)
 | .nsl (.int k) => some (.ints k [])
 | .nsl (.d i) => some (.sl i [])
 | .pimq ok v => (AV.toDV v).bind fun v => some (.ptr ok v)
 | .pim true v => (AV.toDV v).bind fun v => some (.ptr true v)
 | .nilp => some (.ptr false (.st []))
 | .el i t => some (i.view t)
 | .st l => (AV.toDVs l).bind fun l => some (.st l)
 | _ => none
def AV.toDVs : List AV → Option (List DV)
 | [] => some []
 | v :: l => (AV.toDV v).bind fun v => (AV.toDVs l).bind fun l => some (v :: l)
end
def Sh.av : (s : Sh) → s.T → AV
 | .int k, n => .int k n
 | .u256, x => .u256 x
 | .u2, p => .st [.u256 p.1, .u256 p.2]
 | .pt, p => .st [.u256 p.1, .u256 p.2.1, .bool p.2.2]
 | .jac, p => .st [.u256 p.1, .u256 p.2.1, .u256 p.2.2]
 | .bytes, l => .isl false (.int .u8) l
 | .d i, t => i.el t
def Sh.de : (s : Sh) → AV → Option s.T
 | .int k, .int k' n => if k = k' then some n else none
 | .u256, .u256 x => some x
 | .u2, .st [.u256 x, .u256 y] => some (x, y)
 | .pt, .st [.u256 x, .u256 y, .bool b] => some (x, y, b)
 | .jac, .st [.u256 x, .u256 y, .u256 z] => some (x, y, z)
 | .bytes, .isl false (.int .u8) l => some l
 | .bytes, .nsl (.int .u8) => some ([] : List Int)
 | .d i, .el j t => j.cast i t
 | .d i, v => (AV.toDV v).bind i.make
 | _, _ => none
mutual
def AV.size : AV → Nat
 | .u256 _ => 4
 | .arr s n _ => n * s.size
 | .st l => AV.sizes l
 | .tup _ => 0
 | .undef => 0
 | .el i _ => i.size
 | _ => 1
def AV.sizes : List AV → Nat
 | [] => 0
 | v :: l => v.size + AV.sizes l
end
def AV.isAgg : AV → Bool
 | .u256 _ | .arr .. | .st _ => true
 | .el i _ => i.agg
 | _ => false
def AV.plain : AV → Bool
 | .undef | .tup _ | .row .. => false
 | _ => true
mutual
def AV.named (ok : Nat → Bool) : AV → Bool
 | .st l | .tup l | .fn _ l => AV.nameds ok l
 | .ptr n _ | .sl n .. | .own n _ | .osl n .. => ok n
 | .pim _ v => v.named ok
 | .pimq _ v => v.named ok
 | .ifc _ v => v.named ok
 | _ => true
def AV.nameds (ok : Nat → Bool) : List AV → Bool
 | [] => true
 | v :: l => v.named ok && AV.nameds ok l
end
section
variable {β : Type}
def getK (v : AV) : List Step → (AV → Option β) → Option β
 | [], k => k v
 | .fld i off :: p, k =>
  match v.open with
  | .st l => if AV.sizes (l.take i) = off then (match l[i]? with | some u => getK u p k | none => none) else none
  | _ => none
 | .idx i sz :: p, k =>
  match v.open with
  | .arr s n l => if sz = s.size then cond (Nat.blt i n) (getK (s.av (l.getD i s.dflt)) p k) none else none
  | .u256 x => if sz = 1 then cond (Nat.blt i 4) (getK (.int .u64 (limb x i)) p k) none else none
  | .st l => if AV.sizes (l.take i) = i * sz then (match l[i]? with | some u => getK u p k | none => none) else none
  | _ => none
def setK (v : AV) : List Step → AV → (AV → Option β) → Option β
 | [], u, k => if v.size = u.size ∧ v.isAgg = u.isAgg then k u else none
 | .fld i off :: p, u, k =>
  match v.open with
  | .st l => if AV.sizes (l.take i) = off then (match l[i]? with | some w => setK w p u (fun w' => k (.st (l.set i w'))) | none => none) else none
  | _ => none
 | .idx i sz :: p, u, k =>
  match v.open with
  | .arr s n l => if sz = s.size then cond (Nat.blt i n) (setK (s.av (l.getD i s.dflt)) p u (fun w' => match s.de w' with | some t => k (.arr s n (l.set i t)) | none => none)) none else none
  | .u256 x => if sz = 1 then cond (Nat.blt i 4) (match p, u with | [], .int .u64 w => cond (inU64 w) (k (.u256 (setLimb x i w))) none | _, _ => none) none else none
  | _ => none
def getB (c : AV) (p : List Step) (k : AV → Option β) : Option β :=
 match c with
 | .row s l => match p with
  | .idx i sz :: q => if sz = s.size then cond (Nat.blt i l.length) (getK (s.av (l.getD i s.dflt)) q k) none else none
  | _ => none
 | .undef | .tup _ => none
 | c => getK c p k
def setB (c : AV) (p : List Step) (u : AV) (k : AV → Option β) : Option β :=
 match c with
 | .row s l => match p with
  | .idx i sz :: q => if sz = s.size then cond (Nat.blt i l.length) (setK (s.av (l.getD i s.dflt)) q u (fun w => match s.de w with | some t => k (.row s (l.set i t)) | none => none)) none else none
  | _ => none
 | .undef | .tup _ => none
 | c => setK c p u k
end
mutual
def DT.litD : DT → Option (List Value)
 | .int k n => some [.int k n]
 | .bool b => some [.bool b]
 | .u256 x => some ((limbs x).map (.int .u64))
 | .str l => some [.string ⟨l.toArray⟩]
 | .st l => DT.litDs l
 | _ => none
def DT.litDs : List DT → Option (List Value)
 | [] => some []
 | v :: l => match v.litD, DT.litDs l with
  | some a, some b => some (a ++ b)
  | _, _ => none
end
def AV.litCells : AV → Option (List Value)
 | .int k n => some [.int k n]
 | .bool b => some [.bool b]
 | .u256 x => some ((limbs x).map (.int .u64))
 | .arr (.int k) n l => if (l : List Int).length = n then some ((l : List Int).map (.int k)) else none
 | .arr .u256 n l => if (l : List Nat).length = n then some ((l : List Nat).flatMap fun x => (limbs x).map (.int .u64)) else none
 | .arr .u2 n l => if (l : List (Nat × Nat)).length = n then some ((l : List (Nat × Nat)).flatMap fun p => (limbs p.1).map (.int .u64) ++ (limbs p.2).map (.int .u64)) else none
 | .arr .pt n l => if (l : List (Nat × Nat × Bool)).length = n then some ((l : List (Nat × Nat × Bool)).flatMap fun p => (limbs p.1).map (.int .u64) ++ (limbs p.2.1).map (.int .u64) ++ [.bool p.2.2]) else none
 | .arr .jac n l => if (l : List (Nat × Nat × Nat)).length = n then some ((l : List (Nat × Nat × Nat)).flatMap fun p => (limbs p.1).map (.int .u64) ++ (limbs p.2.1).map (.int .u64) ++ (limbs p.2.2).map (.int .u64)) else none
 | .arr (.d i) n l => if l.length = n then DT.litDs (l.map i.toD) else none
 | .nsl _ => some [.slice none 0 0]
 | .str l => some [.string ⟨l.toArray⟩]
 | .nilp => some [.pointer none]
 | .nili => some [.nilIface]
 | .st l => litAll l
 | _ => none
where
 litAll : List AV → Option (List Value)
 | [] => some []
 | v :: l => match v.litCells, litAll l with
  | some a, some b => some (a ++ b)
  | _, _ => none
def sameCell : Value → Value → Bool
 | .int k n, .int k' n' => if k = k' then n == n' else false
 | .bool b, .bool b' => b == b'
 | .slice none 0 0, .slice none 0 0 => true
 | .pointer none, .pointer none => true
 | .nilIface, .nilIface => true
 | .string a, .string b => a.data.toList == b.data.toList
 | _, _ => false
def sameCells : List Value → List Value → Bool
 | [], [] => true
 | v :: l, v' :: l' => sameCell v v' && sameCells l l'
 | _, _ => false
def AV.shape : AV → Option Sh
 | .int k _ => some (.int k)
 | .u256 _ => some .u256
 | .st [.u256 _, .u256 _] => some .u2
 | .st [.u256 _, .u256 _, .bool _] => some .pt
 | .st [.u256 _, .u256 _, .u256 _] => some .jac
 | .isl _ (.int .u8) _ | .nsl (.int .u8) => some .bytes
 | .str _ => some (.d .str)
 | .el i _ => some (.d i)
 | _ => none
def dshT (P : Program) (t : TypeId) : Option DSh :=
 match P.info? t with
 | some i => match i.desc with
  | .named n _ => if n = "waybill/api.Value" then some .val else if n = "waybill/waybillref22.Type" then some .rtyp else if n = "waybill/abi.base" then some .base else none
  | .pointer e => match P.info? e with
   | some i => match i.desc with
    | .named n _ => if n = "waybill/abi.kind" then some .kind else none
    | _ => none
   | none => none
  | .string => some .str
  | _ => none
 | none => none
def zeroAV (P : Program) : Nat → TypeId → Option AV
 | 0, _ => none
 | d + 1, t =>
  match P.underlying t with
  | some (.int k) => some (.int k 0)
  | some .bool => some (.bool false)
  | some (.array n e) =>
   match zeroAV P d e with
   | some (.int .u64 _) => if n = 4 then some (.u256 0) else some (.arr (.int .u64) n (List.replicate n (0 : Int)))
   | some z => match z.shape with
    | some s => some (.arr s n (List.replicate n s.dflt))
    | none => none
   | none => none
  | some (.struct fs) => match fs.toList.mapM (fun f => zeroAV P d f.type) with
   | some l => some (.st l)
   | none => none
  | some (.slice e) => match dshT P e with
   | some i => some (.nsl (.d i))
   | none => match zeroAV P d e with
    | some z => match z.shape with
     | some s => some (.nsl s)
     | none => none
    | none => none
  | some .string => some (.str [])
  | some (.pointer _) => some .nilp
  | some (.interface _) => some .nili
  | _ => none
def zeroT (P : Program) (t : TypeId) : Option AV := zeroAV P 12 t
def zeroOK (P : Program) (t : TypeId) (z : AV) : Bool :=
 match (P.info? t).bind (·.zero), z.litCells with
 | some v, some l => sameCells v.cells.toList l
 | _, _ => false
def zeroForm (P : Program) (t : TypeId) (z : AV) : Bool :=
 match (P.info? t).bind (·.zero) with
 | some (.agg _) => z.isAgg
 | some _ => !z.isAgg
 | none => false
def aggT (P : Program) (t : TypeId) : Option Bool :=
 match P.underlying t with
 | some (.struct _) | some (.array _ _) => some true
 | some _ => some false
 | none => none
def sizeT (P : Program) (t : TypeId) : Option Nat := (P.info? t).map (·.size)
def fitsT (P : Program) (t : TypeId) (v : AV) : Bool :=
 match aggT P t, sizeT P t with
 | some a, some n => (a == v.isAgg) && v.plain && Nat.beq n v.size
 | _, _ => false
def shapeT (P : Program) (t : TypeId) : Option Sh :=
 match zeroT P t with
 | some z => if zeroOK P t z then (match dshT P t with
  | some i => some (.d i)
  | none => z.shape) else none
 | none => none
mutual
def DV.lits : DV → Option (List Value)
 | .int k n => some [.int k n]
 | .bool b => some [.bool b]
 | .u256 x => some ((limbs x).map (.int .u64))
 | .str [] => some [.string ⟨#[]⟩]
 | .ints _ [] => some [.slice none 0 0]
 | .sl _ [] => some [.slice none 0 0]
 | .wints _ [] 0 => some [.slice none 0 0]
 | .wsl _ [] 0 => some [.slice none 0 0]
 | .ptr false _ => some [.pointer none]
 | .st l => DV.litss l
 | _ => none
def DV.litss : List DV → Option (List Value)
 | [] => some []
 | v :: l => (DV.lits v).bind fun a => (DV.litss l).bind fun b => some (a ++ b)
end
def Sh.dfltCells : Sh → List Value
 | .int k => [.int k 0]
 | .u256 => (limbs 0).map (.int .u64)
 | .u2 => (limbs 0).map (.int .u64) ++ (limbs 0).map (.int .u64)
 | .pt => (limbs 0).map (.int .u64) ++ (limbs 0).map (.int .u64) ++ [.bool false]
 | .jac => (limbs 0).map (.int .u64) ++ (limbs 0).map (.int .u64) ++ (limbs 0).map (.int .u64)
 | .bytes => [.slice none 0 0]
 | .d i => ((i.view i.dflt).lits).getD []
def shapeZ (P : Program) (t : TypeId) : Option Sh :=
 match shapeT P t, (P.info? t).bind (·.zero), sizeT P t with
 | some s, some v, some n => if sameCells v.cells.toList s.dfltCells && Nat.beq n s.size then some s else none
 | _, _, _ => none
def shlI (k : IntKind) (x y : Int) : Int := k.wrap (x * 2 ^ (min y.toNat k.bits))
def shrI (k : IntKind) (x y : Int) : Int := x.fdiv (2 ^ (min y.toNat k.bits))
def andI (k : IntKind) (x y : Int) : Int := k.wrap (BitVec.ofInt k.bits x &&& BitVec.ofInt k.bits y).toNat
def orI (k : IntKind) (x y : Int) : Int := hide (k.wrap (BitVec.ofInt k.bits x ||| BitVec.ofInt k.bits y).toNat)
theorem orI_eq (k : IntKind) (x y : Int) : orI k x y = k.wrap (BitVec.ofInt k.bits x ||| BitVec.ofInt k.bits y).toNat := hide_eq _
def xorI (k : IntKind) (x y : Int) : Int := k.wrap (BitVec.ofInt k.bits x ^^^ BitVec.ofInt k.bits y).toNat
def andNotI (k : IntKind) (x y : Int) : Int := k.wrap (BitVec.ofInt k.bits x &&& ~~~ (BitVec.ofInt k.bits y)).toNat
def eqFs (P : Program) (r : TypeId → AV → AV → Option Bool) : List Field → Nat → List AV → List AV → Option Bool
 | [], _, [], [] => some true
 | f :: fs, off, v :: l, v' :: l' =>
  if f.name ≠ "_" ∧ f.offset = off ∧ sizeT P f.type = some v.size ∧ v'.size = v.size ∧ aggT P f.type = some v.isAgg ∧ v'.isAgg = v.isAgg then
   match r f.type v v' with
   | some a => if l.isEmpty && l'.isEmpty && fs.isEmpty then some a else
    (match eqFs P r fs (off + v.size) l l' with
    | some b => some (a && b)
    | none => none)
   | none => none
  else none
 | _, _, _, _ => none
def eqTV (P : Program) : Nat → TypeId → AV → AV → Option Bool
 | 0, _, _, _ => none
 | d + 1, t, a, b =>
  match P.underlying t with
  | some .bool => (match a, b with
   | .bool x, .bool y => some (x == y)
   | _, _ => none)
  | some (.int _) => (match a, b with
   | .int k x, .int k' y => if k = k' then some (x == y) else none
   | _, _ => none)
  | some (.pointer _) => (match a.open, b.open with
   | .nilp, .nilp => some true
   | .ptr .., .nilp | .nilp, .ptr .. | .pim .., .nilp | .nilp, .pim .. => some false
   | .pimq ok _, .nilp | .nilp, .pimq ok _ => some (!ok)
   | _, _ => none)
  | some (.interface ms) => if ms.isEmpty then (match a, b with
   | .nili, .nili => some true
   | .ifc .., .nili | .nili, .ifc .. => some false
   | _, _ => none) else none
  | some .string => (match a, b with
   | .str x, .str y => some (x == y)
   | _, _ => none)
  | some (.array n e) =>
   if aggT P e = some false ∧ sizeT P e = some 1 then
    match P.underlying e with
    | some (.int _) => (match a, b with
     | .u256 x, .u256 y => if n = 4 then some (u256eq x y) else none
     | .arr (.int k) m l, .arr (.int k') m' l' => if k = k' ∧ m = n ∧ m' = n then some ((l : List Int) == (l' : List Int)) else none
     | _, _ => none)
    | _ => none
   else none
  | some (.struct fs) => if P.stoodInHeld t then none else
   match a, b with
   | .st l, .st l' => eqFs P (eqTV P d) fs.toList 0 l l'
   | _, _ => none
  | _ => none
section
variable {β : Type}
def binK (P : Program) (op : BinOp) (t : TypeId) (a b : AV) (k : AV → Option β) : Option β :=
 match a, b with
 | .int ka x, .int kb y =>
  match op with
  | .shl => cond (decide (y < 0)) none (k (.int ka (shlI ka x y)))
  | .shr => cond (decide (y < 0)) none (k (.int ka (shrI ka x y)))
  | op => if ka = kb then
   match op with
   | .add => k (.int ka (ka.wrap (x + y)))
   | .sub => k (.int ka (ka.wrap (x - y)))
   | .mul => k (.int ka (ka.wrap (x * y)))
   | .quo => cond (y == 0) none (k (.int ka (ka.wrap (x.tdiv y))))
   | .rem => cond (y == 0) none (k (.int ka (x.tmod y)))
   | .and => k (.int ka (andI ka x y))
   | .or => k (.int ka (orI ka x y))
   | .xor => k (.int ka (xorI ka x y))
   | .andNot => k (.int ka (andNotI ka x y))
   | .eql => k (.bool (x == y))
   | .neq => k (.bool (x != y))
   | .lss => k (.bool (decide (x < y)))
   | .leq => k (.bool (decide (x ≤ y)))
   | .gtr => k (.bool (decide (x > y)))
   | .geq => k (.bool (decide (x ≥ y)))
   | _ => none
   else none
 | .str x, .str y =>
  match op with
  | .add => cond (Nat.ble (x.length + y.length) 9223372036854775807) (k (.str (x ++ y))) none
  | .eql => k (.bool (x == y))
  | .neq => k (.bool (!(x == y)))
  | .lss => k (.bool (Op.bytesLess x y))
  | .leq => k (.bool (Op.bytesLess x y || x == y))
  | .gtr => k (.bool (!(Op.bytesLess x y || x == y)))
  | .geq => k (.bool (!(Op.bytesLess x y)))
  | _ => none
 | a, b =>
  if P.eqGuardType P.depth t then none else
   match op, eqTV P 12 t a b with
   | .eql, some c => k (.bool c)
   | .neq, some c => k (.bool (!c))
   | _, _ => none
def unK (op : UnOp) (a : AV) (k : AV → Option β) : Option β :=
 match op, a with
 | .not, .bool b => k (.bool (!b))
 | .neg, .int ka x => k (.int ka (ka.wrap (0 - x)))
 | .xor, .int ka x => k (.int ka (xorI ka (if ka.signed then -1 else ka.max) x))
 | _, _ => none
end
mutual
def AV.names : AV → List Nat
 | .st l | .tup l | .fn _ l => AV.namess l
 | .ptr n _ | .sl n .. | .own n _ | .osl n .. => [n]
 | .pim _ v => v.names
 | .pimq _ v => v.names
 | .ifc _ v => v.names
 | _ => []
def AV.namess : List AV → List Nat
 | [] => []
 | v :: l => v.names ++ AV.namess l
end
mutual
def AV.ren (σ : Nat → Option Nat) : AV → Option AV
 | .st l => (AV.rens σ l).bind fun l' => some (.st l')
 | .tup l => (AV.rens σ l).bind fun l' => some (.tup l')
 | .fn f l => (AV.rens σ l).bind fun l' => some (.fn f l')
 | .ptr n p => (σ n).bind fun m => some (.ptr m p)
 | .sl n p s i len cap => (σ n).bind fun m => some (.sl m p s i len cap)
 | .own n s => (σ n).bind fun m => some (.own m s)
 | .osl n s i len => (σ n).bind fun m => some (.osl m s i len)
 | .pim fr v => (v.ren σ).bind fun v' => some (.pim fr v')
 | .pimq ok v => (v.ren σ).bind fun v' => some (.pimq ok v')
 | .ifc t v => (v.ren σ).bind fun v' => some (.ifc t v')
 | v => some v
def AV.rens (σ : Nat → Option Nat) : List AV → Option (List AV)
 | [] => some []
 | v :: l => (v.ren σ).bind fun v' => (AV.rens σ l).bind fun l' => some (v' :: l')
end
def memN (n : Nat) : List Nat → Bool
 | [] => false
 | m :: l => Nat.beq n m || memN n l
def placeN (n : Nat) : List Nat → Option Nat
 | [] => none
 | m :: l => cond (Nat.beq n m) (some 0) ((placeN n l).bind fun j => some (j + 1))
def reachN (hp : Nat → Option AV) : Nat → List Nat → List Nat → List Nat
 | 0, _, acc => acc
 | _, [], acc => acc
 | d + 1, n :: todo, acc => cond (memN n acc) (reachN hp d todo acc) (reachN hp d (todo ++ (match hp n with | some c => c.names | none => [])) (acc ++ [n]))
structure Entry where
 α : Type
 ρ : Type
 /-- how many blocks are lent -/
 nb : Nat
 quiet : Bool
 modes : List Bool
 dec : List AV → List AV → Option α
 F : α → Option ρ
 enc : ρ → List AV
 out : ρ → List (Nat × AV)
 pans : Bool := false
 pan : ρ → Bool := fun _ => false
 elim : {β : Type} → ρ → (ρ → Option β) → Option β := fun r k => k r
 elim_eq : ∀ {β : Type} (r : ρ) (k : ρ → Option β), elim r k = k r := by intros; rfl
inductive Ex where
 | normal | exit (id : Nat) | ret
 | panic
structure St where
 env : List (Nat × AV)
 heap : List (Nat × AV)
structure LEntry where
 α : Type
 ρ : Type
 dec : St → Option α
 F : α → Option ρ
 enc : α → ρ → Ex × St
 run : {β : Type} → α → (Ex → St → Option β) → Option β
 run_eq : ∀ (β : Type) x (k : Ex → St → Option β), run x k = (F x).bind fun r => k (enc x r).1 (enc x r).2
inductive Ghost where
 | ice (n : Nat) | cut (n d : Nat) | part (n : Nat) | share (t d : Nat) | shown (t : Nat) | iceT (t : Nat) | pack (t : Nat) (i : DSh) | packB (n : Nat) (i : DSh) | iceF (t : Nat) | thaw (t : Nat) | wide (t : Nat)
structure Cx where
 P : Program
 N : Nat
 calls : Nat → Option Entry
 loops : Nat → Option LEntry
 keep : Nat → Option (List Nat × List Nat)
 globs : Nat → Option AV
 ghost : Nat → List Ghost := fun _ => []
def lk : Nat → List (Nat × AV) → Option AV
 | _, [] => none
 | n, (m, v) :: l => cond (Nat.beq n m) (some v) (lk n l)
def St.e (S : St) (n : Nat) : Option AV := lk n S.env
def St.h (S : St) (n : Nat) : Option AV := lk n S.heap
def ofConst (P : Program) (t : TypeId) : Value → AV
 | .int k n => .int k n
 | .bool b => .bool b
 | .pointer none => .nilp
 | .slice none 0 0 => match P.underlying t with
  | some (.slice e) => match shapeT P e with
   | some s => .nsl s
   | none => .undef
  | _ => .undef
 | .string b => .str b.data.toList
 | .nilIface => .nili
 | _ => .undef
def ev (cx : Cx) (env : Nat → Option AV) (t : TypeId) : Operand → AV
 | .tmp n => (env n).getD .undef
 | .const v => ofConst cx.P t v
 | .global g => match cx.globs g with
  | some v => .pim false v
  | none => .undef
 | .func f => .fn f []
def Sh.flat : Sh → Bool
 | .bytes => false
 | _ => true
mutual
def AV.flat : AV → Bool
 | .int .. | .bool _ | .u256 _ | .str _ | .el .. | .nili => true
 | .arr s _ _ => s.flat
 | .pimq _ v => v.flat
 | .ifc _ v => v.flat
 | .st l => AV.flats l
 | _ => false
def AV.flats : List AV → Bool
 | [] => true
 | v :: l => v.flat && AV.flats l
end
def AV.live : AV → Bool
 | .undef | .tup _ => false
 | _ => true
theorem live_ne {c : AV} (h : c.live = true) : c ≠ .undef := fun e => by subst e; cases h
def AV.ones : List AV → Bool
 | [] => true
 | v :: l => (v.size == 1) && AV.ones l
def castD : (i j : DSh) → List j.T → Option (List i.T)
 | .str, .str, l => some l
 | .val, .val, l => some l
 | .kind, .kind, l => some l
 | .rtyp, .rtyp, l => some l
 | .base, .base, l => some l
 | _, _, _ => none
def castL : (s s' : Sh) → List s'.T → Option (List s.T)
 | .int k, .int k', l => if k = k' then some l else none
 | .u256, .u256, l => some l
 | .u2, .u2, l => some l
 | .pt, .pt, l => some l
 | .jac, .jac, l => some l
 | .bytes, .bytes, l => some l
 | .d i, .d j, l => castD i j l
 | _, _, _ => none
def shEq : Sh → Sh → Bool
 | .int k, .int k' => if k = k' then true else false
 | .u256, .u256 | .u2, .u2 | .pt, .pt | .jac, .jac | .bytes, .bytes => true
 | .d i, .d j => i.beq j
 | _, _ => false
section
variable {β : Type}
def listK0 (hp : Nat → Option AV) (v : AV) (k : (s : Sh) → List s.T → Option β) : Option β :=
 match v with
 | .isl _ s l => k s l
 | .isw _ s l n => k s (l.take n)
 | .nsl s => k s []
 | .own n s => match hp n with
  | some (.row s' l) => if shEq s s' then k s' l else none
  | _ => none
 | .osl n s i len => match hp n with
  | some (.row s' l) => if shEq s s' then cond (Nat.ble (i + len) l.length) (k s' ((l.drop i).take len)) none else none
  | _ => none
 | .sl n p s i len _ => match hp n with
  | some c => getB c p fun a => match a with
   | .arr s' m l => if shEq s s' then cond (Nat.ble (i + len) m) (k s' ((l.drop i).take len)) none else none
   | .u256 x => if shEq s (.int .u64) then cond (Nat.ble (i + len) 4) (k (.int .u64) (((limbs x).drop i).take len)) none else none
   | _ => none
  | none => none
 | _ => none
def textsK (hp : Nat → Option AV) : List AV → (List (List Int) → Option β) → Option β
 | [], k => k []
 | v :: l, k => listK0 hp v fun s xs => match s, xs with
  | .int .u8, xs => textsK hp l fun r => k ((xs : List Int) :: r)
  | _, _ => none
def listK (hp : Nat → Option AV) (v : AV) (k : (s : Sh) → List s.T → Option β) : Option β :=
 match v with
 | .sl n [] .bytes i len cap => match hp n with
  | some (.st l) => cond (Nat.ble (i + len) l.length && AV.ones l) (textsK hp ((l.drop i).take len) fun r => k .bytes r) none
  | _ => listK0 hp (.sl n [] .bytes i len cap) k
 | v => listK0 hp v k
mutual
def AV.low : AV → Option AV
 | .isl _ s l => if s.flat then some (.isl false s l) else none
 | .isw _ s l n => if s.flat then some (.isw false s l n) else none
 | .nsl s => some (.nsl s)
 | .st l => (AV.lows l).bind fun l => some (.st l)
 | v => if v.flat then some v else none
def AV.lows : List AV → Option (List AV)
 | [] => some []
 | v :: l => (AV.low v).bind fun v => (AV.lows l).bind fun l => some (v :: l)
end
def immK (hp : Nat → Option AV) (v : AV) (k : AV → Option β) : Option β :=
 match v with
 | .isl .. | .isw .. | .nsl _ | .own .. | .osl .. | .sl .. => listK hp v fun s l => k (.isl false s l)
 | .pim _ v => match v.low with
  | some u => k (.pim false u)
  | none => none
 | .ptr n p => match hp n with
  | some c => getB c p fun a => match a.low with
   | some u => k (.pim false u)
   | none => none
  | none => none
 | v => match v.low with
  | some u => k u
  | none => none
def maskN (σ : Nat → Option Nat) (hp : Nat → Option AV) : Nat → Option AV := fun n => match σ n with
 | some _ => none
 | none => hp n
def argsK (hp : Nat → Option AV) (σ : Nat → Option Nat) : List Bool → List AV → (List AV → Option β) → Option β
 | _, [], k => k []
 | true :: ms, v :: l, k => if v.plain then (v.ren σ).bind fun v' => argsK hp σ ms l fun l' => k (v' :: l') else none
 | ms, v :: l, k => immK (maskN σ hp) v fun v' => argsK hp σ ms.tail l fun l' => k (v' :: l')
def froN (n : Nat) : Bool := Nat.ble 1000000000000000 n
def newN (n : Nat) : Bool := Nat.ble 1000 n && Nat.blt n 1000000000
theorem newN_iff {n : Nat} : newN n = true ↔ 1000 ≤ n ∧ n < 1000000000 := by
 simp [newN]
mutual
def AV.pers : AV → Bool
 | .isl fr s _ => fr && s.flat
 | .isw fr s _ _ => fr && s.flat
 | .pim fr v => fr && v.pers
 | .pimq _ v => v.pers
 | .ifc _ v => v.pers
 | .arr s _ _ | .row s _ => s.flat
 | .st l | .tup l | .fn _ l => AV.perss l
 | .undef => false
 | _ => true
def AV.perss : List AV → Bool
 | [] => true
 | v :: l => v.pers && AV.perss l
end
def asIs : List Bool → List AV → List AV
 | true :: ms, v :: l => v :: asIs ms l
 | _ :: ms, _ :: l => asIs ms l
 | _, _ => []
def lentK (hp : Nat → Option AV) (σ : Nat → Option Nat) : List Nat → (List AV → Option β) → Option β
 | [], k => k []
 | n :: ns, k => match hp n with
  | some c => if c.live then (c.ren σ).bind fun c' => lentK hp σ ns fun l => k (c' :: l) else none
  | none => none
def one : List AV → AV
 | [v] => v
 | l => .tup l
def backN (ns : List Nat) (d : Option Nat) (j : Nat) : Option Nat :=
 match ns[j]? with
 | some n => some n
 | none => match d with
  | some d => some (d + 1000 * (j + 1 - ns.length))
  | none => none
def outK (hp : Nat → Option AV) (nb : Nat) (τ : Nat → Option Nat) : List (Nat × AV) → Option (List (Nat × AV))
 | [] => some []
 | (j, c) :: l => (τ j).bind fun n => (c.ren τ).bind fun c' => if c.live && c.pers && (Nat.blt j nb || ((hp n).isNone && (!newN n || newN j))) && !froN j then (outK hp nb τ l).bind fun r => some ((n, c') :: r) else none
def keysN : List (Nat × AV) → List Nat
 | [] => []
 | (n, _) :: l => n :: keysN l
def nodupN : List Nat → Bool
 | [] => true
 | n :: l => !memN n l && nodupN l
def lostN : List Nat → List (Nat × AV)
 | [] => []
 | n :: l => (n, .undef) :: lostN l
def callG (cx : Cx) (hp : Nat → Option AV) (d : Option Nat) (f : Nat) (args : List AV) (k kp : AV → List (Nat × AV) → Option β) : Option β :=
 match cx.calls f with
 | some e =>
  if e.quiet then
   argsK hp (fun _ => none) e.modes args fun args' =>
   match e.dec args' [] with
   | some a => (e.F a).bind fun r => e.elim r fun r => if AV.perss (e.enc r) then cond (e.pan r) (kp (one (e.enc r)) []) (k (one (e.enc r)) []) else none
   | none => none
  else
   callB hp d e args (reachN hp 40 (AV.namess (asIs e.modes args)) []) k kp
 | none => none
where
 callB (hp : Nat → Option AV) (d : Option Nat) (e : Entry) (args : List AV) (ns : List Nat) (k kp : AV → List (Nat × AV) → Option β) : Option β :=
  if Nat.beq ns.length e.nb && (nodupN ns && (Nat.ble ns.length 1000 && ns.all fun n => !froN n)) then
   argsK hp (fun n => placeN n ns) e.modes args fun args' =>
   lentK hp (fun n => placeN n ns) ns fun bs =>
   match e.dec args' bs with
   | some a => (e.F a).bind fun r => e.elim r fun r =>
    match AV.rens (backN ns d) (e.enc r), outK hp e.nb (backN ns d) (e.out r) with
    | some vs, some bs' => if nodupN (keysN bs') && AV.perss (e.enc r) then cond (e.pan r) (kp (one vs) (bs' ++ lostN ns)) (k (one vs) (bs' ++ lostN ns)) else none
    | _, _ => none
   | none => none
  else none
def callK (cx : Cx) (hp : Nat → Option AV) (d : Option Nat) (f : Nat) (args : List AV) (k : AV → List (Nat × AV) → Option β) : Option β := callG cx hp d f args k fun _ _ => none
def asNat (v : AV) (k : Nat → Option β) : Option β :=
 match v with
 | .int _ n => cond (decide (0 ≤ n)) (k n.toNat) none
 | _ => none
def boundK (cx : Cx) (env : Nat → Option AV) (o : Option Operand) (dflt most : Nat) (k : Nat → Option β) : Option β :=
 match o with
 | none => k dflt
 | some x => asNat (ev cx env 0 x) fun n => cond (Nat.ble n most) (k n) none
def sizedT (P : Program) (t : TypeId) : Bool :=
 match P.underlying t with
 | some (.struct fs) => fs.toList.all fun f => (sizeT P f.type).isSome
 | some (.array _ e) => (sizeT P e).isSome
 | _ => false
def partsK (P : Program) (t : TypeId) (v : AV) : List (Nat × AV) → (AV → Option β) → Option β
 | [], k => k v
 | (i, u) :: rest, k =>
  match P.underlying t with
  | some (.struct fs) => (match fs[i]? with
   | some f => if fitsT P f.type u then setK v [.fld i f.offset] u (fun v' => partsK P t v' rest k) else none
   | none => none)
  | some (.array _ e) => (match sizeT P e with
   | some sz => if fitsT P e u then setK v [.idx i sz] u (fun v' => partsK P t v' rest k) else none
   | none => none)
  | _ => none
def spliceL {α : Type} (l : List α) (i : Nat) (xs : List α) : List α := l.take i ++ xs ++ l.drop (i + xs.length)
def intsOf : AV → Option (IntKind × Nat × List Int)
 | .u256 x => some (.u64, 4, limbs x)
 | .arr (.int k) n l => some (k, n, l)
 | _ => none
def intsTo (v : AV) (l : List Int) : AV :=
 match v with
 | .u256 _ => .u256 (ofLimbs l)
 | .arr (.int k) n _ => .arr (.int k) n l
 | v => v
def intsFit (v : AV) (l : List Int) : Bool :=
 match v with
 | .u256 _ => l.all inU64
 | _ => true
def copyK (hp : Nat → Option AV) (dst src : AV) (k : AV → List (Nat × AV) → Option β) : Option β :=
 match dst with
 | .own n s => listK0 hp src fun s1 xs => match hp n with
  | some (.row s2 l) => if shEq s s2 && !froN n then (castL s2 s1 xs).bind fun ys => k (.int .i64 (min ys.length l.length : Nat)) [(n, .row s2 (spliceL l 0 (ys.take l.length)))] else none
  | _ => none
 | .osl n s i len => listK0 hp src fun s1 xs => match hp n with
  | some (.row s2 l) => if shEq s s2 && !froN n then (castL s2 s1 xs).bind fun ys => cond (Nat.ble (i + len) l.length) (k (.int .i64 (min ys.length len : Nat)) [(n, .row s2 (spliceL l i (ys.take len)))]) none else none
  | _ => none
 | .sl n p (.int kb) i len _ => listK0 hp src fun s1 xs => match s1, xs with
  | .int ka, xs => if ka = kb ∧ froN n = false then
    match hp n with
    | some c => getB c p fun a => match intsOf a with
     | some (kc, m, l) => if kc = ka then
       cond (Nat.ble (i + len) m && intsFit a (spliceL l i ((xs : List Int).take len)))
        (setB c p (intsTo a (spliceL l i ((xs : List Int).take len))) fun c' => k (.int .i64 (min (xs : List Int).length len : Nat)) [(n, c')]) none
      else none
     | none => none
    | none => none
   else none
  | _, _ => none
 | _ => none
def lenV : AV → Option Nat
 | .sl _ _ _ _ len _ => some len
 | .osl _ _ _ len => some len
 | .isl _ _ l => some l.length
 | .isw _ _ _ n => some n
 | .nsl _ => some 0
 | _ => none
def roomB (bytes n : Nat) : Bool := Nat.ble n 140737488355328 && Nat.ble (n * bytes) 140737488355328
def appendK (hp : Nat → Option AV) (d : Nat) (bytes : Nat) (dst src : AV) (k : AV → List (Nat × AV) → Option β) : Option β :=
 match dst with
 | .nsl s => listK0 hp src fun s1 xs => (castL s s1 xs).bind fun ys => cond (roomB bytes ys.length) (k (.own d s) [(d, .row s ys)]) none
 | .own n s => listK0 hp src fun s1 xs => match hp n with
  | some (.row s2 l) => if shEq s s2 then (castL s2 s1 xs).bind fun ys => cond (roomB bytes (l.length + ys.length)) (k (.own d s2) [(d, .row s2 (l ++ ys)), (n, .tup [.int .i64 (l.length : Nat)])]) none else none
  | _ => none
 | .osl n s i len => listK0 hp src fun s1 xs => match hp n with
  | some (.row s2 l) => if shEq s s2 && (Nat.beq i 0 && !froN n) then (castL s2 s1 xs).bind fun ys => cond (Nat.ble len l.length && roomB bytes (len + ys.length)) (k (.own d s2) [(d, .row s2 (l.take len ++ ys)), (n, .tup [.int .i64 (l.length : Nat)])]) none else none
  | _ => none
 | .sl n p s i len cap => listK0 hp src fun s1 xs => listK0 hp (.sl n p s i len cap) fun s2 l => (castL s2 s1 xs).bind fun ys =>
  match lenV src with
  | some m => if Nat.blt cap (len + m) then cond (roomB bytes (len + ys.length)) (k (.own d s2) [(d, .row s2 (l ++ ys))]) none else none
  | none => none
 | _ => none
def freeN (hp : Nat → Option AV) (d : Nat) : Nat := match hp d with
 | none => d
 | some _ => d + 1000000
theorem freeN_big (hp : Nat → Option AV) (d : Nat) (h : 1000 ≤ d) : 1000 ≤ freeN hp d := by unfold freeN; split <;> omega
def apN (dst : AV) (d : Nat) : Nat := match dst with
 | .own n _ | .osl n .. => cond (froN n) (d + 1000000000000000) (cond (newN n) d (d + 1000000000))
 | _ => d
theorem apN_own {n : Nat} {s : Sh} {d : Nat} (h : newN (apN (.own n s) d) = true) : newN n = true := by
 unfold apN at h
 cases hn : newN n with
 | true => rfl
 | false => exfalso; cases hf : froN n <;> simp only [hn, hf, cond_true, cond_false] at h <;> have := newN_iff.1 h <;> omega
theorem apN_osl {n i len : Nat} {s : Sh} {d : Nat} (h : newN (apN (.osl n s i len) d) = true) : newN n = true := by
 unfold apN at h
 cases hn : newN n with
 | true => rfl
 | false => exfalso; cases hf : froN n <;> simp only [hn, hf, cond_true, cond_false] at h <;> have := newN_iff.1 h <;> omega
theorem apN_fro {n : Nat} {s : Sh} {d : Nat} (h : froN n = true) : froN (apN (.own n s) d) = true := by
 unfold apN
 simp only [h, cond_true]
 exact Nat.ble_eq_true_of_le (Nat.le_add_left _ _)
theorem apN_big (dst : AV) (d : Nat) (h : 1000 ≤ d) : 1000 ≤ apN dst d := by
 unfold apN
 split
 ·cases froN _ <;> cases newN _ <;> simp <;> omega
 ·cases froN _ <;> cases newN _ <;> simp <;> omega
 ·exact h
def bytesT (P : Program) (t : TypeId) : Option Nat := (P.info? t).map (·.bytes)
def partsL (s : Sh) : List (Nat × AV) → List s.T → Option (List s.T)
 | [], l => some l
 | (i, v) :: r, l => match s.de v with
  | some t => cond (Nat.blt i l.length) (partsL s r (l.set i t)) none
  | none => none
def partsV (P : Program) (t : TypeId) : List (Nat × AV) → List AV → Option (List AV)
 | [], l => some l
 | (i, v) :: r, l => if fitsT P t v && v.plain && !v.isAgg then cond (Nat.blt i l.length) (partsV P t r (l.set i v)) none else none
def preV (P : Program) (t : TypeId) (v : AV) : AV :=
 match v with
 | .arr (.int kb) n l => (match P.underlying t with
  | some (.array m _) => cond (Nat.blt m n) (.arr (.int kb) m (l.take m)) v
  | _ => v)
 | v => v
def clearK (P : Program) (e : TypeId) (hp : Nat → Option AV) (dst : AV) (k : AV → List (Nat × AV) → Option β) : Option β :=
 match dst with
 | .sl n p (.int kb) i len _ => if froN n = false ∧ zeroOK P e (.int kb 0) = true then
   match hp n with
   | some c => getB c p fun a => match intsOf a with
    | some (kc, m, l) => if kc = kb then
      cond (Nat.ble (i + len) m && intsFit a (spliceL l i (List.replicate len 0)))
       (setB c p (intsTo a (spliceL l i (List.replicate len 0))) fun c' => k .undef [(n, c')]) none
     else none
    | none => none
   | none => none
  else none
 | _ => none
def capsOK : List AV → Bool
 | [] => true
 | v :: l => v.plain && !v.isAgg && capsOK l
def opK (cx : Cx) (o : Oper) (env hp : Nat → Option AV) (k : AV → List (Nat × AV) → Option β) : Option β :=
 match o.op with
 | .move x | .assign x => k (ev cx env o.type x) []
 | .pick c a b => match ev cx env 0 c with
  | .bool t => cond t (k (ev cx env o.type a) []) (k (ev cx env o.type b) [])
  | _ => none
 | .alloc t => match o.dst, zeroT cx.P t with
  | some d, some z => if (hp (d + 1000)).isNone && zeroOK cx.P t z then k (.ptr (d + 1000) []) [(d + 1000, z)] else none
  | _, _ => none
 | .box t x => match o.dst with
  | some d => if (hp (d + 1000)).isNone && (ev cx env t x).plain then k (.ptr (d + 1000) []) [(d + 1000, ev cx env t x)] else none
  | none => none
 | .build t parts => match zeroT cx.P t with
  | some z => if zeroOK cx.P t z && z.isAgg && sizedT cx.P t then partsK cx.P t z (parts.toList.map fun (i, x) => (i, ev cx env 0 x)) fun v => k v [] else none
  | none => none
 | .buildSlice t n parts => match o.dst, cx.P.underlying t with
  | some d, some (.slice e) => if (hp (d + 1000)).isNone then match shapeZ cx.P e with
   | some s => if Nat.ble (n * s.size) 16777216 then (match partsL s (parts.toList.map fun (i, x) => (i, ev cx env e x)) (List.replicate n s.dflt) with
     | some l => k (.own (d + 1000) s) [(d + 1000, .row s l)]
     | none => match zeroT cx.P e with
      | some z => if zeroOK cx.P e z && Nat.beq s.size 1 && Nat.beq z.size 1 then (match partsV cx.P e (parts.toList.map fun (i, x) => (i, ev cx env e x)) (List.replicate n z) with
       | some l => k (.sl (d + 1000) [] s 0 n n) [(d + 1000, .st l)]
       | none => none) else none
      | none => none) else none
   | none => none
   else none
  | _, _ => none
 | .makeSlice t len cap => match o.dst, cx.P.underlying t with
  | some d, some (.slice e) => if (hp (d + 1000)).isNone then match shapeZ cx.P e, bytesT cx.P e, ev cx env 0 len, ev cx env 0 cap with
   | some s, some b, .int .i64 n, .int .i64 c =>
     cond (decide (0 ≤ n)) (cond (decide (n ≤ c)) (cond (roomB b c.toNat) (
      if sameOp len cap then k (.own (d + 1000) s) [(d + 1000, .row s (List.replicate n.toNat s.dflt))]
      else k (.osl (d + 1000) s 0 n.toNat) [(d + 1000, .row s (List.replicate c.toNat s.dflt))]) none) none) none
   | _, _, _, _ => none
   else none
  | _, _ => none
 | .load t a => match (ev cx env 0 a).open with
  | .ptr n p => (match hp n with
   | some c => getB c p fun v => if fitsT cx.P t (preV cx.P t v) then k (preV cx.P t v) [] else none
   | none => none)
  | .pim _ v => if fitsT cx.P t v then k v [] else none
  | .pimq ok v => cond ok (if fitsT cx.P t v then k v [] else none) none
  | _ => none
 | .store t a x => match ev cx env 0 a with
  | .ptr n p => (match hp n with
   | some c => if fitsT cx.P t (ev cx env t x) && !froN n then setB c p (ev cx env t x) fun c' => k .undef [(n, c')] else none
   | none => none)
  | _ => none
 | .nilCheck x => match (ev cx env 0 x).open with
  | .ptr n p => k (.ptr n p) []
  | .pim fr v => k (.pim fr v) []
  | .pimq ok v => cond ok (k (.pim true v) []) none
  | _ => none
 | .binOp op t x y _ => binK cx.P op t (ev cx env 0 x) (ev cx env 0 y) fun v => k v []
 | .unOp op _ x => unK op (ev cx env 0 x) fun v => k v []
 | .convert s d x => match cx.P.underlying s, cx.P.underlying d, ev cx env 0 x with
  | some _, some (.int kd), .int _ n => k (.int kd (kd.wrap n)) []
  | some .string, some (.slice e), .str l => (match cx.P.underlying e with
   | some (.int .u8) => k (.isl true (.int .u8) (l.map fun c => ((c.toNat : Nat) : Int))) []
   | _ => none)
  | some (.slice e), some .string, v => (match cx.P.underlying e with
   | some (.int .u8) => listK0 hp v fun s l => (match s, l with
    | .int .u8, l => k (.str ((l : List Int).map fun n => UInt8.ofNat n.toNat)) []
    | _, _ => none)
   | _ => none)
  | _, _, _ => none
 | .fieldAddr s x f => match cx.P.underlying s with
  | some (.struct fs) => (match fs[f]?, (ev cx env 0 x).open with
   | some fd, .ptr n p => if (sizeT cx.P fd.type).getD 0 = 0 then none else k (.ptr n (p ++ [.fld f fd.offset])) []
   | some fd, .pim fr v => if (sizeT cx.P fd.type).getD 0 = 0 then none else getK v [.fld f fd.offset] fun u => k (.pim fr u) []
   | some fd, .pimq ok v => cond ok (if (sizeT cx.P fd.type).getD 0 = 0 then none else getK v [.fld f fd.offset] fun u => k (.pim true u) []) none
   | _, _ => none)
  | _ => none
 | .field t x f => match cx.P.underlying t with
  | some (.struct fs) => (match fs[f]? with
   | some fd => getK (ev cx env 0 x) [.fld f fd.offset] fun u => if fitsT cx.P fd.type u then k u [] else none
   | none => none)
  | _ => none
 | .indexAddr t x i => match ev cx env 0 i with
  | .int _ j => cond (decide (0 ≤ j)) (match cx.P.underlying t with
   | some (.array n e) => cond (Nat.blt j.toNat n) (match sizeT cx.P e with
    | some sz => (match ev cx env 0 x with
     | .ptr m p => k (.ptr m (p ++ [.idx j.toNat sz])) []
     | .pim fr v => getK v [.idx j.toNat sz] fun u => k (.pim fr u) []
     | _ => none)
    | none => none) none
   | some (.slice e) => (match sizeT cx.P e with
    | some sz => (match ev cx env 0 x with
     | .sl m p s i0 len _ => if sz = s.size then cond (Nat.blt j.toNat len) (k (.ptr m (p ++ [.idx (i0 + j.toNat) sz])) []) none else none
     | .own m s => (match hp m with
      | some (.row s' l) => if sz = s.size ∧ shEq s s' then cond (Nat.blt j.toNat l.length) (k (.ptr m [.idx j.toNat sz]) []) none else none
      | _ => none)
     | .osl m s i0 len => if sz = s.size then cond (Nat.blt j.toNat len) (k (.ptr m [.idx (i0 + j.toNat) sz]) []) none else none
     | .isl fr s l => if sz = s.size then cond (Nat.blt j.toNat l.length) (k (.pim fr (s.av (l.getD j.toNat s.dflt))) []) none else none
     | .isw fr s l n => if sz = s.size then cond (Nat.blt j.toNat n && Nat.ble n l.length) (k (.pim fr (s.av (l.getD j.toNat s.dflt))) []) none else none
     | _ => none)
    | none => none)
   | _ => none) none
  | _ => none
 | .index t x i => match ev cx env 0 i with
  | .int _ j => cond (decide (0 ≤ j)) (match cx.P.underlying t with
   | some (.array n e) => cond (Nat.blt j.toNat n) (match sizeT cx.P e with
    | some sz => getK (ev cx env 0 x) [.idx j.toNat sz] fun u => if fitsT cx.P e u then k u [] else none
    | none => none) none
   | some .string => (match ev cx env 0 x with
    | .str l => cond (Nat.blt j.toNat l.length) (k (.int .u8 ((l.getD j.toNat 0).toNat : Nat)) []) none
    | _ => none)
   | _ => none) none
  | _ => none
 | .extract t i => match ev cx env 0 t with
  | .tup l => (match l[i]? with
   | some v => k v []
   | none => none)
  | _ => none
 | .slice t x lo hi none => match cx.P.underlying t with
  | some (.array n e) => (match shapeT cx.P e, ev cx env 0 x with
   | some s, .ptr m p => if sizeT cx.P e = some s.size then boundK cx env hi n n fun h => boundK cx env lo 0 h fun l => k (.sl m p s l (h - l) (n - l)) [] else none
   | _, _ => none)
  | some (.slice e) => (match ev cx env 0 x with
   | .sl m p s i len cap => if sizeT cx.P e = some s.size then boundK cx env hi len cap fun h => boundK cx env lo 0 h fun l => k (.sl m p s (i + l) (h - l) (cap - l)) [] else none
   | .own m s => (match hp m with
    | some (.row s' l0) => if sizeT cx.P e = some s.size ∧ shEq s s' then (match lo, hi with
     | none, none => k (.own m s) []
     | _, _ => boundK cx env hi l0.length l0.length fun h => boundK cx env lo 0 h fun l => k (.osl m s l (h - l)) []) else none
    | _ => none)
   | .osl m s i len => (match hp m with
    | some (.row s' l0) => if sizeT cx.P e = some s.size ∧ shEq s s' then boundK cx env hi len (l0.length - i) fun h => boundK cx env lo 0 h fun l => k (.osl m s (i + l) (h - l)) [] else none
    | _ => none)
   | .isl fr s l0 => if sizeT cx.P e = some s.size then boundK cx env hi l0.length l0.length fun h => boundK cx env lo 0 h fun l => k (.isl fr s ((l0.drop l).take (h - l))) [] else none
   | .isw fr s l0 n => if sizeT cx.P e = some s.size then boundK cx env hi n l0.length fun h => boundK cx env lo 0 h fun l => k (.isw fr s (l0.drop l) (h - l)) [] else none
   | _ => none)
  | some .string => (match ev cx env 0 x with
   | .str l0 => boundK cx env hi l0.length l0.length fun h => boundK cx env lo 0 h fun l => k (.str ((l0.drop l).take (h - l))) []
   | _ => none)
  | _ => none
 | .call c => match c.callee with
  | .value f => (match ev cx env 0 f with
   | .fn g caps => if capsOK caps then callK cx hp o.dst g ((c.args.toList.zipIdx.map fun (x, j) => ev cx env (c.argTypes.getD j 0) x) ++ caps) k else none
   | _ => none)
  | .builtin .len => (match c.args.toList.map (ev cx env 0), c.argTypes[0]?.bind cx.P.underlying with
   | [.sl _ _ _ _ len _], some (.slice _) => k (.int .i64 (len : Nat)) []
   | [.osl _ _ _ len], some (.slice _) => k (.int .i64 (len : Nat)) []
   | [.own n s], some (.slice _) => (match hp n with
    | some (.row s' l) => if shEq s s' then k (.int .i64 (l.length : Nat)) [] else none
    | some (.tup [.int .i64 m]) => k (.int .i64 m) []
    | _ => none)
   | [.isl _ _ l], some (.slice _) => k (.int .i64 (l.length : Nat)) []
   | [.isw _ _ _ n], some (.slice _) => k (.int .i64 (n : Nat)) []
   | [.nsl _], some (.slice _) => k (.int .i64 0) []
   | [.str l], some .string => k (.int .i64 (l.length : Nat)) []
   | _, some (.array n _) => (match c.args[0]? with
    | some _ => k (.int .i64 (n : Nat)) []
    | none => none)
   | _, _ => none)
  | .builtin .copy => (match c.args.toList.map (ev cx env 0), c.argTypes[0]?.bind cx.P.underlying with
   | [d, s], some (.slice e) => if sizeT cx.P e = (sliceSh d).map (·.size) then copyK hp d s k else none
   | _, _ => none)
  | .builtin .clear => (match c.args.toList.map (ev cx env 0), c.argTypes[0]?.bind cx.P.underlying with
   | [d], some (.slice e) => clearK cx.P e hp d k
   | _, _ => none)
  | .builtin .append => (match o.dst, c.args.toList.zipIdx.map (fun (x, j) => ev cx env (c.argTypes.getD j 0) x), c.argTypes[0]?.bind cx.P.underlying, c.argTypes[1]?.bind cx.P.underlying with
   | some dd, [d, s], some (.slice e), some (.slice _) => if (hp (apN d (freeN hp (dd + 1000)))).isNone && appOK cx.P e (sliceSh d) && Nat.beq c.argTypes.size 2 then (match bytesT cx.P e with
    | some b => appendK hp (apN d (freeN hp (dd + 1000))) b d s k
    | none => none) else none
   | _, _, _, _ => none)
  | .builtin .min => (match c.args.toList.map (ev cx env 0) with
   | [.int ka x, .int kb y] => if ka = kb then k (.int ka (if y < x then y else x)) [] else none
   | _ => none)
  | .builtin .max => (match c.args.toList.map (ev cx env 0) with
   | [.int ka x, .int kb y] => if ka = kb then k (.int ka (if x < y then y else x)) [] else none
   | _ => none)
  | _ => none
 | .sliceToArrayPointer arr x => match cx.P.underlying arr, ev cx env 0 x with
  | some (.array m _), .sl n p _ 0 len _ => cond (Nat.ble m len && Nat.blt 0 len) (k (.ptr n p) []) none
  | _, _ => none
 | .makeInterface t x => match cx.P.underlying t with
  | some (.interface _) => none
  | some _ => if fitsT cx.P t (ev cx env t x) then k (.ifc t (ev cx env t x)) [] else none
  | none => none
 | .typeAssert x _ asserted true => match cx.P.underlying asserted with
  | some (.interface _) => none
  | some _ => (match ev cx env 0 x, zeroT cx.P asserted with
   | .ifc t v, some z => if v.plain && zeroOK cx.P asserted z && zeroForm cx.P asserted z then (if t = asserted then k (.tup [v, .bool true]) [] else k (.tup [z, .bool false]) []) else none
   | .nili, some z => if zeroOK cx.P asserted z && zeroForm cx.P asserted z then k (.tup [z, .bool false]) [] else none
   | _, _ => none)
  | none => none
 | .makeFunc (.func g) first caps => if first.size = 0 ∧ capsOK (caps.toList.map (ev cx env 0)) = true then k (.fn g (caps.toList.map (ev cx env 0))) [] else none
 | _ => none
where
 sameOp : Operand → Operand → Bool
  | .tmp n, .tmp m => Nat.beq n m
  | _, _ => false
 sliceSh : AV → Option Sh
  | .sl _ _ s .. | .own _ s | .osl _ s .. | .isl _ s _ | .nsl s => some s
  | _ => none
 appOK (P : Program) (e : TypeId) (s : Option Sh) : Bool :=
  match s, shapeZ P e with
  | some s, some s' => shEq s s'
  | _, _ => false
def panicky (cx : Cx) (o : Oper) : Bool :=
 match o.op with
 | .panic _ => true
 | .call c => match c.callee with
  | .value (.func g) => match cx.calls g with
   | some e => e.pans
   | none => false
  | _ => false
 | _ => false
def opP (cx : Cx) (o : Oper) (env hp : Nat → Option AV) (k kp : AV → List (Nat × AV) → Option β) : Option β :=
 match o.op with
 | .panic x => match ev cx env 0 x with
  | .ifc t v => kp (.ifc t v) []
  | _ => none
 | .call c => match c.callee with
  | .value (.func g) => callG cx hp o.dst g (c.args.toList.zipIdx.map fun (x, j) => ev cx env (c.argTypes.getD j 0) x) k kp
  | _ => none
 | _ => none
end
end
end Go.Sy
namespace Go.Sy
open Go
def iter {α ρ : Type} (f : α → Option (Sum α ρ)) : Nat → α → Option ρ
 | 0, _ => none
 | n + 1, a => (f a).bind fun
  | .inl a' => iter f n a'
  | .inr r => some r
def sumK {α β γ : Type} (r : Sum α β) (f : α → γ) (g : β → γ) : γ :=
 match r with
 | .inl a => f a
 | .inr b => g b
theorem cond_some {α : Type} {c : Bool} {x : Option α} {y : α} (h : cond c x none = some y) : c = true ∧ x = some y := by
 cases c
 ·cases h
 ·exact ⟨rfl, h⟩
noncomputable def bitsAdd64 (x y c : Int) : Option (Int × Int) := hide <|
 bif decide (c.toNat ≤ 1) then some (((x.toNat + y.toNat + c.toNat) % 18446744073709551616 : Nat), ((x.toNat + y.toNat + c.toNat) / 18446744073709551616 : Nat)) else none
noncomputable def bitsSub64 (x y b : Int) : Option (Int × Int) := hide <|
 bif decide (b.toNat ≤ 1) then some (((x.toNat + 18446744073709551616 - y.toNat - b.toNat) % 18446744073709551616 : Nat), ((if x.toNat < y.toNat + b.toNat then 1 else 0 : Nat) : Int)) else none
def fieldModuli : List (Nat × Nat) := [(115792089237316195423570985008687907853269984665640564039457584007908834671663, 4294968273), (115792089237316195423570985008687907852837564279074904382605163141518161494337, 432420386565659656852420866394968145599)]
def curveBase : List Int := [6481385041966929816, 188021827762530521, 6170039885052185351, 8772561819708210092, 11261198710074299576, 18237243440184513561, 6747795201694173352, 5204712524664259685]
def shaStartT : List Int := [1779033703, 3144134277, 1013904242, 2773480762, 1359893119, 2600822924, 528734635, 1541459225]
def shaConstsT : List Int := [1116352408, 1899447441, 3049323471, 3921009573, 961987163, 1508970993, 2453635748, 2870763221, 3624381080, 310598401, 607225278, 1426881987, 1925078388, 2162078206, 2614888103, 3248222580, 3835390401, 4022224774, 264347078, 604807628, 770255983, 1249150122, 1555081692, 1996064986, 2554220882, 2821834349, 2952996808, 3210313671, 3336571891, 3584528711, 113926993, 338241895, 666307205, 773529912, 1294757372, 1396182291, 1695183700, 1986661051, 2177026350, 2456956037, 2730485921, 2820302411, 3259730800, 3345764771, 3516065817, 3600352804, 4094571909, 275423344, 430227734, 506948616, 659060556, 883997877, 958139571, 1322822218, 1537002063, 1747873779, 1955562222, 2024104815, 2227730452, 2361852424, 2428436474, 2756734187, 3204031479, 3329325298]
noncomputable def bigFuel : Nat := hide 1152921504606846976
theorem bigFuel_eq : bigFuel = 1152921504606846976 := hide_eq _
def appL {α : Type} (l m : List α) : List α := l ++ m
end Go.Sy
namespace Go.Sy
open Go
noncomputable section
def St.put (S : St) (dst : Option Nat) (v : AV) (δ : List (Nat × AV)) : St :=
 ⟨match dst with | some d => (d, v) :: S.env | none => S.env, δ ++ S.heap⟩
def guardAt (all : Array Oper) (o : Oper) : Option (Nat × Bool) :=
 match o.guard with
 | none => none
 | some (j, want) => match (all[j]?).bind (·.dst) with
  | some d => some (d, want)
  | none => none
def guardOf (all : Array Oper) (env : Nat → Option AV) (o : Oper) : Option Bool :=
 match o.guard with
 | none => some true
 | some (j, want) => match ((all[j]?).bind (·.dst)).bind env with
  | some (.bool b) => some (b == want)
  | some (.tup []) => some false
  | _ => none
def St.lit (S : St) (d : Nat) (b : Bool) : St := ⟨(d, .bool b) :: S.env, S.heap⟩
def dstOK (N : Nat) : Option Nat → Bool
 | none => true
 | some d => Nat.blt d N
def kindOf (cx : Cx) : Op → Nat
 | .alloc _ | .box .. | .store .. | .buildSlice .. | .makeSlice .. => 2
 | .load .. | .indexAddr .. | .slice .. => 1
 | .call { callee := .builtin .copy, .. } => 2
 | .call { callee := .builtin .append, .. } => 2
 | .call { callee := .builtin .clear, .. } => 2
 | .call { callee := .builtin .len, .. } => 1
 | .call { callee := .builtin _, .. } => 0
 | .call { callee := .value (.func g), .. } => match cx.calls g with
  | some e => if e.quiet then 1 else 2
  | none => 1
 | .call _ => 2
 | .convert s _ _ => match cx.P.underlying s with
  | some (.slice _) => 1
  | _ => 0
 | _ => 0
def memApart (cx : Cx) (x y : Op) : Bool :=
 match kindOf cx x, kindOf cx y with
 | 2, 0 | 0, 2 | 0, 0 | 0, 1 | 1, 0 | 1, 1 => true
 | _, _ => false
def wrote (ops : Array Oper) (n : Nat) : Bool := ops.toList.any fun o => match o.dst with
 | some d => Nat.beq d n
 | none => false
def addrOf : Op → Option Nat
 | .load _ (.tmp n) => some n
 | .store _ (.tmp n) _ => some n
 | _ => none
def newOp : Op → Bool
 | .alloc _ | .box .. | .buildSlice .. | .makeSlice .. => true
 | _ => false
def memDisj (ops : Array Oper) (f : Nat → Option AV) (x y : Op) : Bool :=
 match addrOf x, addrOf y with
 | some n, some m => !wrote ops n && !wrote ops m && (match f n, f m with
  | some (.ptr b _), some (.ptr b' _) => !Nat.beq b b'
  | _, _ => false)
 | _, _ => false
def loadFix (ops : Array Oper) (f : Nat → Option AV) (x : Op) : Option Nat :=
 match x with
 | .load _ (.tmp n) => if wrote ops n then none else match f n with
  | some (.ptr b _) => some b
  | _ => none
 | _ => none
def loadsAt (ops : Array Oper) (f : Nat → Option AV) (b : Nat) : Bool := ops.toList.any fun o => match loadFix ops f o.op with
 | some b' => Nat.beq b b'
 | none => false
def isCall2 (cx : Cx) (x : Op) : Bool :=
 match x with
 | .call { callee := .value _, .. } => Nat.beq (kindOf cx x) 2
 | _ => false
def madeIn (ops : Array Oper) (b : Nat) : Bool := ops.toList.any fun o => newOp o.op && (match o.dst with
 | some d => Nat.beq b (d + 1000)
 | none => false)
def loadC (ops : Array Oper) (f : Nat → Option AV) (x : Op) : Bool :=
 match x with
 | .load _ (.tmp n) => (match f n with
  | some (.ptr b _) => !madeIn ops b
  | _ => true)
 | _ => true
def isLoad : Op → Bool
 | .load _ (.tmp _) => true
 | _ => false
def callC (cx : Cx) (ops : Array Oper) (gd : Option (Nat → Option AV)) (o : Oper) (f : Nat → Option AV) (δ : List (Nat × AV)) : Bool :=
 match gd with
 | none => true
 | some g => (!isCall2 cx o.op || δ.all fun p => !loadsAt ops g p.1) && loadC ops f o.op
def memCall (cx : Cx) (ops : Array Oper) (f : Nat → Option AV) (x y : Op) : Bool :=
 (isCall2 cx x && (loadFix ops f y).isSome) || (isCall2 cx y && (loadFix ops f x).isSome) || (isCall2 cx x && newOp y)
def sliceP (ops : Array Oper) (f : Nat → Option AV) : Op → Bool
 | .slice _ (.tmp n) _ _ none => !wrote ops n && (match f n with
  | some (.ptr _ _) => true
  | _ => false)
 | _ => false
def sliceS : Op → Op → Bool
 | .slice _ _ _ _ none, .store .. => true
 | _, _ => false
def memFree (cx : Cx) (ops : Array Oper) (f : Nat → Option AV) (x y : Op) : Bool :=
 memApart cx x y || (newOp y && Nat.ble (kindOf cx x) 1) || memDisj ops f x y || memCall cx ops f x y || (newOp x && newOp y) || sliceP ops f x || sliceP ops f y || sliceS x y || sliceS y x || (newOp x && isLoad y)
def waitsB (ops : Array Oper) (listed : Array Bool) (k : Nat) : Nat → Nat → Bool
 | 0, _ => false
 | n + 1, j => match ops[j]? with
  | none => false
  | some o => o.after.toList.any fun e => Region.binds .any e && (e.on == k || (!listed.getD e.on true && waitsB ops listed k n e.on))
def freeM (cx : Cx) (f : Nat → Option AV) (ops : Array Oper) (listed : Array Bool) (k : Nat) : Bool :=
 match ops[k]? with
 | none => false
 | some o => (List.range ops.size).all fun j =>
  (j == k) || listed.getD j true || (match ops[j]? with
   | none => true
   | some oj => (o.apart ops oj && memFree cx ops f o.op oj.op) || waitsB ops listed k 40 j)
def lexM (cx : Cx) (f : Nat → Option AV) (ops : Array Oper) : Nat → Nat → Array Bool → Bool
 | 0, _, listed => (Region.ready .any ops listed).isEmpty
 | fuel + 1, k, listed => (Region.ready .any ops listed).contains k && freeM cx f ops listed k && lexM cx f ops fuel (k + 1) (listed.setIfInBounds k true)
def drawOK (cx : Cx) (f : Nat → Option AV) (ops : Array Oper) : Bool := lexM cx f ops ops.size 0 (Array.replicate ops.size false)
mutual
def AV.mapL (f : AV → AV) : AV → AV
 | .st l => .st (AV.mapsL f l)
 | .tup l => .tup (AV.mapsL f l)
 | .fn g l => .fn g (AV.mapsL f l)
 | .pim fr v => .pim fr (v.mapL f)
 | .pimq ok v => .pimq ok (v.mapL f)
 | .ifc t v => .ifc t (v.mapL f)
 | .ptr n p => f (.ptr n p)
 | .own n s => f (.own n s)
 | .osl n s i len => f (.osl n s i len)
 | v => v
def AV.mapsL (f : AV → AV) : List AV → List AV
 | [] => []
 | v :: l => v.mapL f :: AV.mapsL f l
end
def mapP (f : AV → AV) : List (Nat × AV) → List (Nat × AV)
 | [] => []
 | (n, v) :: l => (n, v.mapL f) :: mapP f l
def iceV (n : Nat) (c : AV) : AV → AV
 | .own m s => cond (Nat.beq m n) (match c with
  | .row s' l => if shEq s s' then .isl true s' l else .own m s
  | _ => .own m s) (.own m s)
 | .osl m s i len => cond (Nat.beq m n) (match c with
  | .row s' l => if shEq s s' && Nat.ble (i + len) l.length then .isw true s' (l.drop i) len else .osl m s i len
  | _ => .osl m s i len) (.osl m s i len)
 | .ptr m p => cond (Nat.beq m n) (match p with
  | [] => if c.plain then .pim true c else .ptr m p
  | _ => .ptr m p) (.ptr m p)
 | v => v
def renL (n d : Nat) : AV → AV
 | .own m s => cond (Nat.beq m n) (.own d s) (.own m s)
 | v => v
def showV (n : Nat) (c : AV) : AV → AV
 | .own m s => cond (Nat.beq m n) (match c with
  | .row s' l => if shEq s s' then .isl false s' l else .own m s
  | _ => .own m s) (.own m s)
 | v => v
def cutV (n d : Nat) : AV → AV
 | .osl m s i len => cond (Nat.beq m n && Nat.beq i 0 && Nat.beq len 0) (.own d s) (.osl m s i len)
 | v => v
def partV (n k : Nat) : AV → AV
 | .own m s => cond (Nat.beq m n) (.osl m s 0 k) (.own m s)
 | v => v
def iceK (n : Nat) (S : St) : Option St :=
 match S.h n with
 | some c => if c.live && newN n then some ⟨mapP (iceV n c) S.env, (n, .undef) :: mapP (iceV n c) S.heap⟩ else some S
 | none => some S
def ghostK (g : Ghost) (S : St) : Option St :=
 match g with
 | .ice n => iceK n S
 | .cut n d => match S.h n, S.h d with
  | some (.row s _), none => if Nat.ble 1000 d && ((!newN d || newN n) && !froN n) then some ⟨mapP (cutV n d) S.env, (n, .undef) :: (d, .row s []) :: mapP (cutV n d) S.heap⟩ else some S
  | _, _ => some S
 | .share t d => match S.e t with
  | some (.own n _) => (match S.h n, S.h d with
   | some (.row s l), none => if !froN n && froN d then some ⟨mapP (renL n d) S.env, (n, .undef) :: (d, .row s l) :: mapP (showV n (.row s l)) S.heap⟩ else some S
   | _, _ => some S)
  | _ => some S
 | .shown t => match S.e t with
  | some (.own n _) => (match S.h n with
   | some (.row s l) => some ⟨mapP (showV n (.row s l)) S.env, (n, .undef) :: mapP (showV n (.row s l)) S.heap⟩
   | _ => some S)
  | _ => some S
 | .iceT t => match S.e t with
  | some (.own n _) | some (.ptr n _) => iceK n S
  | some (.nsl s) => some ⟨(t, .isl true s []) :: S.env, S.heap⟩
  | some (.isw fr s l n) => some ⟨(t, .isl fr s (l.take n)) :: S.env, S.heap⟩
  | _ => some S
 | .iceF t => match S.e t with
  | some (.osl n s i len) => (match S.h n with
   | some (.row s' l) => if newN n && shEq s s' then some ⟨(t, .isw true s' (l.drop i) len) :: mapP (iceV n (.row s' l)) S.env, (n, .undef) :: mapP (iceV n (.row s' l)) S.heap⟩ else some S
   | _ => some S)
  | some (.sl n [] s i len _) => (match S.h n with
   | some (.arr s' k l) => if newN n && shEq s s' then some ⟨(t, .isl true s' ((l.drop i).take len)) :: mapP (iceV n (.arr s' k l)) S.env, (n, .undef) :: mapP (iceV n (.arr s' k l)) S.heap⟩ else some S
   | _ => some S)
  | _ => some S
 | .thaw t => match S.e t with
  | some (.isl true s l) => some ⟨(t, .isl false s l) :: S.env, S.heap⟩
  | some (.isw true s l n) => some ⟨(t, .isw false s l n) :: S.env, S.heap⟩
  | _ => some S
 | .wide t => match S.e t with
  | some (.isl fr s l) => some ⟨(t, .isw fr s l l.length) :: S.env, S.heap⟩
  | _ => some S
 | .pack t i => match S.e t with
  | some (.el ..) => some S
  | some v => (match v.toDV.bind i.make with
   | some u => if v.isAgg == i.agg then some ⟨(t, .el i u) :: S.env, S.heap⟩ else some S
   | none => some S)
  | none => some S
 | .packB n i => match S.h n with
  | some (.el ..) => some S
  | some (.nsl s) => some ⟨S.env, (n, .isl true s []) :: S.heap⟩
  | some v => (match v.toDV.bind i.make with
   | some u => if v.isAgg == i.agg then some ⟨S.env, (n, .el i u) :: S.heap⟩ else some S
   | none => some S)
  | none => some S
 | .part n => match S.h n with
  | some (.row _ l) => some ⟨mapP (partV n l.length) S.env, mapP (partV n l.length) S.heap⟩
  | _ => some S
def fitG (g : Ghost) (S : St) : Option Bool :=
 match g with
 | .iceF t => match S.e t with
  | some (.osl n _ i len) => (match S.h n with
   | some (.row _ l) => some (Nat.ble (i + len) l.length)
   | _ => none)
  | some (.sl n [] _ i len _) => (match S.h n with
   | some (.arr _ k _) => some (Nat.ble (i + len) k)
   | _ => none)
  | _ => none
 | _ => none
section
variable {β : Type}
def ghostsK : List Ghost → St → (St → Option β) → Option β
 | [], S, k => k S
 | g :: l, S, k => match fitG g S with
  | some b => cond b (match ghostK g S with
   | some S' => ghostsK l S' k
   | none => none) none
  | none => match ghostK g S with
   | some S' => ghostsK l S' k
   | none => none
def opsK (cx : Cx) (gd : Option (Nat → Option AV)) (all : Array Oper) : List Oper → St → (St → Option β) → (St → Option β) → Option β
 | [], S, k, _ => k S
 | o :: rest, S, k, kp =>
  if dstOK cx.N o.dst then
   match o.guard, guardAt all o with
   | none, _ => if gd.isNone && panicky cx o then opP cx o S.e S.h (fun v δ => opsK cx gd all rest (S.put o.dst v δ) k kp) (fun v δ => kp ⟨(cx.N, v) :: S.env, δ ++ S.heap⟩)
    else opK cx o S.e S.h fun v δ => if callC cx all gd o S.e δ then opsK cx gd all rest (S.put o.dst v δ) k kp else none
   | some _, some (d, want) => match S.e d with
    | some (.bool b) => cond b
     (if want then opK cx o (S.lit d true).e S.h fun v δ => if callC cx all gd o (S.lit d true).e δ then opsK cx gd all rest ((S.lit d true).put o.dst v δ) k kp else none else opsK cx gd all rest ((S.lit d true).put o.dst (.tup []) []) k kp)
     (if want then opsK cx gd all rest ((S.lit d false).put o.dst (.tup []) []) k kp else opK cx o (S.lit d false).e S.h fun v δ => if callC cx all gd o (S.lit d false).e δ then opsK cx gd all rest ((S.lit d false).put o.dst v δ) k kp else none)
    | some (.tup []) => opsK cx gd all rest (S.put o.dst (.tup []) []) k kp
    | _ => none
   | _, _ => none
  else none
def inDom (l : List (Nat × AV)) (n : Nat) : Bool := (lk n l).isSome
def St.inScope (S : St) : Bool :=
 S.env.all (fun p => p.2.named (inDom S.heap)) && S.heap.all (fun p => p.2.named (inDom S.heap))
def St.keep (S : St) (ks hs : List Nat) : St :=
 ⟨ks.filterMap fun n => (lk n S.env).map fun v => (n, v), hs.filterMap fun n => (lk n S.heap).map fun v => (n, v)⟩
def firstReg : Code → Nat
 | .region id _ _ => id
 | .seq a b => match a with
  | .skip | .label _ => firstReg b
  | a => firstReg a
 | .block _ a | .scope a | .loop a => firstReg a
 | .cond _ a _ => firstReg a
 | _ => 0
def loopK (step : St → (Ex → St → Option β) → Option β) (trim : St → Option St) : Nat → St → (Ex → St → Option β) → Option β
 | 0, _, _ => none
 | n + 1, S, k => match trim S with
  | some S' => step S' fun e S'' => match e with
   | .normal => loopK step trim n S'' k
   | e => k e S''
  | none => none
def St.reach (S : St) (ks : List Nat) : List Nat := reachN S.h 400 ((ks.filterMap fun n => lk n S.env).flatMap AV.names) []
def trimOf (cx : Cx) (id : Nat) (S : St) : Option St :=
 match cx.keep id with
 | none => some S
 | some (ks, _) => if (S.keep ks (S.reach ks)).inScope then some (S.keep ks (S.reach ks)) else none
def codeK (cx : Cx) : Code → St → (Ex → St → Option β) → Option β
 | .skip, S, k => k .normal S
 | .label _, S, k => k .normal S
 | .region id ops draw, S, k => ghostsK (cx.ghost id) S fun S => if !draw || drawOK cx S.e ops then opsK cx (cond draw (some S.e) none) ops ops.toList S (k .normal) (k .panic) else none
 | .seq a b, S, k => codeK cx a S fun e S' => match e with
  | .normal => codeK cx b S' k
  | e => k e S'
 | .cond c a b, S, k => match ev cx S.e 0 c with
  | .bool t => cond t (codeK cx a S k) (codeK cx b S k)
  | _ => none
 | .block id a, S, k => codeK cx a S fun e S' => match e with
  | .exit i => if i = id then k .normal S' else k (.exit i) S'
  | e => k e S'
 | .loop a, S, k => ghostsK (cx.ghost (1000000 + firstReg a)) S fun S => match cx.loops (firstReg a) with
  | some le => match le.dec S with
   | some x => le.run x k
   | none => none
  | none => loopK (codeK cx a) (trimOf cx (firstReg a)) 600 S k
 | .exit id, S, k => k (.exit id) S
 | .ret, S, k => k .ret S
 | _, _, _ => none
def loopsOf : Code → List Code
 | .seq a b => loopsOf a ++ loopsOf b
 | .cond _ a b => loopsOf a ++ loopsOf b
 | .block _ a | .scope a => loopsOf a
 | .loop a => a :: loopsOf a
 | _ => []
def bodyOf (f : Func) : Code := f.body.getD (.refuse "")
def loopAt (f : Func) (n : Nat) : Code := (loopsOf (bodyOf f)).getD n (.refuse "")
def start (args : List AV) : St := ⟨(List.range args.length).zip args, []⟩
def resultsK (cx : Cx) (S : St) : List ResultVar → (List AV → Option β) → Option β
 | [], k => k []
 | .tmp t :: rest, k => match S.e t with
  | some v => if v.plain then resultsK cx S rest fun l => k (v :: l) else none
  | none => none
 | .cell t ty :: rest, k => match S.e t with
  | some (.ptr n p) => (match S.h n with
   | some c => getB c p fun v => if fitsT cx.P ty v then resultsK cx S rest fun l => k (v :: l) else none
   | none => none)
  | _ => none
def St.res (S : St) (l : List AV) : St := ⟨(List.range l.length).zip l, S.heap⟩
def finK (cx : Cx) (res : List ResultVar) (k kp : St → Option β) : Ex → St → Option β
 | .panic, S => match S.e cx.N with
  | some v => if v.plain then kp (S.res [v]) else none
  | none => none
 | .normal, S | .ret, S => ghostsK (cx.ghost 2000000) S fun S => resultsK cx S res fun l => k (S.res l)
 | _, _ => none
def funK (cx : Cx) (f : Func) (S : St) (k kp : St → Option β) : Option β :=
 codeK cx (bodyOf f) S (finK cx f.results.toList k kp)
end
structure View where
 names : List (Nat × Nat)
 nils : List (Bool × Nat × List Step × Nat)
def View.to (v : View) (n : Nat) : Option Nat := go v.names
where
 go : List (Nat × Nat) → Option Nat
 | [] => none
 | (m, a) :: l => cond (Nat.beq n a) (some m) (go l)
def View.of (v : View) (m : Nat) : Option Nat := go v.names
where
 go : List (Nat × Nat) → Option Nat
 | [] => none
 | (m', a) :: l => cond (Nat.beq m m') (some a) (go l)
def St.at0 (S : St) (v : View) : Bool → Nat → Option AV
 | true, m => (v.of m).bind fun n => (S.h n).bind fun c => c.ren v.to
 | false, n => (S.e n).bind fun u => u.ren v.to
def nsAt (u : AV) (p : List Step) : Option Sh :=
 match u with
 | .row .. => none
 | u => match getB u p some with
  | some (.nsl s) => some s
  | _ => none
def nilsOf (b : Bool) (n : Nat) : List (Bool × Nat × List Step × Nat) → AV → AV
 | [], u => u
 | (b', n', p, m) :: l, u => cond ((b == b') && Nat.beq n n')
  (match nsAt u p with
  | some s => match setB u p (.own m s) some with
   | some u' => nilsOf b n l u'
   | none => nilsOf b n l u
  | none => nilsOf b n l u)
  (nilsOf b n l u)
def St.nilRow (S : St) (v : View) (m : Nat) : List (Bool × Nat × List Step × Nat) → Option AV
 | [] => none
 | (b, n, p, m') :: l => cond (Nat.beq m m') (match (S.at0 v b n).bind fun u => getB u p some with
  | some (.nsl s) => some (.row s [])
  | _ => none) (S.nilRow v m l)
def AV.isTup : AV → Bool
 | .tup _ => true
 | _ => false
def St.atV (S : St) (v : View) (b : Bool) (n : Nat) : Option AV :=
 match S.at0 v b n with
 | some u => cond (b && (nilsOf b n v.nils u).isTup) none (some (nilsOf b n v.nils u))
 | none => cond b (S.nilRow v n v.nils) none
def View.ok (v : View) : Bool :=
 nodupN (v.names.map (·.1)) && nodupN (v.names.map (·.2)) && (v.names.all fun q => (Nat.ble 1000 q.1 || Nat.beq q.1 q.2) && ((!newN q.1 || newN q.2) && (!froN q.2 || froN q.1))) && v.nils.all fun q => (v.of q.2.2.2).isNone && Nat.ble 1000 q.2.2.2
end
end Go.Sy
set_option linter.unusedVariables false
set_option linter.unusedSimpArgs false
namespace Go.Sy
open Go Go.RowKit
noncomputable section
structure Emb where
 ρ : Nat → Nat
 cnt : Nat → Option Nat
 len : Nat → Nat
 im : Bool → Nat → Nat → Option Value
def offs : List Step → Nat
 | [] => 0
 | .fld _ off :: p => off + offs p
 | .idx i sz :: p => i * sz + offs p
def ucells (x : Nat) : List Value := (limbs x).map (.int .u64)
def Lies (E : Emb) (fr : Bool) (ad : Addr) (xs : List Value) : Prop :=
 ad.spot = none ∧ ∀ j v, xs[j]? = some v → E.im fr ad.block (ad.off + j) = some v
def SlOk (E : Emb) (fr : Bool) (n : Nat) (xs : List Value) (x : Value) : Prop :=
 ∃ a len cap, x = .slice a len cap ∧ len = n ∧ len ≤ cap ∧ match a with
  | none => cap = 0
  | some ad => xs = [] ∨ Lies E fr ad xs
def SlW (E : Emb) (fr : Bool) (n m : Nat) (xs : List Value) (x : Value) : Prop :=
 ∃ a cap, x = .slice a n cap ∧ n ≤ m ∧ m ≤ cap ∧ match a with
  | none => cap = 0
  | some ad => xs = [] ∨ Lies E fr ad xs
mutual
def RcD (E : Emb) : DT → List Value → Prop
 | .int k n, xs => xs = [.int k n]
 | .bool b, xs => xs = [.bool b]
 | .u256 x, xs => xs = ucells x
 | .str l, xs => xs = [.string ⟨l.toArray⟩]
 | .ints k l n, xs => ∃ x, xs = [x] ∧ SlW E true n l.length (l.map (.int k)) x
 | .sl l n, xs => ∃ x ys, xs = [x] ∧ RcDs E l ys ∧ SlW E true n l.length ys x
 | .ptr ok v, xs => (ok = false ∧ xs = [.pointer none]) ∨ (ok = true ∧ ∃ ad ys, xs = [.pointer (some ad)] ∧ Lies E true ad ys ∧ RcD E v ys)
 | .st l, xs => RcDs E l xs
def RcDs (E : Emb) : List DT → List Value → Prop
 | [], xs => xs = []
 | v :: l, xs => ∃ a b, xs = a ++ b ∧ RcD E v a ∧ RcDs E l b
end
def Rc (E : Emb) : (s : Sh) → s.T → List Value → Prop
 | .int k, n, xs => xs = [.int k n]
 | .u256, x, xs => xs = ucells x
 | .u2, p, xs => xs = ucells p.1 ++ ucells p.2
 | .pt, p, xs => xs = ucells p.1 ++ ucells p.2.1 ++ [.bool p.2.2]
 | .jac, p, xs => xs = ucells p.1 ++ ucells p.2.1 ++ ucells p.2.2
 | .bytes, l, xs => ∃ x, xs = [x] ∧ SlOk E false (l : List Int).length ((l : List Int).map (.int .u8)) x
 | .d i, t, xs => RcD E (i.toD t) xs
def RcL (E : Emb) (s : Sh) : List s.T → List Value → Prop
 | [], xs => xs = []
 | t :: l, xs => ∃ a b, xs = a ++ b ∧ Rc E s t a ∧ RcL E s l b
mutual
def RepC (E : Emb) : AV → List Value → Prop
 | .int k n, xs => xs = [.int k n]
 | .bool b, xs => xs = [.bool b]
 | .u256 x, xs => xs = ucells x
 | .arr s n l, xs => l.length = n ∧ RcL E s l xs
 | .st l, xs => RepCs E l xs
 | .ptr n p, xs => xs = [.pointer (some ⟨E.ρ n, offs p, none⟩)]
 | .pim fr v, xs => ∃ ad ys, xs = [.pointer (some ad)] ∧ Lies E fr ad ys ∧ RepC E v ys
 | .sl n p s i len cap, xs => len ≤ cap ∧ ∃ o, xs = [.slice (some ⟨E.ρ n, o, none⟩) len cap] ∧ (0 < cap → o = offs p + i * s.size)
 | .isl fr s l, xs => ∃ x ys, xs = [x] ∧ RcL E s l ys ∧ SlOk E fr l.length ys x
 | .own n s, xs => ∃ x, xs = [x] ∧ ((E.cnt n = none ∧ E.len n = 0 ∧ x = .slice none 0 0) ∨ ∃ o cap, x = .slice (some ⟨E.ρ n, o, none⟩) (E.len n) cap ∧ E.len n ≤ cap ∧ (0 < cap → o = 0) ∧ E.cnt n = some (cap * s.size))
 | .osl n s i len, xs => ∃ x, xs = [x] ∧ ((E.cnt n = none ∧ len = 0 ∧ x = .slice none 0 0) ∨ ∃ o cap, x = .slice (some ⟨E.ρ n, o, none⟩) len cap ∧ len ≤ cap ∧ (0 < cap → o = i * s.size) ∧ E.cnt n = some ((i + cap) * s.size))
 | .nsl _, xs => xs = [.slice none 0 0]
 | .str l, xs => xs = [.string ⟨l.toArray⟩]
 | .el i t, xs => RcD E (i.toD t) xs
 | .pimq ok v, xs => (ok = false ∧ xs = [.pointer none]) ∨ (ok = true ∧ ∃ ad ys, xs = [.pointer (some ad)] ∧ Lies E true ad ys ∧ RepC E v ys)
 | .isw fr s l n, xs => ∃ x ys, xs = [x] ∧ RcL E s l ys ∧ SlW E fr n l.length ys x
 | .ifc t v, xs => ∃ x, xs = [.iface t x] ∧ RepC E v x.cells.toList ∧ (v.isAgg = true → ∃ ys, x = .agg ys) ∧ (v.isAgg = false → x.cells = #[x])
 | .nili, xs => xs = [.nilIface]
 | .row _ _, _ => False
 | .nilp, xs => xs = [.pointer none]
 | .fn f caps, xs => ∃ vs, xs = [.func (.func f) #[] vs.toArray] ∧ RepCs E caps vs
 | .undef, _ => False
 | .tup _, _ => False
def RepCs (E : Emb) : List AV → List Value → Prop
 | [], xs => xs = []
 | v :: l, xs => ∃ a b, xs = a ++ b ∧ RepC E v a ∧ RepCs E l b
end
def Rep1 (E : Emb) (v : AV) (x : Value) : Prop := RepC E v x.cells.toList ∧ (v.isAgg = true → ∃ xs, x = .agg xs) ∧ (v.isAgg = false → x.cells = #[x])
def Rep1s (E : Emb) : List AV → List Value → Prop
 | [], xs => xs = []
 | v :: l, xs => ∃ x ys, xs = x :: ys ∧ v.plain = true ∧ Rep1 E v x ∧ Rep1s E l ys
def Rep (E : Emb) (v : AV) (x : Value) : Prop :=
 match v with
 | .undef => True
 | .tup l => ∃ vs, x = .tuple vs.toArray ∧ Rep1s E l vs
 | v => Rep1 E v x
theorem Rep.one {E : Emb} {v : AV} {x : Value} (hp : v.plain = true) : Rep E v x ↔ Rep1 E v x := by
 cases v <;> simp_all [AV.plain, Rep]
theorem limbs_length (x : Nat) : (limbs x).length = 4 := rfl
theorem ucells_length (x : Nat) : (ucells x).length = 4 := rfl
mutual
theorem RcD.length {E : Emb} : ∀ {v : DT} {xs : List Value}, RcD E v xs → xs.length = v.size
 | .int .., _, h | .bool _, _, h | .u256 _, _, h | .str _, _, h => by simp only [RcD] at h; subst h; rfl
 | .ints .., _, h => by simp only [RcD] at h; obtain ⟨_, rfl, _⟩ := h; rfl
 | .sl .., _, h => by simp only [RcD] at h; obtain ⟨_, _, rfl, _⟩ := h; rfl
 | .ptr .., _, h => by simp only [RcD] at h; rcases h with ⟨_, rfl⟩ | ⟨_, _, _, rfl, _⟩ <;> rfl
 | .st l, _, h => by simp only [RcD] at h; rw [RcDs.length h]; rfl
theorem RcDs.length {E : Emb} : ∀ {l : List DT} {xs : List Value}, RcDs E l xs → xs.length = DT.sizes l
 | [], _, h => by simp only [RcDs] at h; subst h; rfl
 | v :: l, xs, h => by
  simp only [RcDs] at h
  obtain ⟨a, b, rfl, ha, hb⟩ := h
  simp [RcD.length ha, RcDs.length hb, DT.sizes]
end
theorem Rc.length {E : Emb} {s : Sh} {t : s.T} {xs : List Value} (h : Rc E s t xs) : xs.length = s.size := by
 cases s
 case bytes => obtain ⟨x, rfl, _⟩ := h; rfl
 case d i => simp only [Rc] at h; rw [h.length, i.toD_size]; rfl
 all_goals (simp only [Rc] at h; subst h; simp [Sh.size, ucells_length])
theorem RcL.length {E : Emb} {s : Sh} : ∀ {l : List s.T} {xs : List Value}, RcL E s l xs → xs.length = l.length * s.size
 | [], xs, h => by simp only [RcL] at h; subst h; simp
 | t :: l, xs, h => by
  obtain ⟨a, b, rfl, ha, hb⟩ := h
  simp [ha.length, RcL.length hb, Nat.add_mul, Nat.add_comm]
mutual
theorem RepC.length {E : Emb} : ∀ {v : AV} {xs : List Value}, RepC E v xs → xs.length = v.size
 | .int .., _, h => by simp only [RepC] at h; subst h; rfl
 | .bool _, _, h => by simp only [RepC] at h; subst h; rfl
 | .u256 _, _, h => by simp only [RepC] at h; subst h; rfl
 | .arr s n l, xs, h => by simp only [RepC] at h; rw [RcL.length h.2, h.1]; rfl
 | .st l, xs, h => by simp only [RepC] at h; rw [RepCs.length h]; rfl
 | .ptr .., _, h => by simp only [RepC] at h; subst h; rfl
 | .pim .., _, h => by simp only [RepC] at h; obtain ⟨_, _, rfl, _⟩ := h; rfl
 | .sl .., _, h => by simp only [RepC] at h; obtain ⟨_, _, rfl, _⟩ := h; rfl
 | .isl .., _, h => by simp only [RepC] at h; obtain ⟨_, _, rfl, _⟩ := h; rfl
 | .own .., _, h => by simp only [RepC] at h; obtain ⟨_, rfl, _⟩ := h; rfl
 | .osl .., _, h => by simp only [RepC] at h; obtain ⟨_, rfl, _⟩ := h; rfl
 | .nsl _, _, h => by simp only [RepC] at h; subst h; rfl
 | .str _, _, h => by simp only [RepC] at h; subst h; rfl
 | .el i t, _, h => by simp only [RepC] at h; rw [h.length, i.toD_size]; rfl
 | .pimq .., _, h => by simp only [RepC] at h; rcases h with ⟨_, rfl⟩ | ⟨_, _, _, rfl, _⟩ <;> rfl
 | .isw .., _, h => by simp only [RepC] at h; obtain ⟨_, _, rfl, _⟩ := h; rfl
 | .ifc .., _, h => by simp only [RepC] at h; obtain ⟨_, rfl, _⟩ := h; rfl
 | .nili, _, h => by simp only [RepC] at h; subst h; rfl
 | .row .., _, h => by simp only [RepC] at h
 | .nilp, _, h => by simp only [RepC] at h; subst h; rfl
 | .fn .., _, h => by simp only [RepC] at h; obtain ⟨_, rfl, _⟩ := h; rfl
 | .undef, _, h => by simp only [RepC] at h
 | .tup _, _, h => by simp only [RepC] at h
theorem RepCs.length {E : Emb} : ∀ {l : List AV} {xs : List Value}, RepCs E l xs → xs.length = AV.sizes l
 | [], _, h => by simp only [RepCs] at h; subst h; rfl
 | v :: l, xs, h => by
  simp only [RepCs] at h
  obtain ⟨a, b, rfl, ha, hb⟩ := h
  simp [RepC.length ha, RepCs.length hb, AV.sizes]
end
structure Emb.Le (E E' : Emb) (ok : Nat → Bool) : Prop where
 ρ : ∀ n, ok n = true → E'.ρ n = E.ρ n
 cnt : ∀ n, ok n = true → E'.cnt n = E.cnt n
 len : ∀ n, ok n = true → E'.len n = E.len n
 im : ∀ f b j v, E.im f b j = some v → E'.im f b j = some v
theorem Lies.mono {E E' : Emb} {ok} (h : E.Le E' ok) {fr : Bool} {ad : Addr} {xs : List Value} (hl : Lies E fr ad xs) : Lies E' fr ad xs :=
 ⟨hl.1, fun j v hv => h.im _ _ _ _ (hl.2 j v hv)⟩
theorem SlOk.mono {E E' : Emb} {ok} (h : E.Le E' ok) {fr : Bool} {n : Nat} {xs : List Value} {x : Value} (hl : SlOk E fr n xs x) : SlOk E' fr n xs x := by
 obtain ⟨a, len, cap, h1, h2, h3, h4⟩ := hl
 refine ⟨a, len, cap, h1, h2, h3, ?_⟩
 cases a with
 | none => exact h4
 | some ad => exact h4.imp id (Lies.mono h)
theorem SlW.monoI {E E' : Emb} {fr : Bool} (h : ∀ b j v, E.im fr b j = some v → E'.im fr b j = some v) {n m : Nat} {xs : List Value} {x : Value} (hl : SlW E fr n m xs x) : SlW E' fr n m xs x := by
 obtain ⟨a, cap, h1, h2, h3, h4⟩ := hl
 refine ⟨a, cap, h1, h2, h3, ?_⟩
 cases a with
 | none => exact h4
 | some ad => exact h4.imp id fun g => ⟨g.1, fun j v hv => h _ _ _ (g.2 j v hv)⟩
mutual
theorem RcD.monoI {E E' : Emb} (h : ∀ b j v, E.im true b j = some v → E'.im true b j = some v) : ∀ {v : DT} {xs : List Value}, RcD E v xs → RcD E' v xs
 | .int .., _, hr | .bool _, _, hr | .u256 _, _, hr | .str _, _, hr => by simpa only [RcD] using hr
 | .ints .., _, hr => by
  simp only [RcD] at hr ⊢
  obtain ⟨x, h1, h2⟩ := hr
  exact ⟨x, h1, h2.monoI h⟩
 | .sl .., _, hr => by
  simp only [RcD] at hr ⊢
  obtain ⟨x, ys, h1, h2, h3⟩ := hr
  exact ⟨x, ys, h1, RcDs.monoI h h2, h3.monoI h⟩
 | .ptr .., _, hr => by
  simp only [RcD] at hr ⊢
  rcases hr with h1 | ⟨h0, ad, ys, h1, h2, h3⟩
  ·exact .inl h1
  ·exact .inr ⟨h0, ad, ys, h1, ⟨h2.1, fun j v hv => h _ _ _ (h2.2 j v hv)⟩, RcD.monoI h h3⟩
 | .st l, _, hr => by simp only [RcD] at hr ⊢; exact RcDs.monoI h hr
theorem RcDs.monoI {E E' : Emb} (h : ∀ b j v, E.im true b j = some v → E'.im true b j = some v) : ∀ {l : List DT} {xs : List Value}, RcDs E l xs → RcDs E' l xs
 | [], _, hr => by simpa only [RcDs] using hr
 | v :: l, xs, hr => by
  simp only [RcDs] at hr ⊢
  obtain ⟨a, b, h1, h2, h3⟩ := hr
  exact ⟨a, b, h1, RcD.monoI h h2, RcDs.monoI h h3⟩
end
theorem Rc.mono {E E' : Emb} {ok} (h : E.Le E' ok) {s : Sh} {t : s.T} {xs : List Value} (hl : Rc E s t xs) : Rc E' s t xs := by
 cases s
 case bytes => obtain ⟨x, h1, h2⟩ := hl; exact ⟨x, h1, h2.mono h⟩
 case d i => exact RcD.monoI (fun b j v => h.im _ b j v) hl
 all_goals exact hl
theorem RcL.mono {E E' : Emb} {ok} (h : E.Le E' ok) {s : Sh} : ∀ {l : List s.T} {xs : List Value}, RcL E s l xs → RcL E' s l xs
 | [], _, hl => hl
 | _ :: _, _, ⟨a, b, h1, h2, h3⟩ => ⟨a, b, h1, h2.mono h, RcL.mono h h3⟩
mutual
theorem RepC.mono {E E' : Emb} {ok : Nat → Bool} (h : E.Le E' ok) : ∀ {v : AV} {xs : List Value}, v.named ok = true → RepC E v xs → RepC E' v xs
 | .int .., _, _, hr => by simpa only [RepC] using hr
 | .bool _, _, _, hr => by simpa only [RepC] using hr
 | .u256 _, _, _, hr => by simpa only [RepC] using hr
 | .arr s n l, xs, _, hr => by simp only [RepC] at hr ⊢; exact ⟨hr.1, hr.2.mono h⟩
 | .st l, xs, hn, hr => by simp only [RepC] at hr ⊢; exact RepCs.mono h (by simpa [AV.named] using hn) hr
 | .ptr n p, _, hn, hr => by simp only [RepC] at hr ⊢; rw [h.ρ n (by simpa [AV.named] using hn)]; exact hr
 | .own n s, _, hn, hr => by
  have hn' : ok n = true := by simpa [AV.named] using hn
  simp only [RepC] at hr ⊢; rw [h.ρ n hn', h.cnt n hn', h.len n hn']; exact hr
 | .osl n s i len, _, hn, hr => by
  have hn' : ok n = true := by simpa [AV.named] using hn
  simp only [RepC] at hr ⊢; rw [h.ρ n hn', h.cnt n hn']; exact hr
 | .nsl _, _, _, hr => by simpa only [RepC] using hr
 | .str _, _, _, hr => by simpa only [RepC] using hr
 | .row .., _, _, hr => by simp only [RepC] at hr
 | .pim fr v, xs, hn, hr => by
  simp only [RepC] at hr ⊢
  obtain ⟨ad, ys, h1, h2, h3⟩ := hr
  exact ⟨ad, ys, h1, h2.mono h, RepC.mono h (by simpa [AV.named] using hn) h3⟩
 | .sl n p s i len cap, _, hn, hr => by simp only [RepC] at hr ⊢; rw [h.ρ n (by simpa [AV.named] using hn)]; exact hr
 | .isl fr s l, _, _, hr => by
  simp only [RepC] at hr ⊢
  obtain ⟨x, ys, h1, h2, h3⟩ := hr
  exact ⟨x, ys, h1, h2.mono h, h3.mono h⟩
 | .nilp, _, _, hr => by simpa only [RepC] using hr
 | .nili, _, _, hr => by simpa only [RepC] using hr
 | .el i t, _, _, hr => by simp only [RepC] at hr ⊢; exact RcD.monoI (fun b j v => h.im _ b j v) hr
 | .pimq ok v, xs, hn, hr => by
  simp only [RepC] at hr ⊢
  rcases hr with h1 | ⟨h0, ad, ys, h1, h2, h3⟩
  ·exact .inl h1
  ·exact .inr ⟨h0, ad, ys, h1, h2.mono h, RepC.mono h (by simpa [AV.named] using hn) h3⟩
 | .isw fr s l n, _, _, hr => by
  simp only [RepC] at hr ⊢
  obtain ⟨x, ys, h1, h2, h3⟩ := hr
  exact ⟨x, ys, h1, h2.mono h, h3.monoI (fun b j v => h.im _ b j v)⟩
 | .ifc t v, _, hn, hr => by
  simp only [RepC] at hr ⊢
  obtain ⟨x, h1, h2, h3, h4⟩ := hr
  exact ⟨x, h1, RepC.mono h (by simpa [AV.named] using hn) h2, h3, h4⟩
 | .fn f caps, _, hn, hr => by
  simp only [RepC] at hr ⊢
  obtain ⟨vs, h1, h2⟩ := hr
  exact ⟨vs, h1, RepCs.mono h (by simpa [AV.named] using hn) h2⟩
 | .undef, _, _, hr => by simp only [RepC] at hr
 | .tup _, _, _, hr => by simp only [RepC] at hr
theorem RepCs.mono {E E' : Emb} {ok : Nat → Bool} (h : E.Le E' ok) : ∀ {l : List AV} {xs : List Value}, AV.nameds ok l = true → RepCs E l xs → RepCs E' l xs
 | [], _, _, hr => by simpa only [RepCs] using hr
 | v :: l, xs, hn, hr => by
  simp only [RepCs] at hr ⊢
  simp only [AV.nameds, Bool.and_eq_true] at hn
  obtain ⟨a, b, h1, h2, h3⟩ := hr
  exact ⟨a, b, h1, RepC.mono h hn.1 h2, RepCs.mono h hn.2 h3⟩
end
theorem Rep1.mono {E E' : Emb} {ok : Nat → Bool} (h : E.Le E' ok) {v : AV} {x : Value} (hn : v.named ok = true) (hr : Rep1 E v x) : Rep1 E' v x :=
 ⟨hr.1.mono h hn, hr.2⟩
theorem Rep1s.mono {E E' : Emb} {ok : Nat → Bool} (h : E.Le E' ok) : ∀ {l : List AV} {xs : List Value}, AV.nameds ok l = true → Rep1s E l xs → Rep1s E' l xs
 | [], _, _, hr => hr
 | v :: l, xs, hn, hr => by
  simp only [AV.nameds, Bool.and_eq_true] at hn
  obtain ⟨x, ys, h1, h2, h3, h4⟩ := hr
  exact ⟨x, ys, h1, h2, h3.mono h hn.1, Rep1s.mono h hn.2 h4⟩
theorem Rep.mono {E E' : Emb} {ok : Nat → Bool} (h : E.Le E' ok) {v : AV} {x : Value} (hn : v.named ok = true) (hr : Rep E v x) : Rep E' v x := by
 cases v
 case undef => trivial
 case tup l => obtain ⟨vs, h1, h2⟩ := hr; exact ⟨vs, h1, h2.mono h (by simpa [AV.named] using hn)⟩
 all_goals exact Rep1.mono h hn hr
mutual
theorem AV.named_mono {ok ok' : Nat → Bool} (h : ∀ n, ok n = true → ok' n = true) : ∀ {v : AV}, v.named ok = true → v.named ok' = true
 | .st l, hn => by simp only [AV.named] at hn ⊢; exact AV.nameds_mono h hn
 | .tup l, hn => by simp only [AV.named] at hn ⊢; exact AV.nameds_mono h hn
 | .fn _ l, hn => by simp only [AV.named] at hn ⊢; exact AV.nameds_mono h hn
 | .ptr .., hn => by simp only [AV.named] at hn ⊢; exact h _ hn
 | .sl .., hn => by simp only [AV.named] at hn ⊢; exact h _ hn
 | .own .., hn => by simp only [AV.named] at hn ⊢; exact h _ hn
 | .osl .., hn => by simp only [AV.named] at hn ⊢; exact h _ hn
 | .pim _ v, hn => by simp only [AV.named] at hn ⊢; exact AV.named_mono h hn
 | .pimq _ v, hn => by simp only [AV.named] at hn ⊢; exact AV.named_mono h hn
 | .ifc _ v, hn => by simp only [AV.named] at hn ⊢; exact AV.named_mono h hn
 | .int .., _ | .bool _, _ | .u256 _, _ | .arr .., _ | .isl .., _ | .nsl _, _ | .row .., _ | .str _, _ | .nilp, _ | .undef, _ | .el .., _ | .isw .., _ | .nili, _ => by simp [AV.named]
theorem AV.nameds_mono {ok ok' : Nat → Bool} (h : ∀ n, ok n = true → ok' n = true) : ∀ {l : List AV}, AV.nameds ok l = true → AV.nameds ok' l = true
 | [], _ => rfl
 | v :: l, hn => by
  simp only [AV.nameds, Bool.and_eq_true] at hn ⊢
  exact ⟨AV.named_mono h hn.1, AV.nameds_mono h hn.2⟩
end
theorem AV.nameds_get {ok : Nat → Bool} : ∀ {l : List AV} {i : Nat} {v : AV}, AV.nameds ok l = true → l[i]? = some v → v.named ok = true
 | [], _, _, _, h => by simp at h
 | u :: l, 0, v, hn, h => by simp at h; subst h; simp only [AV.nameds, Bool.and_eq_true] at hn; exact hn.1
 | u :: l, i + 1, v, hn, h => by simp only [AV.nameds, Bool.and_eq_true] at hn; exact AV.nameds_get hn.2 (by simpa using h)
theorem AV.nameds_set {ok : Nat → Bool} : ∀ {l : List AV} {i : Nat} {v : AV}, AV.nameds ok l = true → v.named ok = true → AV.nameds ok (l.set i v) = true
 | [], _, _, _, _ => rfl
 | u :: l, 0, v, hn, h => by simp only [AV.nameds, Bool.and_eq_true, List.set] at hn ⊢; exact ⟨h, hn.2⟩
 | u :: l, i + 1, v, hn, h => by simp only [AV.nameds, Bool.and_eq_true, List.set] at hn ⊢; exact ⟨hn.1, AV.nameds_set hn.2 h⟩
theorem DSh.el_named {ok : Nat → Bool} (i : DSh) (t : i.T) : (i.el t).named ok = true := by
 cases i <;> simp [DSh.el, AV.named]
theorem Sh.av_named {ok : Nat → Bool} (s : Sh) (t : s.T) : (s.av t).named ok = true := by
 cases s with
 | d i => exact i.el_named t
 | _ => simp [Sh.av, AV.named, AV.nameds]
theorem Sh.av_size (s : Sh) (t : s.T) : (s.av t).size = s.size := by
 cases s with
 | d i => cases i <;> rfl
 | _ => rfl
mutual
theorem DV.av_named {ok : Nat → Bool} : ∀ v : DV, v.av.named ok = true
 | .int .. | .bool _ | .u256 _ | .str _ | .ints .. | .wints .. | .sl .. | .wsl .. => by simp [DV.av, AV.named]
 | .ptr _ v => by simp only [DV.av, AV.named]; exact DV.av_named v
 | .st l => by simp only [DV.av, AV.named]; exact DV.avs_named l
theorem DV.avs_named {ok : Nat → Bool} : ∀ l : List DV, AV.nameds ok (DV.avs l) = true
 | [] => rfl
 | v :: l => by simp only [DV.avs, AV.nameds, Bool.and_eq_true]; exact ⟨DV.av_named v, DV.avs_named l⟩
end
theorem AV.open_named {ok : Nat → Bool} {v : AV} (h : v.named ok = true) : v.open.named ok = true := by
 cases v <;> first | exact h | exact DV.av_named _
theorem RcDs_map {E : Emb} {i : DSh} : ∀ {l : List i.T} {xs : List Value}, RcDs E (l.map i.toD) xs ↔ RcL E (.d i) l xs
 | [], xs => by simp [RcDs, RcL]
 | t :: l, xs => by
  simp only [List.map_cons, RcDs, RcL, Rc]
  constructor
  ·rintro ⟨a, b, h1, h2, h3⟩; exact ⟨a, b, h1, h2, RcDs_map.1 h3⟩
  ·rintro ⟨a, b, h1, h2, h3⟩; exact ⟨a, b, h1, h2, RcDs_map.2 h3⟩
theorem RcL_ints' {E : Emb} {k : IntKind} : ∀ {l : List Int} {xs : List Value}, RcL E (.int k) l xs ↔ xs = l.map (.int k)
 | [], xs => by simp [RcL]
 | a :: l, xs => by
  simp only [RcL, Rc, List.map_cons]
  constructor
  ·rintro ⟨a, b, rfl, rfl, h⟩; rw [RcL_ints'.1 h]; rfl
  ·rintro rfl; exact ⟨[_], _, rfl, rfl, RcL_ints'.2 rfl⟩
theorem SlW_ok {E : Emb} {fr : Bool} {n : Nat} {xs : List Value} {x : Value} : SlW E fr n n xs x ↔ SlOk E fr n xs x := by
 constructor
 ·rintro ⟨a, cap, h1, h2, h3, h4⟩; exact ⟨a, n, cap, h1, rfl, h3, h4⟩
 ·rintro ⟨a, len, cap, h1, h2, h3, h4⟩; subst h2; exact ⟨a, cap, h1, Nat.le_refl _, h3, h4⟩
mutual
theorem DV.av_rep {E : Emb} : ∀ {v : DV} {xs : List Value}, RepC E v.av xs ↔ RcD E v.toD xs
 | .int .., xs | .bool _, xs | .u256 _, xs | .str _, xs => by simp [DV.av, DV.toD, RepC, RcD]
 | .ints k l, xs => by
  simp only [DV.av, DV.toD, RepC, RcD]
  constructor
  ·rintro ⟨x, ys, h1, h2, h3⟩; rw [RcL_ints'] at h2; subst h2; exact ⟨x, h1, SlW_ok.2 h3⟩
  ·rintro ⟨x, h1, h3⟩; exact ⟨x, _, h1, RcL_ints'.2 rfl, SlW_ok.1 h3⟩
 | .wints k l n, xs => by
  simp only [DV.av, DV.toD, RepC, RcD]
  constructor
  ·rintro ⟨x, ys, h1, h2, h3⟩; rw [RcL_ints'] at h2; subst h2; exact ⟨x, h1, h3⟩
  ·rintro ⟨x, h1, h3⟩; exact ⟨x, _, h1, RcL_ints'.2 rfl, h3⟩
 | .sl i l, xs => by
  simp only [DV.av, DV.toD, RepC, RcD, List.length_map]
  constructor
  ·rintro ⟨x, ys, h1, h2, h3⟩; exact ⟨x, ys, h1, RcDs_map.2 h2, SlW_ok.2 h3⟩
  ·rintro ⟨x, ys, h1, h2, h3⟩; exact ⟨x, ys, h1, RcDs_map.1 h2, SlW_ok.1 h3⟩
 | .wsl i l n, xs => by
  simp only [DV.av, DV.toD, RepC, RcD, List.length_map]
  constructor
  ·rintro ⟨x, ys, h1, h2, h3⟩; exact ⟨x, ys, h1, RcDs_map.2 h2, h3⟩
  ·rintro ⟨x, ys, h1, h2, h3⟩; exact ⟨x, ys, h1, RcDs_map.1 h2, h3⟩
 | .ptr ok v, xs => by
  simp only [DV.av, DV.toD, RepC, RcD]
  constructor
  ·rintro (h | ⟨h0, ad, ys, h1, h2, h3⟩)
   ·exact .inl h
   ·exact .inr ⟨h0, ad, ys, h1, h2, DV.av_rep.1 h3⟩
  ·rintro (h | ⟨h0, ad, ys, h1, h2, h3⟩)
   ·exact .inl h
   ·exact .inr ⟨h0, ad, ys, h1, h2, DV.av_rep.2 h3⟩
 | .st l, xs => by simp only [DV.av, DV.toD, RepC, RcD]; exact DV.avs_rep
theorem DV.avs_rep {E : Emb} : ∀ {l : List DV} {xs : List Value}, RepCs E (DV.avs l) xs ↔ RcDs E (DV.toDs l) xs
 | [], xs => by simp [DV.avs, DV.toDs, RepCs, RcDs]
 | v :: l, xs => by
  simp only [DV.avs, DV.toDs, RepCs, RcDs]
  constructor
  ·rintro ⟨a, b, h1, h2, h3⟩; exact ⟨a, b, h1, DV.av_rep.1 h2, DV.avs_rep.1 h3⟩
  ·rintro ⟨a, b, h1, h2, h3⟩; exact ⟨a, b, h1, DV.av_rep.2 h2, DV.avs_rep.2 h3⟩
end
theorem RepC_open {E : Emb} {v : AV} {xs : List Value} : RepC E v.open xs ↔ RepC E v xs := by
 cases v <;> first
  | exact Iff.rfl
  | (rename_i i t; simp only [AV.open]; rw [DV.av_rep, i.view_toD]; simp only [RepC])
theorem AV.open_size (v : AV) : ∀ {E : Emb} {xs : List Value}, RepC E v xs → v.open.size = v.size := fun h => by
 rw [← RepC.length h, ← RepC.length (RepC_open.2 h)]
theorem AV.open_agg (v : AV) : v.open.isAgg = v.isAgg := by
 cases v with
 | el i t => cases i <;> rfl
 | _ => rfl
theorem like_rep {E : Emb} {a b : DT} (h : a.like b) {xs : List Value} (hr : RcD E b xs) : RcD E a xs := by
 unfold DT.like at h
 split at h
 ·simp only [RcD] at hr ⊢
  rcases hr with hr | hr
  ·exact .inl hr
  ·exact absurd hr.1 (by decide)
 ·subst h; exact hr
mutual
theorem AV.toDV_rep {E : Emb} : ∀ {v : AV} {d : DV} {xs : List Value}, v.toDV = some d → RepC E v xs → RcD E d.toD xs
 | .int .., d, xs, h, hr | .bool _, d, xs, h, hr | .u256 _, d, xs, h, hr | .str _, d, xs, h, hr => by
  simp only [AV.toDV, Option.some.injEq] at h; subst h; simpa [DV.toD, RcD, RepC] using hr
 | .el i t, d, xs, h, hr => by
  simp only [AV.toDV, Option.some.injEq] at h; subst h; rw [i.view_toD]; simpa only [RepC] using hr
 | .isl true (.int k) l, d, xs, h, hr => by
  simp only [AV.toDV, Option.some.injEq] at h; subst h; exact DV.av_rep.1 hr
 | .isl true (.d i) l, d, xs, h, hr => by
  simp only [AV.toDV, Option.some.injEq] at h; subst h; exact DV.av_rep.1 hr
 | .isw true (.int k) l n, d, xs, h, hr => by
  simp only [AV.toDV, Option.some.injEq] at h; subst h; exact DV.av_rep.1 hr
 | .isw true (.d i) l n, d, xs, h, hr => by
  simp only [AV.toDV, Option.some.injEq] at h; subst h; exact DV.av_rep.1 hr
 | .nsl (.int k), d, xs, h, hr => by
  simp only [AV.toDV, Option.some.injEq] at h; subst h
  simp only [RepC] at hr; subst hr
  exact ⟨_, rfl, none, 0, rfl, Nat.le_refl _, Nat.le_refl _, rfl⟩
 | .nsl (.d i), d, xs, h, hr => by
  simp only [AV.toDV, Option.some.injEq] at h; subst h
  simp only [RepC] at hr; subst hr
  exact ⟨_, [], rfl, rfl, none, 0, rfl, Nat.le_refl _, Nat.le_refl _, rfl⟩
 | .pimq ok v, d, xs, h, hr => by
  simp only [AV.toDV] at h
  obtain ⟨u, h1, h2⟩ := Option.bind_eq_some_iff.1 h
  cases h2
  simp only [RepC] at hr
  simp only [DV.toD, RcD]
  rcases hr with hr | ⟨h0, ad, ys, g1, g2, g3⟩
  ·exact .inl hr
  ·exact .inr ⟨h0, ad, ys, g1, g2, AV.toDV_rep h1 g3⟩
 | .pim true v, d, xs, h, hr => by
  simp only [AV.toDV] at h
  obtain ⟨u, h1, h2⟩ := Option.bind_eq_some_iff.1 h
  cases h2
  simp only [RepC] at hr
  simp only [DV.toD, RcD]
  obtain ⟨ad, ys, g1, g2, g3⟩ := hr
  exact .inr ⟨trivial, ad, ys, g1, g2, AV.toDV_rep h1 g3⟩
 | .nilp, d, xs, h, hr => by
  simp only [AV.toDV, Option.some.injEq] at h; subst h
  simp only [RepC] at hr; subst hr
  exact .inl ⟨rfl, rfl⟩
 | .st l, d, xs, h, hr => by
  simp only [AV.toDV] at h
  obtain ⟨u, h1, h2⟩ := Option.bind_eq_some_iff.1 h
  cases h2
  simp only [RepC] at hr
  simp only [DV.toD, RcD]
  exact AV.toDVs_rep h1 hr
 | .isl true .u256 _, _, _, h, _ | .isl true .u2 _, _, _, h, _ | .isl true .pt _, _, _, h, _ | .isl true .jac _, _, _, h, _ | .isl true .bytes _, _, _, h, _ | .isl false _ _, _, _, h, _ => by simp [AV.toDV] at h
 | .isw true .u256 _ _, _, _, h, _ | .isw true .u2 _ _, _, _, h, _ | .isw true .pt _ _, _, _, h, _ | .isw true .jac _ _, _, _, h, _ | .isw true .bytes _ _, _, _, h, _ | .isw false _ _ _, _, _, h, _ => by simp [AV.toDV] at h
 | .nsl .u256, _, _, h, _ | .nsl .u2, _, _, h, _ | .nsl .pt, _, _, h, _ | .nsl .jac, _, _, h, _ | .nsl .bytes, _, _, h, _ => by simp [AV.toDV] at h
 | .pim false _, _, _, h, _ | .undef, _, _, h, _ | .tup _, _, _, h, _ | .ptr .., _, _, h, _ | .sl .., _, _, h, _ | .own .., _, _, h, _ | .osl .., _, _, h, _ | .row .., _, _, h, _ | .fn .., _, _, h, _ | .ifc .., _, _, h, _ | .nili, _, _, h, _ | .arr .., _, _, h, _ => by simp [AV.toDV] at h
theorem AV.toDVs_rep {E : Emb} : ∀ {l : List AV} {d : List DV} {xs : List Value}, AV.toDVs l = some d → RepCs E l xs → RcDs E (DV.toDs d) xs
 | [], d, xs, h, hr => by simp only [AV.toDVs, Option.some.injEq] at h; subst h; simpa [DV.toDs, RcDs, RepCs] using hr
 | v :: l, d, xs, h, hr => by
  simp only [AV.toDVs] at h
  obtain ⟨u, h1, h2⟩ := Option.bind_eq_some_iff.1 h
  obtain ⟨us, h3, h4⟩ := Option.bind_eq_some_iff.1 h2
  cases h4
  simp only [RepCs] at hr
  obtain ⟨a, b, g1, g2, g3⟩ := hr
  simp only [DV.toDs, RcDs]
  exact ⟨a, b, g1, AV.toDV_rep h1 g2, AV.toDVs_rep h3 g3⟩
end
def get (v : AV) (p : List Step) : Option AV := getK v p some
def set (v : AV) (p : List Step) (u : AV) : Option AV := setK v p u some
theorem getK_eq : ∀ (p : List Step) {β : Type} (v : AV) (k : AV → Option β), getK v p k = (get v p).bind k := by
 intro p
 induction p with
 | nil => intro β v k; simp [get, getK]
 | cons s p ih =>
  intro β v k
  cases s with
  | fld i off =>
   simp only [get, getK]
   generalize v.open = v
   cases v <;> simp only [Option.bind_none]
   case st l =>
    split
    ·split
     ·rw [ih, ih _ some]; simp
     ·rfl
    ·rfl
  | idx i sz =>
   simp only [get, getK]
   generalize v.open = v
   cases v <;> simp only [Option.bind_none]
   case arr s n l =>
    split
    ·cases Nat.blt i n
     ·rfl
     ·simp only [cond_true]; rw [ih, ih _ some]; simp
    ·rfl
   case u256 x =>
    split
    ·cases Nat.blt i 4
     ·rfl
     ·simp only [cond_true]; rw [ih, ih _ some]; simp
    ·rfl
   case st l =>
    split
    ·split
     ·rw [ih, ih _ some]; simp
     ·rfl
    ·rfl
theorem setK_eq : ∀ (p : List Step) {β : Type} (v u : AV) (k : AV → Option β), setK v p u k = (set v p u).bind k := by
 intro p
 induction p with
 | nil => intro β v u k; simp only [set, setK]; split <;> simp
 | cons s p ih =>
  intro β v u k
  cases s with
  | fld i off =>
   simp only [set, setK]
   generalize v.open = v
   cases v <;> simp only [Option.bind_none]
   case st l =>
    split
    ·split
     ·rename_i w _
      rw [ih w u, ih w u (fun w' => some (AV.st (l.set i w')))]
      cases set w p u <;> simp
     ·rfl
    ·rfl
  | idx i sz =>
   simp only [set, setK]
   generalize v.open = v
   cases v <;> simp only [Option.bind_none]
   case arr s n l =>
    split
    ·cases Nat.blt i n
     ·rfl
     ·simp only [cond_true]
      conv => lhs; rw [ih (s.av (l.getD i s.dflt)) u]
      conv => rhs; rw [ih (s.av (l.getD i s.dflt)) u]
      cases set (s.av (l.getD i s.dflt)) p u with
      | none => rfl
      | some w => simp only [Option.bind_some]; cases s.de w <;> rfl
    ·rfl
   case u256 x =>
    split
    ·cases Nat.blt i 4
     ·rfl
     ·simp only [cond_true]
      split
      ·rename_i w
       cases inU64 w <;> simp
      ·rfl
    ·rfl
def gett (c : AV) (p : List Step) : Option AV := getB c p some
def sett (c : AV) (p : List Step) (u : AV) : Option AV := setB c p u some
theorem getB_eq {β : Type} (c : AV) (p : List Step) (k : AV → Option β) : getB c p k = (gett c p).bind k := by
 unfold gett getB
 split
 ·split
  ·split
   ·cases Nat.blt _ _
    ·rfl
    ·simp only [cond_true]; rw [getK_eq, getK_eq _ _ some]; simp
   ·rfl
  ·rfl
 ·rfl
 ·rfl
 ·rw [getK_eq, getK_eq _ _ some]; simp
theorem setB_eq {β : Type} (c : AV) (p : List Step) (u : AV) (k : AV → Option β) : setB c p u k = (sett c p u).bind k := by
 unfold sett setB
 split
 ·split
  ·split
   ·cases Nat.blt _ _
    ·rfl
    ·simp only [cond_true]
     conv => lhs; rw [setK_eq]
     conv => rhs; rw [setK_eq]
     cases set _ _ u with
     | none => rfl
     | some w => simp only [Option.bind_some]; split <;> rfl
   ·rfl
  ·rfl
 ·rfl
 ·rfl
 ·rw [setK_eq, setK_eq _ _ _ some]; simp
end
end Go.Sy
set_option linter.unusedVariables false
set_option linter.unusedSimpArgs false
namespace Go.Sy
open Go Go.RowKit
theorem RcL.split {E : Emb} {s : Sh} : ∀ {l : List s.T} {xs : List Value} (i : Nat), RcL E s l xs → i < l.length →
  ∃ pre ys post, xs = pre ++ ys ++ post ∧ pre.length = i * s.size ∧ Rc E s (l.getD i s.dflt) ys ∧ RcL E s (l.take i) pre ∧ RcL E s (l.drop (i + 1)) post
 | [], _, _, _, hi => by simp at hi
 | t :: l, xs, 0, ⟨a, b, h1, h2, h3⟩, _ => ⟨[], a, b, by simp [h1], by simp, by simpa using h2, by simp [RcL], by simpa using h3⟩
 | t :: l, xs, i + 1, ⟨a, b, h1, h2, h3⟩, hi => by
  obtain ⟨pre, ys, post, e, hp, hy, ht, hd⟩ := RcL.split i h3 (by simpa using hi)
  refine ⟨a ++ pre, ys, post, by simp [h1, e], ?_, by simpa using hy, ⟨a, pre, rfl, h2, ht⟩, by simpa using hd⟩
  simp [h2.length, hp, Nat.add_mul, Nat.add_comm]
theorem RcL.append {E : Emb} {s : Sh} : ∀ {l l' : List s.T} {xs ys : List Value}, RcL E s l xs → RcL E s l' ys → RcL E s (l ++ l') (xs ++ ys)
 | [], _, _, _, h, h' => by simp only [RcL] at h; subst h; simpa using h'
 | t :: l, _, _, _, ⟨a, b, h1, h2, h3⟩, h' => ⟨a, b ++ _, by simp [h1], h2, RcL.append h3 h'⟩
theorem take_len_add {α : Type} (a b : List α) (n : Nat) : (a ++ b).take (a.length + n) = a ++ b.take n := by
 rw [List.take_append, List.take_of_length_le (by omega)]; simp
theorem drop_len_add {α : Type} (a b : List α) (n : Nat) : (a ++ b).drop (a.length + n) = b.drop n := by
 rw [List.drop_append, List.drop_of_length_le (by omega)]; simp
theorem RcL.take_drop {E : Emb} {s : Sh} {l : List s.T} {xs : List Value} (i : Nat) (h : RcL E s l xs) :
  RcL E s (l.take i) (xs.take (i * s.size)) ∧ RcL E s (l.drop i) (xs.drop (i * s.size)) := by
 induction i generalizing l xs with
 | zero => simpa [RcL] using h
 | succ i ih =>
  cases l with
  | nil => simp only [RcL] at h; subst h; simp [RcL]
  | cons t l =>
   obtain ⟨a, b, rfl, h2, h3⟩ := h
   have hl := h2.length
   have e : (i + 1) * s.size = a.length + i * s.size := by rw [hl, Nat.add_mul, Nat.one_mul, Nat.add_comm]
   obtain ⟨h4, h5⟩ := ih h3
   rw [e, take_len_add, drop_len_add]
   exact ⟨⟨a, _, rfl, h2, h4⟩, h5⟩
theorem RepCs.split {E : Emb} : ∀ {l : List AV} {xs : List Value} (i : Nat) {v : AV}, RepCs E l xs → l[i]? = some v →
  ∃ pre ys post, xs = pre ++ ys ++ post ∧ pre.length = AV.sizes (l.take i) ∧ RepC E v ys ∧
   ∀ u zs, RepC E u zs → RepCs E (l.set i u) (pre ++ zs ++ post)
 | [], _, _, _, _, h => by simp at h
 | w :: l, xs, 0, v, h, hi => by
  simp only [RepCs] at h
  obtain ⟨a, b, h1, h2, h3⟩ := h
  simp at hi; subst hi
  refine ⟨[], a, b, by simp [h1], by simp [AV.sizes], h2, fun u zs hu => ?_⟩
  simp only [List.set, List.nil_append, RepCs]
  exact ⟨zs, b, rfl, hu, h3⟩
 | w :: l, xs, i + 1, v, h, hi => by
  simp only [RepCs] at h
  obtain ⟨a, b, h1, h2, h3⟩ := h
  obtain ⟨pre, ys, post, e, hp, hy, hs⟩ := RepCs.split i h3 (by simpa using hi)
  refine ⟨a ++ pre, ys, post, by simp [h1, e], ?_, hy, fun u zs hu => ?_⟩
  ·simp [RepC.length h2, hp, AV.sizes]
  ·simp only [List.set, RepCs]
   exact ⟨a, pre ++ zs ++ post, by simp, h2, hs u zs hu⟩
theorem Rc_av {E : Emb} {s : Sh} {t : s.T} {xs : List Value} (h : Rc E s t xs) : RepC E (s.av t) xs := by
 cases s with
 | int k => simpa [Sh.av, RepC, Rc] using h
 | u256 => simpa [Sh.av, RepC, Rc] using h
 | u2 =>
  simp only [Rc] at h; subst h
  simp only [Sh.av, RepC, RepCs]
  exact ⟨_, _, rfl, rfl, _, [], by simp, rfl, rfl⟩
 | pt =>
  simp only [Rc] at h; subst h
  simp only [Sh.av, RepC, RepCs]
  exact ⟨_, _, by rw [List.append_assoc], rfl, _, _, rfl, rfl, _, [], by simp, rfl, rfl⟩
 | jac =>
  simp only [Rc] at h; subst h
  simp only [Sh.av, RepC, RepCs]
  exact ⟨_, _, by rw [List.append_assoc], rfl, _, _, rfl, rfl, _, [], by simp, rfl, rfl⟩
 | bytes =>
  obtain ⟨x, rfl, h⟩ := h
  simp only [Sh.av, RepC]
  refine ⟨x, _, rfl, ?_, h⟩
  generalize (t : List Int) = l at *
  clear h
  induction l with
  | nil => rfl
  | cons a l ih => exact ⟨[_], _, rfl, rfl, ih⟩
 | d i =>
  simp only [Rc] at h
  cases i <;> simpa [Sh.av, DSh.el, RepC, DSh.toD, RcD] using h
theorem RcL_ints {E : Emb} {k : IntKind} : ∀ {l : List Int} {xs : List Value}, RcL E (.int k) l xs ↔ xs = l.map (.int k)
 | [], xs => by simp [RcL]
 | a :: l, xs => by
  simp only [RcL, Rc, List.map_cons]
  constructor
  ·rintro ⟨a, b, rfl, rfl, h⟩; rw [RcL_ints.1 h]; rfl
  ·rintro rfl; exact ⟨[_], _, rfl, rfl, RcL_ints.2 rfl⟩
theorem Rc_de {E : Emb} {s : Sh} {v : AV} {t : s.T} {xs : List Value} (hd : s.de v = some t) (h : RepC E v xs) : Rc E s t xs := by
 cases s with
 | int k =>
  cases v <;> simp [Sh.de] at hd
  obtain ⟨rfl, rfl⟩ := hd
  simpa [Rc, RepC] using h
 | u256 =>
  cases v <;> simp [Sh.de] at hd
  subst hd
  simpa [Rc, RepC] using h
 | u2 =>
  match v, hd with
  | .st [.u256 x, .u256 y], hd =>
   simp only [Sh.de, Option.some.injEq] at hd
   subst hd
   simp only [RepC, RepCs] at h
   obtain ⟨a, _, rfl, rfl, b, _, rfl, rfl, rfl⟩ := h
   simp [Rc]
 | pt =>
  match v, hd with
  | .st [.u256 x, .u256 y, .bool b], hd =>
   simp only [Sh.de, Option.some.injEq] at hd
   subst hd
   simp only [RepC, RepCs] at h
   obtain ⟨a, _, rfl, rfl, b, _, rfl, rfl, c, _, rfl, rfl, rfl⟩ := h
   simp [Rc]
 | jac =>
  match v, hd with
  | .st [.u256 x, .u256 y, .u256 b], hd =>
   simp only [Sh.de, Option.some.injEq] at hd
   subst hd
   simp only [RepC, RepCs] at h
   obtain ⟨a, _, rfl, rfl, b, _, rfl, rfl, c, _, rfl, rfl, rfl⟩ := h
   simp [Rc]
 | bytes =>
  match v, hd with
  | .isl false (.int .u8) l, hd =>
   simp only [Sh.de, Option.some.injEq] at hd
   subst hd
   simp only [RepC] at h
   obtain ⟨x, ys, rfl, h1, h2⟩ := h
   rw [RcL_ints] at h1
   subst h1
   exact ⟨x, rfl, h2⟩
  | .nsl (.int .u8), hd =>
   simp only [Sh.de, Option.some.injEq] at hd
   subst hd
   simp only [RepC] at h
   subst h
   exact ⟨_, rfl, none, 0, 0, rfl, rfl, Nat.le_refl _, rfl⟩
 | d i =>
  have gen : ∀ {v : AV}, (AV.toDV v).bind i.make = some t → RepC E v xs → RcD E (i.toD t) xs := fun hd h => by
   obtain ⟨d, h1, h2⟩ := Option.bind_eq_some_iff.1 hd
   exact like_rep (DSh.make_toD h2) (AV.toDV_rep h1 h)
  simp only [Rc]
  cases v with
  | el j u =>
   simp only [Sh.de] at hd
   obtain ⟨e, h2⟩ := DSh.cast_eq hd
   subst e; subst h2
   simpa only [RepC] using h
  | _ => simp only [Sh.de] at hd; exact gen hd h
theorem pow64 (i : Nat) : 2 ^ (64 * (i + 1)) = 18446744073709551616 * 2 ^ (64 * i) := by
 rw [show 64 * (i + 1) = 64 + 64 * i by omega, Nat.pow_add]
theorem limb_nat (x i : Nat) : limb x i = ((x / 2 ^ (64 * i) % 18446744073709551616 : Nat) : Int) := rfl
theorem setLimb_limb {x i j : Nat} {v : Int} (h : inU64 v = true) (hi : i < 4) (hj : j < 4) : limb (setLimb x i v) j = if i = j then v else limb x j := by
 simp only [inU64, Bool.and_eq_true, decide_eq_true_eq] at h
 obtain ⟨n, rfl⟩ := Int.eq_ofNat_of_zero_le h.1
 have hn : n < 18446744073709551616 := by omega
 have e : ((n : Int) % 18446744073709551616).toNat = n := by omega
 unfold setLimb limb
 rw [e]
 have h4 : i = 0 ∨ i = 1 ∨ i = 2 ∨ i = 3 := by omega
 have h5 : j = 0 ∨ j = 1 ∨ j = 2 ∨ j = 3 := by omega
 rcases h4 with rfl | rfl | rfl | rfl <;> rcases h5 with rfl | rfl | rfl | rfl <;> simp <;> omega
theorem ucells_get (x : Nat) {i : Nat} (h : i < 4) : ∃ pre post, ucells x = pre ++ [Value.int .u64 (limb x i)] ++ post ∧ pre.length = i ∧
  ∀ v, inU64 v = true → ucells (setLimb x i v) = pre ++ [Value.int .u64 v] ++ post := by
 have h4 : i = 0 ∨ i = 1 ∨ i = 2 ∨ i = 3 := by omega
 rcases h4 with rfl | rfl | rfl | rfl
 ·exact ⟨[], [.int .u64 (limb x 1), .int .u64 (limb x 2), .int .u64 (limb x 3)], rfl, rfl, fun v hv => by
   simp [ucells, limbs, setLimb_limb hv]⟩
 ·exact ⟨[.int .u64 (limb x 0)], [.int .u64 (limb x 2), .int .u64 (limb x 3)], rfl, rfl, fun v hv => by
   simp [ucells, limbs, setLimb_limb hv]⟩
 ·exact ⟨[.int .u64 (limb x 0), .int .u64 (limb x 1)], [.int .u64 (limb x 3)], rfl, rfl, fun v hv => by
   simp [ucells, limbs, setLimb_limb hv]⟩
 ·exact ⟨[.int .u64 (limb x 0), .int .u64 (limb x 1), .int .u64 (limb x 2)], [], rfl, rfl, fun v hv => by
   simp [ucells, limbs, setLimb_limb hv]⟩
theorem get_named {ok : Nat → Bool} : ∀ (p : List Step) {v u : AV}, get v p = some u → v.named ok = true → u.named ok = true := by
 intro p
 induction p with
 | nil => intro v u h hn; simp [get, getK] at h; subst h; exact hn
 | cons s p ih =>
  intro v u h hn
  cases s with
  | fld i off =>
   replace hn := AV.open_named hn
   simp only [get, getK] at h
   generalize v.open = v at h hn
   cases v <;> dsimp only at h <;> (try cases h)
   case st l =>
    split at h
    ·split at h
     ·rename_i w hw
      exact ih h (AV.nameds_get (by simpa [AV.named] using hn) hw)
     ·cases h
    ·cases h
  | idx i sz =>
   replace hn := AV.open_named hn
   simp only [get, getK] at h
   generalize v.open = v at h hn
   cases v <;> dsimp only at h <;> (try cases h)
   case arr s n l =>
    split at h
    ·cases hb : Nat.blt i n
     ·rw [hb] at h; cases h
     ·rw [hb] at h; exact ih h (Sh.av_named _ _)
    ·cases h
   case u256 x =>
    split at h
    ·cases hb : Nat.blt i 4
     ·rw [hb] at h; cases h
     ·rw [hb] at h; exact ih h (by simp [AV.named])
    ·cases h
   case st l =>
    split at h
    ·split at h
     ·rename_i w hw
      exact ih h (AV.nameds_get (by simpa [AV.named] using hn) hw)
     ·cases h
    ·cases h
theorem get_sound {E : Emb} : ∀ (p : List Step) {v u : AV} {xs : List Value}, get v p = some u → RepC E v xs →
  ∃ pre ys post, xs = pre ++ ys ++ post ∧ pre.length = offs p ∧ RepC E u ys := by
 intro p
 induction p with
 | nil => intro v u xs h hr; simp [get, getK] at h; subst h; exact ⟨[], xs, [], by simp, rfl, hr⟩
 | cons s p ih =>
  intro v u xs h hr
  cases s with
  | fld i off =>
   replace hr := RepC_open.2 hr
   simp only [get, getK] at h
   generalize v.open = v at h hr
   cases v <;> dsimp only at h <;> (try cases h)
   case st l =>
    split at h
    ·rename_i hoff
     split at h
     ·rename_i w hw
      simp only [RepC] at hr
      obtain ⟨pre, ys, post, e, hp, hy, _⟩ := RepCs.split i hr hw
      obtain ⟨pre', ys', post', e', hp', hy'⟩ := ih h hy
      exact ⟨pre ++ pre', ys', post' ++ post, by simp [e, e'], by simp [hp, hp', hoff, offs], hy'⟩
     ·cases h
    ·cases h
  | idx i sz =>
   replace hr := RepC_open.2 hr
   simp only [get, getK] at h
   generalize v.open = v at h hr
   cases v <;> dsimp only at h <;> (try cases h)
   case arr s n l =>
    split at h
    ·rename_i hsz
     cases hb : Nat.blt i n
     ·rw [hb] at h; cases h
     ·rw [hb] at h
      simp only [cond_true] at h
      have hi : i < n := by simpa using hb
      simp only [RepC] at hr
      obtain ⟨pre, ys, post, e, hp, hy, _⟩ := RcL.split i hr.2 (by rw [hr.1]; exact hi)
      obtain ⟨pre', ys', post', e', hp', hy'⟩ := ih h (Rc_av hy)
      exact ⟨pre ++ pre', ys', post' ++ post, by simp [e, e'], by simp [hp, hp', hsz, offs], hy'⟩
    ·cases h
   case u256 x =>
    split at h
    ·rename_i hsz
     cases hb : Nat.blt i 4
     ·rw [hb] at h; cases h
     ·rw [hb] at h
      simp only [cond_true] at h
      have hi : i < 4 := by simpa using hb
      simp only [RepC] at hr
      obtain ⟨pre, post, e, hp, _⟩ := ucells_get x hi
      obtain ⟨pre', ys', post', e', hp', hy'⟩ := ih (xs := [.int .u64 (limb x i)]) h (by simp [RepC])
      exact ⟨pre ++ pre', ys', post' ++ post, by rw [hr, e, e']; simp, by simp [hp, hp', hsz, offs], hy'⟩
    ·cases h
   case st l =>
    split at h
    ·rename_i hoff
     split at h
     ·rename_i w hw
      simp only [RepC] at hr
      obtain ⟨pre, ys, post, e, hp, hy, _⟩ := RepCs.split i hr hw
      obtain ⟨pre', ys', post', e', hp', hy'⟩ := ih h hy
      exact ⟨pre ++ pre', ys', post' ++ post, by simp [e, e'], by simp [hp, hp', hoff, offs], hy'⟩
     ·cases h
    ·cases h
theorem set_sound {E : Emb} : ∀ (p : List Step) {v u v' : AV} {xs zs : List Value}, set v p u = some v' → RepC E v xs → RepC E u zs →
  ∃ pre ys post, xs = pre ++ ys ++ post ∧ pre.length = offs p ∧ ys.length = zs.length ∧ RepC E v' (pre ++ zs ++ post) ∧ v'.size = v.size ∧ v'.isAgg = v.isAgg := by
 intro p
 induction p with
 | nil =>
  intro v u v' xs zs h hr hu
  simp only [set, setK] at h
  split at h
  ·rename_i hs
   simp at h; subst h
   exact ⟨[], xs, [], by simp, rfl, by rw [hr.length, hu.length, hs.1], by simpa using hu, hs.1.symm, hs.2.symm⟩
  ·cases h
 | cons s p ih =>
  intro v u v' xs zs h hr hu
  cases s with
  | fld i off =>
   have hsz0 := AV.open_size v hr
   have hag0 := AV.open_agg v
   replace hr := RepC_open.2 hr
   simp only [set, setK] at h
   rw [← hsz0, ← hag0]
   clear hsz0 hag0
   generalize v.open = v at h hr
   cases v <;> dsimp only at h <;> (try cases h)
   case st l =>
    split at h
    ·rename_i hoff
     split at h
     ·rename_i w hw
      rw [setK_eq] at h
      cases hs : set w p u with
      | none => rw [hs] at h; cases h
      | some w' =>
       rw [hs] at h
       simp at h; subst h
       simp only [RepC] at hr
       obtain ⟨pre, ys, post, e, hp, hy, hset⟩ := RepCs.split i hr hw
       obtain ⟨pre', ys', post', e', hp', hl', hy', hz', _⟩ := ih hs hy hu
       refine ⟨pre ++ pre', ys', post' ++ post, by simp [e, e'], by simp [hp, hp', hoff, offs], hl', ?_, ?_, rfl⟩
       ·have := hset w' _ hy'
        simpa [RepC] using this
       ·have hi : i < l.length := by
         rcases Nat.lt_or_ge i l.length with h | h
         ·exact h
         ·simp [List.getElem?_eq_none h] at hw
        simp only [AV.size]
        have h1 := RepCs.length (hset w' _ hy')
        have h2 := RepCs.length hr
        rw [← h1, ← h2, e, e']
        simp [hl']
     ·cases h
    ·cases h
  | idx i sz =>
   have hsz0 := AV.open_size v hr
   have hag0 := AV.open_agg v
   replace hr := RepC_open.2 hr
   simp only [set, setK] at h
   rw [← hsz0, ← hag0]
   clear hsz0 hag0
   generalize v.open = v at h hr
   cases v <;> dsimp only at h <;> (try cases h)
   case arr s n l =>
    split at h
    ·rename_i hsz
     cases hb : Nat.blt i n
     ·rw [hb] at h; cases h
     ·rw [hb] at h
      simp only [cond_true] at h
      have hi : i < n := by simpa using hb
      rw [setK_eq] at h
      cases hs : set (s.av (l.getD i s.dflt)) p u with
      | none => rw [hs] at h; cases h
      | some w' =>
       rw [hs] at h
       simp only [Option.bind_some] at h
       cases hd : s.de w' with
       | none => rw [hd] at h; cases h
       | some t =>
        rw [hd] at h
        simp at h; subst h
        simp only [RepC] at hr
        obtain ⟨pre, ys, post, e, hp, hy, ht, hdr⟩ := RcL.split i hr.2 (by rw [hr.1]; exact hi)
        obtain ⟨pre', ys', post', e', hp', hl', hy', hz', _⟩ := ih hs (Rc_av hy) hu
        refine ⟨pre ++ pre', ys', post' ++ post, by simp [e, e'], by simp [hp, hp', hsz, offs], hl', ?_, rfl, rfl⟩
        simp only [RepC]
        refine ⟨by simp [hr.1], ?_⟩
        have : l.set i t = l.take i ++ t :: l.drop (i + 1) := by
         rw [List.set_eq_take_append_cons_drop, if_pos (by rw [hr.1]; exact hi)]
        rw [this]
        have h3 : RcL E s (t :: l.drop (i + 1)) (pre' ++ zs ++ post' ++ post) := ⟨pre' ++ zs ++ post', post, rfl, Rc_de hd hy', hdr⟩
        simpa using ht.append h3
    ·cases h
   case u256 x =>
    split at h
    ·rename_i hsz
     cases hb : Nat.blt i 4
     ·rw [hb] at h; cases h
     ·rw [hb] at h
      simp only [cond_true] at h
      have hi : i < 4 := by simpa using hb
      split at h
      ·rename_i w
       cases hw : inU64 w
       ·rw [hw] at h; cases h
       ·rw [hw] at h
        simp at h; subst h
        simp only [RepC] at hr hu
        obtain ⟨pre, post, e, hp, hset⟩ := ucells_get x hi
        refine ⟨pre, _, post, by rw [hr, e], by simp [hp, hsz, offs], by simp [hu], ?_, rfl, rfl⟩
        simp only [RepC]
        rw [hset w hw, hu]
      ·cases h
    ·cases h
theorem set_named {ok : Nat → Bool} : ∀ (p : List Step) {v u v' : AV}, set v p u = some v' → v.named ok = true → u.named ok = true → v'.named ok = true := by
 intro p
 induction p with
 | nil =>
  intro v u v' h hn hu
  simp only [set, setK] at h
  split at h
  ·simp at h; subst h; exact hu
  ·cases h
 | cons s p ih =>
  intro v u v' h hn hu
  cases s with
  | fld i off =>
   replace hn := AV.open_named hn
   simp only [set, setK] at h
   generalize v.open = v at h hn
   cases v <;> dsimp only at h <;> (try cases h)
   case st l =>
    split at h
    ·split at h
     ·rename_i w hw
      rw [setK_eq] at h
      cases hs : set w p u with
      | none => rw [hs] at h; cases h
      | some w' =>
       rw [hs] at h
       simp at h; subst h
       simp only [AV.named] at hn ⊢
       exact AV.nameds_set hn (ih hs (AV.nameds_get hn hw) hu)
     ·cases h
    ·cases h
  | idx i sz =>
   replace hn := AV.open_named hn
   simp only [set, setK] at h
   generalize v.open = v at h hn
   cases v <;> dsimp only at h <;> (try cases h)
   case arr s n l =>
    split at h
    ·cases hb : Nat.blt i n
     ·rw [hb] at h; cases h
     ·rw [hb] at h
      simp only [cond_true] at h
      rw [setK_eq] at h
      cases hs : set (s.av (l.getD i s.dflt)) p u with
      | none => rw [hs] at h; cases h
      | some w' =>
       rw [hs] at h
       simp only [Option.bind_some] at h
       cases hd : s.de w' with
       | none => rw [hd] at h; cases h
       | some t => rw [hd] at h; simp at h; subst h; simp [AV.named]
    ·cases h
   case u256 x =>
    split at h
    ·cases hb : Nat.blt i 4
     ·rw [hb] at h; cases h
     ·rw [hb] at h
      simp only [cond_true] at h
      split at h
      ·rename_i w
       cases hw : inU64 w
       ·rw [hw] at h; cases h
       ·rw [hw] at h; simp at h; subst h; simp [AV.named]
      ·cases h
    ·cases h
def RepR (E : Emb) (c : AV) (xs : List Value) : Prop :=
 match c with
 | .row s l => ∃ ys zs, xs = ys ++ zs ∧ RcL E s l ys ∧ ∀ z ∈ zs, z.oneCell' = true
 | c => RepC E c xs
theorem RepR.of {E : Emb} {c : AV} {xs : List Value} (h : RepC E c xs) : RepR E c xs := by
 cases c <;> first | exact h | (simp only [RepC] at h)
theorem RepR.mono {E E' : Emb} {ok : Nat → Bool} (h : E.Le E' ok) {c : AV} {xs : List Value} (hn : c.named ok = true) (hr : RepR E c xs) : RepR E' c xs := by
 cases c
 case row s l => obtain ⟨ys, zs, e, h1, h2⟩ := hr; exact ⟨ys, zs, e, h1.mono h, h2⟩
 all_goals exact RepC.mono h hn hr
theorem gett_named {ok : Nat → Bool} {p : List Step} {v u : AV} (h : gett v p = some u) (hn : v.named ok = true) : u.named ok = true := by
 unfold gett getB at h
 split at h
 ·split at h
  ·split at h
   ·rename_i s l _ i sz q _
    generalize Nat.blt i _ = b at h
    cases b
    ·cases h
    ·exact get_named q h (Sh.av_named _ _)
   ·cases h
  ·cases h
 ·cases h
 ·cases h
 ·exact get_named p h hn
theorem gett_sound {E : Emb} {p : List Step} {v u : AV} {xs : List Value} (h : gett v p = some u) (hr : RepR E v xs) :
  ∃ pre ys post, xs = pre ++ ys ++ post ∧ pre.length = offs p ∧ RepC E u ys := by
 unfold gett getB at h
 split at h
 ·split at h
  ·split at h
   ·rename_i s l _ i sz q hsz
    cases hb : Nat.blt i l.length
    ·rw [hb] at h; cases h
    ·rw [hb] at h
     simp only [cond_true] at h
     obtain ⟨as, zs, e, h1, _⟩ := hr
     have hi : i < l.length := by simpa using hb
     obtain ⟨pre, ys, post, e', hp, hy, _⟩ := RcL.split i h1 hi
     obtain ⟨pre', ys', post', e'', hp', hy'⟩ := get_sound q h (Rc_av hy)
     exact ⟨pre ++ pre', ys', post' ++ post ++ zs, by simp [e, e', e''], by simp [hp, hp', hsz, offs], hy'⟩
   ·cases h
  ·cases h
 ·cases h
 ·cases h
 ·rename_i hrow _ _
  have : RepC E v xs := by
   cases v <;> first | exact hr | exact absurd rfl (hrow _ _)
  exact get_sound p h this
theorem oneCell_append {a b : List Value} (h : ∀ z ∈ a ++ b, z.oneCell' = true) : (∀ z ∈ a, z.oneCell' = true) ∧ ∀ z ∈ b, z.oneCell' = true :=
 ⟨fun z hz => h z (List.mem_append_left _ hz), fun z hz => h z (List.mem_append_right _ hz)⟩
def AV.rowLen : AV → Option Nat
 | .row _ l => some l.length
 | _ => none
theorem sett_sound {E : Emb} {p : List Step} {v u v' : AV} {xs zs : List Value} (h : sett v p u = some v') (hr : RepR E v xs) (hu : RepC E u zs) :
  ∃ pre ys post, xs = pre ++ ys ++ post ∧ pre.length = offs p ∧ ys.length = zs.length ∧ RepR E v' (pre ++ zs ++ post) ∧ v'.rowLen = v.rowLen ∧ v'.live = true := by
 unfold sett setB at h
 split at h
 ·split at h
  ·split at h
   ·rename_i s l _ i sz q hsz
    cases hb : Nat.blt i l.length
    ·rw [hb] at h; cases h
    ·rw [hb] at h
     simp only [cond_true] at h
     obtain ⟨as, bs, e, h1, ho⟩ := hr
     have hi : i < l.length := by simpa using hb
     obtain ⟨pre, ys, post, e', hp, hy, ht, hdr⟩ := RcL.split i h1 hi
     rw [setK_eq] at h
     cases hs : set (s.av (l.getD i s.dflt)) q u with
     | none => rw [hs] at h; cases h
     | some w' =>
      rw [hs] at h
      simp only [Option.bind_some] at h
      cases hd : s.de w' with
      | none => rw [hd] at h; cases h
      | some t =>
       rw [hd] at h
       simp at h; subst h
       obtain ⟨pre', ys', post', e'', hp', hl', hy', hz', _⟩ := set_sound q hs (Rc_av hy) hu
       refine ⟨pre ++ pre', ys', post' ++ post ++ bs, by simp [e, e', e''], by simp [hp, hp', hsz, offs], hl', ?_, by simp [AV.rowLen], rfl⟩
       refine ⟨pre ++ (pre' ++ zs ++ post') ++ post, bs, by simp, ?_, ho⟩
       have : l.set i t = l.take i ++ t :: l.drop (i + 1) := by
        rw [List.set_eq_take_append_cons_drop, if_pos hi]
       rw [this]
       have h3 : RcL E s (t :: l.drop (i + 1)) (pre' ++ zs ++ post' ++ post) := ⟨pre' ++ zs ++ post', post, rfl, Rc_de hd hy', hdr⟩
       simpa using ht.append h3
   ·cases h
  ·cases h
 ·cases h
 ·cases h
 ·rename_i hrow hund _
  have hv : RepC E v xs := by
   cases v <;> first | exact hr | exact absurd rfl (hrow _ _)
  obtain ⟨pre, ys, post, e1, e2, e3, e4, _, _⟩ := set_sound p h hv hu
  refine ⟨pre, ys, post, e1, e2, e3, RepR.of e4, ?_, ?_⟩
  ·have a1 : v.rowLen = none := by cases v <;> first | rfl | exact absurd rfl (hrow _ _)
   have a2 : v'.rowLen = none := by cases v' <;> first | rfl | (simp only [RepC] at e4)
   rw [a1, a2]
  ·cases v' <;> first | rfl | (simp only [RepC] at e4)
theorem sett_named {ok : Nat → Bool} {p : List Step} {v u v' : AV} (h : sett v p u = some v') (hn : v.named ok = true) (hu : u.named ok = true) : v'.named ok = true := by
 unfold sett setB at h
 split at h
 ·split at h
  ·split at h
   ·rename_i s l _ i sz q hsz
    generalize Nat.blt i _ = b at h
    cases b
    ·cases h
    ·simp only [cond_true] at h
     rw [setK_eq] at h
     cases hs : set (s.av (l.getD i s.dflt)) q u with
     | none => rw [hs] at h; cases h
     | some w' =>
      rw [hs] at h
      simp only [Option.bind_some] at h
      cases hd : s.de w' with
      | none => rw [hd] at h; cases h
      | some t => rw [hd] at h; simp at h; subst h; simp [AV.named]
   ·cases h
  ·cases h
 ·cases h
 ·cases h
 ·exact set_named p h hn hu
end Go.Sy
