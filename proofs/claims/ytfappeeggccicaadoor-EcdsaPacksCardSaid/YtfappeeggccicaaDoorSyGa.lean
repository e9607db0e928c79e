/- Numbers modulo the prime, as a field; polynomials over it that the kernel multiplies out. -/
import Derived.Test.YtfappeeggccicaaDoorSyMa2
set_option linter.unusedVariables false
set_option linter.unusedSimpArgs false
noncomputable section
namespace Go.Sy
open Go
def qP : Nat := 115792089237316195423570985008687907853269984665640564039457584007908834671663
instance : NeZero qP := ⟨by decide⟩
theorem qP_pos : 0 < qP := by decide
abbrev FP := Fin qP
def toF (n : Nat) : FP := ⟨n % qP, Nat.mod_lt _ qP_pos⟩
structure Rg (α : Type) where
 num : Nat → α
 add : α → α → α
 mul : α → α → α
 isZ : α → Bool
structure Rg.Ok {α : Type} (r : Rg α) (ev : α → FP) : Prop where
 num : ∀ n, ev (r.num n) = toF n
 add : ∀ a b, ev (r.add a b) = ev a + ev b
 mul : ∀ a b, ev (r.mul a b) = ev a * ev b
 isZ : ∀ a, r.isZ a = true → ev a = 0
def rgN : Rg Nat := { num := fun n => n % qP, add := fun a b => (a + b) % qP, mul := fun a b => a * b % qP, isZ := fun a => Nat.beq a 0 }
section poly
variable {α : Type} (r : Rg α)
def pAdd (p : List α) : List α → List α :=
 List.rec (motive := fun _ => List α → List α) (fun q => q) (fun a t ih q => List.casesOn (motive := fun _ => List α) q (a :: t) (fun b u => r.add a b :: ih u)) p
def pMap (f : α → α) (q : List α) : List α := List.rec (motive := fun _ => List α) [] (fun a _ ih => f a :: ih) q
def pScale (a : α) (q : List α) : List α := Bool.rec (motive := fun _ => List α) (pMap (r.mul a) q) [] (r.isZ a)
def pShift (u : List α) : List α := List.casesOn (motive := fun _ => List α) u [] (fun b u => r.num 0 :: b :: u)
def pMul (p q : List α) : List α := List.rec (motive := fun _ => List α) [] (fun a _ ih => pAdd r (pScale r a q) (pShift r ih)) p
def pAll (l : List α) : Bool := List.rec (motive := fun _ => Bool) true (fun a _ ih => Bool.rec (motive := fun _ => Bool) false ih (r.isZ a)) l
def rgP : Rg (List α) := { num := fun n => [r.num n], add := pAdd r, mul := pMul r, isZ := pAll r }
end poly
def rgQ {α : Type} (r : Rg α) (c b : α) : Rg (α × α) :=
 { num := fun n => (r.num n, r.num 0), add := fun p q => (r.add p.1 q.1, r.add p.2 q.2), mul := fun p q => (r.add (r.mul p.1 q.1) (r.mul (r.mul p.2 q.2) c), r.add (r.add (r.mul p.1 q.2) (r.mul p.2 q.1)) (r.mul (r.mul p.2 q.2) b)), isZ := fun p => r.isZ p.1 && r.isZ p.2 }
end Go.Sy
set_option linter.unusedVariables false
set_option linter.unusedSimpArgs false
namespace Go.Sy
open Go
def vP {α : Type} (r : Rg α) : List α := [r.num 0, r.num 1]
def lQ {α : Type} (r : Rg α) (a : α) : α × α := (a, r.num 0)
def rhs {α : Type} (r : Rg α) (x : α) : α := r.add (r.mul (r.mul x x) x) (r.num 7)
def t1 : Rg (List Nat) := rgP rgN
def t2 : Rg (List (List Nat)) := rgP t1
def t3 : Rg (List (List (List Nat))) := rgP t2
def x1T : List (List (List Nat)) := [[vP rgN]]
def x2T : List (List (List Nat)) := [vP t1]
def x3T : List (List (List Nat)) := vP t2
def q1 : Rg (List (List (List Nat)) × List (List (List Nat))) := rgQ t3 (rhs t3 x1T) (t3.num 0)
def q2 := rgQ q1 (lQ t3 (rhs t3 x2T)) (q1.num 0)
def q3 := rgQ q2 (lQ q1 (lQ t3 (rhs t3 x3T))) (q2.num 0)
def l3 (a : List (List (List Nat))) := lQ q2 (lQ q1 (lQ t3 a))
abbrev E1 := List (List (List Nat))
abbrev E3 := ((E1 × E1) × (E1 × E1)) × ((E1 × E1) × (E1 × E1))
end Go.Sy
