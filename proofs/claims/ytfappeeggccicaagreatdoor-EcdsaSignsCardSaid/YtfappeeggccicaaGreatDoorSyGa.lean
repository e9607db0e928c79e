/- Numbers modulo the prime, as a field; polynomials over it that the kernel multiplies out. -/
import Derived.Test.YtfappeeggccicaaGreatDoorSyMa2
set_option linter.unusedVariables false
set_option linter.unusedSimpArgs false
noncomputable section
namespace Go.Sy
open Go
def qP : Nat := 115792089237316195423570985008687907853269984665640564039457584007908834671663
theorem qP_prime : PrimeN qP := prime_p
instance : NeZero qP := ⟨by decide⟩
theorem qP_pos : 0 < qP := by decide
abbrev FP := Fin qP
theorem FP.ext {a b : FP} (h : a.val = b.val) : a = b := Fin.ext h
def toF (n : Nat) : FP := ⟨n % qP, Nat.mod_lt _ qP_pos⟩
theorem toF_mod (n : Nat) : toF (n % qP) = toF n := FP.ext (Nat.mod_mod _ _)
theorem toF_add (a b : Nat) : toF (a + b) = toF a + toF b := FP.ext (Nat.add_mod _ _ _)
theorem toF_mul (a b : Nat) : toF (a * b) = toF a * toF b := FP.ext (Nat.mul_mod _ _ _)
theorem toF_inj {a b : Nat} (ha : a < qP) (hb : b < qP) (h : toF a = toF b) : a = b := by
 have := congrArg Fin.val h
 simp only [toF, Nat.mod_eq_of_lt ha, Nat.mod_eq_of_lt hb] at this
 exact this
theorem f_add_comm (a b : FP) : a + b = b + a := FP.ext (by show (a.val + b.val) % qP = (b.val + a.val) % qP; rw [Nat.add_comm])
theorem f_add_assoc (a b c : FP) : a + b + c = a + (b + c) := FP.ext (by
 show ((a.val + b.val) % qP + c.val) % qP = (a.val + (b.val + c.val) % qP) % qP
 rw [Nat.mod_add_mod, Nat.add_mod_mod, Nat.add_assoc])
theorem f_mul_comm (a b : FP) : a * b = b * a := FP.ext (by show a.val * b.val % qP = b.val * a.val % qP; rw [Nat.mul_comm])
theorem f_mul_assoc (a b c : FP) : a * b * c = a * (b * c) := FP.ext (by
 show (a.val * b.val % qP) * c.val % qP = a.val * (b.val * c.val % qP) % qP
 rw [Nat.mod_mul_mod, Nat.mul_mod_mod, Nat.mul_assoc])
theorem f_mul_add (a b c : FP) : a * (b + c) = a * b + a * c := FP.ext (by
 show a.val * ((b.val + c.val) % qP) % qP = (a.val * b.val % qP + a.val * c.val % qP) % qP
 rw [Nat.mul_mod_mod, Nat.mul_add, ← Nat.add_mod])
theorem f_zero_add (a : FP) : 0 + a = a := FP.ext (by show (0 + a.val) % qP = a.val; rw [Nat.zero_add, Nat.mod_eq_of_lt a.isLt])
theorem f_one_mul (a : FP) : 1 * a = a := FP.ext (by
 show (1 % qP) * a.val % qP = a.val
 rw [show 1 % qP = 1 by decide, Nat.one_mul, Nat.mod_eq_of_lt a.isLt])
theorem f_zero_mul (a : FP) : 0 * a = 0 := FP.ext (by show 0 * a.val % qP = 0; rw [Nat.zero_mul, Nat.zero_mod])
theorem f_add_mul (a b c : FP) : (a + b) * c = a * c + b * c := by rw [f_mul_comm, f_mul_add, f_mul_comm c a, f_mul_comm c b]
theorem f_add_zero (a : FP) : a + 0 = a := by rw [f_add_comm, f_zero_add]
theorem f_mul_zero (a : FP) : a * 0 = 0 := by rw [f_mul_comm, f_zero_mul]
theorem f_mul_one (a : FP) : a * 1 = a := by rw [f_mul_comm, f_one_mul]
theorem f_eq_zero {a b : FP} (h : a * b = 0) : a = 0 ∨ b = 0 := by
 have h1 : a.val * b.val % qP = 0 := congrArg Fin.val h
 rcases qP_prime.euclid (Nat.dvd_of_mod_eq_zero h1) with h2 | h2
 ·left; exact FP.ext (by
   rcases Nat.eq_zero_or_pos a.val with h3 | h3
   ·rw [h3]; rfl
   ·have := Nat.le_of_dvd h3 h2; have := a.isLt; omega)
 ·right; exact FP.ext (by
   rcases Nat.eq_zero_or_pos b.val with h3 | h3
   ·rw [h3]; rfl
   ·have := Nat.le_of_dvd h3 h2; have := b.isLt; omega)
def invF (a : FP) : FP := toF (a.val ^ (qP - 2))
theorem f_mul_inv {a : FP} (h : a ≠ 0) : a * invF a = 1 := by
 apply FP.ext
 show a.val * (a.val ^ (qP - 2) % qP) % qP = 1 % qP
 have h1 : ¬ qP ∣ a.val := fun hd => h (FP.ext (by
  rcases Nat.eq_zero_or_pos a.val with h3 | h3
  ·rw [h3]; rfl
  ·have := Nat.le_of_dvd h3 hd; have := a.isLt; omega))
 have h2 : qP - 2 + 1 = qP - 1 := by decide
 rw [Nat.mul_mod_mod, ← Nat.pow_succ', show (qP - 2).succ = qP - 1 from h2, qP_prime.fermat h1]
 decide
structure Rg (α : Type) where
 num : Nat → α
 add : α → α → α
 mul : α → α → α
 isZ : α → Bool
structure Rg.Ok {α : Type} (r : Rg α) (ev : α → FP) : Prop where
 num : ∀ n, ev (r.num n) = toF n
 add : ∀ a b, ev (r.add a b) = ev a + ev b
 mul : ∀ a b, ev (r.mul a b) = ev a * ev b
 isZ : ∀ a, r.isZ a = true → ev a = 0
def rgN : Rg Nat := { num := fun n => n % qP, add := fun a b => (a + b) % qP, mul := fun a b => a * b % qP, isZ := fun a => Nat.beq a 0 }
theorem rgN_ok : rgN.Ok toF where
 num := fun n => toF_mod n
 add := fun a b => by show toF ((a + b) % qP) = _; rw [toF_mod, toF_add]
 mul := fun a b => by show toF (a * b % qP) = _; rw [toF_mod, toF_mul]
 isZ := fun a h => by rw [Nat.eq_of_beq_eq_true h]; rfl
section poly
variable {α : Type} (r : Rg α)
def pAdd (p : List α) : List α → List α :=
 List.rec (motive := fun _ => List α → List α) (fun q => q) (fun a t ih q => List.casesOn (motive := fun _ => List α) q (a :: t) (fun b u => r.add a b :: ih u)) p
def pMap (f : α → α) (q : List α) : List α := List.rec (motive := fun _ => List α) [] (fun a _ ih => f a :: ih) q
def pScale (a : α) (q : List α) : List α := Bool.rec (motive := fun _ => List α) (pMap (r.mul a) q) [] (r.isZ a)
def pShift (u : List α) : List α := List.casesOn (motive := fun _ => List α) u [] (fun b u => r.num 0 :: b :: u)
def pMul (p q : List α) : List α := List.rec (motive := fun _ => List α) [] (fun a _ ih => pAdd r (pScale r a q) (pShift r ih)) p
def pAll (l : List α) : Bool := List.rec (motive := fun _ => Bool) true (fun a _ ih => Bool.rec (motive := fun _ => Bool) false ih (r.isZ a)) l
def rgP : Rg (List α) := { num := fun n => [r.num n], add := pAdd r, mul := pMul r, isZ := pAll r }
end poly
def evP {α : Type} (ev : α → FP) (x : FP) : List α → FP
 | [] => 0
 | a :: t => ev a + x * evP ev x t
theorem evP_add {α : Type} {r : Rg α} {ev : α → FP} (h : r.Ok ev) (x : FP) : ∀ p q : List α, evP ev x (pAdd r p q) = evP ev x p + evP ev x q
 | [], q => by rw [show pAdd r [] q = q from rfl, evP, f_zero_add]
 | a :: t, [] => by rw [show pAdd r (a :: t) [] = a :: t from rfl, show evP ev x ([] : List α) = 0 from rfl, f_add_zero]
 | a :: t, b :: u => by
  rw [show pAdd r (a :: t) (b :: u) = r.add a b :: pAdd r t u from rfl, evP, evP, evP, h.add, evP_add h x t u, f_mul_add]
  rw [f_add_assoc, f_add_assoc, ← f_add_assoc (ev b), f_add_comm (ev b), f_add_assoc]
theorem evP_map {α : Type} {r : Rg α} {ev : α → FP} (h : r.Ok ev) (x : FP) (a : α) : ∀ q : List α, evP ev x (pMap (r.mul a) q) = ev a * evP ev x q
 | [] => by rw [show pMap (r.mul a) [] = [] from rfl, evP, f_mul_zero]
 | b :: u => by
  rw [show pMap (r.mul a) (b :: u) = r.mul a b :: pMap (r.mul a) u from rfl, evP, evP, h.mul, evP_map h x a u, f_mul_add]
  rw [← f_mul_assoc, ← f_mul_assoc, f_mul_comm x]
theorem evP_scale {α : Type} {r : Rg α} {ev : α → FP} (h : r.Ok ev) (x : FP) (a : α) (q : List α) : evP ev x (pScale r a q) = ev a * evP ev x q := by
 unfold pScale
 cases hz : r.isZ a
 ·exact evP_map h x a q
 ·rw [h.isZ a hz, f_zero_mul]; rfl
theorem evP_mul {α : Type} {r : Rg α} {ev : α → FP} (h : r.Ok ev) (x : FP) : ∀ p q : List α, evP ev x (pMul r p q) = evP ev x p * evP ev x q
 | [], q => by rw [show pMul r [] q = [] from rfl, show evP ev x ([] : List α) = 0 from rfl, f_zero_mul]
 | a :: t, q => by
  have hs : evP ev x (pShift r (pMul r t q)) = x * evP ev x (pMul r t q) := by
   cases pMul r t q with
   | nil => rw [show pShift r ([] : List α) = [] from rfl, show evP ev x ([] : List α) = 0 from rfl, f_mul_zero]
   | cons b u =>
    show ev (r.num 0) + x * evP ev x (b :: u) = _
    rw [h.num, show toF 0 = 0 from rfl, f_zero_add]
  rw [show pMul r (a :: t) q = pAdd r (pScale r a q) (pShift r (pMul r t q)) from rfl, evP_add h, evP_scale h, hs, evP_mul h x t q, evP, f_add_mul, f_mul_assoc]
theorem rgP_ok {α : Type} {r : Rg α} {ev : α → FP} (h : r.Ok ev) (x : FP) : (rgP r).Ok (evP ev x) where
 num := fun n => by
  show ev (r.num n) + x * evP ev x [] = toF n
  rw [h.num, show evP ev x ([] : List α) = 0 from rfl, f_mul_zero, f_add_zero]
 add := evP_add h x
 mul := evP_mul h x
 isZ := fun l hl => by
  replace hl : pAll r l = true := hl
  induction l with
  | nil => rfl
  | cons a t ih =>
   have h2 : (Bool.rec (motive := fun _ => Bool) false (pAll r t) (r.isZ a) : Bool) = true := hl
   cases hz : r.isZ a
   ·rw [hz] at h2; cases h2
   ·rw [hz] at h2
    rw [evP, h.isZ a hz, ih h2, f_mul_zero, f_add_zero]
def rgQ {α : Type} (r : Rg α) (c b : α) : Rg (α × α) :=
 { num := fun n => (r.num n, r.num 0), add := fun p q => (r.add p.1 q.1, r.add p.2 q.2), mul := fun p q => (r.add (r.mul p.1 q.1) (r.mul (r.mul p.2 q.2) c), r.add (r.add (r.mul p.1 q.2) (r.mul p.2 q.1)) (r.mul (r.mul p.2 q.2) b)), isZ := fun p => r.isZ p.1 && r.isZ p.2 }
def evQ {α : Type} (ev : α → FP) (v : FP) (p : α × α) : FP := ev p.1 + ev p.2 * v
theorem rgQ_ok {α : Type} {r : Rg α} {ev : α → FP} (h : r.Ok ev) {c b : α} {v : FP} (hv : v * v = ev c + ev b * v) : (rgQ r c b).Ok (evQ ev v) where
 num := fun n => by
  show ev (r.num n) + ev (r.num 0) * v = toF n
  rw [h.num, h.num, show toF 0 = 0 from rfl, f_zero_mul, f_add_zero]
 add := fun p q => by
  show ev (r.add p.1 q.1) + ev (r.add p.2 q.2) * v = (ev p.1 + ev p.2 * v) + (ev q.1 + ev q.2 * v)
  rw [h.add, h.add, f_add_mul, f_add_assoc, f_add_assoc, ← f_add_assoc (ev q.1), f_add_comm (ev q.1), f_add_assoc]
 mul := fun p q => by
  show ev (r.add (r.mul p.1 q.1) (r.mul (r.mul p.2 q.2) c)) + ev (r.add (r.add (r.mul p.1 q.2) (r.mul p.2 q.1)) (r.mul (r.mul p.2 q.2) b)) * v = (ev p.1 + ev p.2 * v) * (ev q.1 + ev q.2 * v)
  simp only [h.add, h.mul]
  have e0 : (ev p.1 + ev p.2 * v) * (ev q.1 + ev q.2 * v) = ev p.1 * ev q.1 + ev p.2 * ev q.2 * (v * v) + (ev p.1 * ev q.2 + ev p.2 * ev q.1) * v := by
   rw [f_add_mul, f_mul_add, f_mul_add, f_add_mul]
   have e1 : ev p.2 * v * (ev q.2 * v) = ev p.2 * ev q.2 * (v * v) := by
    rw [f_mul_assoc, f_mul_assoc, ← f_mul_assoc v, f_mul_comm v, f_mul_assoc]
   have e2 : ev p.2 * v * ev q.1 = ev p.2 * ev q.1 * v := by rw [f_mul_assoc, f_mul_comm v, f_mul_assoc]
   have e3 : ev p.1 * (ev q.2 * v) = ev p.1 * ev q.2 * v := by rw [f_mul_assoc]
   rw [e1, e2, e3]
   generalize ev p.1 * ev q.1 = A
   generalize ev p.2 * ev q.2 * (v * v) = B
   generalize ev p.1 * ev q.2 * v = C
   generalize ev p.2 * ev q.1 * v = D
   rw [f_add_assoc A B, f_add_assoc A C, ← f_add_assoc B, f_add_comm B C, f_add_assoc C B, f_add_comm B D]
  rw [e0, hv, f_mul_add, f_add_mul]
  generalize ev p.1 * ev q.1 = A
  generalize (ev p.1 * ev q.2 + ev p.2 * ev q.1) * v = B
  rw [← f_mul_assoc (ev p.2 * ev q.2)]
  generalize ev p.2 * ev q.2 * ev c = C
  generalize ev p.2 * ev q.2 * ev b * v = D
  rw [f_add_comm B D, ← f_add_assoc, ← f_add_assoc]
 isZ := fun p hp => by
  replace hp : (r.isZ p.1 && r.isZ p.2) = true := hp
  rw [Bool.and_eq_true] at hp
  show ev p.1 + ev p.2 * v = 0
  rw [h.isZ _ hp.1, h.isZ _ hp.2, f_zero_mul, f_add_zero]
end Go.Sy
set_option linter.unusedVariables false
set_option linter.unusedSimpArgs false
namespace Go.Sy
open Go
def rgF : Rg FP := { num := toF, add := fun a b => a + b, mul := fun a b => a * b, isZ := fun a => decide (a = 0) }
def nm1 : Nat := 115792089237316195423570985008687907853269984665640564039457584007908834671662
def nm21 : Nat := 115792089237316195423570985008687907853269984665640564039457584007908834671642
def comp {α : Type} (r : Rg α) (P Q : α × α × α) : α × α × α :=
 (r.add (r.mul (r.add (r.mul P.1 Q.2.1) (r.mul Q.1 P.2.1)) (r.add (r.mul P.2.1 Q.2.1) (r.mul (r.num nm21) (r.mul P.2.2 Q.2.2))))
   (r.mul (r.num nm21) (r.mul (r.add (r.mul P.2.1 Q.2.2) (r.mul Q.2.1 P.2.2)) (r.add (r.mul P.1 Q.2.2) (r.mul Q.1 P.2.2)))),
  r.add (r.mul (r.add (r.mul P.2.1 Q.2.1) (r.mul (r.num 21) (r.mul P.2.2 Q.2.2))) (r.add (r.mul P.2.1 Q.2.1) (r.mul (r.num nm21) (r.mul P.2.2 Q.2.2))))
   (r.mul (r.num 63) (r.mul (r.mul P.1 Q.1) (r.add (r.mul P.1 Q.2.2) (r.mul Q.1 P.2.2)))),
  r.add (r.mul (r.add (r.mul P.2.1 Q.2.2) (r.mul Q.2.1 P.2.2)) (r.add (r.mul P.2.1 Q.2.1) (r.mul (r.num 21) (r.mul P.2.2 Q.2.2))))
   (r.mul (r.num 3) (r.mul (r.mul P.1 Q.1) (r.add (r.mul P.1 Q.2.1) (r.mul Q.1 P.2.1)))))
def ev3 {α : Type} (ev : α → FP) (P : α × α × α) : FP × FP × FP := (ev P.1, ev P.2.1, ev P.2.2)
theorem comp_ev {α : Type} {r : Rg α} {ev : α → FP} (h : r.Ok ev) (P Q : α × α × α) : ev3 ev (comp r P Q) = comp rgF (ev3 ev P) (ev3 ev Q) := by
 simp only [comp, ev3, rgF, h.add, h.mul, h.num]
def crossZ {α : Type} (r : Rg α) (A B : α × α × α) : Bool :=
 r.isZ (r.add (r.mul A.1 B.2.1) (r.mul (r.num nm1) (r.mul B.1 A.2.1))) &&
 (r.isZ (r.add (r.mul A.1 B.2.2) (r.mul (r.num nm1) (r.mul B.1 A.2.2))) &&
  r.isZ (r.add (r.mul A.2.1 B.2.2) (r.mul (r.num nm1) (r.mul B.2.1 A.2.2))))
def Cross (A B : FP × FP × FP) : Prop := A.1 * B.2.1 = B.1 * A.2.1 ∧ A.1 * B.2.2 = B.1 * A.2.2 ∧ A.2.1 * B.2.2 = B.2.1 * A.2.2
theorem f_sub_zero {a b : FP} (h : a + toF nm1 * b = 0) : a = b := by
 have h1 : b + toF nm1 * b = 0 := by
  have : b + toF nm1 * b = (1 + toF nm1) * b := by rw [f_add_mul, f_one_mul]
  rw [this, show (1 + toF nm1 : FP) = 0 from by decide, f_zero_mul]
 calc a = a + (b + toF nm1 * b) := by rw [h1, f_add_zero]
  _ = b + (a + toF nm1 * b) := by rw [← f_add_assoc, f_add_comm a, f_add_assoc]
  _ = b := by rw [h, f_add_zero]
theorem crossZ_ok {α : Type} {r : Rg α} {ev : α → FP} (h : r.Ok ev) {A B : α × α × α} (hz : crossZ r A B = true) : Cross (ev3 ev A) (ev3 ev B) := by
 simp only [crossZ, Bool.and_eq_true] at hz
 have h1 := h.isZ _ hz.1
 have h2 := h.isZ _ hz.2.1
 have h3 := h.isZ _ hz.2.2
 simp only [h.add, h.mul, h.num] at h1 h2 h3
 exact ⟨f_sub_zero h1, f_sub_zero h2, f_sub_zero h3⟩
def vP {α : Type} (r : Rg α) : List α := [r.num 0, r.num 1]
def vQ {α : Type} (r : Rg α) : α × α := (r.num 0, r.num 1)
def lQ {α : Type} (r : Rg α) (a : α) : α × α := (a, r.num 0)
theorem evP_one {α : Type} (ev : α → FP) (x : FP) (a : α) : evP ev x [a] = ev a := by
 show ev a + x * 0 = ev a
 rw [f_mul_zero, f_add_zero]
theorem evP_v {α : Type} {r : Rg α} {ev : α → FP} (h : r.Ok ev) (x : FP) : evP ev x (vP r) = x := by
 show ev (r.num 0) + x * (ev (r.num 1) + x * 0) = x
 rw [h.num, h.num, f_mul_zero, f_add_zero, show toF 0 = 0 from rfl, f_zero_add, show toF 1 = 1 from rfl, f_mul_one]
theorem evQ_v {α : Type} {r : Rg α} {ev : α → FP} (h : r.Ok ev) (x : FP) : evQ ev x (vQ r) = x := by
 show ev (r.num 0) + ev (r.num 1) * x = x
 rw [h.num, h.num, show toF 0 = 0 from rfl, f_zero_add, show toF 1 = 1 from rfl, f_one_mul]
theorem evQ_l {α : Type} {r : Rg α} {ev : α → FP} (h : r.Ok ev) (x : FP) (a : α) : evQ ev x (lQ r a) = ev a := by
 show ev a + ev (r.num 0) * x = ev a
 rw [h.num, show toF 0 = 0 from rfl, f_zero_mul, f_add_zero]
def rhs {α : Type} (r : Rg α) (x : α) : α := r.add (r.mul (r.mul x x) x) (r.num 7)
theorem rhs_ev {α : Type} {r : Rg α} {ev : α → FP} (h : r.Ok ev) (x : α) : ev (rhs r x) = ev x * ev x * ev x + toF 7 := by
 simp only [rhs, h.add, h.mul, h.num]
def t1 : Rg (List Nat) := rgP rgN
def t2 : Rg (List (List Nat)) := rgP t1
def t3 : Rg (List (List (List Nat))) := rgP t2
def x1T : List (List (List Nat)) := [[vP rgN]]
def x2T : List (List (List Nat)) := [vP t1]
def x3T : List (List (List Nat)) := vP t2
def q1 : Rg (List (List (List Nat)) × List (List (List Nat))) := rgQ t3 (rhs t3 x1T) (t3.num 0)
def q2 := rgQ q1 (lQ t3 (rhs t3 x2T)) (q1.num 0)
def q3 := rgQ q2 (lQ q1 (lQ t3 (rhs t3 x3T))) (q2.num 0)
def l3 (a : List (List (List Nat))) := lQ q2 (lQ q1 (lQ t3 a))
def one3 := l3 (t3.num 1)
def p1T := (l3 x1T, lQ q2 (lQ q1 (vQ t3)), one3)
def p2T := (l3 x2T, lQ q2 (vQ q1), one3)
def p3T := (l3 x3T, vQ q2, one3)
abbrev E1 := List (List (List Nat))
abbrev E3 := ((E1 × E1) × (E1 × E1)) × ((E1 × E1) × (E1 × E1))
def ng (k : Nat) : Nat := qP - k
def aL : E3 × E3 × E3 :=
 (((([], [[[0, ng 14], [ng 42], [], [0, 1]]]), ([[[0, ng 42], [ng 14, 0, 0, 1]]], [])), (([], []), ([], []))),
  ((([[[ng 392, 0, 0, 7], [0, 0, 63], [0, 63], [7, 0, 0, 1]]], []), ([], [])), (([], []), ([], []))),
  ((([], [[[28], [], [0, 3], [1]]]), ([[[28, 0, 0, 1], [0, 0, 3]]], [])), (([], []), ([], []))))
def bL : E3 × E3 × E3 :=
 (((([], []), ([[[], [ng 14]], [[ng 42]], [], [[], [1]]], [])), (([[[], [ng 42]], [[ng 14], [], [], [1]]], []), ([], []))),
  ((([[[ng 392], [], [], [7]], [[], [], [63]], [[], [63]], [[7], [], [], [1]]], []), ([], [])), (([], []), ([], []))),
  ((([], []), ([[[28]], [], [[], [3]], [[1]]], [])), (([[[28], [], [], [1]], [[], [], [3]]], []), ([], []))))
def lL : E3 × E3 × E3 :=
 (((([], [[[0, ng 76832, 0, 0, 1372], [ng 230496, 0, 0, 16464], [0, 0, 49392], [0, 43904, 0, 0, 98], [4116, 0, 0, ng 294], [0, 0, ng 882], [0, ng 98, 0, 0, ng 14]], [[460992, 0, 0, ng 8232], [0, 0, ng 74088], [0, ng 24696, 0, 0, ng 882], [8232, 0, 0, ng 9408], [0, 0, ng 10584], [0, ng 3528, 0, 0, ng 126], [ng 294, 0, 0, ng 42]], [], [[0, 5488, 0, 0, ng 98], [16464, 0, 0, ng 1176], [0, 0, ng 3528], [0, ng 3136, 0, 0, ng 7], [ng 294, 0, 0, 21], [0, 0, 63], [0, 7, 0, 0, 1]]]), ([[[0, ng 230496, 0, 0, 4116], [ng 76832, 0, 0, 43904, 0, 0, ng 98], [0, 0, 49392, 0, 0, ng 882], [0, 16464, 0, 0, ng 294], [1372, 0, 0, 98, 0, 0, ng 14]], [[460992, 0, 0, 8232, 0, 0, ng 294], [0, 0, ng 24696, 0, 0, ng 3528], [0, ng 74088, 0, 0, ng 10584], [ng 8232, 0, 0, ng 9408, 0, 0, ng 42], [0, 0, ng 882, 0, 0, ng 126]], [], [[0, 16464, 0, 0, ng 294], [5488, 0, 0, ng 3136, 0, 0, 7], [0, 0, ng 3528, 0, 0, 63], [0, ng 1176, 0, 0, 21], [ng 98, 0, 0, ng 7, 0, 0, 1]]], [])), (([[[0, 460992, 0, 0, 28812], [460992, 0, 0, 82320, 0, 0, ng 294], [0, 0, 24696, 0, 0, 882], [0, 82320, 0, 0, 6468], [28812, 0, 0, 6468, 0, 0, ng 42], [0, 0, 882, 0, 0, ng 252], [0, ng 294, 0, 0, ng 42]], [[ng 76832, 0, 0, ng 30184, 0, 0, ng 98], [0, 0, ng 74088], [0, ng 74088], [ng 30184, 0, 0, 4900, 0, 0, ng 7], [0, 0, 0, 0, 0, ng 189], [0, 0, 0, 0, ng 189], [ng 98, 0, 0, ng 7, 0, 0, 1]]], []), ([], [[[0, 65856, 0, 0, 588], [65856, 0, 0, 2352], [0, 0, 10584], [0, 2352, 0, 0, ng 168], [588, 0, 0, ng 168]], [[ng 32928, 0, 0, ng 1176], [0, 0, ng 3528], [0, ng 3528, 0, 0, ng 126], [ng 1176, 0, 0, ng 420], [0, 0, ng 126]]]))),
  ((([[[ng 3764768, 0, 0, ng 557032, 0, 0, ng 2744], [0, 0, ng 864360, 0, 0, ng 12348], [0, ng 864360, 0, 0, ng 67914], [ng 557032, 0, 0, 1372, 0, 0, ng 343], [0, 0, ng 67914, 0, 0, ng 5733], [0, ng 12348, 0, 0, ng 5733], [ng 2744, 0, 0, ng 343, 0, 0, 7]], [[0, 0, 864360, 0, 0, 12348], [0, 1037232, 0, 0, 37044], [864360, 0, 0, 98784, 0, 0, 441], [0, 0, 98784, 0, 0, ng 1764], [0, 37044, 0, 0, ng 10584], [12348, 0, 0, ng 1764, 0, 0, 63], [0, 0, 441, 0, 0, 63]], [[0, ng 691488, 0, 0, ng 43218], [ng 691488, 0, 0, ng 123480, 0, 0, 441], [0, 0, ng 37044, 0, 0, ng 1323], [0, ng 123480, 0, 0, ng 9702], [ng 43218, 0, 0, ng 9702, 0, 0, 63], [0, 0, ng 1323, 0, 0, 378], [0, 441, 0, 0, 63]], [[153664, 0, 0, ng 5488, 0, 0, 49], [0, 0, ng 49392, 0, 0, 882], [0, ng 49392, 0, 0, 4851], [ng 5488, 0, 0, 7252, 0, 0, 14], [0, 0, 4851, 0, 0, 126], [0, 882, 0, 0, 126], [49, 0, 0, 14, 0, 0, 1]]], []), ([], [[[ng 691488, 0, 0, ng 24696], [0, 0, ng 74088], [0, ng 74088, 0, 0, ng 2646], [ng 24696, 0, 0, ng 8820], [0, 0, ng 2646]], [[0, 0, 74088], [0, 246960, 0, 0, ng 1764], [74088, 0, 0, ng 5292], [0, 0, ng 5292], [0, ng 1764, 0, 0, 126]], [[0, ng 98784, 0, 0, ng 882], [ng 98784, 0, 0, ng 3528], [0, 0, ng 15876], [0, ng 3528, 0, 0, 252], [ng 882, 0, 0, 252]]])), (([], []), ([], []))),
  ((([], [[[ng 307328, 0, 0, 5488], [0, 0, 49392], [0, 16464, 0, 0, 588], [ng 5488, 0, 0, 6272], [0, 0, 7056], [0, 2352, 0, 0, 84], [196, 0, 0, 28]], [], [[0, 16464, 0, 0, ng 294], [49392, 0, 0, ng 3528], [0, 0, ng 10584], [0, ng 9408, 0, 0, ng 21], [ng 882, 0, 0, 63], [0, 0, 189], [0, 21, 0, 0, 3]], [[ng 10976, 0, 0, 196], [0, 0, 1764], [0, 588, 0, 0, 21], [ng 196, 0, 0, 224], [0, 0, 252], [0, 84, 0, 0, 3], [7, 0, 0, 1]]]), ([[[ng 307328, 0, 0, ng 5488, 0, 0, 196], [0, 0, 16464, 0, 0, 2352], [0, 49392, 0, 0, 7056], [5488, 0, 0, 6272, 0, 0, 28], [0, 0, 588, 0, 0, 84]], [], [[0, 49392, 0, 0, ng 882], [16464, 0, 0, ng 9408, 0, 0, 21], [0, 0, ng 10584, 0, 0, 189], [0, ng 3528, 0, 0, 63], [ng 294, 0, 0, ng 21, 0, 0, 3]], [[ng 10976, 0, 0, ng 196, 0, 0, 7], [0, 0, 588, 0, 0, 84], [0, 1764, 0, 0, 252], [196, 0, 0, 224, 0, 0, 1], [0, 0, 21, 0, 0, 3]]], [])), (([[[384160, 0, 0, 19208, 0, 0, 196], [0, 0, ng 24696, 0, 0, 1764], [0, ng 24696, 0, 0, 9702], [19208, 0, 0, 9604, 0, 0, 35], [0, 0, 9702, 0, 0, 441], [0, 1764, 0, 0, 441], [196, 0, 0, 35, 0, 0, 1]], [[0, 0, 41160, 0, 0, 588], [0, 49392, 0, 0, 1764], [41160, 0, 0, 4704, 0, 0, 21], [0, 0, 4704, 0, 0, ng 84], [0, 1764, 0, 0, ng 504], [588, 0, 0, ng 84, 0, 0, 3], [0, 0, 21, 0, 0, 3]]], []), ([], [[[32928, 0, 0, 1176], [0, 0, 3528], [0, 3528, 0, 0, 126], [1176, 0, 0, 420], [0, 0, 126]], [[0, 0, 3528], [0, 11760, 0, 0, ng 84], [3528, 0, 0, ng 252], [0, 0, ng 252], [0, ng 84, 0, 0, 6]]]))))
def rL : E3 × E3 × E3 :=
 (((([], [[[0, ng 76832], [460992], [], [0, ng 30184], [28812], [], [0, ng 98]], [[460992], [], [0, ng 74088], [82320], [], [], [ng 294]], [[], [0, ng 74088], [24696], [], [], [882]], [[0, ng 30184], [82320], [], [0, 4900], [6468], [], [0, ng 7]], [[28812], [], [], [6468], [], [0, ng 189], [ng 42]], [[], [], [882], [], [0, ng 189], [ng 252]], [[0, ng 98], [ng 294], [], [0, ng 7], [ng 42], [], [0, 1]]]), ([[[0, 460992], [ng 76832, 0, 0, 5488], [], [0, ng 8232], [1372, 0, 0, ng 98]], [[ng 230496, 0, 0, 16464], [], [0, ng 74088], [16464, 0, 0, ng 1176]], [[], [0, ng 24696], [49392, 0, 0, ng 3528], [], [0, ng 882]], [[0, 8232], [43904, 0, 0, ng 3136], [], [0, ng 9408], [98, 0, 0, ng 7]], [[4116, 0, 0, ng 294], [], [0, ng 10584], [ng 294, 0, 0, 21]], [[], [0, ng 3528], [ng 882, 0, 0, 63], [], [0, ng 126]], [[0, ng 294], [ng 98, 0, 0, 7], [], [0, ng 42], [ng 14, 0, 0, 1]]], [])), (([[[0, 460992], [ng 230496, 0, 0, 16464], [], [0, 8232], [4116, 0, 0, ng 294], [], [0, ng 294]], [[ng 76832, 0, 0, 5488], [], [0, ng 24696], [43904, 0, 0, ng 3136], [], [0, ng 3528], [ng 98, 0, 0, 7]], [[], [0, ng 74088], [49392, 0, 0, ng 3528], [], [0, ng 10584], [ng 882, 0, 0, 63]], [[0, ng 8232], [16464, 0, 0, ng 1176], [], [0, ng 9408], [ng 294, 0, 0, 21], [], [0, ng 42]], [[1372, 0, 0, ng 98], [], [0, ng 882], [98, 0, 0, ng 7], [], [0, ng 126], [ng 14, 0, 0, 1]]], []), ([], [[[0, ng 32928], [65856], [], [0, ng 1176], [588]], [[65856], [], [0, ng 3528], [2352]], [[], [0, ng 3528], [10584], [], [0, ng 126]], [[0, ng 1176], [2352], [], [0, ng 420], [ng 168]], [[588], [], [0, ng 126], [ng 168]]]))),
  ((([[[ng 3764768, 0, 0, 153664], [0, 0, ng 691488], [0, 864360], [ng 557032, 0, 0, ng 5488], [0, 0, ng 43218], [0, 12348], [ng 2744, 0, 0, 49]], [[0, 0, ng 691488], [0, 1037232], [ng 864360, 0, 0, ng 49392], [0, 0, ng 123480], [0, 37044], [ng 12348, 0, 0, 882], [0, 0, 441]], [[0, 864360], [ng 864360, 0, 0, ng 49392], [0, 0, ng 37044], [0, 98784], [ng 67914, 0, 0, 4851], [0, 0, ng 1323], [0, 441]], [[ng 557032, 0, 0, ng 5488], [0, 0, ng 123480], [0, 98784], [1372, 0, 0, 7252], [0, 0, ng 9702], [0, ng 1764], [ng 343, 0, 0, 14]], [[0, 0, ng 43218], [0, 37044], [ng 67914, 0, 0, 4851], [0, 0, ng 9702], [0, ng 10584], [ng 5733, 0, 0, 126], [0, 0, 63]], [[0, 12348], [ng 12348, 0, 0, 882], [0, 0, ng 1323], [0, ng 1764], [ng 5733, 0, 0, 126], [0, 0, 378], [0, 63]], [[ng 2744, 0, 0, 49], [0, 0, 441], [0, 441], [ng 343, 0, 0, 14], [0, 0, 63], [0, 63], [7, 0, 0, 1]]], []), ([], [])), (([], []), ([[[ng 691488], [0, 0, ng 98784], [0, 74088], [ng 24696], [0, 0, ng 882]], [[0, 0, ng 98784], [0, 246960], [ng 74088], [0, 0, ng 3528], [0, ng 1764]], [[0, 74088], [ng 74088], [0, 0, ng 15876], [0, ng 5292], [ng 2646]], [[ng 24696], [0, 0, ng 3528], [0, ng 5292], [ng 8820], [0, 0, 252]], [[0, 0, ng 882], [0, ng 1764], [ng 2646], [0, 0, 252], [0, 126]]], []))),
  ((([], [[[384160], [], [0, 41160], [19208], [], [0, 588], [196]], [[], [0, 49392], [ng 24696], [], [0, 1764], [1764]], [[0, 41160], [ng 24696], [], [0, 4704], [9702], [], [0, 21]], [[19208], [], [0, 4704], [9604], [], [0, ng 84], [35]], [[], [0, 1764], [9702], [], [0, ng 504], [441]], [[0, 588], [1764], [], [0, ng 84], [441], [], [0, 3]], [[196], [], [0, 21], [35], [], [0, 3], [1]]]), ([[[ng 307328, 0, 0, ng 10976], [0, 0, 16464], [], [5488, 0, 0, 196], [0, 0, ng 294]], [[0, 0, 49392], [], [49392, 0, 0, 1764], [0, 0, ng 3528]], [[], [16464, 0, 0, 588], [0, 0, ng 10584], [], [588, 0, 0, 21]], [[ng 5488, 0, 0, ng 196], [0, 0, ng 9408], [], [6272, 0, 0, 224], [0, 0, ng 21]], [[0, 0, ng 882], [], [7056, 0, 0, 252], [0, 0, 63]], [[], [2352, 0, 0, 84], [0, 0, 189], [], [84, 0, 0, 3]], [[196, 0, 0, 7], [0, 0, 21], [], [28, 0, 0, 1], [0, 0, 3]]], [])), (([[[ng 307328, 0, 0, ng 10976], [0, 0, 49392], [], [ng 5488, 0, 0, ng 196], [0, 0, ng 882], [], [196, 0, 0, 7]], [[0, 0, 16464], [], [16464, 0, 0, 588], [0, 0, ng 9408], [], [2352, 0, 0, 84], [0, 0, 21]], [[], [49392, 0, 0, 1764], [0, 0, ng 10584], [], [7056, 0, 0, 252], [0, 0, 189]], [[5488, 0, 0, 196], [0, 0, ng 3528], [], [6272, 0, 0, 224], [0, 0, 63], [], [28, 0, 0, 1]], [[0, 0, ng 294], [], [588, 0, 0, 21], [0, 0, ng 21], [], [84, 0, 0, 3], [0, 0, 3]]], []), ([], [[[32928], [], [0, 3528], [1176]], [[], [0, 11760], [3528], [], [0, ng 84]], [[0, 3528], [3528], [], [0, ng 252], [126]], [[1176], [], [0, ng 252], [420]], [[], [0, ng 84], [126], [], [0, 6]]]))))
def sameZ {α : Type} (r : Rg α) (a b : α) : Bool := r.isZ (r.add a (r.mul (r.num nm1) b))
def same3 {α : Type} (r : Rg α) (A B : α × α × α) : Bool := sameZ r A.1 B.1 && (sameZ r A.2.1 B.2.1 && sameZ r A.2.2 B.2.2)
theorem same3_ok {α : Type} {r : Rg α} {ev : α → FP} (h : r.Ok ev) {A B : α × α × α} (hz : same3 r A B = true) : ev3 ev A = ev3 ev B := by
 simp only [same3, sameZ, Bool.and_eq_true] at hz
 have h1 := h.isZ _ hz.1
 have h2 := h.isZ _ hz.2.1
 have h3 := h.isZ _ hz.2.2
 simp only [h.add, h.mul, h.num] at h1 h2 h3
 simp only [ev3, f_sub_zero h1, f_sub_zero h2, f_sub_zero h3]
theorem aL_ok : same3 q3 (comp q3 p1T p2T) aL = true := by kernel_rfl
theorem bL_ok : same3 q3 (comp q3 p2T p3T) bL = true := by kernel_rfl
theorem lL_ok : same3 q3 (comp q3 aL p3T) lL = true := by kernel_rfl
theorem rL_ok : same3 q3 (comp q3 p1T bL) rL = true := by kernel_rfl
theorem cross_ok : crossZ q3 lL rL = true := by kernel_rfl
theorem assoc_cross {x1 y1 x2 y2 x3 y3 : FP} (h1 : y1 * y1 = x1 * x1 * x1 + toF 7) (h2 : y2 * y2 = x2 * x2 * x2 + toF 7) (h3 : y3 * y3 = x3 * x3 * x3 + toF 7) :
  Cross (comp rgF (comp rgF (x1, y1, 1) (x2, y2, 1)) (x3, y3, 1)) (comp rgF (x1, y1, 1) (comp rgF (x2, y2, 1) (x3, y3, 1))) := by
 have o1 : t1.Ok (evP toF x1) := rgP_ok rgN_ok x1
 have o2 : t2.Ok (evP (evP toF x1) x2) := rgP_ok o1 x2
 have o3 : t3.Ok (evP (evP (evP toF x1) x2) x3) := rgP_ok o2 x3
 have e1 : evP (evP (evP toF x1) x2) x3 x1T = x1 := by
  show evP (evP (evP toF x1) x2) x3 [[vP rgN]] = x1
  rw [evP_one, evP_one, evP_v rgN_ok]
 have e2 : evP (evP (evP toF x1) x2) x3 x2T = x2 := by
  show evP (evP (evP toF x1) x2) x3 [vP t1] = x2
  rw [evP_one, evP_v o1]
 have e3 : evP (evP (evP toF x1) x2) x3 x3T = x3 := by
  show evP (evP (evP toF x1) x2) x3 (vP t2) = x3
  rw [evP_v o2]
 have p1 : q1.Ok (evQ (evP (evP (evP toF x1) x2) x3) y1) := rgQ_ok o3 (by rw [o3.num, show toF 0 = 0 from rfl, f_zero_mul, f_add_zero, rhs_ev o3, e1]; exact h1)
 have p2 : q2.Ok (evQ (evQ (evP (evP (evP toF x1) x2) x3) y1) y2) := rgQ_ok p1 (by rw [p1.num, show toF 0 = 0 from rfl, f_zero_mul, f_add_zero, evQ_l o3, rhs_ev o3, e2]; exact h2)
 have p3 : q3.Ok (evQ (evQ (evQ (evP (evP (evP toF x1) x2) x3) y1) y2) y3) := rgQ_ok p2 (by rw [p2.num, show toF 0 = 0 from rfl, f_zero_mul, f_add_zero, evQ_l p1, evQ_l o3, rhs_ev o3, e3]; exact h3)
 have lift : ∀ a, evQ (evQ (evQ (evP (evP (evP toF x1) x2) x3) y1) y2) y3 (l3 a) = evP (evP (evP toF x1) x2) x3 a := fun a => by
  show evQ (evQ (evQ (evP (evP (evP toF x1) x2) x3) y1) y2) y3 (lQ q2 (lQ q1 (lQ t3 a))) = _
  rw [evQ_l p2, evQ_l p1, evQ_l o3]
 have one : evQ (evQ (evQ (evP (evP (evP toF x1) x2) x3) y1) y2) y3 one3 = 1 := by
  show evQ (evQ (evQ (evP (evP (evP toF x1) x2) x3) y1) y2) y3 (l3 (t3.num 1)) = 1
  rw [lift, o3.num]; rfl
 have a1 : ev3 (evQ (evQ (evQ (evP (evP (evP toF x1) x2) x3) y1) y2) y3) p1T = (x1, y1, 1) := by
  show (_, _, _) = _
  rw [show (p1T).1 = l3 x1T from rfl, show (p1T).2.1 = lQ q2 (lQ q1 (vQ t3)) from rfl, show (p1T).2.2 = one3 from rfl, lift, e1, evQ_l p2, evQ_l p1, evQ_v o3, one]
 have a2 : ev3 (evQ (evQ (evQ (evP (evP (evP toF x1) x2) x3) y1) y2) y3) p2T = (x2, y2, 1) := by
  show (_, _, _) = _
  rw [show (p2T).1 = l3 x2T from rfl, show (p2T).2.1 = lQ q2 (vQ q1) from rfl, show (p2T).2.2 = one3 from rfl, lift, e2, evQ_l p2, evQ_v p1, one]
 have a3 : ev3 (evQ (evQ (evQ (evP (evP (evP toF x1) x2) x3) y1) y2) y3) p3T = (x3, y3, 1) := by
  show (_, _, _) = _
  rw [show (p3T).1 = l3 x3T from rfl, show (p3T).2.1 = vQ q2 from rfl, show (p3T).2.2 = one3 from rfl, lift, e3, evQ_v p2, one]
 have ka := same3_ok p3 aL_ok
 have kb := same3_ok p3 bL_ok
 have kl := same3_ok p3 lL_ok
 have kr := same3_ok p3 rL_ok
 have key := crossZ_ok p3 cross_ok
 rw [comp_ev p3] at ka kb kl kr
 rw [← kl, ← kr, ← ka, ← kb, a1, a2, a3] at key
 exact key
end Go.Sy
