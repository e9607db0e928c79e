/- What typed functions are made of. -/
import Derived.Test.YtmbcolalfgepiaaDoorSyA
namespace Go.Sy
open Go

/-! ### Loops that are read round by round -/

def iter {α ρ : Type} (f : α → Option (Sum α ρ)) : Nat → α → Option ρ
  | 0, _ => none
  | n + 1, a => (f a).bind fun
    | .inl a' => iter f n a'
    | .inr r => some r
/-! ### Shut: the kernel does not reckon through it -/

noncomputable def hide {α : Type} (a : α) : α := (Classical.choice (⟨⟨a, rfl⟩⟩ : Nonempty { b : α // b = a })).1
theorem hide_eq {α : Type} (a : α) : hide a = a := (Classical.choice (⟨⟨a, rfl⟩⟩ : Nonempty { b : α // b = a })).2

def sumK {α β γ : Type} (r : Sum α β) (f : α → γ) (g : β → γ) : γ :=
  match r with
  | .inl a => f a
  | .inr b => g b

theorem cond_some {α : Type} {c : Bool} {x : Option α} {y : α} (h : cond c x none = some y) : c = true ∧ x = some y := by
  cases c
  · cases h
  · exact ⟨rfl, h⟩

noncomputable def bitsAdd64 (x y c : Int) : Option (Int × Int) := hide <|
  bif decide (c.toNat ≤ 1) then some (((x.toNat + y.toNat + c.toNat) % 18446744073709551616 : Nat), ((x.toNat + y.toNat + c.toNat) / 18446744073709551616 : Nat)) else none
noncomputable def bitsSub64 (x y b : Int) : Option (Int × Int) := hide <|
  bif decide (b.toNat ≤ 1) then some (((x.toNat + 18446744073709551616 - y.toNat - b.toNat) % 18446744073709551616 : Nat), ((if x.toNat < y.toNat + b.toNat then 1 else 0 : Nat) : Int)) else none
def fieldModuli : List (Nat × Nat) := [(115792089237316195423570985008687907853269984665640564039457584007908834671663, 4294968273), (115792089237316195423570985008687907852837564279074904382605163141518161494337, 432420386565659656852420866394968145599)]

/-- As many rounds as any list in memory has elements. -/
noncomputable def bigFuel : Nat := hide 1152921504606846976
theorem bigFuel_eq : bigFuel = 1152921504606846976 := hide_eq _

end Go.Sy
