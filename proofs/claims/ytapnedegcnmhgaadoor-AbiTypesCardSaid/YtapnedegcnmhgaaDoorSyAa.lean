/- What typed functions are made of. -/
import Derived.Test.YtapnedegcnmhgaaDoorSyA
namespace Go.Sy
open Go

/-! ### Loops that are read round by round -/

def iter {α ρ : Type} (f : α → Option (Sum α ρ)) : Nat → α → Option ρ
  | 0, _ => none
  | n + 1, a => (f a).bind fun
    | .inl a' => iter f n a'
    | .inr r => some r
def sumK {α β γ : Type} (r : Sum α β) (f : α → γ) (g : β → γ) : γ :=
  match r with
  | .inl a => f a
  | .inr b => g b

theorem cond_some {α : Type} {c : Bool} {x : Option α} {y : α} (h : cond c x none = some y) : c = true ∧ x = some y := by
  cases c
  · cases h
  · exact ⟨rfl, h⟩

noncomputable def bitsAdd64 (x y c : Int) : Option (Int × Int) := hide <|
  bif decide (c.toNat ≤ 1) then some (((x.toNat + y.toNat + c.toNat) % 18446744073709551616 : Nat), ((x.toNat + y.toNat + c.toNat) / 18446744073709551616 : Nat)) else none
noncomputable def bitsSub64 (x y b : Int) : Option (Int × Int) := hide <|
  bif decide (b.toNat ≤ 1) then some (((x.toNat + 18446744073709551616 - y.toNat - b.toNat) % 18446744073709551616 : Nat), ((if x.toNat < y.toNat + b.toNat then 1 else 0 : Nat) : Int)) else none
def fieldModuli : List (Nat × Nat) := [(115792089237316195423570985008687907853269984665640564039457584007908834671663, 4294968273), (115792089237316195423570985008687907852837564279074904382605163141518161494337, 432420386565659656852420866394968145599)]

def curveBase : List Int := [6481385041966929816, 188021827762530521, 6170039885052185351, 8772561819708210092, 11261198710074299576, 18237243440184513561, 6747795201694173352, 5204712524664259685]

def shaStartT : List Int := [1779033703, 3144134277, 1013904242, 2773480762, 1359893119, 2600822924, 528734635, 1541459225]
def shaConstsT : List Int := [1116352408, 1899447441, 3049323471, 3921009573, 961987163, 1508970993, 2453635748, 2870763221, 3624381080, 310598401, 607225278, 1426881987, 1925078388, 2162078206, 2614888103, 3248222580, 3835390401, 4022224774, 264347078, 604807628, 770255983, 1249150122, 1555081692, 1996064986, 2554220882, 2821834349, 2952996808, 3210313671, 3336571891, 3584528711, 113926993, 338241895, 666307205, 773529912, 1294757372, 1396182291, 1695183700, 1986661051, 2177026350, 2456956037, 2730485921, 2820302411, 3259730800, 3345764771, 3516065817, 3600352804, 4094571909, 275423344, 430227734, 506948616, 659060556, 883997877, 958139571, 1322822218, 1537002063, 1747873779, 1955562222, 2024104815, 2227730452, 2361852424, 2428436474, 2756734187, 3204031479, 3329325298]

/-- As many rounds as any list in memory has elements. -/
noncomputable def bigFuel : Nat := hide 1152921504606846976
theorem bigFuel_eq : bigFuel = 1152921504606846976 := hide_eq _

/-- One list behind another (a short way to write long chains of them). -/
def appL {α : Type} (l m : List α) : List α := l ++ m
end Go.Sy
