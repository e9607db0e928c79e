/- Plain law: every Check is the document's. -/
import Derived.Test.YtmbcolalfgepiaaDoorSyMA
set_option linter.unusedVariables false
set_option linter.unusedSimpArgs false
namespace Go.Sy
open Go

/-- The order of the group. -/
def ordN : Nat := 115792089237316195423570985008687907852837564279074904382605163141518161494337
def halfN : Nat := 57896044618658097711785492504343953926418782139537452191302581570759080747168

theorem fieldIOf_n : fieldIOf 1 = some ((ordN, 432420386565659656852420866394968145599), 0) := by rw [fieldIOf_eq]; kernel_rfl
theorem ecdsaIOrder_val : ecdsaIOrder = some ordN := by
  rw [ecdsaIOrder_eq, ecdsaIOrderB, fieldModulus_eq, fieldModulusB, fieldIOf_n]
  rfl
theorem ref04IGood_n : ref04IGood 1 = some true := by rw [ref04IGood_eq]; kernel_rfl
theorem ref04IModulus_n : ref04IModulus 1 = some ordN := by rw [ref04IModulus_eq]; kernel_rfl
theorem ref06IOrder_val : ref06IOrder = some ordN := by
  rw [ref06IOrder_eq, ref06IOrderB, ref04Modulus_eq, ref04ModulusB, ref04IGood_n]
  simp only [Option.bind_some, Bool.not_true, cond_false, ref04IModulus_n]

theorem u256Shr_n : u256Shr ordN 1 = some halfN := by
  have h : u256ShrL0 1 0 ordN 0 0 = some (0, halfN) := by rw [u256ShrL0_eq]; kernel_rfl
  have e : u256ShrB ordN 1 = (u256ShrL0 1 0 ordN 0 0).bind fun q => some q.2 := by kernel_rfl
  rw [u256Shr_eq, e, h]
  rfl

/-- The round of ref01.Shl, laid open. -/
noncomputable def shlR (p : Int × Int × Nat × Nat × Nat) : Option ((Int × Int × Nat × Nat × Nat) ⊕ (Nat × Nat)) :=
  bif (decide (p.2.1 < (256 : Int))) then
    (ref01BitB p.2.2.1 (IntKind.wrap .i64 (p.2.1 - p.1))).bind fun r3 =>
    bif (r3 == (1 : Int)) then
      (ref01IWithB p.2.2.2.2 p.2.1).bind fun r4 =>
      some (.inl (p.1, (IntKind.wrap .i64 (p.2.1 + (1 : Int))), p.2.2.1, p.2.2.2.1, r4))
    else
      some (.inl (p.1, (IntKind.wrap .i64 (p.2.1 + (1 : Int))), p.2.2.1, p.2.2.2.1, p.2.2.2.2))
  else
    some (.inr (p.2.2.2.1, p.2.2.2.2))
theorem shlR_eq : (fun p : Int × Int × Nat × Nat × Nat => ref01ShlL0R p.1 p.2.1 p.2.2.1 p.2.2.2.1 p.2.2.2.2) = shlR := by
  funext p
  simp only [ref01ShlL0R, shlR, ref01Bit_eq, ref01IWith_eq]

theorem ref01Shr_n : ref01Shr ordN 1 = some halfN := by
  have h : ref01ShlL0 (-1) 0 ordN 0 0 = some (0, halfN) := by rw [ref01ShlL0_eq, shlR_eq]; kernel_rfl
  have e : ref01ShlB ordN (-1) = (ref01ShlL0 (-1) 0 ordN 0 0).bind fun q => some q.2 := by kernel_rfl
  have h2 : ref01Shl ordN (-1) = some halfN := by rw [ref01Shl_eq, e, h]; rfl
  have e2 : ref01ShrB ordN 1 = (ref01Shl ordN (-1)).bind fun r => some r := by kernel_rfl
  rw [ref01Shr_eq, e2, h2]
  rfl

theorem ordN_lt : ordN < M256 := by decide
theorem halfN_lt : halfN < M256 := by decide

theorem fits_same {x : Nat} (hx : x < M256) : ∃ b, ecdsaIFit x = some b ∧ ref06Fit x = some b := by
  rw [ecdsaIFit_eq, ref06Fit_eq]
  simp only [ecdsaIFitB, ref06FitB, ecdsaIOrder_val, ref06IOrder_val, Option.bind_some, u256Cmp_val hx ordN_lt, ref01Cmp_val hx ordN_lt]
  cases u256eq x 0
  · exact ⟨_, rfl, rfl⟩
  · exact ⟨_, rfl, rfl⟩

theorem low_same {x : Nat} (hx : x < M256) : ∃ b, ecdsaILow x = some b ∧ ref06Low x = some b := by
  rw [ecdsaILow_eq, ref06Low_eq]
  simp only [ecdsaILowB, ref06LowB, ecdsaIOrder_val, ref06IOrder_val, Option.bind_some, u256Shr_n, ref01Shr_n, u256Cmp_val hx halfN_lt, ref01Cmp_val hx halfN_lt]
  exact ⟨_, rfl, rfl⟩

theorem law06EcdsaChecks_true (s : Nat × Nat × Bool) (h1 : s.1 < M256) (h2 : s.2.1 < M256) : law06EcdsaChecks s = some true := by
  obtain ⟨a, ha, ha'⟩ := fits_same h1
  obtain ⟨b, hb, hb'⟩ := fits_same h2
  obtain ⟨c, hc, hc'⟩ := low_same h2
  have key : ∃ n, ecdsaCheck s = some n ∧ ref06Check s = some n := by
    rw [ecdsaCheck_eq, ref06Check_eq]
    simp only [ecdsaCheckB, ref06CheckB, ha, ha', hb, hb', hc, hc', Option.bind_some]
    cases a <;> cases b <;> cases c <;> exact ⟨_, rfl, rfl⟩
  obtain ⟨n, e1, e2⟩ := key
  rw [law06EcdsaChecks_eq]
  simp only [law06EcdsaChecksB, e1, e2, Option.bind_some, law06INum_eq, law06INumB]
  simp
end Go.Sy
