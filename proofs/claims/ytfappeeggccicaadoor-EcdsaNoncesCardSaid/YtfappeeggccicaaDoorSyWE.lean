/- The links: each typed function is what the code computes. Printed by a program. -/

import Derived.Test.YtfappeeggccicaaDoorSyVE

import Derived.Test.YtfappeeggccicaaDoorSyWC3

set_option linter.unusedVariables false

set_option maxRecDepth 100000

namespace Go.Sy

open Go Go.Proofs

noncomputable def ecdsaINumberE : Entry := mkE [.arr (.int .u8) 32] [.u256] fun p => ecdsaINumber p

noncomputable def ecdsaINumberX : Cx := mkCx Tryd.prog 19 globsF [(41, u256GetE), (98, fieldReduceE)] [] []

theorem ecdsaINumberC : CxOk ecdsaINumberX (Glob globsF) := cx_ok (by kernel_rfl) (by kernel_rfl) ⟨u256GetK, fieldReduceK, trivial⟩

theorem ecdsaINumberK : CallOk Tryd.prog (Glob globsF) 63 ecdsaINumberE :=
  fun_ok (cx := ecdsaINumberX) ecdsaINumberC (fn := Tryd.f63) Tryd.func63 (by kernel_rfl) Tryd.ntmps63 Tryd.call63 _ _ _ (by kernel_rfl) (by kernel_rfl) (by kernel_rfl)
    (fun w0 hG => lall_of lall_nil (by kernel_rfl : loopsOf (bodyOf Tryd.f63) = _)) (fun p => Eq.trans (b := ecdsaINumberB p) (by kernel_rfl) (ecdsaINumber_eq p).symm)

noncomputable def ref06NumberE : Entry := mkE [.arr (.int .u8) 32] [.u256] fun p => ref06Number p

noncomputable def ref06NumberX : Cx := mkCx Tryd.prog 19 globsF [(42, ref01GetE), (129, ref04ReduceE)] [] []

theorem ref06NumberC : CxOk ref06NumberX (Glob globsF) := cx_ok (by kernel_rfl) (by kernel_rfl) ⟨ref01GetK, ref04ReduceK, trivial⟩

theorem ref06NumberK : CallOk Tryd.prog (Glob globsF) 95 ref06NumberE :=
  fun_ok (cx := ref06NumberX) ref06NumberC (fn := Tryd.f95) Tryd.func95 (by kernel_rfl) Tryd.ntmps95 Tryd.call95 _ _ _ (by kernel_rfl) (by kernel_rfl) (by kernel_rfl)
    (fun w0 hG => lall_of lall_nil (by kernel_rfl : loopsOf (bodyOf Tryd.f95) = _)) (fun p => Eq.trans (b := ref06NumberB p) (by kernel_rfl) (ref06Number_eq p).symm)

end Go.Sy
