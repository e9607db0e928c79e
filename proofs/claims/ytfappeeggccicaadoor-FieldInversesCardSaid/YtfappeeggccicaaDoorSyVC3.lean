/- Typed functions, printed by a program out of the code: what each function of the code computes. -/
import Derived.Test.YtfappeeggccicaaDoorSyVC2
set_option linter.unusedVariables false
namespace Go.Sy
open Go

noncomputable def curveCompressB (p : Nat × Nat × Bool) : Option (Int × List Int) :=
  (curveOn p).bind fun r1 =>
  bif (!r1) then
    some ((50 : Int), ([] : List Int))
  else
    bif p.2.2 then
      some ((51 : Int), ([] : List Int))
    else
      (u256Put p.1).bind fun r2 =>
      bif roomB 1 ([(orI .u8 (2 : Int) (IntKind.wrap .u8 (andI .u64 (limb p.2.1 0) (1 : Int))))].length + (List.take 32 (List.drop 0 r2)).length) then
        some ((0 : Int), ([(orI .u8 (2 : Int) (IntKind.wrap .u8 (andI .u64 (limb p.2.1 0) (1 : Int))))] ++ (List.take 32 (List.drop 0 r2))))
      else none

noncomputable def curveCompress (p : Nat × Nat × Bool) : Option (Int × List Int) := hide (curveCompressB p)

theorem curveCompress_eq (p : Nat × Nat × Bool) : curveCompress p = curveCompressB p := hide_eq _

noncomputable def curveExpandB (p : Nat × Nat × Bool) : Option (Int × List Int) :=
  (curveOn p).bind fun r1 =>
  bif (!r1) then
    some ((50 : Int), ([] : List Int))
  else
    bif p.2.2 then
      some ((51 : Int), ([] : List Int))
    else
      (u256Put p.1).bind fun r2 =>
      (u256Put p.2.1).bind fun r3 =>
      bif roomB 1 ([(4 : Int)].length + (List.take 32 (List.drop 0 r2)).length) then
        bif roomB 1 (([(4 : Int)] ++ (List.take 32 (List.drop 0 r2))).length + (List.take 32 (List.drop 0 r3)).length) then
          some ((0 : Int), (([(4 : Int)] ++ (List.take 32 (List.drop 0 r2))) ++ (List.take 32 (List.drop 0 r3))))
        else none
      else none

noncomputable def curveExpand (p : Nat × Nat × Bool) : Option (Int × List Int) := hide (curveExpandB p)

theorem curveExpand_eq (p : Nat × Nat × Bool) : curveExpand p = curveExpandB p := hide_eq _

noncomputable def ref05CompressB (p : Nat × Nat × Bool) : Option (Int × List Int) :=
  (ref05On p).bind fun r1 =>
  bif (!r1) then
    some ((50 : Int), ([] : List Int))
  else
    bif p.2.2 then
      some ((51 : Int), ([] : List Int))
    else
      (ref01Put p.1).bind fun r2 =>
      bif roomB 1 ([(IntKind.wrap .u8 (IntKind.wrap .u64 ((2 : Int) + (Int.tmod (limb p.2.1 0) (2 : Int)))))].length + (List.take 32 (List.drop 0 r2)).length) then
        some ((0 : Int), ([(IntKind.wrap .u8 (IntKind.wrap .u64 ((2 : Int) + (Int.tmod (limb p.2.1 0) (2 : Int)))))] ++ (List.take 32 (List.drop 0 r2))))
      else none

noncomputable def ref05Compress (p : Nat × Nat × Bool) : Option (Int × List Int) := hide (ref05CompressB p)

theorem ref05Compress_eq (p : Nat × Nat × Bool) : ref05Compress p = ref05CompressB p := hide_eq _

noncomputable def ref05ExpandB (p : Nat × Nat × Bool) : Option (Int × List Int) :=
  (ref05On p).bind fun r1 =>
  bif (!r1) then
    some ((50 : Int), ([] : List Int))
  else
    bif p.2.2 then
      some ((51 : Int), ([] : List Int))
    else
      (ref01Put p.1).bind fun r2 =>
      (ref01Put p.2.1).bind fun r3 =>
      bif roomB 1 ([(4 : Int)].length + (List.take 32 (List.drop 0 r2)).length) then
        bif roomB 1 (([(4 : Int)] ++ (List.take 32 (List.drop 0 r2))).length + (List.take 32 (List.drop 0 r3)).length) then
          some ((0 : Int), (([(4 : Int)] ++ (List.take 32 (List.drop 0 r2))) ++ (List.take 32 (List.drop 0 r3))))
        else none
      else none

noncomputable def ref05Expand (p : Nat × Nat × Bool) : Option (Int × List Int) := hide (ref05ExpandB p)

theorem ref05Expand_eq (p : Nat × Nat × Bool) : ref05Expand p = ref05ExpandB p := hide_eq _

end Go.Sy
