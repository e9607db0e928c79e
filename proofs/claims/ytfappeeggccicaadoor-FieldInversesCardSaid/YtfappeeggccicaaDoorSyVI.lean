/- Typed functions, printed by a program out of the code: what each function of the code computes. -/
import Derived.Test.YtfappeeggccicaaDoorSyVE3
set_option linter.unusedVariables false
namespace Go.Sy
open Go

noncomputable def ref04InversesL0R (k : Int) (list : List Nat) (i : Int) (b41 : List Nat) : Option ((Int × List Nat × Int × List Nat) ⊕ (Int ⊕ List Nat)) :=
  bif (decide (i < ((list.length : Nat) : Int))) then
    bif decide (0 ≤ i) then
      bif Nat.blt (Int.toNat i) list.length then
        (ref04Inverse k (list.getD (Int.toNat i) (0 : Nat))).bind fun r3 =>
        bif (r3.2 != (0 : Int)) then
          some (.inr (.inl r3.2))
        else
          bif roomB 32 (b41.length + [r3.1].length) then
            some (.inl (k, list, (IntKind.wrap .i64 (i + (1 : Int))), (b41 ++ [r3.1])))
          else none
      else none
    else none
  else
    some (.inr (.inr b41))

noncomputable def ref04InversesL0 (k : Int) (list : List Nat) (i : Int) (b41 : List Nat) : Option (Int ⊕ List Nat) := hide (iter (fun p : Int × List Nat × Int × List Nat => ref04InversesL0R p.1 p.2.1 p.2.2.1 p.2.2.2) (bigFuel) (k, list, i, b41))

theorem ref04InversesL0_eq (k : Int) (list : List Nat) (i : Int) (b41 : List Nat) : ref04InversesL0 k list i b41 = iter (fun p : Int × List Nat × Int × List Nat => ref04InversesL0R p.1 p.2.1 p.2.2.1 p.2.2.2) (bigFuel) (k, list, i, b41) := hide_eq _

noncomputable def ref04InversesB (k : Int) (list : List Nat) : Option (Int × List Nat) :=
  (ref04IGood k).bind fun r1 =>
  bif (!r1) then
    some ((1 : Int), ([] : List Nat))
  else
    bif (decide (((list.length : Nat) : Int) > (65536 : Int))) then
      some ((2 : Int), ([] : List Nat))
    else
      (ref04InversesL0 k list (0 : Int) ([] : List Nat)).bind fun q4 =>
      sumK q4 (fun q5 =>
        some (q5, ([] : List Nat)))
        (fun q6 =>
        some ((0 : Int), q6))

noncomputable def ref04Inverses (k : Int) (list : List Nat) : Option (Int × List Nat) := hide (ref04InversesB k list)

theorem ref04Inverses_eq (k : Int) (list : List Nat) : ref04Inverses k list = ref04InversesB k list := hide_eq _

noncomputable def law04FieldInversesL0R (k : Int) (list : List Nat) (i : Int) (b26 : List Nat) : Option ((Int × List Nat × Int × List Nat) ⊕ (Int × List Nat × List Nat)) :=
  bif (decide (i < ((b26.length : Nat) : Int))) then
    bif decide (0 ≤ i) then
      bif Nat.blt (Int.toNat i) b26.length then
        bif Nat.blt (Int.toNat i) b26.length then
          some (.inl (k, list, (IntKind.wrap .i64 (i + (1 : Int))), (b26.set (Int.toNat i) 43939712147706765349232502530900234157089237571786585931783)))
        else none
      else none
    else none
  else
    some (.inr (k, list, b26))

noncomputable def law04FieldInversesL0 (k : Int) (list : List Nat) (i : Int) (b26 : List Nat) : Option (Int × List Nat × List Nat) := hide (iter (fun p : Int × List Nat × Int × List Nat => law04FieldInversesL0R p.1 p.2.1 p.2.2.1 p.2.2.2) (bigFuel) (k, list, i, b26))

theorem law04FieldInversesL0_eq (k : Int) (list : List Nat) (i : Int) (b26 : List Nat) : law04FieldInversesL0 k list i b26 = iter (fun p : Int × List Nat × Int × List Nat => law04FieldInversesL0R p.1 p.2.1 p.2.2.1 p.2.2.2) (bigFuel) (k, list, i, b26) := hide_eq _

noncomputable def law04FieldInversesL1R (k : Int) (list : List Nat) (given : Nat × Nat) (i : Int) (b26 : List Nat) (b1000049 : List Nat) (b1000059 : List Nat) (b1000065 : List Nat) : Option ((Int × List Nat × (Nat × Nat) × Int × List Nat × List Nat × List Nat × List Nat) ⊕ (Unit ⊕ (Int × List Nat × (Nat × Nat) × List Nat × List Nat × List Nat × List Nat))) :=
  bif (decide (i < ((b26.length : Nat) : Int))) then
    bif decide (0 ≤ i) then
      bif Nat.blt (Int.toNat i) b26.length then
        bif Nat.blt (Int.toNat i) b26.length then
          bif (!(u256eq (b26.getD (Int.toNat i) (0 : Nat)) 43939712147706765349232502530900234157089237571786585931783)) then
            some (.inr (.inl ()))
          else
            some (.inl (k, list, given, (IntKind.wrap .i64 (i + (1 : Int))), b26, b1000049, b1000059, b1000065))
        else none
      else none
    else none
  else
    some (.inr (.inr (k, list, given, b26, b1000049, b1000059, b1000065)))

noncomputable def law04FieldInversesL1 (k : Int) (list : List Nat) (given : Nat × Nat) (i : Int) (b26 : List Nat) (b1000049 : List Nat) (b1000059 : List Nat) (b1000065 : List Nat) : Option (Unit ⊕ (Int × List Nat × (Nat × Nat) × List Nat × List Nat × List Nat × List Nat)) := hide (iter (fun p : Int × List Nat × (Nat × Nat) × Int × List Nat × List Nat × List Nat × List Nat => law04FieldInversesL1R p.1 p.2.1 p.2.2.1 p.2.2.2.1 p.2.2.2.2.1 p.2.2.2.2.2.1 p.2.2.2.2.2.2.1 p.2.2.2.2.2.2.2) (bigFuel) (k, list, given, i, b26, b1000049, b1000059, b1000065))

theorem law04FieldInversesL1_eq (k : Int) (list : List Nat) (given : Nat × Nat) (i : Int) (b26 : List Nat) (b1000049 : List Nat) (b1000059 : List Nat) (b1000065 : List Nat) : law04FieldInversesL1 k list given i b26 b1000049 b1000059 b1000065 = iter (fun p : Int × List Nat × (Nat × Nat) × Int × List Nat × List Nat × List Nat × List Nat => law04FieldInversesL1R p.1 p.2.1 p.2.2.1 p.2.2.2.1 p.2.2.2.2.1 p.2.2.2.2.2.1 p.2.2.2.2.2.2.1 p.2.2.2.2.2.2.2) (bigFuel) (k, list, given, i, b26, b1000049, b1000059, b1000065) := hide_eq _

noncomputable def law04FieldInversesL2R (k : Int) (list : List Nat) (given : Nat × Nat) (i : Int) (b26 : List Nat) (b1000049 : List Nat) (b1000059 : List Nat) (b1000065 : List Nat) : Option ((Int × List Nat × (Nat × Nat) × Int × List Nat × List Nat × List Nat × List Nat) ⊕ (Int × List Nat × (Nat × Nat) × List Nat × List Nat × List Nat × List Nat)) :=
  bif (decide (i < ((b1000049.length : Nat) : Int))) then
    bif decide (0 ≤ i) then
      bif Nat.blt (Int.toNat i) b1000049.length then
        bif Nat.blt (Int.toNat i) b1000049.length then
          some (.inl (k, list, given, (IntKind.wrap .i64 (i + (1 : Int))), b26, (b1000049.set (Int.toNat i) 8), b1000059, b1000065))
        else none
      else none
    else none
  else
    some (.inr (k, list, given, b26, b1000049, b1000059, b1000065))

noncomputable def law04FieldInversesL2 (k : Int) (list : List Nat) (given : Nat × Nat) (i : Int) (b26 : List Nat) (b1000049 : List Nat) (b1000059 : List Nat) (b1000065 : List Nat) : Option (Int × List Nat × (Nat × Nat) × List Nat × List Nat × List Nat × List Nat) := hide (iter (fun p : Int × List Nat × (Nat × Nat) × Int × List Nat × List Nat × List Nat × List Nat => law04FieldInversesL2R p.1 p.2.1 p.2.2.1 p.2.2.2.1 p.2.2.2.2.1 p.2.2.2.2.2.1 p.2.2.2.2.2.2.1 p.2.2.2.2.2.2.2) (bigFuel) (k, list, given, i, b26, b1000049, b1000059, b1000065))

theorem law04FieldInversesL2_eq (k : Int) (list : List Nat) (given : Nat × Nat) (i : Int) (b26 : List Nat) (b1000049 : List Nat) (b1000059 : List Nat) (b1000065 : List Nat) : law04FieldInversesL2 k list given i b26 b1000049 b1000059 b1000065 = iter (fun p : Int × List Nat × (Nat × Nat) × Int × List Nat × List Nat × List Nat × List Nat => law04FieldInversesL2R p.1 p.2.1 p.2.2.1 p.2.2.2.1 p.2.2.2.2.1 p.2.2.2.2.2.1 p.2.2.2.2.2.2.1 p.2.2.2.2.2.2.2) (bigFuel) (k, list, given, i, b26, b1000049, b1000059, b1000065) := hide_eq _

noncomputable def law04FieldInversesL4R (k : Int) (given : Nat × Nat) (i : Int) (b26 : List Nat) : Option ((Int × (Nat × Nat) × Int × List Nat) ⊕ (Int × (Nat × Nat) × List Nat)) :=
  bif (decide (i < ((given.2 : Nat) : Int))) then
    bif inU64 (IntKind.wrap .u64 ((IntKind.wrap .u64 i) + (5 : Int))) then
      bif decide (0 ≤ i) then
        bif Nat.blt (Int.toNat i) given.2 then
          bif Nat.blt (given.1 + (Int.toNat i)) b26.length then
            some (.inl (k, given, (IntKind.wrap .i64 (i + (1 : Int))), (b26.set (given.1 + (Int.toNat i)) (setLimb 0 0 (IntKind.wrap .u64 ((IntKind.wrap .u64 i) + (5 : Int)))))))
          else none
        else none
      else none
    else none
  else
    some (.inr (k, given, b26))

noncomputable def law04FieldInversesL4 (k : Int) (given : Nat × Nat) (i : Int) (b26 : List Nat) : Option (Int × (Nat × Nat) × List Nat) := hide (iter (fun p : Int × (Nat × Nat) × Int × List Nat => law04FieldInversesL4R p.1 p.2.1 p.2.2.1 p.2.2.2) (bigFuel) (k, given, i, b26))

theorem law04FieldInversesL4_eq (k : Int) (given : Nat × Nat) (i : Int) (b26 : List Nat) : law04FieldInversesL4 k given i b26 = iter (fun p : Int × (Nat × Nat) × Int × List Nat => law04FieldInversesL4R p.1 p.2.1 p.2.2.1 p.2.2.2) (bigFuel) (k, given, i, b26) := hide_eq _

noncomputable def law04FieldInversesB (k : Int) (list : List Nat) : Option (Bool) :=
  bif decide (0 ≤ (IntKind.wrap .i64 (((list.length : Nat) : Int) + (9 : Int)))) then
    bif decide ((IntKind.wrap .i64 (((list.length : Nat) : Int) + (9 : Int))) ≤ (IntKind.wrap .i64 (((list.length : Nat) : Int) + (9 : Int)))) then
      bif roomB 32 (Int.toNat (IntKind.wrap .i64 (((list.length : Nat) : Int) + (9 : Int)))) then
        (law04FieldInversesL0 k list ((list.length : Nat) : Int) (spliceL (List.replicate (Int.toNat (IntKind.wrap .i64 (((list.length : Nat) : Int) + (9 : Int)))) (0 : Nat)) 0 (List.take ((List.replicate (Int.toNat (IntKind.wrap .i64 (((list.length : Nat) : Int) + (9 : Int)))) (0 : Nat)).length) list))).bind fun q1 =>
        bif decide (0 ≤ ((q1.2.1.length : Nat) : Int)) then
          bif Nat.ble (Int.toNat ((q1.2.1.length : Nat) : Int)) q1.2.2.length then
            bif Nat.ble (0 + ((Int.toNat ((q1.2.1.length : Nat) : Int)) - 0)) q1.2.2.length then
              (fieldInverses q1.1 (List.take ((Int.toNat ((q1.2.1.length : Nat) : Int)) - 0) (List.drop 0 q1.2.2))).bind fun r2 =>
              (fieldInverses q1.1 [3]).bind fun r3 =>
              bif Nat.ble (0 + ((Int.toNat ((q1.2.1.length : Nat) : Int)) - 0)) q1.2.2.length then
                (fieldInverses q1.1 (List.take ((Int.toNat ((q1.2.1.length : Nat) : Int)) - 0) (List.drop 0 q1.2.2))).bind fun r4 =>
                (ref04Inverses q1.1 q1.2.1).bind fun r5 =>
                (law04INum r2.1).bind fun r6 =>
                bif (r6 != r5.1) then
                  some false
                else
                  (law04INum r4.1).bind fun r7 =>
                  bif (r7 != r5.1) then
                    some false
                  else
                    (law04ISame r2.2 r5.2).bind fun r8 =>
                    bif (!r8) then
                      some false
                    else
                      (law04ISame r4.2 r5.2).bind fun r9 =>
                      bif (!r9) then
                        some false
                      else
                        bif Nat.ble (0 + ((Int.toNat ((q1.2.1.length : Nat) : Int)) - 0)) q1.2.2.length then
                          (law04ISame (List.take ((Int.toNat ((q1.2.1.length : Nat) : Int)) - 0) (List.drop 0 q1.2.2)) q1.2.1).bind fun r10 =>
                          bif (!r10) then
                            some false
                          else
                            (law04FieldInversesL1 q1.1 q1.2.1 (0, ((Int.toNat ((q1.2.1.length : Nat) : Int)) - 0)) ((q1.2.1.length : Nat) : Int) q1.2.2 r2.2 r4.2 r5.2).bind fun q11 =>
                            sumK q11 (fun q12 =>
                              some false)
                              (fun q13 =>
                              (law04FieldInversesL2 q13.1 q13.2.1 q13.2.2.1 (0 : Int) q13.2.2.2.1 q13.2.2.2.2.1 q13.2.2.2.2.2.1 q13.2.2.2.2.2.2).bind fun q14 =>
                              bif roomB 32 (q14.2.2.2.2.1.length + [9].length) then
                                (some (q14.2.2.2.2.1 ++ [9])).bind fun a15 =>
                                bif roomB 32 (a15.length + [9].length) then
                                  (some (a15 ++ [9])).bind fun a16 =>
                                  bif roomB 32 (a16.length + [9].length) then
                                    (some (a16 ++ [9])).bind fun a17 =>
                                    bif roomB 32 (a17.length + [9].length) then
                                      (some (a17 ++ [9])).bind fun a18 =>
                                      bif roomB 32 (a18.length + [9].length) then
                                        (some (a18 ++ [9])).bind fun a19 =>
                                        bif roomB 32 (a19.length + [9].length) then
                                          (some (a19 ++ [9])).bind fun a20 =>
                                          bif roomB 32 (a20.length + [9].length) then
                                            (some (a20 ++ [9])).bind fun a21 =>
                                            bif roomB 32 (a21.length + [9].length) then
                                              (some (a21 ++ [9])).bind fun a22 =>
                                              bif roomB 32 (a22.length + [9].length) then
                                                (some (a22 ++ [9])).bind fun a23 =>
                                                bif roomB 32 (a23.length + [9].length) then
                                                  (some (a23 ++ [9])).bind fun a24 =>
                                                  bif roomB 32 (a24.length + [9].length) then
                                                    (some (a24 ++ [9])).bind fun a25 =>
                                                    bif roomB 32 (a25.length + [9].length) then
                                                      (some (a25 ++ [9])).bind fun a26 =>
                                                      bif roomB 32 (a26.length + [9].length) then
                                                        (some (a26 ++ [9])).bind fun a27 =>
                                                        bif roomB 32 (a27.length + [9].length) then
                                                          (some (a27 ++ [9])).bind fun a28 =>
                                                          bif roomB 32 (a28.length + [9].length) then
                                                            (some (a28 ++ [9])).bind fun a29 =>
                                                            bif roomB 32 (a29.length + [9].length) then
                                                              (some (a29 ++ [9])).bind fun a30 =>
                                                              bif roomB 32 (a30.length + [9].length) then
                                                                (some (a30 ++ [9])).bind fun a31 =>
                                                                bif roomB 32 (a31.length + [9].length) then
                                                                  (some (a31 ++ [9])).bind fun a32 =>
                                                                  bif roomB 32 (a32.length + [9].length) then
                                                                    (some (a32 ++ [9])).bind fun a33 =>
                                                                    bif roomB 32 (a33.length + [9].length) then
                                                                      (some (a33 ++ [9])).bind fun a34 =>
                                                                      bif roomB 32 (a34.length + [9].length) then
                                                                        (some (a34 ++ [9])).bind fun a35 =>
                                                                        bif roomB 32 (a35.length + [9].length) then
                                                                          (some (a35 ++ [9])).bind fun a36 =>
                                                                          bif roomB 32 (a36.length + [9].length) then
                                                                            (some (a36 ++ [9])).bind fun a37 =>
                                                                            bif roomB 32 (a37.length + [9].length) then
                                                                              (some (a37 ++ [9])).bind fun a38 =>
                                                                              bif roomB 32 (a38.length + [9].length) then
                                                                                (some (a38 ++ [9])).bind fun a39 =>
                                                                                bif roomB 32 (a39.length + [9].length) then
                                                                                  (some (a39 ++ [9])).bind fun a40 =>
                                                                                  bif roomB 32 (a40.length + [9].length) then
                                                                                    (some (a40 ++ [9])).bind fun a41 =>
                                                                                    bif roomB 32 (a41.length + [9].length) then
                                                                                      (some (a41 ++ [9])).bind fun a42 =>
                                                                                      bif roomB 32 (a42.length + [9].length) then
                                                                                        (some (a42 ++ [9])).bind fun a43 =>
                                                                                        bif roomB 32 (a43.length + [9].length) then
                                                                                          (some (a43 ++ [9])).bind fun a44 =>
                                                                                          bif roomB 32 (a44.length + [9].length) then
                                                                                            (some (a44 ++ [9])).bind fun a45 =>
                                                                                            bif roomB 32 (a45.length + [9].length) then
                                                                                              (some (a45 ++ [9])).bind fun a46 =>
                                                                                              bif roomB 32 (a46.length + [9].length) then
                                                                                                (some (a46 ++ [9])).bind fun a47 =>
                                                                                                bif roomB 32 (a47.length + [9].length) then
                                                                                                  (some (a47 ++ [9])).bind fun a48 =>
                                                                                                  bif roomB 32 (a48.length + [9].length) then
                                                                                                    (some (a48 ++ [9])).bind fun a49 =>
                                                                                                    bif roomB 32 (a49.length + [9].length) then
                                                                                                      (some (a49 ++ [9])).bind fun a50 =>
                                                                                                      bif roomB 32 (a50.length + [9].length) then
                                                                                                        (some (a50 ++ [9])).bind fun a51 =>
                                                                                                        bif roomB 32 (a51.length + [9].length) then
                                                                                                          (some (a51 ++ [9])).bind fun a52 =>
                                                                                                          bif roomB 32 (a52.length + [9].length) then
                                                                                                            (some (a52 ++ [9])).bind fun a53 =>
                                                                                                            bif roomB 32 (a53.length + [9].length) then
                                                                                                              (some (a53 ++ [9])).bind fun a54 =>
                                                                                                              bif roomB 32 (a54.length + [9].length) then
                                                                                                                (some (a54 ++ [9])).bind fun a55 =>
                                                                                                                bif roomB 32 (a55.length + [9].length) then
                                                                                                                  (some (a55 ++ [9])).bind fun a56 =>
                                                                                                                  bif roomB 32 (a56.length + [9].length) then
                                                                                                                    (some (a56 ++ [9])).bind fun a57 =>
                                                                                                                    bif roomB 32 (a57.length + [9].length) then
                                                                                                                      (some (a57 ++ [9])).bind fun a58 =>
                                                                                                                      bif roomB 32 (a58.length + [9].length) then
                                                                                                                        (some (a58 ++ [9])).bind fun a59 =>
                                                                                                                        bif roomB 32 (a59.length + [9].length) then
                                                                                                                          (some (a59 ++ [9])).bind fun a60 =>
                                                                                                                          bif roomB 32 (a60.length + [9].length) then
                                                                                                                            (some (a60 ++ [9])).bind fun a61 =>
                                                                                                                            bif roomB 32 (a61.length + [9].length) then
                                                                                                                              (some (a61 ++ [9])).bind fun a62 =>
                                                                                                                              bif roomB 32 (a62.length + [9].length) then
                                                                                                                                (some (a62 ++ [9])).bind fun a63 =>
                                                                                                                                bif roomB 32 (a63.length + [9].length) then
                                                                                                                                  (some (a63 ++ [9])).bind fun a64 =>
                                                                                                                                  bif roomB 32 (a64.length + [9].length) then
                                                                                                                                    (some (a64 ++ [9])).bind fun a65 =>
                                                                                                                                    bif roomB 32 (a65.length + [9].length) then
                                                                                                                                      (some (a65 ++ [9])).bind fun a66 =>
                                                                                                                                      bif roomB 32 (a66.length + [9].length) then
                                                                                                                                        (some (a66 ++ [9])).bind fun a67 =>
                                                                                                                                        bif roomB 32 (a67.length + [9].length) then
                                                                                                                                          (some (a67 ++ [9])).bind fun a68 =>
                                                                                                                                          bif roomB 32 (a68.length + [9].length) then
                                                                                                                                            (some (a68 ++ [9])).bind fun a69 =>
                                                                                                                                            bif roomB 32 (a69.length + [9].length) then
                                                                                                                                              (some (a69 ++ [9])).bind fun a70 =>
                                                                                                                                              bif roomB 32 (a70.length + [9].length) then
                                                                                                                                                (some (a70 ++ [9])).bind fun a71 =>
                                                                                                                                                bif roomB 32 (a71.length + [9].length) then
                                                                                                                                                  (some (a71 ++ [9])).bind fun a72 =>
                                                                                                                                                  bif roomB 32 (a72.length + [9].length) then
                                                                                                                                                    (some (a72 ++ [9])).bind fun a73 =>
                                                                                                                                                    bif roomB 32 (a73.length + [9].length) then
                                                                                                                                                      (some (a73 ++ [9])).bind fun a74 =>
                                                                                                                                                      bif roomB 32 (a74.length + [9].length) then
                                                                                                                                                        (some (a74 ++ [9])).bind fun a75 =>
                                                                                                                                                        bif roomB 32 (a75.length + [9].length) then
                                                                                                                                                          (some (a75 ++ [9])).bind fun a76 =>
                                                                                                                                                          bif roomB 32 (a76.length + [9].length) then
                                                                                                                                                            (some (a76 ++ [9])).bind fun a77 =>
                                                                                                                                                            bif roomB 32 (a77.length + [9].length) then
                                                                                                                                                              (some (a77 ++ [9])).bind fun a78 =>
                                                                                                                                                              bif (((a78.length : Nat) : Int) != (IntKind.wrap .i64 (((q14.2.2.2.2.1.length : Nat) : Int) + (64 : Int)))) then
                                                                                                                                                                some false
                                                                                                                                                              else
                                                                                                                                                                (law04ISame q14.2.2.2.2.2.1 q14.2.2.2.2.2.2).bind fun r79 =>
                                                                                                                                                                bif (!r79) then
                                                                                                                                                                  some false
                                                                                                                                                                else
                                                                                                                                                                  bif Nat.ble (q14.2.2.1.1 + q14.2.2.1.2) q14.2.2.2.1.length then
                                                                                                                                                                    (law04ISame (List.take q14.2.2.1.2 (List.drop q14.2.2.1.1 q14.2.2.2.1)) q14.2.1).bind fun r80 =>
                                                                                                                                                                    bif (!r80) then
                                                                                                                                                                      some false
                                                                                                                                                                    else
                                                                                                                                                                      (law04FieldInversesL4 q14.1 q14.2.2.1 (0 : Int) q14.2.2.2.1).bind fun q81 =>
                                                                                                                                                                      bif Nat.ble (q81.2.1.1 + q81.2.1.2) q81.2.2.length then
                                                                                                                                                                        (fieldInverses q81.1 (List.take q81.2.1.2 (List.drop q81.2.1.1 q81.2.2))).bind fun r82 =>
                                                                                                                                                                        bif Nat.ble (q81.2.1.1 + q81.2.1.2) q81.2.2.length then
                                                                                                                                                                          (ref04Inverses q81.1 (List.take q81.2.1.2 (List.drop q81.2.1.1 q81.2.2))).bind fun r83 =>
                                                                                                                                                                          (law04INum r82.1).bind fun r84 =>
                                                                                                                                                                          bif (r84 == r83.1) then
                                                                                                                                                                            (law04ISame r82.2 r83.2).bind fun r85 =>
                                                                                                                                                                            some r85
                                                                                                                                                                          else
                                                                                                                                                                            some false
                                                                                                                                                                        else none
                                                                                                                                                                      else none
                                                                                                                                                                  else none
                                                                                                                                                            else none
                                                                                                                                                          else none
                                                                                                                                                        else none
                                                                                                                                                      else none
                                                                                                                                                    else none
                                                                                                                                                  else none
                                                                                                                                                else none
                                                                                                                                              else none
                                                                                                                                            else none
                                                                                                                                          else none
                                                                                                                                        else none
                                                                                                                                      else none
                                                                                                                                    else none
                                                                                                                                  else none
                                                                                                                                else none
                                                                                                                              else none
                                                                                                                            else none
                                                                                                                          else none
                                                                                                                        else none
                                                                                                                      else none
                                                                                                                    else none
                                                                                                                  else none
                                                                                                                else none
                                                                                                              else none
                                                                                                            else none
                                                                                                          else none
                                                                                                        else none
                                                                                                      else none
                                                                                                    else none
                                                                                                  else none
                                                                                                else none
                                                                                              else none
                                                                                            else none
                                                                                          else none
                                                                                        else none
                                                                                      else none
                                                                                    else none
                                                                                  else none
                                                                                else none
                                                                              else none
                                                                            else none
                                                                          else none
                                                                        else none
                                                                      else none
                                                                    else none
                                                                  else none
                                                                else none
                                                              else none
                                                            else none
                                                          else none
                                                        else none
                                                      else none
                                                    else none
                                                  else none
                                                else none
                                              else none
                                            else none
                                          else none
                                        else none
                                      else none
                                    else none
                                  else none
                                else none
                              else none)
                        else none
              else none
            else none
          else none
        else none
      else none
    else none
  else none

noncomputable def law04FieldInverses (k : Int) (list : List Nat) : Option (Bool) := hide (law04FieldInversesB k list)

theorem law04FieldInverses_eq (k : Int) (list : List Nat) : law04FieldInverses k list = law04FieldInversesB k list := hide_eq _

end Go.Sy
