/- Typed functions, printed by a program out of the code: what each function of the code computes. -/

import Derived.Test.YtfappeeggccicaaDoorSyVE3

set_option linter.unusedVariables false

namespace Go.Sy

open Go

noncomputable def shaNewB  : Option ((List Int × Unit × Int) × List Int) :=
  some (((List.replicate 8 (0 : Int)), (), (0 : Int)), ([] : List Int))

noncomputable def shaNew  : Option ((List Int × Unit × Int) × List Int) := hide (shaNewB )

theorem shaNew_eq  : shaNew  = shaNewB  := hide_eq _

noncomputable def shaHasherNowB (h : List Int × Unit × Int) (b1 : List Int) : Option (List Int × (List Int × Unit × Int) × List Int) :=
  bif (decide (h.2.2 < (64 : Int))) then
    some (shaStartT, (h.1, (), h.2.2), b1)
  else
    some (h.1, (h.1, (), h.2.2), b1)

noncomputable def shaHasherNow (h : List Int × Unit × Int) (b1 : List Int) : Option (List Int × (List Int × Unit × Int) × List Int) := hide (shaHasherNowB h b1)

theorem shaHasherNow_eq (h : List Int × Unit × Int) (b1 : List Int) : shaHasherNow h b1 = shaHasherNowB h b1 := hide_eq _

noncomputable def bitsRotateLeft32B (x : Int) (k : Int) : Option (Int) :=
  bif decide ((andI .u64 (IntKind.wrap .u64 k) (31 : Int)) < 0) then
    none
  else
    bif decide ((IntKind.wrap .u64 ((32 : Int) - (andI .u64 (IntKind.wrap .u64 k) (31 : Int)))) < 0) then
      none
    else
      some (orI .u32 (shlI .u32 x (andI .u64 (IntKind.wrap .u64 k) (31 : Int))) (shrI .u32 x (IntKind.wrap .u64 ((32 : Int) - (andI .u64 (IntKind.wrap .u64 k) (31 : Int))))))

noncomputable def bitsRotateLeft32 (x : Int) (k : Int) : Option (Int) := hide (bitsRotateLeft32B x k)

theorem bitsRotateLeft32_eq (x : Int) (k : Int) : bitsRotateLeft32 x k = bitsRotateLeft32B x k := hide_eq _

noncomputable def shaIWordsL1R (block : List Int) (t : Int) (s12 : Int) (s21 : List Int) (s22 : Int) (s23 : Int) (b2 : List Int) (w : List Int) : Option ((List Int × Int × Int × List Int × Int × Int × List Int × List Int) ⊕ (List Int × Int × List Int × List Int)) :=
  bif (decide (s23 < s22)) then
    bif decide (0 ≤ s23) then
      bif Nat.blt (Int.toNat s23) s21.length then
        bif decide (0 ≤ t) then
          bif Nat.blt (Int.toNat t) 64 then
            bif Nat.blt (Int.toNat t) 64 then
              bif decide (0 ≤ t) then
                bif Nat.blt (Int.toNat t) 64 then
                  bif Nat.blt (Int.toNat t) 64 then
                    some (.inl (block, t, s12, s21, s22, (IntKind.wrap .i64 (s23 + (1 : Int))), b2, (w.set (Int.toNat t) (orI .u32 (shlI .u32 (w.getD (Int.toNat t) (0 : Int)) 8) (IntKind.wrap .u32 (s21.getD (Int.toNat s23) (0 : Int)))))))
                  else none
                else none
              else none
            else none
          else none
        else none
      else none
    else none
  else
    some (.inr (block, s12, b2, w))

noncomputable def shaIWordsL1 (block : List Int) (t : Int) (s12 : Int) (s21 : List Int) (s22 : Int) (s23 : Int) (b2 : List Int) (w : List Int) : Option (List Int × Int × List Int × List Int) := hide (iter (fun p : List Int × Int × Int × List Int × Int × Int × List Int × List Int => shaIWordsL1R p.1 p.2.1 p.2.2.1 p.2.2.2.1 p.2.2.2.2.1 p.2.2.2.2.2.1 p.2.2.2.2.2.2.1 p.2.2.2.2.2.2.2) (1000) (block, t, s12, s21, s22, s23, b2, w))

theorem shaIWordsL1_eq (block : List Int) (t : Int) (s12 : Int) (s21 : List Int) (s22 : Int) (s23 : Int) (b2 : List Int) (w : List Int) : shaIWordsL1 block t s12 s21 s22 s23 b2 w = iter (fun p : List Int × Int × Int × List Int × Int × Int × List Int × List Int => shaIWordsL1R p.1 p.2.1 p.2.2.1 p.2.2.2.1 p.2.2.2.2.1 p.2.2.2.2.2.1 p.2.2.2.2.2.2.1 p.2.2.2.2.2.2.2) (1000) (block, t, s12, s21, s22, s23, b2, w) := hide_eq _

noncomputable def shaIWordsL0R (block : List Int) (s12 : Int) (b2 : List Int) (w : List Int) : Option ((List Int × Int × List Int × List Int) ⊕ (List Int × List Int)) :=
  bif (decide (s12 < (16 : Int))) then
    bif decide (0 ≤ (IntKind.wrap .i64 ((IntKind.wrap .i64 ((4 : Int) * s12)) + (4 : Int)))) then
      bif Nat.ble (Int.toNat (IntKind.wrap .i64 ((IntKind.wrap .i64 ((4 : Int) * s12)) + (4 : Int)))) block.length then
        bif decide (0 ≤ (IntKind.wrap .i64 ((4 : Int) * s12))) then
          bif Nat.ble (Int.toNat (IntKind.wrap .i64 ((4 : Int) * s12))) (Int.toNat (IntKind.wrap .i64 ((IntKind.wrap .i64 ((4 : Int) * s12)) + (4 : Int)))) then
            (shaIWordsL1 block s12 s12 (List.take ((Int.toNat (IntKind.wrap .i64 ((IntKind.wrap .i64 ((4 : Int) * s12)) + (4 : Int)))) - (Int.toNat (IntKind.wrap .i64 ((4 : Int) * s12)))) (List.drop (Int.toNat (IntKind.wrap .i64 ((4 : Int) * s12))) block)) (((List.take ((Int.toNat (IntKind.wrap .i64 ((IntKind.wrap .i64 ((4 : Int) * s12)) + (4 : Int)))) - (Int.toNat (IntKind.wrap .i64 ((4 : Int) * s12)))) (List.drop (Int.toNat (IntKind.wrap .i64 ((4 : Int) * s12))) block)).length : Nat) : Int) (0 : Int) b2 w).bind fun q2 =>
            some (.inl (q2.1, (IntKind.wrap .i64 (q2.2.1 + (1 : Int))), q2.2.2.1, q2.2.2.2))
          else none
        else none
      else none
    else none
  else
    some (.inr (b2, w))

noncomputable def shaIWordsL0 (block : List Int) (s12 : Int) (b2 : List Int) (w : List Int) : Option (List Int × List Int) := hide (iter (fun p : List Int × Int × List Int × List Int => shaIWordsL0R p.1 p.2.1 p.2.2.1 p.2.2.2) (1000) (block, s12, b2, w))

theorem shaIWordsL0_eq (block : List Int) (s12 : Int) (b2 : List Int) (w : List Int) : shaIWordsL0 block s12 b2 w = iter (fun p : List Int × Int × List Int × List Int => shaIWordsL0R p.1 p.2.1 p.2.2.1 p.2.2.2) (1000) (block, s12, b2, w) := hide_eq _

noncomputable def shaIWordsL2R (t : Int) (b2 : List Int) (w : List Int) : Option ((Int × List Int × List Int) ⊕ (List Int × List Int)) :=
  bif (decide (t < (64 : Int))) then
    bif decide (0 ≤ (IntKind.wrap .i64 (t - (15 : Int)))) then
      bif Nat.blt (Int.toNat (IntKind.wrap .i64 (t - (15 : Int)))) 64 then
        bif Nat.blt (Int.toNat (IntKind.wrap .i64 (t - (15 : Int)))) 64 then
          bif decide (0 ≤ (IntKind.wrap .i64 (t - (2 : Int)))) then
            bif Nat.blt (Int.toNat (IntKind.wrap .i64 (t - (2 : Int)))) 64 then
              bif Nat.blt (Int.toNat (IntKind.wrap .i64 (t - (2 : Int)))) 64 then
                (bitsRotateLeft32 (w.getD (Int.toNat (IntKind.wrap .i64 (t - (15 : Int)))) (0 : Int)) (-7 : Int)).bind fun r8 =>
                (bitsRotateLeft32 (w.getD (Int.toNat (IntKind.wrap .i64 (t - (15 : Int)))) (0 : Int)) (-18 : Int)).bind fun r9 =>
                (bitsRotateLeft32 (w.getD (Int.toNat (IntKind.wrap .i64 (t - (2 : Int)))) (0 : Int)) (-17 : Int)).bind fun r10 =>
                (bitsRotateLeft32 (w.getD (Int.toNat (IntKind.wrap .i64 (t - (2 : Int)))) (0 : Int)) (-19 : Int)).bind fun r11 =>
                bif decide (0 ≤ (IntKind.wrap .i64 (t - (7 : Int)))) then
                  bif Nat.blt (Int.toNat (IntKind.wrap .i64 (t - (7 : Int)))) 64 then
                    bif Nat.blt (Int.toNat (IntKind.wrap .i64 (t - (7 : Int)))) 64 then
                      bif decide (0 ≤ (IntKind.wrap .i64 (t - (16 : Int)))) then
                        bif Nat.blt (Int.toNat (IntKind.wrap .i64 (t - (16 : Int)))) 64 then
                          bif Nat.blt (Int.toNat (IntKind.wrap .i64 (t - (16 : Int)))) 64 then
                            bif decide (0 ≤ t) then
                              bif Nat.blt (Int.toNat t) 64 then
                                bif Nat.blt (Int.toNat t) 64 then
                                  some (.inl ((IntKind.wrap .i64 (t + (1 : Int))), b2, (w.set (Int.toNat t) (IntKind.wrap .u32 ((IntKind.wrap .u32 ((IntKind.wrap .u32 ((xorI .u32 (xorI .u32 r10 r11) (shrI .u32 (w.getD (Int.toNat (IntKind.wrap .i64 (t - (2 : Int)))) (0 : Int)) 10)) + (w.getD (Int.toNat (IntKind.wrap .i64 (t - (7 : Int)))) (0 : Int)))) + (xorI .u32 (xorI .u32 r8 r9) (shrI .u32 (w.getD (Int.toNat (IntKind.wrap .i64 (t - (15 : Int)))) (0 : Int)) 3)))) + (w.getD (Int.toNat (IntKind.wrap .i64 (t - (16 : Int)))) (0 : Int)))))))
                                else none
                              else none
                            else none
                          else none
                        else none
                      else none
                    else none
                  else none
                else none
              else none
            else none
          else none
        else none
      else none
    else none
  else
    some (.inr (b2, w))

noncomputable def shaIWordsL2 (t : Int) (b2 : List Int) (w : List Int) : Option (List Int × List Int) := hide (iter (fun p : Int × List Int × List Int => shaIWordsL2R p.1 p.2.1 p.2.2) (1000) (t, b2, w))

theorem shaIWordsL2_eq (t : Int) (b2 : List Int) (w : List Int) : shaIWordsL2 t b2 w = iter (fun p : Int × List Int × List Int => shaIWordsL2R p.1 p.2.1 p.2.2) (1000) (t, b2, w) := hide_eq _

noncomputable def shaIWordsB (block : List Int) : Option (List Int) :=
  (shaIWordsL0 block (0 : Int) (List.replicate 64 (0 : Int)) (List.replicate 64 (0 : Int))).bind fun q3 =>
  (shaIWordsL2 (16 : Int) q3.1 q3.2).bind fun q12 =>
  some q12.2

noncomputable def shaIWords (block : List Int) : Option (List Int) := hide (shaIWordsB block)

theorem shaIWords_eq (block : List Int) : shaIWords block = shaIWordsB block := hide_eq _

noncomputable def shaIBehindL0R (a : Int) (b : Int) (c : Int) (d : Int) (e : Int) (f : Int) (g : Int) (h : Int) (s38 : List Int) (s39 : Int) (state : List Int) (b4 : List Int) (w : List Int) : Option ((Int × Int × Int × Int × Int × Int × Int × Int × List Int × Int × List Int × List Int × List Int) ⊕ (Int × Int × Int × Int × Int × Int × Int × Int × List Int × List Int)) :=
  bif (decide (s39 < (64 : Int))) then
    bif decide (0 ≤ s39) then
      bif Nat.blt (Int.toNat s39) 64 then
        bif Nat.blt (Int.toNat s39) 64 then
          (bitsRotateLeft32 e (-6 : Int)).bind fun r8 =>
          (bitsRotateLeft32 e (-11 : Int)).bind fun r9 =>
          (bitsRotateLeft32 e (-25 : Int)).bind fun r10 =>
          bif decide (0 ≤ s39) then
            bif Nat.blt (Int.toNat s39) 64 then
              bif Nat.blt (Int.toNat s39) 64 then
                (bitsRotateLeft32 a (-2 : Int)).bind fun r11 =>
                (bitsRotateLeft32 a (-13 : Int)).bind fun r12 =>
                (bitsRotateLeft32 a (-22 : Int)).bind fun r13 =>
                some (.inl ((IntKind.wrap .u32 ((IntKind.wrap .u32 ((IntKind.wrap .u32 ((IntKind.wrap .u32 ((IntKind.wrap .u32 (h + (xorI .u32 (xorI .u32 r8 r9) r10))) + (xorI .u32 (andI .u32 e f) (andI .u32 (xorI .u32 (4294967295) e) g)))) + (s38.getD (Int.toNat s39) (0 : Int)))) + (w.getD (Int.toNat s39) (0 : Int)))) + (IntKind.wrap .u32 ((xorI .u32 (xorI .u32 r11 r12) r13) + (xorI .u32 (xorI .u32 (andI .u32 a b) (andI .u32 a c)) (andI .u32 b c)))))), a, b, c, (IntKind.wrap .u32 (d + (IntKind.wrap .u32 ((IntKind.wrap .u32 ((IntKind.wrap .u32 ((IntKind.wrap .u32 (h + (xorI .u32 (xorI .u32 r8 r9) r10))) + (xorI .u32 (andI .u32 e f) (andI .u32 (xorI .u32 (4294967295) e) g)))) + (s38.getD (Int.toNat s39) (0 : Int)))) + (w.getD (Int.toNat s39) (0 : Int)))))), e, f, g, s38, (IntKind.wrap .i64 (s39 + (1 : Int))), state, b4, w))
              else none
            else none
          else none
        else none
      else none
    else none
  else
    some (.inr (a, b, c, d, e, f, g, h, state, b4))

noncomputable def shaIBehindL0 (a : Int) (b : Int) (c : Int) (d : Int) (e : Int) (f : Int) (g : Int) (h : Int) (s38 : List Int) (s39 : Int) (state : List Int) (b4 : List Int) (w : List Int) : Option (Int × Int × Int × Int × Int × Int × Int × Int × List Int × List Int) := hide (iter (fun p : Int × Int × Int × Int × Int × Int × Int × Int × List Int × Int × List Int × List Int × List Int => shaIBehindL0R p.1 p.2.1 p.2.2.1 p.2.2.2.1 p.2.2.2.2.1 p.2.2.2.2.2.1 p.2.2.2.2.2.2.1 p.2.2.2.2.2.2.2.1 p.2.2.2.2.2.2.2.2.1 p.2.2.2.2.2.2.2.2.2.1 p.2.2.2.2.2.2.2.2.2.2.1 p.2.2.2.2.2.2.2.2.2.2.2.1 p.2.2.2.2.2.2.2.2.2.2.2.2) (1000) (a, b, c, d, e, f, g, h, s38, s39, state, b4, w))

theorem shaIBehindL0_eq (a : Int) (b : Int) (c : Int) (d : Int) (e : Int) (f : Int) (g : Int) (h : Int) (s38 : List Int) (s39 : Int) (state : List Int) (b4 : List Int) (w : List Int) : shaIBehindL0 a b c d e f g h s38 s39 state b4 w = iter (fun p : Int × Int × Int × Int × Int × Int × Int × Int × List Int × Int × List Int × List Int × List Int => shaIBehindL0R p.1 p.2.1 p.2.2.1 p.2.2.2.1 p.2.2.2.2.1 p.2.2.2.2.2.1 p.2.2.2.2.2.2.1 p.2.2.2.2.2.2.2.1 p.2.2.2.2.2.2.2.2.1 p.2.2.2.2.2.2.2.2.2.1 p.2.2.2.2.2.2.2.2.2.2.1 p.2.2.2.2.2.2.2.2.2.2.2.1 p.2.2.2.2.2.2.2.2.2.2.2.2) (1000) (a, b, c, d, e, f, g, h, s38, s39, state, b4, w) := hide_eq _

noncomputable def shaIBehindL1R (s109 : List Int) (s110 : Int) (state : List Int) (b4 : List Int) : Option ((List Int × Int × List Int × List Int) ⊕ (List Int × List Int)) :=
  bif (decide (s110 < (8 : Int))) then
    bif decide (0 ≤ s110) then
      bif Nat.blt (Int.toNat s110) 8 then
        bif Nat.blt (Int.toNat s110) 8 then
          bif decide (0 ≤ s110) then
            bif Nat.blt (Int.toNat s110) 8 then
              bif Nat.blt (Int.toNat s110) 8 then
                bif decide (0 ≤ s110) then
                  bif Nat.blt (Int.toNat s110) 8 then
                    bif Nat.blt (Int.toNat s110) 8 then
                      some (.inl (s109, (IntKind.wrap .i64 (s110 + (1 : Int))), (state.set (Int.toNat s110) (IntKind.wrap .u32 ((state.getD (Int.toNat s110) (0 : Int)) + (s109.getD (Int.toNat s110) (0 : Int))))), b4))
                    else none
                  else none
                else none
              else none
            else none
          else none
        else none
      else none
    else none
  else
    some (.inr (state, b4))

noncomputable def shaIBehindL1 (s109 : List Int) (s110 : Int) (state : List Int) (b4 : List Int) : Option (List Int × List Int) := hide (iter (fun p : List Int × Int × List Int × List Int => shaIBehindL1R p.1 p.2.1 p.2.2.1 p.2.2.2) (1000) (s109, s110, state, b4))

theorem shaIBehindL1_eq (s109 : List Int) (s110 : Int) (state : List Int) (b4 : List Int) : shaIBehindL1 s109 s110 state b4 = iter (fun p : List Int × Int × List Int × List Int => shaIBehindL1R p.1 p.2.1 p.2.2.1 p.2.2.2) (1000) (s109, s110, state, b4) := hide_eq _

noncomputable def shaIBehindB (state : List Int) (block : List Int) : Option (List Int) :=
  (shaIWords block).bind fun r1 =>
  (shaIBehindL0 (state.getD 0 (0 : Int)) (state.getD 1 (0 : Int)) (state.getD 2 (0 : Int)) (state.getD 3 (0 : Int)) (state.getD 4 (0 : Int)) (state.getD 5 (0 : Int)) (state.getD 6 (0 : Int)) (state.getD 7 (0 : Int)) shaConstsT (0 : Int) state (List.replicate 8 (0 : Int)) r1).bind fun q14 =>
  (shaIBehindL1 (((((((((List.replicate 8 (0 : Int)).set 0 q14.1).set 1 q14.2.1).set 2 q14.2.2.1).set 3 q14.2.2.2.1).set 4 q14.2.2.2.2.1).set 5 q14.2.2.2.2.2.1).set 6 q14.2.2.2.2.2.2.1).set 7 q14.2.2.2.2.2.2.2.1) (0 : Int) q14.2.2.2.2.2.2.2.2.1 q14.2.2.2.2.2.2.2.2.2).bind fun q15 =>
  some q15.1

noncomputable def shaIBehind (state : List Int) (block : List Int) : Option (List Int) := hide (shaIBehindB state block)

theorem shaIBehind_eq (state : List Int) (block : List Int) : shaIBehind state block = shaIBehindB state block := hide_eq _

noncomputable def shaHasherWriteL0R (data : List Int) (h : List Int × Unit × Int) (b1000001001 : List Int) (state : List Int) : Option ((List Int × (List Int × Unit × Int) × List Int × List Int) ⊕ (List Int × (List Int × Unit × Int) × List Int × List Int)) :=
  bif (decide ((IntKind.wrap .i64 (((b1000001001.length : Nat) : Int) + ((data.length : Nat) : Int))) ≥ (64 : Int))) then
    bif decide (0 ≤ (IntKind.wrap .i64 ((64 : Int) - ((b1000001001.length : Nat) : Int)))) then
      bif Nat.ble (Int.toNat (IntKind.wrap .i64 ((64 : Int) - ((b1000001001.length : Nat) : Int)))) data.length then
        bif roomB 1 (b1000001001.length + (List.take ((Int.toNat (IntKind.wrap .i64 ((64 : Int) - ((b1000001001.length : Nat) : Int)))) - 0) (List.drop 0 data)).length) then
          (shaIBehind state (b1000001001 ++ (List.take ((Int.toNat (IntKind.wrap .i64 ((64 : Int) - ((b1000001001.length : Nat) : Int)))) - 0) (List.drop 0 data)))).bind fun r3 =>
          bif Nat.ble 0 ((b1000001001 ++ (List.take ((Int.toNat (IntKind.wrap .i64 ((64 : Int) - ((b1000001001.length : Nat) : Int)))) - 0) (List.drop 0 data))).length) then
            bif decide (0 ≤ (IntKind.wrap .i64 ((64 : Int) - ((b1000001001.length : Nat) : Int)))) then
              bif Nat.ble (Int.toNat (IntKind.wrap .i64 ((64 : Int) - ((b1000001001.length : Nat) : Int)))) data.length then
                some (.inl ((List.take (data.length - (Int.toNat (IntKind.wrap .i64 ((64 : Int) - ((b1000001001.length : Nat) : Int))))) (List.drop (Int.toNat (IntKind.wrap .i64 ((64 : Int) - ((b1000001001.length : Nat) : Int)))) data)), (h.1, (), (IntKind.wrap .i64 (h.2.2 + (IntKind.wrap .i64 ((64 : Int) - ((b1000001001.length : Nat) : Int)))))), ([] : List Int), r3))
              else none
            else none
          else none
        else none
      else none
    else none
  else
    some (.inr (data, (h.1, (), h.2.2), state, b1000001001))

noncomputable def shaHasherWriteL0 (data : List Int) (h : List Int × Unit × Int) (b1000001001 : List Int) (state : List Int) : Option (List Int × (List Int × Unit × Int) × List Int × List Int) := hide (iter (fun p : List Int × (List Int × Unit × Int) × List Int × List Int => shaHasherWriteL0R p.1 p.2.1 p.2.2.1 p.2.2.2) (bigFuel) (data, h, b1000001001, state))

theorem shaHasherWriteL0_eq (data : List Int) (h : List Int × Unit × Int) (b1000001001 : List Int) (state : List Int) : shaHasherWriteL0 data h b1000001001 state = iter (fun p : List Int × (List Int × Unit × Int) × List Int × List Int => shaHasherWriteL0R p.1 p.2.1 p.2.2.1 p.2.2.2) (bigFuel) (data, h, b1000001001, state) := hide_eq _

noncomputable def shaHasherWriteB (h : List Int × Unit × Int) (b1 : List Int) (data : List Int) : Option ((List Int × Unit × Int) × List Int) :=
  (shaHasherNow (h.1, (), h.2.2) b1).bind fun r1 =>
  (shaHasherWriteL0 data (r1.2.1.1, (), r1.2.1.2.2) r1.2.2 r1.1).bind fun q4 =>
  bif roomB 1 (q4.2.2.2.length + q4.1.length) then
    some ((q4.2.2.1, (), (IntKind.wrap .i64 (q4.2.1.2.2 + ((q4.1.length : Nat) : Int)))), (q4.2.2.2 ++ q4.1))
  else none

noncomputable def shaHasherWrite (h : List Int × Unit × Int) (b1 : List Int) (data : List Int) : Option ((List Int × Unit × Int) × List Int) := hide (shaHasherWriteB h b1 data)

theorem shaHasherWrite_eq (h : List Int × Unit × Int) (b1 : List Int) (data : List Int) : shaHasherWrite h b1 data = shaHasherWriteB h b1 data := hide_eq _

noncomputable def shaPadL0R (long : Int) (s24 : Int) (b18 : List Int) : Option ((Int × Int × List Int) ⊕ (List Int)) :=
  bif (decide (s24 < (8 : Int))) then
    bif decide ((IntKind.wrap .i64 ((8 : Int) * s24)) < 0) then
      none
    else
      bif decide (0 ≤ (IntKind.wrap .i64 ((IntKind.wrap .i64 (((b18.length : Nat) : Int) - (1 : Int))) - s24))) then
        bif Nat.blt (Int.toNat (IntKind.wrap .i64 ((IntKind.wrap .i64 (((b18.length : Nat) : Int) - (1 : Int))) - s24))) b18.length then
          bif Nat.blt (Int.toNat (IntKind.wrap .i64 ((IntKind.wrap .i64 (((b18.length : Nat) : Int) - (1 : Int))) - s24))) b18.length then
            some (.inl (long, (IntKind.wrap .i64 (s24 + (1 : Int))), (b18.set (Int.toNat (IntKind.wrap .i64 ((IntKind.wrap .i64 (((b18.length : Nat) : Int) - (1 : Int))) - s24))) (IntKind.wrap .u8 (shrI .u64 long (IntKind.wrap .i64 ((8 : Int) * s24)))))))
          else none
        else none
      else none
  else
    some (.inr b18)

noncomputable def shaPadL0 (long : Int) (s24 : Int) (b18 : List Int) : Option (List Int) := hide (iter (fun p : Int × Int × List Int => shaPadL0R p.1 p.2.1 p.2.2) (1000) (long, s24, b18))

theorem shaPadL0_eq (long : Int) (s24 : Int) (b18 : List Int) : shaPadL0 long s24 b18 = iter (fun p : Int × Int × List Int => shaPadL0R p.1 p.2.1 p.2.2) (1000) (long, s24, b18) := hide_eq _

noncomputable def shaPadB (n : Int) : Option (Int × List Int) :=
  bif (decide (n < (0 : Int))) then
    some ((1 : Int), ([] : List Int))
  else
    bif decide (0 ≤ (IntKind.wrap .i64 ((9 : Int) + (Int.tmod (IntKind.wrap .i64 ((64 : Int) - (Int.tmod (IntKind.wrap .i64 ((Int.tmod n (64 : Int)) + (9 : Int))) (64 : Int)))) (64 : Int))))) then
      bif decide ((IntKind.wrap .i64 ((9 : Int) + (Int.tmod (IntKind.wrap .i64 ((64 : Int) - (Int.tmod (IntKind.wrap .i64 ((Int.tmod n (64 : Int)) + (9 : Int))) (64 : Int)))) (64 : Int)))) ≤ (IntKind.wrap .i64 ((9 : Int) + (Int.tmod (IntKind.wrap .i64 ((64 : Int) - (Int.tmod (IntKind.wrap .i64 ((Int.tmod n (64 : Int)) + (9 : Int))) (64 : Int)))) (64 : Int))))) then
        bif roomB 1 (Int.toNat (IntKind.wrap .i64 ((9 : Int) + (Int.tmod (IntKind.wrap .i64 ((64 : Int) - (Int.tmod (IntKind.wrap .i64 ((Int.tmod n (64 : Int)) + (9 : Int))) (64 : Int)))) (64 : Int))))) then
          bif Nat.blt 0 ((List.replicate (Int.toNat (IntKind.wrap .i64 ((9 : Int) + (Int.tmod (IntKind.wrap .i64 ((64 : Int) - (Int.tmod (IntKind.wrap .i64 ((Int.tmod n (64 : Int)) + (9 : Int))) (64 : Int)))) (64 : Int))))) (0 : Int)).length) then
            bif Nat.blt 0 ((List.replicate (Int.toNat (IntKind.wrap .i64 ((9 : Int) + (Int.tmod (IntKind.wrap .i64 ((64 : Int) - (Int.tmod (IntKind.wrap .i64 ((Int.tmod n (64 : Int)) + (9 : Int))) (64 : Int)))) (64 : Int))))) (0 : Int)).length) then
              (shaPadL0 (IntKind.wrap .u64 ((IntKind.wrap .u64 n) * (8 : Int))) (0 : Int) ((List.replicate (Int.toNat (IntKind.wrap .i64 ((9 : Int) + (Int.tmod (IntKind.wrap .i64 ((64 : Int) - (Int.tmod (IntKind.wrap .i64 ((Int.tmod n (64 : Int)) + (9 : Int))) (64 : Int)))) (64 : Int))))) (0 : Int)).set 0 (128 : Int))).bind fun q1 =>
              some ((0 : Int), q1)
            else none
          else none
        else none
      else none
    else none

noncomputable def shaPad (n : Int) : Option (Int × List Int) := hide (shaPadB n)

theorem shaPad_eq (n : Int) : shaPad n = shaPadB n := hide_eq _

noncomputable def shaHasherSumL0R (endV : List Int) (b2 : List Int) (state : List Int) : Option ((List Int × List Int × List Int) ⊕ (List Int × List Int)) :=
  bif (decide (((endV.length : Nat) : Int) > (0 : Int))) then
    bif Nat.ble 64 endV.length then
      (shaIBehind state (List.take 64 (List.drop 0 endV))).bind fun r4 =>
      bif Nat.ble 64 endV.length then
        some (.inl ((List.take (endV.length - 64) (List.drop 64 endV)), b2, r4))
      else none
    else none
  else
    some (.inr (b2, state))

noncomputable def shaHasherSumL0 (endV : List Int) (b2 : List Int) (state : List Int) : Option (List Int × List Int) := hide (iter (fun p : List Int × List Int × List Int => shaHasherSumL0R p.1 p.2.1 p.2.2) (bigFuel) (endV, b2, state))

theorem shaHasherSumL0_eq (endV : List Int) (b2 : List Int) (state : List Int) : shaHasherSumL0 endV b2 state = iter (fun p : List Int × List Int × List Int => shaHasherSumL0R p.1 p.2.1 p.2.2) (bigFuel) (endV, b2, state) := hide_eq _

noncomputable def shaHasherSumB (h : List Int × Unit × Int) (b1 : List Int) : Option (List Int) :=
  (shaHasherNow (h.1, (), h.2.2) b1).bind fun r1 =>
  (shaPad r1.2.1.2.2).bind fun r2 =>
  bif roomB 1 r1.2.2.length then
    bif roomB 1 (r1.2.2.length + r2.2.length) then
      (shaHasherSumL0 (r1.2.2 ++ r2.2) (List.replicate 32 (0 : Int)) r1.1).bind fun q5 =>
      some (((((((((((((((((((((((((((((((((List.replicate 32 (0 : Int)).set 0 (IntKind.wrap .u8 (shrI .u32 (q5.2.getD 0 (0 : Int)) 24))).set 1 (IntKind.wrap .u8 (shrI .u32 (q5.2.getD 0 (0 : Int)) 16))).set 2 (IntKind.wrap .u8 (shrI .u32 (q5.2.getD 0 (0 : Int)) 8))).set 3 (IntKind.wrap .u8 (shrI .u32 (q5.2.getD 0 (0 : Int)) 0))).set 4 (IntKind.wrap .u8 (shrI .u32 (q5.2.getD 1 (0 : Int)) 24))).set 5 (IntKind.wrap .u8 (shrI .u32 (q5.2.getD 1 (0 : Int)) 16))).set 6 (IntKind.wrap .u8 (shrI .u32 (q5.2.getD 1 (0 : Int)) 8))).set 7 (IntKind.wrap .u8 (shrI .u32 (q5.2.getD 1 (0 : Int)) 0))).set 8 (IntKind.wrap .u8 (shrI .u32 (q5.2.getD 2 (0 : Int)) 24))).set 9 (IntKind.wrap .u8 (shrI .u32 (q5.2.getD 2 (0 : Int)) 16))).set 10 (IntKind.wrap .u8 (shrI .u32 (q5.2.getD 2 (0 : Int)) 8))).set 11 (IntKind.wrap .u8 (shrI .u32 (q5.2.getD 2 (0 : Int)) 0))).set 12 (IntKind.wrap .u8 (shrI .u32 (q5.2.getD 3 (0 : Int)) 24))).set 13 (IntKind.wrap .u8 (shrI .u32 (q5.2.getD 3 (0 : Int)) 16))).set 14 (IntKind.wrap .u8 (shrI .u32 (q5.2.getD 3 (0 : Int)) 8))).set 15 (IntKind.wrap .u8 (shrI .u32 (q5.2.getD 3 (0 : Int)) 0))).set 16 (IntKind.wrap .u8 (shrI .u32 (q5.2.getD 4 (0 : Int)) 24))).set 17 (IntKind.wrap .u8 (shrI .u32 (q5.2.getD 4 (0 : Int)) 16))).set 18 (IntKind.wrap .u8 (shrI .u32 (q5.2.getD 4 (0 : Int)) 8))).set 19 (IntKind.wrap .u8 (shrI .u32 (q5.2.getD 4 (0 : Int)) 0))).set 20 (IntKind.wrap .u8 (shrI .u32 (q5.2.getD 5 (0 : Int)) 24))).set 21 (IntKind.wrap .u8 (shrI .u32 (q5.2.getD 5 (0 : Int)) 16))).set 22 (IntKind.wrap .u8 (shrI .u32 (q5.2.getD 5 (0 : Int)) 8))).set 23 (IntKind.wrap .u8 (shrI .u32 (q5.2.getD 5 (0 : Int)) 0))).set 24 (IntKind.wrap .u8 (shrI .u32 (q5.2.getD 6 (0 : Int)) 24))).set 25 (IntKind.wrap .u8 (shrI .u32 (q5.2.getD 6 (0 : Int)) 16))).set 26 (IntKind.wrap .u8 (shrI .u32 (q5.2.getD 6 (0 : Int)) 8))).set 27 (IntKind.wrap .u8 (shrI .u32 (q5.2.getD 6 (0 : Int)) 0))).set 28 (IntKind.wrap .u8 (shrI .u32 (q5.2.getD 7 (0 : Int)) 24))).set 29 (IntKind.wrap .u8 (shrI .u32 (q5.2.getD 7 (0 : Int)) 16))).set 30 (IntKind.wrap .u8 (shrI .u32 (q5.2.getD 7 (0 : Int)) 8))).set 31 (IntKind.wrap .u8 (shrI .u32 (q5.2.getD 7 (0 : Int)) 0)))
    else none
  else none

noncomputable def shaHasherSum (h : List Int × Unit × Int) (b1 : List Int) : Option (List Int) := hide (shaHasherSumB h b1)

theorem shaHasherSum_eq (h : List Int × Unit × Int) (b1 : List Int) : shaHasherSum h b1 = shaHasherSumB h b1 := hide_eq _

noncomputable def shaSumL0R (s7 : List (List Int)) (s8 : Int) (s9 : Int) (b2 : List Int) (b1000006 : List Int × Unit × Int) (b1000002000 : List Int) : Option ((List (List Int) × Int × Int × List Int × (List Int × Unit × Int) × List Int) ⊕ (List Int × (List Int × Unit × Int) × List Int)) :=
  bif (decide (s9 < s8)) then
    bif decide (0 ≤ s9) then
      bif Nat.blt (Int.toNat s9) s7.length then
        (shaHasherWrite (b1000006.1, (), b1000006.2.2) b1000002000 (s7.getD (Int.toNat s9) ([] : List Int))).bind fun r3 =>
        some (.inl (s7, s8, (IntKind.wrap .i64 (s9 + (1 : Int))), b2, (r3.1.1, (), r3.1.2.2), r3.2))
      else none
    else none
  else
    some (.inr (b2, (b1000006.1, (), b1000006.2.2), b1000002000))

noncomputable def shaSumL0 (s7 : List (List Int)) (s8 : Int) (s9 : Int) (b2 : List Int) (b1000006 : List Int × Unit × Int) (b1000002000 : List Int) : Option (List Int × (List Int × Unit × Int) × List Int) := hide (iter (fun p : List (List Int) × Int × Int × List Int × (List Int × Unit × Int) × List Int => shaSumL0R p.1 p.2.1 p.2.2.1 p.2.2.2.1 p.2.2.2.2.1 p.2.2.2.2.2) (bigFuel) (s7, s8, s9, b2, b1000006, b1000002000))

theorem shaSumL0_eq (s7 : List (List Int)) (s8 : Int) (s9 : Int) (b2 : List Int) (b1000006 : List Int × Unit × Int) (b1000002000 : List Int) : shaSumL0 s7 s8 s9 b2 b1000006 b1000002000 = iter (fun p : List (List Int) × Int × Int × List Int × (List Int × Unit × Int) × List Int => shaSumL0R p.1 p.2.1 p.2.2.1 p.2.2.2.1 p.2.2.2.2.1 p.2.2.2.2.2) (bigFuel) (s7, s8, s9, b2, b1000006, b1000002000) := hide_eq _

noncomputable def shaSumB (parts : List (List Int)) : Option (List Int) :=
  (shaNew).bind fun r1 =>
  (shaSumL0 parts ((parts.length : Nat) : Int) (0 : Int) (List.replicate 32 (0 : Int)) (r1.1.1, (), r1.1.2.2) r1.2).bind fun q4 =>
  (shaHasherSum (q4.2.1.1, (), q4.2.1.2.2) q4.2.2).bind fun r5 =>
  some r5

noncomputable def shaSum (parts : List (List Int)) : Option (List Int) := hide (shaSumB parts)

theorem shaSum_eq (parts : List (List Int)) : shaSum parts = shaSumB parts := hide_eq _

noncomputable def shaHMACL0R (parts : List (List Int)) (s28 : Int) (b4 : List Int) (inV : List Int) (out : List Int) : Option ((List (List Int) × Int × List Int × List Int × List Int) ⊕ (List (List Int) × List Int × List Int × List Int)) :=
  bif (decide (s28 < (64 : Int))) then
    bif decide (0 ≤ s28) then
      bif Nat.blt (Int.toNat s28) 64 then
        bif Nat.blt (Int.toNat s28) 64 then
          bif decide (0 ≤ s28) then
            bif Nat.blt (Int.toNat s28) 64 then
              bif Nat.blt (Int.toNat s28) 64 then
                bif decide (0 ≤ s28) then
                  bif Nat.blt (Int.toNat s28) 64 then
                    bif Nat.blt (Int.toNat s28) 64 then
                      bif decide (0 ≤ s28) then
                        bif Nat.blt (Int.toNat s28) 64 then
                          bif Nat.blt (Int.toNat s28) 64 then
                            some (.inl (parts, (IntKind.wrap .i64 (s28 + (1 : Int))), b4, (inV.set (Int.toNat s28) (xorI .u8 (inV.getD (Int.toNat s28) (0 : Int)) (54 : Int))), (out.set (Int.toNat s28) (xorI .u8 (out.getD (Int.toNat s28) (0 : Int)) (92 : Int)))))
                          else none
                        else none
                      else none
                    else none
                  else none
                else none
              else none
            else none
          else none
        else none
      else none
    else none
  else
    some (.inr (parts, b4, inV, out))

noncomputable def shaHMACL0 (parts : List (List Int)) (s28 : Int) (b4 : List Int) (inV : List Int) (out : List Int) : Option (List (List Int) × List Int × List Int × List Int) := hide (iter (fun p : List (List Int) × Int × List Int × List Int × List Int => shaHMACL0R p.1 p.2.1 p.2.2.1 p.2.2.2.1 p.2.2.2.2) (1000) (parts, s28, b4, inV, out))

theorem shaHMACL0_eq (parts : List (List Int)) (s28 : Int) (b4 : List Int) (inV : List Int) (out : List Int) : shaHMACL0 parts s28 b4 inV out = iter (fun p : List (List Int) × Int × List Int × List Int × List Int => shaHMACL0R p.1 p.2.1 p.2.2.1 p.2.2.2.1 p.2.2.2.2) (1000) (parts, s28, b4, inV, out) := hide_eq _

noncomputable def shaHMACL1R (s46 : List (List Int)) (s47 : Int) (s48 : Int) (b4 : List Int) (out : List Int) (b1000042 : List Int × Unit × Int) (b999999998045 : List Int) : Option ((List (List Int) × Int × Int × List Int × List Int × (List Int × Unit × Int) × List Int) ⊕ (List Int × List Int × (List Int × Unit × Int) × List Int)) :=
  bif (decide (s48 < s47)) then
    bif decide (0 ≤ s48) then
      bif Nat.blt (Int.toNat s48) s46.length then
        (shaHasherWrite (b1000042.1, (), b1000042.2.2) b999999998045 (s46.getD (Int.toNat s48) ([] : List Int))).bind fun r6 =>
        some (.inl (s46, s47, (IntKind.wrap .i64 (s48 + (1 : Int))), b4, out, (r6.1.1, (), r6.1.2.2), r6.2))
      else none
    else none
  else
    some (.inr (b4, out, (b1000042.1, (), b1000042.2.2), b999999998045))

noncomputable def shaHMACL1 (s46 : List (List Int)) (s47 : Int) (s48 : Int) (b4 : List Int) (out : List Int) (b1000042 : List Int × Unit × Int) (b999999998045 : List Int) : Option (List Int × List Int × (List Int × Unit × Int) × List Int) := hide (iter (fun p : List (List Int) × Int × Int × List Int × List Int × (List Int × Unit × Int) × List Int => shaHMACL1R p.1 p.2.1 p.2.2.1 p.2.2.2.1 p.2.2.2.2.1 p.2.2.2.2.2.1 p.2.2.2.2.2.2) (1000) (s46, s47, s48, b4, out, b1000042, b999999998045))

theorem shaHMACL1_eq (s46 : List (List Int)) (s47 : Int) (s48 : Int) (b4 : List Int) (out : List Int) (b1000042 : List Int × Unit × Int) (b999999998045 : List Int) : shaHMACL1 s46 s47 s48 b4 out b1000042 b999999998045 = iter (fun p : List (List Int) × Int × Int × List Int × List Int × (List Int × Unit × Int) × List Int => shaHMACL1R p.1 p.2.1 p.2.2.1 p.2.2.2.1 p.2.2.2.2.1 p.2.2.2.2.2.1 p.2.2.2.2.2.2) (1000) (s46, s47, s48, b4, out, b1000042, b999999998045) := hide_eq _

noncomputable def shaHMACB (key : List Int) (parts : List (List Int)) : Option (List Int) :=
  bif (decide (((key.length : Nat) : Int) > (64 : Int))) then
    (shaSum [key]).bind fun r1 =>
    (shaHMACL0 parts (0 : Int) (List.replicate 32 (0 : Int)) (spliceL (List.replicate 64 (0 : Int)) 0 (List.take 64 (List.take 32 (List.drop 0 r1)))) (spliceL (List.replicate 64 (0 : Int)) 0 (List.take 64 (List.take 32 (List.drop 0 r1))))).bind fun q2 =>
    (shaNew).bind fun r3 =>
    (shaHasherWrite (r3.1.1, (), r3.1.2.2) r3.2 (List.take 64 (List.drop 0 q2.2.2.1))).bind fun r4 =>
    (shaHMACL1 q2.1 ((q2.1.length : Nat) : Int) (0 : Int) q2.2.1 q2.2.2.2 (r4.1.1, (), r4.1.2.2) r4.2).bind fun q7 =>
    (shaHasherSum (q7.2.2.1.1, (), q7.2.2.1.2.2) q7.2.2.2).bind fun r8 =>
    (shaSum [(List.take 64 (List.drop 0 q7.2.1)), (List.take 32 (List.drop 0 r8))]).bind fun r9 =>
    some r9
  else
    (shaHMACL0 parts (0 : Int) (List.replicate 32 (0 : Int)) (spliceL (List.replicate 64 (0 : Int)) 0 (List.take 64 key)) (spliceL (List.replicate 64 (0 : Int)) 0 (List.take 64 key))).bind fun q10 =>
    (shaNew).bind fun r11 =>
    (shaHasherWrite (r11.1.1, (), r11.1.2.2) r11.2 (List.take 64 (List.drop 0 q10.2.2.1))).bind fun r12 =>
    (shaHMACL1 q10.1 ((q10.1.length : Nat) : Int) (0 : Int) q10.2.1 q10.2.2.2 (r12.1.1, (), r12.1.2.2) r12.2).bind fun q13 =>
    (shaHasherSum (q13.2.2.1.1, (), q13.2.2.1.2.2) q13.2.2.2).bind fun r14 =>
    (shaSum [(List.take 64 (List.drop 0 q13.2.1)), (List.take 32 (List.drop 0 r14))]).bind fun r15 =>
    some r15

noncomputable def shaHMAC (key : List Int) (parts : List (List Int)) : Option (List Int) := hide (shaHMACB key parts)

theorem shaHMAC_eq (key : List Int) (parts : List (List Int)) : shaHMAC key parts = shaHMACB key parts := hide_eq _

end Go.Sy
