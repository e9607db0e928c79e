/- Typed functions, printed by a program out of the code: what each function of the code computes. -/
import Derived.Test.YtfappeeggccicaaGreatDoorSyVE3
set_option linter.unusedVariables false
noncomputable section
namespace Go.Sy
open Go
def shaNewB  : Option ((List Int × Unit × Int) × List Int) :=
 some (((List.replicate 8 (0 : Int)), (), (0 : Int)), ([] : List Int))
def shaNew  : Option ((List Int × Unit × Int) × List Int) := hide (shaNewB )
theorem shaNew_eq  : shaNew  = shaNewB  := hide_eq _
def shaHasherNowB (h : List Int × Unit × Int) (b1 : List Int) : Option (List Int × (List Int × Unit × Int) × List Int) :=
 bif (decide (h.2.2 < (64 : Int))) then
  some (shaStartT, (h.1, (), h.2.2), b1)
 else
  some (h.1, (h.1, (), h.2.2), b1)
def shaHasherNow (h : List Int × Unit × Int) (b1 : List Int) : Option (List Int × (List Int × Unit × Int) × List Int) := hide (shaHasherNowB h b1)
theorem shaHasherNow_eq (h : List Int × Unit × Int) (b1 : List Int) : shaHasherNow h b1 = shaHasherNowB h b1 := hide_eq _
def bitsRotateLeft32B (x : Int) (k : Int) : Option (Int) :=
 bif decide ((andI .u64 (IntKind.wrap .u64 k) (31 : Int)) < 0) then
  none
 else
  bif decide ((IntKind.wrap .u64 ((32 : Int) - (andI .u64 (IntKind.wrap .u64 k) (31 : Int)))) < 0) then
   none
  else
   some (orI .u32 (shlI .u32 x (andI .u64 (IntKind.wrap .u64 k) (31 : Int))) (shrI .u32 x (IntKind.wrap .u64 ((32 : Int) - (andI .u64 (IntKind.wrap .u64 k) (31 : Int))))))
def bitsRotateLeft32 (x : Int) (k : Int) : Option (Int) := hide (bitsRotateLeft32B x k)
theorem bitsRotateLeft32_eq (x : Int) (k : Int) : bitsRotateLeft32 x k = bitsRotateLeft32B x k := hide_eq _
def shaIWordsL1R (block : List Int) (t : Int) (s12 : Int) (s21 : List Int) (s22 : Int) (s23 : Int) (b2 : List Int) (w : List Int) : Option ((List Int × Int × Int × List Int × Int × Int × List Int × List Int) ⊕ (List Int × Int × List Int × List Int)) :=
 bif (decide (s23 < s22)) then
  bif decide (0 ≤ s23) then
   bif Nat.blt (Int.toNat s23) s21.length then
    bif decide (0 ≤ t) then
     bif Nat.blt (Int.toNat t) 64 then
      bif Nat.blt (Int.toNat t) 64 then
       bif decide (0 ≤ t) then
        bif Nat.blt (Int.toNat t) 64 then
         bif Nat.blt (Int.toNat t) 64 then
          some (.inl (block, t, s12, s21, s22, (IntKind.wrap .i64 (s23 + (1 : Int))), b2, (w.set (Int.toNat t) (orI .u32 (shlI .u32 (w.getD (Int.toNat t) (0 : Int)) 8) (IntKind.wrap .u32 (s21.getD (Int.toNat s23) (0 : Int)))))))
         else none
        else none
       else none
      else none
     else none
    else none
   else none
  else none
 else
  some (.inr (block, s12, b2, w))
def shaIWordsL1 (block : List Int) (t : Int) (s12 : Int) (s21 : List Int) (s22 : Int) (s23 : Int) (b2 : List Int) (w : List Int) : Option (List Int × Int × List Int × List Int) := hide (iter (fun p : List Int × Int × Int × List Int × Int × Int × List Int × List Int => shaIWordsL1R p.1 p.2.1 p.2.2.1 p.2.2.2.1 p.2.2.2.2.1 p.2.2.2.2.2.1 p.2.2.2.2.2.2.1 p.2.2.2.2.2.2.2) (1000) (block, t, s12, s21, s22, s23, b2, w))
theorem shaIWordsL1_eq (block : List Int) (t : Int) (s12 : Int) (s21 : List Int) (s22 : Int) (s23 : Int) (b2 : List Int) (w : List Int) : shaIWordsL1 block t s12 s21 s22 s23 b2 w = iter (fun p : List Int × Int × Int × List Int × Int × Int × List Int × List Int => shaIWordsL1R p.1 p.2.1 p.2.2.1 p.2.2.2.1 p.2.2.2.2.1 p.2.2.2.2.2.1 p.2.2.2.2.2.2.1 p.2.2.2.2.2.2.2) (1000) (block, t, s12, s21, s22, s23, b2, w) := hide_eq _
def shaIWordsL0R (block : List Int) (s12 : Int) (b2 : List Int) (w : List Int) : Option ((List Int × Int × List Int × List Int) ⊕ (List Int × List Int)) :=
 bif (decide (s12 < (16 : Int))) then
  bif decide (0 ≤ (IntKind.wrap .i64 ((IntKind.wrap .i64 ((4 : Int) * s12)) + (4 : Int)))) then
   bif Nat.ble (Int.toNat (IntKind.wrap .i64 ((IntKind.wrap .i64 ((4 : Int) * s12)) + (4 : Int)))) block.length then
    bif decide (0 ≤ (IntKind.wrap .i64 ((4 : Int) * s12))) then
     bif Nat.ble (Int.toNat (IntKind.wrap .i64 ((4 : Int) * s12))) (Int.toNat (IntKind.wrap .i64 ((IntKind.wrap .i64 ((4 : Int) * s12)) + (4 : Int)))) then
      (shaIWordsL1 block s12 s12 (List.take ((Int.toNat (IntKind.wrap .i64 ((IntKind.wrap .i64 ((4 : Int) * s12)) + (4 : Int)))) - (Int.toNat (IntKind.wrap .i64 ((4 : Int) * s12)))) (List.drop (Int.toNat (IntKind.wrap .i64 ((4 : Int) * s12))) block)) (((List.take ((Int.toNat (IntKind.wrap .i64 ((IntKind.wrap .i64 ((4 : Int) * s12)) + (4 : Int)))) - (Int.toNat (IntKind.wrap .i64 ((4 : Int) * s12)))) (List.drop (Int.toNat (IntKind.wrap .i64 ((4 : Int) * s12))) block)).length : Nat) : Int) (0 : Int) b2 w).bind fun q2 =>
      some (.inl (q2.1, (IntKind.wrap .i64 (q2.2.1 + (1 : Int))), q2.2.2.1, q2.2.2.2))
     else none
    else none
   else none
  else none
 else
  some (.inr (b2, w))
def shaIWordsL0 (block : List Int) (s12 : Int) (b2 : List Int) (w : List Int) : Option (List Int × List Int) := hide (iter (fun p : List Int × Int × List Int × List Int => shaIWordsL0R p.1 p.2.1 p.2.2.1 p.2.2.2) (1000) (block, s12, b2, w))
theorem shaIWordsL0_eq (block : List Int) (s12 : Int) (b2 : List Int) (w : List Int) : shaIWordsL0 block s12 b2 w = iter (fun p : List Int × Int × List Int × List Int => shaIWordsL0R p.1 p.2.1 p.2.2.1 p.2.2.2) (1000) (block, s12, b2, w) := hide_eq _
def shaIWordsL2R (t : Int) (b2 : List Int) (w : List Int) : Option ((Int × List Int × List Int) ⊕ (List Int × List Int)) :=
 bif (decide (t < (64 : Int))) then
  bif decide (0 ≤ (IntKind.wrap .i64 (t - (15 : Int)))) then
   bif Nat.blt (Int.toNat (IntKind.wrap .i64 (t - (15 : Int)))) 64 then
    bif Nat.blt (Int.toNat (IntKind.wrap .i64 (t - (15 : Int)))) 64 then
     bif decide (0 ≤ (IntKind.wrap .i64 (t - (2 : Int)))) then
      bif Nat.blt (Int.toNat (IntKind.wrap .i64 (t - (2 : Int)))) 64 then
       bif Nat.blt (Int.toNat (IntKind.wrap .i64 (t - (2 : Int)))) 64 then
        (bitsRotateLeft32 (w.getD (Int.toNat (IntKind.wrap .i64 (t - (15 : Int)))) (0 : Int)) (-7 : Int)).bind fun r8 =>
        (bitsRotateLeft32 (w.getD (Int.toNat (IntKind.wrap .i64 (t - (15 : Int)))) (0 : Int)) (-18 : Int)).bind fun r9 =>
        (bitsRotateLeft32 (w.getD (Int.toNat (IntKind.wrap .i64 (t - (2 : Int)))) (0 : Int)) (-17 : Int)).bind fun r10 =>
        (bitsRotateLeft32 (w.getD (Int.toNat (IntKind.wrap .i64 (t - (2 : Int)))) (0 : Int)) (-19 : Int)).bind fun r11 =>
        bif decide (0 ≤ (IntKind.wrap .i64 (t - (7 : Int)))) then
         bif Nat.blt (Int.toNat (IntKind.wrap .i64 (t - (7 : Int)))) 64 then
          bif Nat.blt (Int.toNat (IntKind.wrap .i64 (t - (7 : Int)))) 64 then
           bif decide (0 ≤ (IntKind.wrap .i64 (t - (16 : Int)))) then
            bif Nat.blt (Int.toNat (IntKind.wrap .i64 (t - (16 : Int)))) 64 then
             bif Nat.blt (Int.toNat (IntKind.wrap .i64 (t - (16 : Int)))) 64 then
              bif decide (0 ≤ t) then
               bif Nat.blt (Int.toNat t) 64 then
                bif Nat.blt (Int.toNat t) 64 then
                 some (.inl ((IntKind.wrap .i64 (t + (1 : Int))), b2, (w.set (Int.toNat t) (IntKind.wrap .u32 ((IntKind.wrap .u32 ((IntKind.wrap .u32 ((xorI .u32 (xorI .u32 r10 r11) (shrI .u32 (w.getD (Int.toNat (IntKind.wrap .i64 (t - (2 : Int)))) (0 : Int)) 10)) + (w.getD (Int.toNat (IntKind.wrap .i64 (t - (7 : Int)))) (0 : Int)))) + (xorI .u32 (xorI .u32 r8 r9) (shrI .u32 (w.getD (Int.toNat (IntKind.wrap .i64 (t - (15 : Int)))) (0 : Int)) 3)))) + (w.getD (Int.toNat (IntKind.wrap .i64 (t - (16 : Int)))) (0 : Int)))))))
                else none
               else none
              else none
             else none
            else none
           else none
          else none
         else none
        else none
       else none
      else none
     else none
    else none
   else none
  else none
 else
  some (.inr (b2, w))
def shaIWordsL2 (t : Int) (b2 : List Int) (w : List Int) : Option (List Int × List Int) := hide (iter (fun p : Int × List Int × List Int => shaIWordsL2R p.1 p.2.1 p.2.2) (1000) (t, b2, w))
theorem shaIWordsL2_eq (t : Int) (b2 : List Int) (w : List Int) : shaIWordsL2 t b2 w = iter (fun p : Int × List Int × List Int => shaIWordsL2R p.1 p.2.1 p.2.2) (1000) (t, b2, w) := hide_eq _
def shaIWordsB (block : List Int) : Option (List Int) :=
 (shaIWordsL0 block (0 : Int) (List.replicate 64 (0 : Int)) (List.replicate 64 (0 : Int))).bind fun q3 =>
 (shaIWordsL2 (16 : Int) q3.1 q3.2).bind fun q12 =>
 some q12.2
def shaIWords (block : List Int) : Option (List Int) := hide (shaIWordsB block)
theorem shaIWords_eq (block : List Int) : shaIWords block = shaIWordsB block := hide_eq _
def shaIBehindL0R (a : Int) (b : Int) (c : Int) (d : Int) (e : Int) (f : Int) (g : Int) (h : Int) (s38 : List Int) (s39 : Int) (state : List Int) (b4 : List Int) (w : List Int) : Option ((Int × Int × Int × Int × Int × Int × Int × Int × List Int × Int × List Int × List Int × List Int) ⊕ (Int × Int × Int × Int × Int × Int × Int × Int × List Int × List Int)) :=
 bif (decide (s39 < (64 : Int))) then
  bif decide (0 ≤ s39) then
   bif Nat.blt (Int.toNat s39) 64 then
    bif Nat.blt (Int.toNat s39) 64 then
     (bitsRotateLeft32 e (-6 : Int)).bind fun r8 =>
     (bitsRotateLeft32 e (-11 : Int)).bind fun r9 =>
     (bitsRotateLeft32 e (-25 : Int)).bind fun r10 =>
     bif decide (0 ≤ s39) then
      bif Nat.blt (Int.toNat s39) 64 then
       bif Nat.blt (Int.toNat s39) 64 then
        (bitsRotateLeft32 a (-2 : Int)).bind fun r11 =>
        (bitsRotateLeft32 a (-13 : Int)).bind fun r12 =>
        (bitsRotateLeft32 a (-22 : Int)).bind fun r13 =>
        some (.inl ((IntKind.wrap .u32 ((IntKind.wrap .u32 ((IntKind.wrap .u32 ((IntKind.wrap .u32 ((IntKind.wrap .u32 (h + (xorI .u32 (xorI .u32 r8 r9) r10))) + (xorI .u32 (andI .u32 e f) (andI .u32 (xorI .u32 (4294967295) e) g)))) + (s38.getD (Int.toNat s39) (0 : Int)))) + (w.getD (Int.toNat s39) (0 : Int)))) + (IntKind.wrap .u32 ((xorI .u32 (xorI .u32 r11 r12) r13) + (xorI .u32 (xorI .u32 (andI .u32 a b) (andI .u32 a c)) (andI .u32 b c)))))), a, b, c, (IntKind.wrap .u32 (d + (IntKind.wrap .u32 ((IntKind.wrap .u32 ((IntKind.wrap .u32 ((IntKind.wrap .u32 (h + (xorI .u32 (xorI .u32 r8 r9) r10))) + (xorI .u32 (andI .u32 e f) (andI .u32 (xorI .u32 (4294967295) e) g)))) + (s38.getD (Int.toNat s39) (0 : Int)))) + (w.getD (Int.toNat s39) (0 : Int)))))), e, f, g, s38, (IntKind.wrap .i64 (s39 + (1 : Int))), state, b4, w))
       else none
      else none
     else none
    else none
   else none
  else none
 else
  some (.inr (a, b, c, d, e, f, g, h, state, b4))
def shaIBehindL0 (a : Int) (b : Int) (c : Int) (d : Int) (e : Int) (f : Int) (g : Int) (h : Int) (s38 : List Int) (s39 : Int) (state : List Int) (b4 : List Int) (w : List Int) : Option (Int × Int × Int × Int × Int × Int × Int × Int × List Int × List Int) := hide (iter (fun p : Int × Int × Int × Int × Int × Int × Int × Int × List Int × Int × List Int × List Int × List Int => shaIBehindL0R p.1 p.2.1 p.2.2.1 p.2.2.2.1 p.2.2.2.2.1 p.2.2.2.2.2.1 p.2.2.2.2.2.2.1 p.2.2.2.2.2.2.2.1 p.2.2.2.2.2.2.2.2.1 p.2.2.2.2.2.2.2.2.2.1 p.2.2.2.2.2.2.2.2.2.2.1 p.2.2.2.2.2.2.2.2.2.2.2.1 p.2.2.2.2.2.2.2.2.2.2.2.2) (1000) (a, b, c, d, e, f, g, h, s38, s39, state, b4, w))
theorem shaIBehindL0_eq (a : Int) (b : Int) (c : Int) (d : Int) (e : Int) (f : Int) (g : Int) (h : Int) (s38 : List Int) (s39 : Int) (state : List Int) (b4 : List Int) (w : List Int) : shaIBehindL0 a b c d e f g h s38 s39 state b4 w = iter (fun p : Int × Int × Int × Int × Int × Int × Int × Int × List Int × Int × List Int × List Int × List Int => shaIBehindL0R p.1 p.2.1 p.2.2.1 p.2.2.2.1 p.2.2.2.2.1 p.2.2.2.2.2.1 p.2.2.2.2.2.2.1 p.2.2.2.2.2.2.2.1 p.2.2.2.2.2.2.2.2.1 p.2.2.2.2.2.2.2.2.2.1 p.2.2.2.2.2.2.2.2.2.2.1 p.2.2.2.2.2.2.2.2.2.2.2.1 p.2.2.2.2.2.2.2.2.2.2.2.2) (1000) (a, b, c, d, e, f, g, h, s38, s39, state, b4, w) := hide_eq _
def shaIBehindL1R (s109 : List Int) (s110 : Int) (state : List Int) (b4 : List Int) : Option ((List Int × Int × List Int × List Int) ⊕ (List Int × List Int)) :=
 bif (decide (s110 < (8 : Int))) then
  bif decide (0 ≤ s110) then
   bif Nat.blt (Int.toNat s110) 8 then
    bif Nat.blt (Int.toNat s110) 8 then
     bif decide (0 ≤ s110) then
      bif Nat.blt (Int.toNat s110) 8 then
       bif Nat.blt (Int.toNat s110) 8 then
        bif decide (0 ≤ s110) then
         bif Nat.blt (Int.toNat s110) 8 then
          bif Nat.blt (Int.toNat s110) 8 then
           some (.inl (s109, (IntKind.wrap .i64 (s110 + (1 : Int))), (state.set (Int.toNat s110) (IntKind.wrap .u32 ((state.getD (Int.toNat s110) (0 : Int)) + (s109.getD (Int.toNat s110) (0 : Int))))), b4))
          else none
         else none
        else none
       else none
      else none
     else none
    else none
   else none
  else none
 else
  some (.inr (state, b4))
def shaIBehindL1 (s109 : List Int) (s110 : Int) (state : List Int) (b4 : List Int) : Option (List Int × List Int) := hide (iter (fun p : List Int × Int × List Int × List Int => shaIBehindL1R p.1 p.2.1 p.2.2.1 p.2.2.2) (1000) (s109, s110, state, b4))
theorem shaIBehindL1_eq (s109 : List Int) (s110 : Int) (state : List Int) (b4 : List Int) : shaIBehindL1 s109 s110 state b4 = iter (fun p : List Int × Int × List Int × List Int => shaIBehindL1R p.1 p.2.1 p.2.2.1 p.2.2.2) (1000) (s109, s110, state, b4) := hide_eq _
def shaIBehindB (state : List Int) (block : List Int) : Option (List Int) :=
 (shaIWords block).bind fun r1 =>
 (shaIBehindL0 (state.getD 0 (0 : Int)) (state.getD 1 (0 : Int)) (state.getD 2 (0 : Int)) (state.getD 3 (0 : Int)) (state.getD 4 (0 : Int)) (state.getD 5 (0 : Int)) (state.getD 6 (0 : Int)) (state.getD 7 (0 : Int)) shaConstsT (0 : Int) state (List.replicate 8 (0 : Int)) r1).bind fun q14 =>
 (shaIBehindL1 (((((((((List.replicate 8 (0 : Int)).set 0 q14.1).set 1 q14.2.1).set 2 q14.2.2.1).set 3 q14.2.2.2.1).set 4 q14.2.2.2.2.1).set 5 q14.2.2.2.2.2.1).set 6 q14.2.2.2.2.2.2.1).set 7 q14.2.2.2.2.2.2.2.1) (0 : Int) q14.2.2.2.2.2.2.2.2.1 q14.2.2.2.2.2.2.2.2.2).bind fun q15 =>
 some q15.1
def shaIBehind (state : List Int) (block : List Int) : Option (List Int) := hide (shaIBehindB state block)
theorem shaIBehind_eq (state : List Int) (block : List Int) : shaIBehind state block = shaIBehindB state block := hide_eq _
def shaHasherWriteL0R (data : List Int) (h : List Int × Unit × Int) (b1000001001 : List Int) (state : List Int) : Option ((List Int × (List Int × Unit × Int) × List Int × List Int) ⊕ (List Int × (List Int × Unit × Int) × List Int × List Int)) :=
 bif (decide ((IntKind.wrap .i64 (((b1000001001.length : Nat) : Int) + ((data.length : Nat) : Int))) ≥ (64 : Int))) then
  bif decide (0 ≤ (IntKind.wrap .i64 ((64 : Int) - ((b1000001001.length : Nat) : Int)))) then
   bif Nat.ble (Int.toNat (IntKind.wrap .i64 ((64 : Int) - ((b1000001001.length : Nat) : Int)))) data.length then
    bif roomB 1 (b1000001001.length + (List.take ((Int.toNat (IntKind.wrap .i64 ((64 : Int) - ((b1000001001.length : Nat) : Int)))) - 0) (List.drop 0 data)).length) then
     (shaIBehind state (b1000001001 ++ (List.take ((Int.toNat (IntKind.wrap .i64 ((64 : Int) - ((b1000001001.length : Nat) : Int)))) - 0) (List.drop 0 data)))).bind fun r3 =>
     bif Nat.ble 0 ((b1000001001 ++ (List.take ((Int.toNat (IntKind.wrap .i64 ((64 : Int) - ((b1000001001.length : Nat) : Int)))) - 0) (List.drop 0 data))).length) then
      bif decide (0 ≤ (IntKind.wrap .i64 ((64 : Int) - ((b1000001001.length : Nat) : Int)))) then
       bif Nat.ble (Int.toNat (IntKind.wrap .i64 ((64 : Int) - ((b1000001001.length : Nat) : Int)))) data.length then
        some (.inl ((List.take (data.length - (Int.toNat (IntKind.wrap .i64 ((64 : Int) - ((b1000001001.length : Nat) : Int))))) (List.drop (Int.toNat (IntKind.wrap .i64 ((64 : Int) - ((b1000001001.length : Nat) : Int)))) data)), (h.1, (), (IntKind.wrap .i64 (h.2.2 + (IntKind.wrap .i64 ((64 : Int) - ((b1000001001.length : Nat) : Int)))))), ([] : List Int), r3))
       else none
      else none
     else none
    else none
   else none
  else none
 else
  some (.inr (data, (h.1, (), h.2.2), state, b1000001001))
def shaHasherWriteL0 (data : List Int) (h : List Int × Unit × Int) (b1000001001 : List Int) (state : List Int) : Option (List Int × (List Int × Unit × Int) × List Int × List Int) := hide (iter (fun p : List Int × (List Int × Unit × Int) × List Int × List Int => shaHasherWriteL0R p.1 p.2.1 p.2.2.1 p.2.2.2) (bigFuel) (data, h, b1000001001, state))
theorem shaHasherWriteL0_eq (data : List Int) (h : List Int × Unit × Int) (b1000001001 : List Int) (state : List Int) : shaHasherWriteL0 data h b1000001001 state = iter (fun p : List Int × (List Int × Unit × Int) × List Int × List Int => shaHasherWriteL0R p.1 p.2.1 p.2.2.1 p.2.2.2) (bigFuel) (data, h, b1000001001, state) := hide_eq _
def shaHasherWriteB (h : List Int × Unit × Int) (b1 : List Int) (data : List Int) : Option ((List Int × Unit × Int) × List Int) :=
 (shaHasherNow (h.1, (), h.2.2) b1).bind fun r1 =>
 (shaHasherWriteL0 data (r1.2.1.1, (), r1.2.1.2.2) r1.2.2 r1.1).bind fun q4 =>
 bif roomB 1 (q4.2.2.2.length + q4.1.length) then
  some ((q4.2.2.1, (), (IntKind.wrap .i64 (q4.2.1.2.2 + ((q4.1.length : Nat) : Int)))), (q4.2.2.2 ++ q4.1))
 else none
def shaHasherWrite (h : List Int × Unit × Int) (b1 : List Int) (data : List Int) : Option ((List Int × Unit × Int) × List Int) := hide (shaHasherWriteB h b1 data)
theorem shaHasherWrite_eq (h : List Int × Unit × Int) (b1 : List Int) (data : List Int) : shaHasherWrite h b1 data = shaHasherWriteB h b1 data := hide_eq _
def shaPadL0R (long : Int) (s24 : Int) (b18 : List Int) : Option ((Int × Int × List Int) ⊕ (List Int)) :=
 bif (decide (s24 < (8 : Int))) then
  bif decide ((IntKind.wrap .i64 ((8 : Int) * s24)) < 0) then
   none
  else
   bif decide (0 ≤ (IntKind.wrap .i64 ((IntKind.wrap .i64 (((b18.length : Nat) : Int) - (1 : Int))) - s24))) then
    bif Nat.blt (Int.toNat (IntKind.wrap .i64 ((IntKind.wrap .i64 (((b18.length : Nat) : Int) - (1 : Int))) - s24))) b18.length then
     bif Nat.blt (Int.toNat (IntKind.wrap .i64 ((IntKind.wrap .i64 (((b18.length : Nat) : Int) - (1 : Int))) - s24))) b18.length then
      some (.inl (long, (IntKind.wrap .i64 (s24 + (1 : Int))), (b18.set (Int.toNat (IntKind.wrap .i64 ((IntKind.wrap .i64 (((b18.length : Nat) : Int) - (1 : Int))) - s24))) (IntKind.wrap .u8 (shrI .u64 long (IntKind.wrap .i64 ((8 : Int) * s24)))))))
     else none
    else none
   else none
 else
  some (.inr b18)
def shaPadL0 (long : Int) (s24 : Int) (b18 : List Int) : Option (List Int) := hide (iter (fun p : Int × Int × List Int => shaPadL0R p.1 p.2.1 p.2.2) (1000) (long, s24, b18))
theorem shaPadL0_eq (long : Int) (s24 : Int) (b18 : List Int) : shaPadL0 long s24 b18 = iter (fun p : Int × Int × List Int => shaPadL0R p.1 p.2.1 p.2.2) (1000) (long, s24, b18) := hide_eq _
def shaPadB (n : Int) : Option (Int × List Int) :=
 bif (decide (n < (0 : Int))) then
  some ((1 : Int), ([] : List Int))
 else
  bif decide (0 ≤ (IntKind.wrap .i64 ((9 : Int) + (Int.tmod (IntKind.wrap .i64 ((64 : Int) - (Int.tmod (IntKind.wrap .i64 ((Int.tmod n (64 : Int)) + (9 : Int))) (64 : Int)))) (64 : Int))))) then
   bif decide ((IntKind.wrap .i64 ((9 : Int) + (Int.tmod (IntKind.wrap .i64 ((64 : Int) - (Int.tmod (IntKind.wrap .i64 ((Int.tmod n (64 : Int)) + (9 : Int))) (64 : Int)))) (64 : Int)))) ≤ (IntKind.wrap .i64 ((9 : Int) + (Int.tmod (IntKind.wrap .i64 ((64 : Int) - (Int.tmod (IntKind.wrap .i64 ((Int.tmod n (64 : Int)) + (9 : Int))) (64 : Int)))) (64 : Int))))) then
    bif roomB 1 (Int.toNat (IntKind.wrap .i64 ((9 : Int) + (Int.tmod (IntKind.wrap .i64 ((64 : Int) - (Int.tmod (IntKind.wrap .i64 ((Int.tmod n (64 : Int)) + (9 : Int))) (64 : Int)))) (64 : Int))))) then
     bif Nat.blt 0 ((List.replicate (Int.toNat (IntKind.wrap .i64 ((9 : Int) + (Int.tmod (IntKind.wrap .i64 ((64 : Int) - (Int.tmod (IntKind.wrap .i64 ((Int.tmod n (64 : Int)) + (9 : Int))) (64 : Int)))) (64 : Int))))) (0 : Int)).length) then
      bif Nat.blt 0 ((List.replicate (Int.toNat (IntKind.wrap .i64 ((9 : Int) + (Int.tmod (IntKind.wrap .i64 ((64 : Int) - (Int.tmod (IntKind.wrap .i64 ((Int.tmod n (64 : Int)) + (9 : Int))) (64 : Int)))) (64 : Int))))) (0 : Int)).length) then
       (shaPadL0 (IntKind.wrap .u64 ((IntKind.wrap .u64 n) * (8 : Int))) (0 : Int) ((List.replicate (Int.toNat (IntKind.wrap .i64 ((9 : Int) + (Int.tmod (IntKind.wrap .i64 ((64 : Int) - (Int.tmod (IntKind.wrap .i64 ((Int.tmod n (64 : Int)) + (9 : Int))) (64 : Int)))) (64 : Int))))) (0 : Int)).set 0 (128 : Int))).bind fun q1 =>
       some ((0 : Int), q1)
      else none
     else none
    else none
   else none
  else none
def shaPad (n : Int) : Option (Int × List Int) := hide (shaPadB n)
theorem shaPad_eq (n : Int) : shaPad n = shaPadB n := hide_eq _
def shaHasherSumL0R (endV : List Int) (b2 : List Int) (state : List Int) : Option ((List Int × List Int × List Int) ⊕ (List Int × List Int)) :=
 bif (decide (((endV.length : Nat) : Int) > (0 : Int))) then
  bif Nat.ble 64 endV.length then
   (shaIBehind state (List.take 64 (List.drop 0 endV))).bind fun r4 =>
   bif Nat.ble 64 endV.length then
    some (.inl ((List.take (endV.length - 64) (List.drop 64 endV)), b2, r4))
   else none
  else none
 else
  some (.inr (b2, state))
def shaHasherSumL0 (endV : List Int) (b2 : List Int) (state : List Int) : Option (List Int × List Int) := hide (iter (fun p : List Int × List Int × List Int => shaHasherSumL0R p.1 p.2.1 p.2.2) (bigFuel) (endV, b2, state))
theorem shaHasherSumL0_eq (endV : List Int) (b2 : List Int) (state : List Int) : shaHasherSumL0 endV b2 state = iter (fun p : List Int × List Int × List Int => shaHasherSumL0R p.1 p.2.1 p.2.2) (bigFuel) (endV, b2, state) := hide_eq _
def shaHasherSumB (h : List Int × Unit × Int) (b1 : List Int) : Option (List Int) :=
 (shaHasherNow (h.1, (), h.2.2) b1).bind fun r1 =>
 (shaPad r1.2.1.2.2).bind fun r2 =>
 bif roomB 1 r1.2.2.length then
  bif roomB 1 (r1.2.2.length + r2.2.length) then
   (shaHasherSumL0 (r1.2.2 ++ r2.2) (List.replicate 32 (0 : Int)) r1.1).bind fun q5 =>
   some (((((((((((((((((((((((((((((((((List.replicate 32 (0 : Int)).set 0 (IntKind.wrap .u8 (shrI .u32 (q5.2.getD 0 (0 : Int)) 24))).set 1 (IntKind.wrap .u8 (shrI .u32 (q5.2.getD 0 (0 : Int)) 16))).set 2 (IntKind.wrap .u8 (shrI .u32 (q5.2.getD 0 (0 : Int)) 8))).set 3 (IntKind.wrap .u8 (shrI .u32 (q5.2.getD 0 (0 : Int)) 0))).set 4 (IntKind.wrap .u8 (shrI .u32 (q5.2.getD 1 (0 : Int)) 24))).set 5 (IntKind.wrap .u8 (shrI .u32 (q5.2.getD 1 (0 : Int)) 16))).set 6 (IntKind.wrap .u8 (shrI .u32 (q5.2.getD 1 (0 : Int)) 8))).set 7 (IntKind.wrap .u8 (shrI .u32 (q5.2.getD 1 (0 : Int)) 0))).set 8 (IntKind.wrap .u8 (shrI .u32 (q5.2.getD 2 (0 : Int)) 24))).set 9 (IntKind.wrap .u8 (shrI .u32 (q5.2.getD 2 (0 : Int)) 16))).set 10 (IntKind.wrap .u8 (shrI .u32 (q5.2.getD 2 (0 : Int)) 8))).set 11 (IntKind.wrap .u8 (shrI .u32 (q5.2.getD 2 (0 : Int)) 0))).set 12 (IntKind.wrap .u8 (shrI .u32 (q5.2.getD 3 (0 : Int)) 24))).set 13 (IntKind.wrap .u8 (shrI .u32 (q5.2.getD 3 (0 : Int)) 16))).set 14 (IntKind.wrap .u8 (shrI .u32 (q5.2.getD 3 (0 : Int)) 8))).set 15 (IntKind.wrap .u8 (shrI .u32 (q5.2.getD 3 (0 : Int)) 0))).set 16 (IntKind.wrap .u8 (shrI .u32 (q5.2.getD 4 (0 : Int)) 24))).set 17 (IntKind.wrap .u8 (shrI .u32 (q5.2.getD 4 (0 : Int)) 16))).set 18 (IntKind.wrap .u8 (shrI .u32 (q5.2.getD 4 (0 : Int)) 8))).set 19 (IntKind.wrap .u8 (shrI .u32 (q5.2.getD 4 (0 : Int)) 0))).set 20 (IntKind.wrap .u8 (shrI .u32 (q5.2.getD 5 (0 : Int)) 24))).set 21 (IntKind.wrap .u8 (shrI .u32 (q5.2.getD 5 (0 : Int)) 16))).set 22 (IntKind.wrap .u8 (shrI .u32 (q5.2.getD 5 (0 : Int)) 8))).set 23 (IntKind.wrap .u8 (shrI .u32 (q5.2.getD 5 (0 : Int)) 0))).set 24 (IntKind.wrap .u8 (shrI .u32 (q5.2.getD 6 (0 : Int)) 24))).set 25 (IntKind.wrap .u8 (shrI .u32 (q5.2.getD 6 (0 : Int)) 16))).set 26 (IntKind.wrap .u8 (shrI .u32 (q5.2.getD 6 (0 : Int)) 8))).set 27 (IntKind.wrap .u8 (shrI .u32 (q5.2.getD 6 (0 : Int)) 0))).set 28 (IntKind.wrap .u8 (shrI .u32 (q5.2.getD 7 (0 : Int)) 24))).set 29 (IntKind.wrap .u8 (shrI .u32 (q5.2.getD 7 (0 : Int)) 16))).set 30 (IntKind.wrap .u8 (shrI .u32 (q5.2.getD 7 (0 : Int)) 8))).set 31 (IntKind.wrap .u8 (shrI .u32 (q5.2.getD 7 (0 : Int)) 0)))
  else none
 else none
def shaHasherSum (h : List Int × Unit × Int) (b1 : List Int) : Option (List Int) := hide (shaHasherSumB h b1)
theorem shaHasherSum_eq (h : List Int × Unit × Int) (b1 : List Int) : shaHasherSum h b1 = shaHasherSumB h b1 := hide_eq _
def shaSumL0R (s7 : List (List Int)) (s8 : Int) (s9 : Int) (b2 : List Int) (b1000006 : List Int × Unit × Int) (b1000002000 : List Int) : Option ((List (List Int) × Int × Int × List Int × (List Int × Unit × Int) × List Int) ⊕ (List Int × (List Int × Unit × Int) × List Int)) :=
 bif (decide (s9 < s8)) then
  bif decide (0 ≤ s9) then
   bif Nat.blt (Int.toNat s9) s7.length then
    (shaHasherWrite (b1000006.1, (), b1000006.2.2) b1000002000 (s7.getD (Int.toNat s9) ([] : List Int))).bind fun r3 =>
    some (.inl (s7, s8, (IntKind.wrap .i64 (s9 + (1 : Int))), b2, (r3.1.1, (), r3.1.2.2), r3.2))
   else none
  else none
 else
  some (.inr (b2, (b1000006.1, (), b1000006.2.2), b1000002000))
def shaSumL0 (s7 : List (List Int)) (s8 : Int) (s9 : Int) (b2 : List Int) (b1000006 : List Int × Unit × Int) (b1000002000 : List Int) : Option (List Int × (List Int × Unit × Int) × List Int) := hide (iter (fun p : List (List Int) × Int × Int × List Int × (List Int × Unit × Int) × List Int => shaSumL0R p.1 p.2.1 p.2.2.1 p.2.2.2.1 p.2.2.2.2.1 p.2.2.2.2.2) (bigFuel) (s7, s8, s9, b2, b1000006, b1000002000))
theorem shaSumL0_eq (s7 : List (List Int)) (s8 : Int) (s9 : Int) (b2 : List Int) (b1000006 : List Int × Unit × Int) (b1000002000 : List Int) : shaSumL0 s7 s8 s9 b2 b1000006 b1000002000 = iter (fun p : List (List Int) × Int × Int × List Int × (List Int × Unit × Int) × List Int => shaSumL0R p.1 p.2.1 p.2.2.1 p.2.2.2.1 p.2.2.2.2.1 p.2.2.2.2.2) (bigFuel) (s7, s8, s9, b2, b1000006, b1000002000) := hide_eq _
def shaSumB (parts : List (List Int)) : Option (List Int) :=
 (shaNew).bind fun r1 =>
 (shaSumL0 parts ((parts.length : Nat) : Int) (0 : Int) (List.replicate 32 (0 : Int)) (r1.1.1, (), r1.1.2.2) r1.2).bind fun q4 =>
 (shaHasherSum (q4.2.1.1, (), q4.2.1.2.2) q4.2.2).bind fun r5 =>
 some r5
def shaSum (parts : List (List Int)) : Option (List Int) := hide (shaSumB parts)
theorem shaSum_eq (parts : List (List Int)) : shaSum parts = shaSumB parts := hide_eq _
def shaHMACL0R (parts : List (List Int)) (s28 : Int) (b4 : List Int) (inV : List Int) (out : List Int) : Option ((List (List Int) × Int × List Int × List Int × List Int) ⊕ (List (List Int) × List Int × List Int × List Int)) :=
 bif (decide (s28 < (64 : Int))) then
  bif decide (0 ≤ s28) then
   bif Nat.blt (Int.toNat s28) 64 then
    bif Nat.blt (Int.toNat s28) 64 then
     bif decide (0 ≤ s28) then
      bif Nat.blt (Int.toNat s28) 64 then
       bif Nat.blt (Int.toNat s28) 64 then
        bif decide (0 ≤ s28) then
         bif Nat.blt (Int.toNat s28) 64 then
          bif Nat.blt (Int.toNat s28) 64 then
           bif decide (0 ≤ s28) then
            bif Nat.blt (Int.toNat s28) 64 then
             bif Nat.blt (Int.toNat s28) 64 then
              some (.inl (parts, (IntKind.wrap .i64 (s28 + (1 : Int))), b4, (inV.set (Int.toNat s28) (xorI .u8 (inV.getD (Int.toNat s28) (0 : Int)) (54 : Int))), (out.set (Int.toNat s28) (xorI .u8 (out.getD (Int.toNat s28) (0 : Int)) (92 : Int)))))
             else none
            else none
           else none
          else none
         else none
        else none
       else none
      else none
     else none
    else none
   else none
  else none
 else
  some (.inr (parts, b4, inV, out))
def shaHMACL0 (parts : List (List Int)) (s28 : Int) (b4 : List Int) (inV : List Int) (out : List Int) : Option (List (List Int) × List Int × List Int × List Int) := hide (iter (fun p : List (List Int) × Int × List Int × List Int × List Int => shaHMACL0R p.1 p.2.1 p.2.2.1 p.2.2.2.1 p.2.2.2.2) (1000) (parts, s28, b4, inV, out))
theorem shaHMACL0_eq (parts : List (List Int)) (s28 : Int) (b4 : List Int) (inV : List Int) (out : List Int) : shaHMACL0 parts s28 b4 inV out = iter (fun p : List (List Int) × Int × List Int × List Int × List Int => shaHMACL0R p.1 p.2.1 p.2.2.1 p.2.2.2.1 p.2.2.2.2) (1000) (parts, s28, b4, inV, out) := hide_eq _
def shaHMACL1R (s46 : List (List Int)) (s47 : Int) (s48 : Int) (b4 : List Int) (out : List Int) (b1000042 : List Int × Unit × Int) (b999999998045 : List Int) : Option ((List (List Int) × Int × Int × List Int × List Int × (List Int × Unit × Int) × List Int) ⊕ (List Int × List Int × (List Int × Unit × Int) × List Int)) :=
 bif (decide (s48 < s47)) then
  bif decide (0 ≤ s48) then
   bif Nat.blt (Int.toNat s48) s46.length then
    (shaHasherWrite (b1000042.1, (), b1000042.2.2) b999999998045 (s46.getD (Int.toNat s48) ([] : List Int))).bind fun r6 =>
    some (.inl (s46, s47, (IntKind.wrap .i64 (s48 + (1 : Int))), b4, out, (r6.1.1, (), r6.1.2.2), r6.2))
   else none
  else none
 else
  some (.inr (b4, out, (b1000042.1, (), b1000042.2.2), b999999998045))
def shaHMACL1 (s46 : List (List Int)) (s47 : Int) (s48 : Int) (b4 : List Int) (out : List Int) (b1000042 : List Int × Unit × Int) (b999999998045 : List Int) : Option (List Int × List Int × (List Int × Unit × Int) × List Int) := hide (iter (fun p : List (List Int) × Int × Int × List Int × List Int × (List Int × Unit × Int) × List Int => shaHMACL1R p.1 p.2.1 p.2.2.1 p.2.2.2.1 p.2.2.2.2.1 p.2.2.2.2.2.1 p.2.2.2.2.2.2) (1000) (s46, s47, s48, b4, out, b1000042, b999999998045))
theorem shaHMACL1_eq (s46 : List (List Int)) (s47 : Int) (s48 : Int) (b4 : List Int) (out : List Int) (b1000042 : List Int × Unit × Int) (b999999998045 : List Int) : shaHMACL1 s46 s47 s48 b4 out b1000042 b999999998045 = iter (fun p : List (List Int) × Int × Int × List Int × List Int × (List Int × Unit × Int) × List Int => shaHMACL1R p.1 p.2.1 p.2.2.1 p.2.2.2.1 p.2.2.2.2.1 p.2.2.2.2.2.1 p.2.2.2.2.2.2) (1000) (s46, s47, s48, b4, out, b1000042, b999999998045) := hide_eq _
def shaHMACB (key : List Int) (parts : List (List Int)) : Option (List Int) :=
 bif (decide (((key.length : Nat) : Int) > (64 : Int))) then
  (shaSum [key]).bind fun r1 =>
  (shaHMACL0 parts (0 : Int) (List.replicate 32 (0 : Int)) (spliceL (List.replicate 64 (0 : Int)) 0 (List.take 64 (List.take 32 (List.drop 0 r1)))) (spliceL (List.replicate 64 (0 : Int)) 0 (List.take 64 (List.take 32 (List.drop 0 r1))))).bind fun q2 =>
  (shaNew).bind fun r3 =>
  (shaHasherWrite (r3.1.1, (), r3.1.2.2) r3.2 (List.take 64 (List.drop 0 q2.2.2.1))).bind fun r4 =>
  (shaHMACL1 q2.1 ((q2.1.length : Nat) : Int) (0 : Int) q2.2.1 q2.2.2.2 (r4.1.1, (), r4.1.2.2) r4.2).bind fun q7 =>
  (shaHasherSum (q7.2.2.1.1, (), q7.2.2.1.2.2) q7.2.2.2).bind fun r8 =>
  (shaSum [(List.take 64 (List.drop 0 q7.2.1)), (List.take 32 (List.drop 0 r8))]).bind fun r9 =>
  some r9
 else
  (shaHMACL0 parts (0 : Int) (List.replicate 32 (0 : Int)) (spliceL (List.replicate 64 (0 : Int)) 0 (List.take 64 key)) (spliceL (List.replicate 64 (0 : Int)) 0 (List.take 64 key))).bind fun q10 =>
  (shaNew).bind fun r11 =>
  (shaHasherWrite (r11.1.1, (), r11.1.2.2) r11.2 (List.take 64 (List.drop 0 q10.2.2.1))).bind fun r12 =>
  (shaHMACL1 q10.1 ((q10.1.length : Nat) : Int) (0 : Int) q10.2.1 q10.2.2.2 (r12.1.1, (), r12.1.2.2) r12.2).bind fun q13 =>
  (shaHasherSum (q13.2.2.1.1, (), q13.2.2.1.2.2) q13.2.2.2).bind fun r14 =>
  (shaSum [(List.take 64 (List.drop 0 q13.2.1)), (List.take 32 (List.drop 0 r14))]).bind fun r15 =>
  some r15
def shaHMAC (key : List Int) (parts : List (List Int)) : Option (List Int) := hide (shaHMACB key parts)
theorem shaHMAC_eq (key : List Int) (parts : List (List Int)) : shaHMAC key parts = shaHMACB key parts := hide_eq _
def ref03IJoinedL1R (parts : List (List Int)) (i : Int) (j : Int) (b33 : List Int) : Option ((List (List Int) × Int × Int × List Int) ⊕ (List (List Int) × Int × List Int)) :=
 bif decide (0 ≤ i) then
  bif Nat.blt (Int.toNat i) parts.length then
   bif (decide (j < (((parts.getD (Int.toNat i) ([] : List Int)).length : Nat) : Int))) then
    bif decide (0 ≤ i) then
     bif Nat.blt (Int.toNat i) parts.length then
      bif decide (0 ≤ j) then
       bif Nat.blt (Int.toNat j) ((parts.getD (Int.toNat i) ([] : List Int)).length) then
        bif roomB 1 (b33.length + [((parts.getD (Int.toNat i) ([] : List Int)).getD (Int.toNat j) (0 : Int))].length) then
         some (.inl (parts, i, (IntKind.wrap .i64 (j + (1 : Int))), (b33 ++ [((parts.getD (Int.toNat i) ([] : List Int)).getD (Int.toNat j) (0 : Int))])))
        else none
       else none
      else none
     else none
    else none
   else
    some (.inr (parts, i, b33))
  else none
 else none
def ref03IJoinedL1 (parts : List (List Int)) (i : Int) (j : Int) (b33 : List Int) : Option (List (List Int) × Int × List Int) := hide (iter (fun p : List (List Int) × Int × Int × List Int => ref03IJoinedL1R p.1 p.2.1 p.2.2.1 p.2.2.2) (1000) (parts, i, j, b33))
theorem ref03IJoinedL1_eq (parts : List (List Int)) (i : Int) (j : Int) (b33 : List Int) : ref03IJoinedL1 parts i j b33 = iter (fun p : List (List Int) × Int × Int × List Int => ref03IJoinedL1R p.1 p.2.1 p.2.2.1 p.2.2.2) (1000) (parts, i, j, b33) := hide_eq _
def ref03IJoinedL0R (parts : List (List Int)) (i : Int) (b33 : List Int) : Option ((List (List Int) × Int × List Int) ⊕ (List Int)) :=
 bif (decide (i < ((parts.length : Nat) : Int))) then
  (ref03IJoinedL1 parts i (0 : Int) b33).bind fun q2 =>
  some (.inl (q2.1, (IntKind.wrap .i64 (q2.2.1 + (1 : Int))), q2.2.2))
 else
  some (.inr b33)
def ref03IJoinedL0 (parts : List (List Int)) (i : Int) (b33 : List Int) : Option (List Int) := hide (iter (fun p : List (List Int) × Int × List Int => ref03IJoinedL0R p.1 p.2.1 p.2.2) (1000) (parts, i, b33))
theorem ref03IJoinedL0_eq (parts : List (List Int)) (i : Int) (b33 : List Int) : ref03IJoinedL0 parts i b33 = iter (fun p : List (List Int) × Int × List Int => ref03IJoinedL0R p.1 p.2.1 p.2.2) (1000) (parts, i, b33) := hide_eq _
def ref03IJoinedB (parts : List (List Int)) : Option (List Int) :=
 (ref03IJoinedL0 parts (0 : Int) ([] : List Int)).bind fun q3 =>
 some q3
def ref03IJoined (parts : List (List Int)) : Option (List Int) := hide (ref03IJoinedB parts)
theorem ref03IJoined_eq (parts : List (List Int)) : ref03IJoined parts = ref03IJoinedB parts := hide_eq _
def ref03PadL0R (n : Int) (b9 : List Int) : Option ((Int × List Int) ⊕ (Int × List Int)) :=
 bif ((Int.tmod (IntKind.wrap .i64 ((IntKind.wrap .i64 ((Int.tmod n (64 : Int)) + ((b9.length : Nat) : Int))) + (8 : Int))) (64 : Int)) != (0 : Int)) then
  bif roomB 1 (b9.length + [(0 : Int)].length) then
   some (.inl (n, (b9 ++ [(0 : Int)])))
  else none
 else
  some (.inr (n, b9))
def ref03PadL0 (n : Int) (b9 : List Int) : Option (Int × List Int) := hide (iter (fun p : Int × List Int => ref03PadL0R p.1 p.2) (1000) (n, b9))
theorem ref03PadL0_eq (n : Int) (b9 : List Int) : ref03PadL0 n b9 = iter (fun p : Int × List Int => ref03PadL0R p.1 p.2) (1000) (n, b9) := hide_eq _
def ref03PadL1R (bits : Int) (i : Int) (b9 : List Int) : Option ((Int × Int × List Int) ⊕ (List Int)) :=
 bif (decide (i ≥ (0 : Int))) then
  bif decide ((IntKind.wrap .u64 (IntKind.wrap .i64 ((8 : Int) * i))) < 0) then
   none
  else
   bif roomB 1 (b9.length + [(IntKind.wrap .u8 (shrI .u64 bits (IntKind.wrap .u64 (IntKind.wrap .i64 ((8 : Int) * i)))))].length) then
    some (.inl (bits, (IntKind.wrap .i64 (i - (1 : Int))), (b9 ++ [(IntKind.wrap .u8 (shrI .u64 bits (IntKind.wrap .u64 (IntKind.wrap .i64 ((8 : Int) * i)))))])))
   else none
 else
  some (.inr b9)
def ref03PadL1 (bits : Int) (i : Int) (b9 : List Int) : Option (List Int) := hide (iter (fun p : Int × Int × List Int => ref03PadL1R p.1 p.2.1 p.2.2) (1000) (bits, i, b9))
theorem ref03PadL1_eq (bits : Int) (i : Int) (b9 : List Int) : ref03PadL1 bits i b9 = iter (fun p : Int × Int × List Int => ref03PadL1R p.1 p.2.1 p.2.2) (1000) (bits, i, b9) := hide_eq _
def ref03PadB (n : Int) : Option (Int × List Int) :=
 bif (decide (n < (0 : Int))) then
  some ((1 : Int), ([] : List Int))
 else
  (ref03PadL0 n [(128 : Int)]).bind fun q1 =>
  (ref03PadL1 (IntKind.wrap .u64 ((IntKind.wrap .u64 q1.1) * (8 : Int))) (7 : Int) q1.2).bind fun q2 =>
  some ((0 : Int), q2)
def ref03Pad (n : Int) : Option (Int × List Int) := hide (ref03PadB n)
theorem ref03Pad_eq (n : Int) : ref03Pad n = ref03PadB n := hide_eq _
def ref03IPrimeL0R (n : Int) (d : Int) : Option ((Int × Int) ⊕ (Unit ⊕ Unit)) :=
 bif (decide ((IntKind.wrap .i64 (d * d)) ≤ n)) then
  bif (d == 0) then
   none
  else
   bif ((Int.tmod n d) == (0 : Int)) then
    some (.inr (.inl ()))
   else
    some (.inl (n, (IntKind.wrap .i64 (d + (1 : Int)))))
 else
  some (.inr (.inr ()))
def ref03IPrimeL0 (n : Int) (d : Int) : Option (Unit ⊕ Unit) := hide (iter (fun p : Int × Int => ref03IPrimeL0R p.1 p.2) (1000) (n, d))
theorem ref03IPrimeL0_eq (n : Int) (d : Int) : ref03IPrimeL0 n d = iter (fun p : Int × Int => ref03IPrimeL0R p.1 p.2) (1000) (n, d) := hide_eq _
def ref03IPrimeB (n : Int) : Option (Bool) :=
 (ref03IPrimeL0 n (2 : Int)).bind fun q1 =>
 sumK q1 (fun q2 =>
  some false)
  (fun q3 =>
  some true)
def ref03IPrime (n : Int) : Option (Bool) := hide (ref03IPrimeB n)
theorem ref03IPrime_eq (n : Int) : ref03IPrime n = ref03IPrimeB n := hide_eq _
def ref03ILimbsB (v : Int) : Option (List Int) :=
 some (((((List.replicate 16 (0 : Int)).set 0 (Int.tmod v (65536 : Int))).set 1 (Int.tmod (IntKind.wrap .i64 (Int.tdiv v (65536 : Int))) (65536 : Int))).set 2 (Int.tmod (IntKind.wrap .i64 (Int.tdiv (IntKind.wrap .i64 (Int.tdiv v (65536 : Int))) (65536 : Int))) (65536 : Int))).set 3 (Int.tmod (IntKind.wrap .i64 (Int.tdiv (IntKind.wrap .i64 (Int.tdiv (IntKind.wrap .i64 (Int.tdiv v (65536 : Int))) (65536 : Int))) (65536 : Int))) (65536 : Int)))
def ref03ILimbs (v : Int) : Option (List Int) := hide (ref03ILimbsB v)
theorem ref03ILimbs_eq (v : Int) : ref03ILimbs v = ref03ILimbsB v := hide_eq _
def ref03IProductL1R (i : Int) (carry : Int) (j : Int) (x : List Int) (y : List Int) (b4 : List Int) (z : List Int) : Option ((Int × Int × Int × List Int × List Int × List Int × List Int) ⊕ (Int × Int × List Int × List Int × List Int × List Int)) :=
 bif (decide (j < (8 : Int))) then
  bif decide (0 ≤ (IntKind.wrap .i64 (i + j))) then
   bif Nat.blt (Int.toNat (IntKind.wrap .i64 (i + j))) 16 then
    bif Nat.blt (Int.toNat (IntKind.wrap .i64 (i + j))) 16 then
     bif decide (0 ≤ i) then
      bif Nat.blt (Int.toNat i) 16 then
       bif Nat.blt (Int.toNat i) 16 then
        bif decide (0 ≤ j) then
         bif Nat.blt (Int.toNat j) 16 then
          bif Nat.blt (Int.toNat j) 16 then
           bif decide (0 ≤ (IntKind.wrap .i64 (i + j))) then
            bif Nat.blt (Int.toNat (IntKind.wrap .i64 (i + j))) 16 then
             bif Nat.blt (Int.toNat (IntKind.wrap .i64 (i + j))) 16 then
              some (.inl (i, (IntKind.wrap .i64 (Int.tdiv (IntKind.wrap .i64 ((IntKind.wrap .i64 ((z.getD (Int.toNat (IntKind.wrap .i64 (i + j))) (0 : Int)) + (IntKind.wrap .i64 ((x.getD (Int.toNat i) (0 : Int)) * (y.getD (Int.toNat j) (0 : Int)))))) + carry)) (65536 : Int))), (IntKind.wrap .i64 (j + (1 : Int))), x, y, b4, (z.set (Int.toNat (IntKind.wrap .i64 (i + j))) (Int.tmod (IntKind.wrap .i64 ((IntKind.wrap .i64 ((z.getD (Int.toNat (IntKind.wrap .i64 (i + j))) (0 : Int)) + (IntKind.wrap .i64 ((x.getD (Int.toNat i) (0 : Int)) * (y.getD (Int.toNat j) (0 : Int)))))) + carry)) (65536 : Int)))))
             else none
            else none
           else none
          else none
         else none
        else none
       else none
      else none
     else none
    else none
   else none
  else none
 else
  some (.inr (i, carry, x, y, b4, z))
def ref03IProductL1 (i : Int) (carry : Int) (j : Int) (x : List Int) (y : List Int) (b4 : List Int) (z : List Int) : Option (Int × Int × List Int × List Int × List Int × List Int) := hide (iter (fun p : Int × Int × Int × List Int × List Int × List Int × List Int => ref03IProductL1R p.1 p.2.1 p.2.2.1 p.2.2.2.1 p.2.2.2.2.1 p.2.2.2.2.2.1 p.2.2.2.2.2.2) (1000) (i, carry, j, x, y, b4, z))
theorem ref03IProductL1_eq (i : Int) (carry : Int) (j : Int) (x : List Int) (y : List Int) (b4 : List Int) (z : List Int) : ref03IProductL1 i carry j x y b4 z = iter (fun p : Int × Int × Int × List Int × List Int × List Int × List Int => ref03IProductL1R p.1 p.2.1 p.2.2.1 p.2.2.2.1 p.2.2.2.2.1 p.2.2.2.2.2.1 p.2.2.2.2.2.2) (1000) (i, carry, j, x, y, b4, z) := hide_eq _
def ref03IProductL0R (i : Int) (x : List Int) (y : List Int) (b4 : List Int) (z : List Int) : Option ((Int × List Int × List Int × List Int × List Int) ⊕ (List Int × List Int)) :=
 bif (decide (i < (8 : Int))) then
  (ref03IProductL1 i (0 : Int) (0 : Int) x y b4 z).bind fun q2 =>
  bif decide (0 ≤ (IntKind.wrap .i64 (q2.1 + (8 : Int)))) then
   bif Nat.blt (Int.toNat (IntKind.wrap .i64 (q2.1 + (8 : Int)))) 16 then
    bif Nat.blt (Int.toNat (IntKind.wrap .i64 (q2.1 + (8 : Int)))) 16 then
     bif decide (0 ≤ (IntKind.wrap .i64 (q2.1 + (8 : Int)))) then
      bif Nat.blt (Int.toNat (IntKind.wrap .i64 (q2.1 + (8 : Int)))) 16 then
       bif Nat.blt (Int.toNat (IntKind.wrap .i64 (q2.1 + (8 : Int)))) 16 then
        some (.inl ((IntKind.wrap .i64 (q2.1 + (1 : Int))), q2.2.2.1, q2.2.2.2.1, q2.2.2.2.2.1, (q2.2.2.2.2.2.set (Int.toNat (IntKind.wrap .i64 (q2.1 + (8 : Int)))) (IntKind.wrap .i64 ((q2.2.2.2.2.2.getD (Int.toNat (IntKind.wrap .i64 (q2.1 + (8 : Int)))) (0 : Int)) + q2.2.1)))))
       else none
      else none
     else none
    else none
   else none
  else none
 else
  some (.inr (b4, z))
def ref03IProductL0 (i : Int) (x : List Int) (y : List Int) (b4 : List Int) (z : List Int) : Option (List Int × List Int) := hide (iter (fun p : Int × List Int × List Int × List Int × List Int => ref03IProductL0R p.1 p.2.1 p.2.2.1 p.2.2.2.1 p.2.2.2.2) (1000) (i, x, y, b4, z))
theorem ref03IProductL0_eq (i : Int) (x : List Int) (y : List Int) (b4 : List Int) (z : List Int) : ref03IProductL0 i x y b4 z = iter (fun p : Int × List Int × List Int × List Int × List Int => ref03IProductL0R p.1 p.2.1 p.2.2.1 p.2.2.2.1 p.2.2.2.2) (1000) (i, x, y, b4, z) := hide_eq _
def ref03IProductB (x : List Int) (y : List Int) : Option (List Int) :=
 (ref03IProductL0 (0 : Int) x y (List.replicate 16 (0 : Int)) (List.replicate 16 (0 : Int))).bind fun q3 =>
 some q3.2
def ref03IProduct (x : List Int) (y : List Int) : Option (List Int) := hide (ref03IProductB x y)
theorem ref03IProduct_eq (x : List Int) (y : List Int) : ref03IProduct x y = ref03IProductB x y := hide_eq _
def ref03IAtMostL0R (i : Int) (x : List Int) (y : List Int) : Option ((Int × List Int × List Int) ⊕ (Bool ⊕ Unit)) :=
 bif (decide (i ≥ (0 : Int))) then
  bif decide (0 ≤ i) then
   bif Nat.blt (Int.toNat i) 16 then
    bif Nat.blt (Int.toNat i) 16 then
     bif decide (0 ≤ i) then
      bif Nat.blt (Int.toNat i) 16 then
       bif Nat.blt (Int.toNat i) 16 then
        bif ((x.getD (Int.toNat i) (0 : Int)) != (y.getD (Int.toNat i) (0 : Int))) then
         bif decide (0 ≤ i) then
          bif Nat.blt (Int.toNat i) 16 then
           bif Nat.blt (Int.toNat i) 16 then
            bif decide (0 ≤ i) then
             bif Nat.blt (Int.toNat i) 16 then
              bif Nat.blt (Int.toNat i) 16 then
               some (.inr (.inl (decide ((x.getD (Int.toNat i) (0 : Int)) < (y.getD (Int.toNat i) (0 : Int))))))
              else none
             else none
            else none
           else none
          else none
         else none
        else
         some (.inl ((IntKind.wrap .i64 (i - (1 : Int))), x, y))
       else none
      else none
     else none
    else none
   else none
  else none
 else
  some (.inr (.inr ()))
def ref03IAtMostL0 (i : Int) (x : List Int) (y : List Int) : Option (Bool ⊕ Unit) := hide (iter (fun p : Int × List Int × List Int => ref03IAtMostL0R p.1 p.2.1 p.2.2) (1000) (i, x, y))
theorem ref03IAtMostL0_eq (i : Int) (x : List Int) (y : List Int) : ref03IAtMostL0 i x y = iter (fun p : Int × List Int × List Int => ref03IAtMostL0R p.1 p.2.1 p.2.2) (1000) (i, x, y) := hide_eq _
def ref03IAtMostB (x : List Int) (y : List Int) : Option (Bool) :=
 (ref03IAtMostL0 (15 : Int) x y).bind fun q1 =>
 sumK q1 (fun q2 =>
  some q2)
  (fun q3 =>
  some true)
def ref03IAtMost (x : List Int) (y : List Int) : Option (Bool) := hide (ref03IAtMostB x y)
theorem ref03IAtMost_eq (x : List Int) (y : List Int) : ref03IAtMost x y = ref03IAtMostB x y := hide_eq _
def ref03IBitsL0R (k : Int) (low : Int) (high : Int) (whole : List Int) : Option ((Int × Int × Int × List Int) ⊕ (Int)) :=
 bif (decide ((IntKind.wrap .i64 (high - low)) > (1 : Int))) then
  (ref03ILimbs (IntKind.wrap .i64 (Int.tdiv (IntKind.wrap .i64 (low + high)) (2 : Int)))).bind fun r6 =>
  (ref03IProduct r6 r6).bind fun r7 =>
  bif (k == (3 : Int)) then
   (ref03IProduct r7 r6).bind fun r8 =>
   (ref03IAtMost r8 whole).bind fun r9 =>
   bif r9 then
    some (.inl (k, (IntKind.wrap .i64 (Int.tdiv (IntKind.wrap .i64 (low + high)) (2 : Int))), high, whole))
   else
    some (.inl (k, low, (IntKind.wrap .i64 (Int.tdiv (IntKind.wrap .i64 (low + high)) (2 : Int))), whole))
  else
   (ref03IAtMost r7 whole).bind fun r10 =>
   bif r10 then
    some (.inl (k, (IntKind.wrap .i64 (Int.tdiv (IntKind.wrap .i64 (low + high)) (2 : Int))), high, whole))
   else
    some (.inl (k, low, (IntKind.wrap .i64 (Int.tdiv (IntKind.wrap .i64 (low + high)) (2 : Int))), whole))
 else
  some (.inr low)
def ref03IBitsL0 (k : Int) (low : Int) (high : Int) (whole : List Int) : Option (Int) := hide (iter (fun p : Int × Int × Int × List Int => ref03IBitsL0R p.1 p.2.1 p.2.2.1 p.2.2.2) (1000) (k, low, high, whole))
theorem ref03IBitsL0_eq (k : Int) (low : Int) (high : Int) (whole : List Int) : ref03IBitsL0 k low high whole = iter (fun p : Int × Int × Int × List Int => ref03IBitsL0R p.1 p.2.1 p.2.2.1 p.2.2.2) (1000) (k, low, high, whole) := hide_eq _
def ref03IBitsB (n : Int) (k : Int) : Option (Int) :=
 bif decide (0 ≤ (IntKind.wrap .i64 ((2 : Int) * k))) then
  bif Nat.blt (Int.toNat (IntKind.wrap .i64 ((2 : Int) * k))) 16 then
   bif Nat.blt (Int.toNat (IntKind.wrap .i64 ((2 : Int) * k))) 16 then
    (ref03IBitsL0 k (0 : Int) (281474976710656 : Int) ((List.replicate 16 (0 : Int)).set (Int.toNat (IntKind.wrap .i64 ((2 : Int) * k))) n)).bind fun q11 =>
    some (IntKind.wrap .u32 (Int.tmod q11 (4294967296 : Int)))
   else none
  else none
 else none
def ref03IBits (n : Int) (k : Int) : Option (Int) := hide (ref03IBitsB n k)
theorem ref03IBits_eq (n : Int) (k : Int) : ref03IBits n k = ref03IBitsB n k := hide_eq _
def ref03RootsL0R (count : Int) (k : Int) (n : Int) (b22 : List Int) : Option ((Int × Int × Int × List Int) ⊕ (List Int)) :=
 bif (decide (((b22.length : Nat) : Int) < count)) then
  (ref03IPrime n).bind fun r3 =>
  bif r3 then
   (ref03IBits n k).bind fun r4 =>
   bif roomB 4 (b22.length + [r4].length) then
    some (.inl (count, k, (IntKind.wrap .i64 (n + (1 : Int))), (b22 ++ [r4])))
   else none
  else
   some (.inl (count, k, (IntKind.wrap .i64 (n + (1 : Int))), b22))
 else
  some (.inr b22)
def ref03RootsL0 (count : Int) (k : Int) (n : Int) (b22 : List Int) : Option (List Int) := hide (iter (fun p : Int × Int × Int × List Int => ref03RootsL0R p.1 p.2.1 p.2.2.1 p.2.2.2) (1000) (count, k, n, b22))
theorem ref03RootsL0_eq (count : Int) (k : Int) (n : Int) (b22 : List Int) : ref03RootsL0 count k n b22 = iter (fun p : Int × Int × Int × List Int => ref03RootsL0R p.1 p.2.1 p.2.2.1 p.2.2.2) (1000) (count, k, n, b22) := hide_eq _
def ref03RootsB (count : Int) (k : Int) : Option (List Int) :=
 (ref03RootsL0 count k (2 : Int) ([] : List Int)).bind fun q5 =>
 some q5
def ref03Roots (count : Int) (k : Int) : Option (List Int) := hide (ref03RootsB count k)
theorem ref03Roots_eq (count : Int) (k : Int) : ref03Roots count k = ref03RootsB count k := hide_eq _
def ref03StartB  : Option (List Int) :=
 (ref03Roots (8 : Int) (2 : Int)).bind fun r1 =>
 bif Nat.blt 0 r1.length then
  bif Nat.blt 0 r1.length then
   bif Nat.blt 1 r1.length then
    bif Nat.blt 1 r1.length then
     bif Nat.blt 2 r1.length then
      bif Nat.blt 2 r1.length then
       bif Nat.blt 3 r1.length then
        bif Nat.blt 3 r1.length then
         bif Nat.blt 4 r1.length then
          bif Nat.blt 4 r1.length then
           bif Nat.blt 5 r1.length then
            bif Nat.blt 5 r1.length then
             bif Nat.blt 6 r1.length then
              bif Nat.blt 6 r1.length then
               bif Nat.blt 7 r1.length then
                bif Nat.blt 7 r1.length then
                 some (((((((((List.replicate 8 (0 : Int)).set 0 (r1.getD 0 (0 : Int))).set 1 (r1.getD 1 (0 : Int))).set 2 (r1.getD 2 (0 : Int))).set 3 (r1.getD 3 (0 : Int))).set 4 (r1.getD 4 (0 : Int))).set 5 (r1.getD 5 (0 : Int))).set 6 (r1.getD 6 (0 : Int))).set 7 (r1.getD 7 (0 : Int)))
                else none
               else none
              else none
             else none
            else none
           else none
          else none
         else none
        else none
       else none
      else none
     else none
    else none
   else none
  else none
 else none
def ref03Start  : Option (List Int) := hide (ref03StartB )
theorem ref03Start_eq  : ref03Start  = ref03StartB  := hide_eq _
def ref03IWordB (b : List Int) (atV : Int) : Option (Int) :=
 bif decide (0 ≤ atV) then
  bif Nat.blt (Int.toNat atV) b.length then
   bif decide (0 ≤ (IntKind.wrap .i64 (atV + (1 : Int)))) then
    bif Nat.blt (Int.toNat (IntKind.wrap .i64 (atV + (1 : Int)))) b.length then
     bif decide (0 ≤ (IntKind.wrap .i64 (atV + (2 : Int)))) then
      bif Nat.blt (Int.toNat (IntKind.wrap .i64 (atV + (2 : Int)))) b.length then
       bif decide (0 ≤ (IntKind.wrap .i64 (atV + (3 : Int)))) then
        bif Nat.blt (Int.toNat (IntKind.wrap .i64 (atV + (3 : Int)))) b.length then
         some (orI .u32 (orI .u32 (orI .u32 (shlI .u32 (IntKind.wrap .u32 (b.getD (Int.toNat atV) (0 : Int))) 24) (shlI .u32 (IntKind.wrap .u32 (b.getD (Int.toNat (IntKind.wrap .i64 (atV + (1 : Int)))) (0 : Int))) 16)) (shlI .u32 (IntKind.wrap .u32 (b.getD (Int.toNat (IntKind.wrap .i64 (atV + (2 : Int)))) (0 : Int))) 8)) (IntKind.wrap .u32 (b.getD (Int.toNat (IntKind.wrap .i64 (atV + (3 : Int)))) (0 : Int))))
        else none
       else none
      else none
     else none
    else none
   else none
  else none
 else none
def ref03IWord (b : List Int) (atV : Int) : Option (Int) := hide (ref03IWordB b atV)
theorem ref03IWord_eq (b : List Int) (atV : Int) : ref03IWord b atV = ref03IWordB b atV := hide_eq _
def ref03ITurnedB (x : Int) (n : Int) : Option (Int) :=
 bif decide (n < 0) then
  none
 else
  bif decide ((IntKind.wrap .u64 ((32 : Int) - n)) < 0) then
   none
  else
   some (orI .u32 (shrI .u32 x n) (shlI .u32 x (IntKind.wrap .u64 ((32 : Int) - n))))
def ref03ITurned (x : Int) (n : Int) : Option (Int) := hide (ref03ITurnedB x n)
theorem ref03ITurned_eq (x : Int) (n : Int) : ref03ITurned x n = ref03ITurnedB x n := hide_eq _
def ref03IWordsL0R (block : List Int) (t : Int) (b70 : List Int) : Option ((List Int × Int × List Int) ⊕ (List Int)) :=
 bif (decide (t < (16 : Int))) then
  (ref03IWord block (IntKind.wrap .i64 ((4 : Int) * t))).bind fun r2 =>
  bif roomB 4 (b70.length + [r2].length) then
   some (.inl (block, (IntKind.wrap .i64 (t + (1 : Int))), (b70 ++ [r2])))
  else none
 else
  some (.inr b70)
def ref03IWordsL0 (block : List Int) (t : Int) (b70 : List Int) : Option (List Int) := hide (iter (fun p : List Int × Int × List Int => ref03IWordsL0R p.1 p.2.1 p.2.2) (1000) (block, t, b70))
theorem ref03IWordsL0_eq (block : List Int) (t : Int) (b70 : List Int) : ref03IWordsL0 block t b70 = iter (fun p : List Int × Int × List Int => ref03IWordsL0R p.1 p.2.1 p.2.2) (1000) (block, t, b70) := hide_eq _
def ref03IWordsL1R (t : Int) (b70 : List Int) : Option ((Int × List Int) ⊕ (List Int)) :=
 bif (decide (t < (64 : Int))) then
  bif decide (0 ≤ (IntKind.wrap .i64 (t - (15 : Int)))) then
   bif Nat.blt (Int.toNat (IntKind.wrap .i64 (t - (15 : Int)))) b70.length then
    bif Nat.blt (Int.toNat (IntKind.wrap .i64 (t - (15 : Int)))) b70.length then
     bif decide (0 ≤ (IntKind.wrap .i64 (t - (2 : Int)))) then
      bif Nat.blt (Int.toNat (IntKind.wrap .i64 (t - (2 : Int)))) b70.length then
       bif Nat.blt (Int.toNat (IntKind.wrap .i64 (t - (2 : Int)))) b70.length then
        (ref03ITurned (b70.getD (Int.toNat (IntKind.wrap .i64 (t - (15 : Int)))) (0 : Int)) (7 : Int)).bind fun r8 =>
        (ref03ITurned (b70.getD (Int.toNat (IntKind.wrap .i64 (t - (15 : Int)))) (0 : Int)) (18 : Int)).bind fun r9 =>
        (ref03ITurned (b70.getD (Int.toNat (IntKind.wrap .i64 (t - (2 : Int)))) (0 : Int)) (17 : Int)).bind fun r10 =>
        (ref03ITurned (b70.getD (Int.toNat (IntKind.wrap .i64 (t - (2 : Int)))) (0 : Int)) (19 : Int)).bind fun r11 =>
        bif decide (0 ≤ (IntKind.wrap .i64 (t - (7 : Int)))) then
         bif Nat.blt (Int.toNat (IntKind.wrap .i64 (t - (7 : Int)))) b70.length then
          bif Nat.blt (Int.toNat (IntKind.wrap .i64 (t - (7 : Int)))) b70.length then
           bif decide (0 ≤ (IntKind.wrap .i64 (t - (16 : Int)))) then
            bif Nat.blt (Int.toNat (IntKind.wrap .i64 (t - (16 : Int)))) b70.length then
             bif Nat.blt (Int.toNat (IntKind.wrap .i64 (t - (16 : Int)))) b70.length then
              bif roomB 4 (b70.length + [(IntKind.wrap .u32 ((IntKind.wrap .u32 ((IntKind.wrap .u32 ((xorI .u32 (xorI .u32 r10 r11) (shrI .u32 (b70.getD (Int.toNat (IntKind.wrap .i64 (t - (2 : Int)))) (0 : Int)) 10)) + (b70.getD (Int.toNat (IntKind.wrap .i64 (t - (7 : Int)))) (0 : Int)))) + (xorI .u32 (xorI .u32 r8 r9) (shrI .u32 (b70.getD (Int.toNat (IntKind.wrap .i64 (t - (15 : Int)))) (0 : Int)) 3)))) + (b70.getD (Int.toNat (IntKind.wrap .i64 (t - (16 : Int)))) (0 : Int))))].length) then
               some (.inl ((IntKind.wrap .i64 (t + (1 : Int))), (b70 ++ [(IntKind.wrap .u32 ((IntKind.wrap .u32 ((IntKind.wrap .u32 ((xorI .u32 (xorI .u32 r10 r11) (shrI .u32 (b70.getD (Int.toNat (IntKind.wrap .i64 (t - (2 : Int)))) (0 : Int)) 10)) + (b70.getD (Int.toNat (IntKind.wrap .i64 (t - (7 : Int)))) (0 : Int)))) + (xorI .u32 (xorI .u32 r8 r9) (shrI .u32 (b70.getD (Int.toNat (IntKind.wrap .i64 (t - (15 : Int)))) (0 : Int)) 3)))) + (b70.getD (Int.toNat (IntKind.wrap .i64 (t - (16 : Int)))) (0 : Int))))])))
              else none
             else none
            else none
           else none
          else none
         else none
        else none
       else none
      else none
     else none
    else none
   else none
  else none
 else
  some (.inr b70)
def ref03IWordsL1 (t : Int) (b70 : List Int) : Option (List Int) := hide (iter (fun p : Int × List Int => ref03IWordsL1R p.1 p.2) (1000) (t, b70))
theorem ref03IWordsL1_eq (t : Int) (b70 : List Int) : ref03IWordsL1 t b70 = iter (fun p : Int × List Int => ref03IWordsL1R p.1 p.2) (1000) (t, b70) := hide_eq _
def ref03IWordsB (block : List Int) : Option (List Int) :=
 (ref03IWordsL0 block (0 : Int) ([] : List Int)).bind fun q3 =>
 (ref03IWordsL1 (16 : Int) q3).bind fun q12 =>
 some q12
def ref03IWords (block : List Int) : Option (List Int) := hide (ref03IWordsB block)
theorem ref03IWords_eq (block : List Int) : ref03IWords block = ref03IWordsB block := hide_eq _
def ref03IRoundsL1R (k : List Int) (t : Int) (t1 : Int) (t2 : Int) (i : Int) (s : List Int) (b6 : List Int) (v : List Int) (n : List Int) (b1000020 : List Int) : Option ((List Int × Int × Int × Int × Int × List Int × List Int × List Int × List Int × List Int) ⊕ (List Int × Int × Int × Int × List Int × List Int × List Int × List Int × List Int)) :=
 bif (decide (i < (8 : Int))) then
  bif decide (0 ≤ (IntKind.wrap .i64 (i - (1 : Int)))) then
   bif Nat.blt (Int.toNat (IntKind.wrap .i64 (i - (1 : Int)))) 8 then
    bif Nat.blt (Int.toNat (IntKind.wrap .i64 (i - (1 : Int)))) 8 then
     bif decide (0 ≤ i) then
      bif Nat.blt (Int.toNat i) 8 then
       bif Nat.blt (Int.toNat i) 8 then
        some (.inl (k, t, t1, t2, (IntKind.wrap .i64 (i + (1 : Int))), s, b6, v, (n.set (Int.toNat i) (v.getD (Int.toNat (IntKind.wrap .i64 (i - (1 : Int)))) (0 : Int))), b1000020))
       else none
      else none
     else none
    else none
   else none
  else none
 else
  some (.inr (k, t, t1, t2, s, b6, v, n, b1000020))
def ref03IRoundsL1 (k : List Int) (t : Int) (t1 : Int) (t2 : Int) (i : Int) (s : List Int) (b6 : List Int) (v : List Int) (n : List Int) (b1000020 : List Int) : Option (List Int × Int × Int × Int × List Int × List Int × List Int × List Int × List Int) := hide (iter (fun p : List Int × Int × Int × Int × Int × List Int × List Int × List Int × List Int × List Int => ref03IRoundsL1R p.1 p.2.1 p.2.2.1 p.2.2.2.1 p.2.2.2.2.1 p.2.2.2.2.2.1 p.2.2.2.2.2.2.1 p.2.2.2.2.2.2.2.1 p.2.2.2.2.2.2.2.2.1 p.2.2.2.2.2.2.2.2.2) (1000) (k, t, t1, t2, i, s, b6, v, n, b1000020))
theorem ref03IRoundsL1_eq (k : List Int) (t : Int) (t1 : Int) (t2 : Int) (i : Int) (s : List Int) (b6 : List Int) (v : List Int) (n : List Int) (b1000020 : List Int) : ref03IRoundsL1 k t t1 t2 i s b6 v n b1000020 = iter (fun p : List Int × Int × Int × Int × Int × List Int × List Int × List Int × List Int × List Int => ref03IRoundsL1R p.1 p.2.1 p.2.2.1 p.2.2.2.1 p.2.2.2.2.1 p.2.2.2.2.2.1 p.2.2.2.2.2.2.1 p.2.2.2.2.2.2.2.1 p.2.2.2.2.2.2.2.2.1 p.2.2.2.2.2.2.2.2.2) (1000) (k, t, t1, t2, i, s, b6, v, n, b1000020) := hide_eq _
def ref03IRoundsL0R (k : List Int) (t : Int) (s : List Int) (b6 : List Int) (v : List Int) (b1000020 : List Int) : Option ((List Int × Int × List Int × List Int × List Int × List Int) ⊕ (List Int × List Int × List Int)) :=
 bif (decide (t < (64 : Int))) then
  (ref03ITurned (v.getD 4 (0 : Int)) (6 : Int)).bind fun r9 =>
  (ref03ITurned (v.getD 4 (0 : Int)) (11 : Int)).bind fun r10 =>
  (ref03ITurned (v.getD 4 (0 : Int)) (25 : Int)).bind fun r11 =>
  bif decide (0 ≤ t) then
   bif Nat.blt (Int.toNat t) k.length then
    bif decide (0 ≤ t) then
     bif Nat.blt (Int.toNat t) b1000020.length then
      bif Nat.blt (Int.toNat t) b1000020.length then
       (ref03ITurned (v.getD 0 (0 : Int)) (2 : Int)).bind fun r12 =>
       (ref03ITurned (v.getD 0 (0 : Int)) (13 : Int)).bind fun r13 =>
       (ref03ITurned (v.getD 0 (0 : Int)) (22 : Int)).bind fun r14 =>
       (ref03IRoundsL1 k t (IntKind.wrap .u32 ((IntKind.wrap .u32 ((IntKind.wrap .u32 ((IntKind.wrap .u32 ((v.getD 7 (0 : Int)) + (xorI .u32 (xorI .u32 r9 r10) r11))) + (xorI .u32 (andI .u32 (v.getD 4 (0 : Int)) (v.getD 5 (0 : Int))) (andI .u32 (xorI .u32 (4294967295) (v.getD 4 (0 : Int))) (v.getD 6 (0 : Int)))))) + (k.getD (Int.toNat t) (0 : Int)))) + (b1000020.getD (Int.toNat t) (0 : Int)))) (IntKind.wrap .u32 ((xorI .u32 (xorI .u32 r12 r13) r14) + (xorI .u32 (xorI .u32 (andI .u32 (v.getD 0 (0 : Int)) (v.getD 1 (0 : Int))) (andI .u32 (v.getD 0 (0 : Int)) (v.getD 2 (0 : Int)))) (andI .u32 (v.getD 1 (0 : Int)) (v.getD 2 (0 : Int)))))) (1 : Int) s b6 v (List.replicate 8 (0 : Int)) b1000020).bind fun q15 =>
       some (.inl (q15.1, (IntKind.wrap .i64 (q15.2.1 + (1 : Int))), q15.2.2.2.2.1, q15.2.2.2.2.2.1, ((q15.2.2.2.2.2.2.2.1.set 0 (IntKind.wrap .u32 (q15.2.2.1 + q15.2.2.2.1))).set 4 (IntKind.wrap .u32 ((q15.2.2.2.2.2.2.1.getD 3 (0 : Int)) + q15.2.2.1))), q15.2.2.2.2.2.2.2.2))
      else none
     else none
    else none
   else none
  else none
 else
  some (.inr (s, b6, v))
def ref03IRoundsL0 (k : List Int) (t : Int) (s : List Int) (b6 : List Int) (v : List Int) (b1000020 : List Int) : Option (List Int × List Int × List Int) := hide (iter (fun p : List Int × Int × List Int × List Int × List Int × List Int => ref03IRoundsL0R p.1 p.2.1 p.2.2.1 p.2.2.2.1 p.2.2.2.2.1 p.2.2.2.2.2) (1000) (k, t, s, b6, v, b1000020))
theorem ref03IRoundsL0_eq (k : List Int) (t : Int) (s : List Int) (b6 : List Int) (v : List Int) (b1000020 : List Int) : ref03IRoundsL0 k t s b6 v b1000020 = iter (fun p : List Int × Int × List Int × List Int × List Int × List Int => ref03IRoundsL0R p.1 p.2.1 p.2.2.1 p.2.2.2.1 p.2.2.2.2.1 p.2.2.2.2.2) (1000) (k, t, s, b6, v, b1000020) := hide_eq _
def ref03IRoundsL2R (i : Int) (s : List Int) (b6 : List Int) (v : List Int) : Option ((Int × List Int × List Int × List Int) ⊕ (List Int × List Int)) :=
 bif (decide (i < (8 : Int))) then
  bif decide (0 ≤ i) then
   bif Nat.blt (Int.toNat i) 8 then
    bif Nat.blt (Int.toNat i) 8 then
     bif decide (0 ≤ i) then
      bif Nat.blt (Int.toNat i) 8 then
       bif Nat.blt (Int.toNat i) 8 then
        bif decide (0 ≤ i) then
         bif Nat.blt (Int.toNat i) 8 then
          bif Nat.blt (Int.toNat i) 8 then
           some (.inl ((IntKind.wrap .i64 (i + (1 : Int))), s, b6, (v.set (Int.toNat i) (IntKind.wrap .u32 ((v.getD (Int.toNat i) (0 : Int)) + (s.getD (Int.toNat i) (0 : Int)))))))
          else none
         else none
        else none
       else none
      else none
     else none
    else none
   else none
  else none
 else
  some (.inr (b6, v))
def ref03IRoundsL2 (i : Int) (s : List Int) (b6 : List Int) (v : List Int) : Option (List Int × List Int) := hide (iter (fun p : Int × List Int × List Int × List Int => ref03IRoundsL2R p.1 p.2.1 p.2.2.1 p.2.2.2) (1000) (i, s, b6, v))
theorem ref03IRoundsL2_eq (i : Int) (s : List Int) (b6 : List Int) (v : List Int) : ref03IRoundsL2 i s b6 v = iter (fun p : Int × List Int × List Int × List Int => ref03IRoundsL2R p.1 p.2.1 p.2.2.1 p.2.2.2) (1000) (i, s, b6, v) := hide_eq _
def ref03IRoundsB (s : List Int) (block : List Int) (k : List Int) : Option (List Int) :=
 (ref03IWords block).bind fun r1 =>
 (ref03IRoundsL0 k (0 : Int) s (List.replicate 8 (0 : Int)) s r1).bind fun q16 =>
 (ref03IRoundsL2 (0 : Int) q16.1 q16.2.1 q16.2.2).bind fun q17 =>
 some q17.2
def ref03IRounds (s : List Int) (block : List Int) (k : List Int) : Option (List Int) := hide (ref03IRoundsB s block k)
theorem ref03IRounds_eq (s : List Int) (block : List Int) (k : List Int) : ref03IRounds s block k = ref03IRoundsB s block k := hide_eq _
def ref03IDigestL0R (atV : Int) (b2 : List Int) (s : List Int) (b1000020 : List Int) (b1000021 : List Int) : Option ((Int × List Int × List Int × List Int × List Int) ⊕ (List Int × List Int)) :=
 bif (decide (atV < ((b1000020.length : Nat) : Int))) then
  bif decide (0 ≤ (IntKind.wrap .i64 (atV + (64 : Int)))) then
   bif Nat.ble (Int.toNat (IntKind.wrap .i64 (atV + (64 : Int)))) b1000020.length then
    bif decide (0 ≤ atV) then
     bif Nat.ble (Int.toNat atV) (Int.toNat (IntKind.wrap .i64 (atV + (64 : Int)))) then
      bif Nat.ble ((Int.toNat atV) + ((Int.toNat (IntKind.wrap .i64 (atV + (64 : Int)))) - (Int.toNat atV))) b1000020.length then
       (ref03IRounds s (List.take ((Int.toNat (IntKind.wrap .i64 (atV + (64 : Int)))) - (Int.toNat atV)) (List.drop (Int.toNat atV) b1000020)) b1000021).bind fun r6 =>
       some (.inl ((IntKind.wrap .i64 (atV + (64 : Int))), b2, r6, b1000020, b1000021))
      else none
     else none
    else none
   else none
  else none
 else
  some (.inr (b2, s))
def ref03IDigestL0 (atV : Int) (b2 : List Int) (s : List Int) (b1000020 : List Int) (b1000021 : List Int) : Option (List Int × List Int) := hide (iter (fun p : Int × List Int × List Int × List Int × List Int => ref03IDigestL0R p.1 p.2.1 p.2.2.1 p.2.2.2.1 p.2.2.2.2) (1000) (atV, b2, s, b1000020, b1000021))
theorem ref03IDigestL0_eq (atV : Int) (b2 : List Int) (s : List Int) (b1000020 : List Int) (b1000021 : List Int) : ref03IDigestL0 atV b2 s b1000020 b1000021 = iter (fun p : Int × List Int × List Int × List Int × List Int => ref03IDigestL0R p.1 p.2.1 p.2.2.1 p.2.2.2.1 p.2.2.2.2) (1000) (atV, b2, s, b1000020, b1000021) := hide_eq _
def ref03IDigestL1R (i : Int) (b2 : List Int) (s : List Int) (h : List Int) : Option ((Int × List Int × List Int × List Int) ⊕ (List Int × List Int)) :=
 bif (decide (i < (32 : Int))) then
  bif decide (0 ≤ (IntKind.wrap .i64 (Int.tdiv i (4 : Int)))) then
   bif Nat.blt (Int.toNat (IntKind.wrap .i64 (Int.tdiv i (4 : Int)))) 8 then
    bif Nat.blt (Int.toNat (IntKind.wrap .i64 (Int.tdiv i (4 : Int)))) 8 then
     bif decide ((IntKind.wrap .u64 (IntKind.wrap .i64 ((24 : Int) - (IntKind.wrap .i64 ((8 : Int) * (Int.tmod i (4 : Int))))))) < 0) then
      none
     else
      bif decide (0 ≤ i) then
       bif Nat.blt (Int.toNat i) 32 then
        bif Nat.blt (Int.toNat i) 32 then
         some (.inl ((IntKind.wrap .i64 (i + (1 : Int))), b2, s, (h.set (Int.toNat i) (IntKind.wrap .u8 (shrI .u32 (s.getD (Int.toNat (IntKind.wrap .i64 (Int.tdiv i (4 : Int)))) (0 : Int)) (IntKind.wrap .u64 (IntKind.wrap .i64 ((24 : Int) - (IntKind.wrap .i64 ((8 : Int) * (Int.tmod i (4 : Int))))))))))))
        else none
       else none
      else none
    else none
   else none
  else none
 else
  some (.inr (b2, h))
def ref03IDigestL1 (i : Int) (b2 : List Int) (s : List Int) (h : List Int) : Option (List Int × List Int) := hide (iter (fun p : Int × List Int × List Int × List Int => ref03IDigestL1R p.1 p.2.1 p.2.2.1 p.2.2.2) (1000) (i, b2, s, h))
theorem ref03IDigestL1_eq (i : Int) (b2 : List Int) (s : List Int) (h : List Int) : ref03IDigestL1 i b2 s h = iter (fun p : Int × List Int × List Int × List Int => ref03IDigestL1R p.1 p.2.1 p.2.2.1 p.2.2.2) (1000) (i, b2, s, h) := hide_eq _
def ref03IDigestB (text : List Int) : Option (List Int) :=
 (ref03Pad ((text.length : Nat) : Int)).bind fun r1 =>
 (ref03IJoined [text, r1.2]).bind fun r2 =>
 (ref03Roots (64 : Int) (3 : Int)).bind fun r3 =>
 (ref03Start).bind fun r4 =>
 (ref03IDigestL0 (0 : Int) (List.replicate 32 (0 : Int)) r4 r2 r3).bind fun q7 =>
 (ref03IDigestL1 (0 : Int) q7.1 q7.2 (List.replicate 32 (0 : Int))).bind fun q8 =>
 some q8.2
def ref03IDigest (text : List Int) : Option (List Int) := hide (ref03IDigestB text)
theorem ref03IDigest_eq (text : List Int) : ref03IDigest text = ref03IDigestB text := hide_eq _
def ref03IBytesOfL0R (i : Int) (h : List Int) (b16 : List Int) : Option ((Int × List Int × List Int) ⊕ (List Int)) :=
 bif (decide (i < (32 : Int))) then
  bif decide (0 ≤ i) then
   bif Nat.blt (Int.toNat i) 32 then
    bif Nat.blt (Int.toNat i) 32 then
     bif roomB 1 (b16.length + [(h.getD (Int.toNat i) (0 : Int))].length) then
      some (.inl ((IntKind.wrap .i64 (i + (1 : Int))), h, (b16 ++ [(h.getD (Int.toNat i) (0 : Int))])))
     else none
    else none
   else none
  else none
 else
  some (.inr b16)
def ref03IBytesOfL0 (i : Int) (h : List Int) (b16 : List Int) : Option (List Int) := hide (iter (fun p : Int × List Int × List Int => ref03IBytesOfL0R p.1 p.2.1 p.2.2) (1000) (i, h, b16))
theorem ref03IBytesOfL0_eq (i : Int) (h : List Int) (b16 : List Int) : ref03IBytesOfL0 i h b16 = iter (fun p : Int × List Int × List Int => ref03IBytesOfL0R p.1 p.2.1 p.2.2) (1000) (i, h, b16) := hide_eq _
def ref03IBytesOfB (h : List Int) : Option (List Int) :=
 (ref03IBytesOfL0 (0 : Int) h ([] : List Int)).bind fun q1 =>
 some q1
def ref03IBytesOf (h : List Int) : Option (List Int) := hide (ref03IBytesOfB h)
theorem ref03IBytesOf_eq (h : List Int) : ref03IBytesOf h = ref03IBytesOfB h := hide_eq _
def ref03HMACL0R (parts : List (List Int)) (b4 : List Int) (b1000021 : List Int) : Option ((List (List Int) × List Int × List Int) ⊕ (List (List Int) × List Int × List Int)) :=
 bif (decide (((b1000021.length : Nat) : Int) < (64 : Int))) then
  bif roomB 1 (b1000021.length + [(0 : Int)].length) then
   some (.inl (parts, b4, (b1000021 ++ [(0 : Int)])))
  else none
 else
  some (.inr (parts, b4, b1000021))
def ref03HMACL0 (parts : List (List Int)) (b4 : List Int) (b1000021 : List Int) : Option (List (List Int) × List Int × List Int) := hide (iter (fun p : List (List Int) × List Int × List Int => ref03HMACL0R p.1 p.2.1 p.2.2) (1000) (parts, b4, b1000021))
theorem ref03HMACL0_eq (parts : List (List Int)) (b4 : List Int) (b1000021 : List Int) : ref03HMACL0 parts b4 b1000021 = iter (fun p : List (List Int) × List Int × List Int => ref03HMACL0R p.1 p.2.1 p.2.2) (1000) (parts, b4, b1000021) := hide_eq _
def ref03HMACL1R (parts : List (List Int)) (i : Int) (b4 : List Int) (b1000021 : List Int) (b61 : List Int) (b62 : List Int) : Option ((List (List Int) × Int × List Int × List Int × List Int × List Int) ⊕ (List (List Int) × List Int × List Int × List Int)) :=
 bif (decide (i < (64 : Int))) then
  bif decide (0 ≤ i) then
   bif Nat.blt (Int.toNat i) b1000021.length then
    bif Nat.blt (Int.toNat i) b1000021.length then
     bif roomB 1 (b61.length + [(xorI .u8 (b1000021.getD (Int.toNat i) (0 : Int)) (54 : Int))].length) then
      bif decide (0 ≤ i) then
       bif Nat.blt (Int.toNat i) b1000021.length then
        bif Nat.blt (Int.toNat i) b1000021.length then
         bif roomB 1 (b62.length + [(xorI .u8 (b1000021.getD (Int.toNat i) (0 : Int)) (92 : Int))].length) then
          some (.inl (parts, (IntKind.wrap .i64 (i + (1 : Int))), b4, b1000021, (b61 ++ [(xorI .u8 (b1000021.getD (Int.toNat i) (0 : Int)) (54 : Int))]), (b62 ++ [(xorI .u8 (b1000021.getD (Int.toNat i) (0 : Int)) (92 : Int))])))
         else none
        else none
       else none
      else none
     else none
    else none
   else none
  else none
 else
  some (.inr (parts, b4, b61, b62))
def ref03HMACL1 (parts : List (List Int)) (i : Int) (b4 : List Int) (b1000021 : List Int) (b61 : List Int) (b62 : List Int) : Option (List (List Int) × List Int × List Int × List Int) := hide (iter (fun p : List (List Int) × Int × List Int × List Int × List Int × List Int => ref03HMACL1R p.1 p.2.1 p.2.2.1 p.2.2.2.1 p.2.2.2.2.1 p.2.2.2.2.2) (1000) (parts, i, b4, b1000021, b61, b62))
theorem ref03HMACL1_eq (parts : List (List Int)) (i : Int) (b4 : List Int) (b1000021 : List Int) (b61 : List Int) (b62 : List Int) : ref03HMACL1 parts i b4 b1000021 b61 b62 = iter (fun p : List (List Int) × Int × List Int × List Int × List Int × List Int => ref03HMACL1R p.1 p.2.1 p.2.2.1 p.2.2.2.1 p.2.2.2.2.1 p.2.2.2.2.2) (1000) (parts, i, b4, b1000021, b61, b62) := hide_eq _
def ref03HMACB (key : List Int) (parts : List (List Int)) : Option (List Int) :=
 (ref03IJoined [key]).bind fun r1 =>
 bif (decide (((r1.length : Nat) : Int) > (64 : Int))) then
  (ref03IDigest r1).bind fun r2 =>
  (ref03IBytesOf r2).bind fun r3 =>
  (ref03HMACL0 parts (List.replicate 32 (0 : Int)) r3).bind fun q4 =>
  (ref03HMACL1 q4.1 (0 : Int) q4.2.1 q4.2.2 ([] : List Int) ([] : List Int)).bind fun q5 =>
  (ref03IJoined q5.1).bind fun r6 =>
  (ref03IJoined [q5.2.2.1, r6]).bind fun r7 =>
  (ref03IDigest r7).bind fun r8 =>
  (ref03IBytesOf r8).bind fun r9 =>
  (ref03IJoined [q5.2.2.2, r9]).bind fun r10 =>
  (ref03IDigest r10).bind fun r11 =>
  some r11
 else
  (ref03HMACL0 parts (List.replicate 32 (0 : Int)) r1).bind fun q12 =>
  (ref03HMACL1 q12.1 (0 : Int) q12.2.1 q12.2.2 ([] : List Int) ([] : List Int)).bind fun q13 =>
  (ref03IJoined q13.1).bind fun r14 =>
  (ref03IJoined [q13.2.2.1, r14]).bind fun r15 =>
  (ref03IDigest r15).bind fun r16 =>
  (ref03IBytesOf r16).bind fun r17 =>
  (ref03IJoined [q13.2.2.2, r17]).bind fun r18 =>
  (ref03IDigest r18).bind fun r19 =>
  some r19
def ref03HMAC (key : List Int) (parts : List (List Int)) : Option (List Int) := hide (ref03HMACB key parts)
theorem ref03HMAC_eq (key : List Int) (parts : List (List Int)) : ref03HMAC key parts = ref03HMACB key parts := hide_eq _
end Go.Sy
