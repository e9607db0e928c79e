/- SHA-256: the rounds, and the state behind a block. -/
import Derived.Test.YtfappeeggccicaaGreatDoorSyMs1
set_option linter.unusedVariables false
set_option linter.unusedSimpArgs false
noncomputable section
namespace Go.Sy
open Go
def T1 (e f g h k w : Int) : Int :=
 IntKind.wrap .u32 ((IntKind.wrap .u32 ((IntKind.wrap .u32 ((IntKind.wrap .u32 (h + (xorI .u32 (xorI .u32 (rotR e 6) (rotR e 11)) (rotR e 25)))) + (xorI .u32 (andI .u32 e f) (andI .u32 (xorI .u32 (4294967295) e) g)))) + k)) + w)
def T2 (a b c : Int) : Int := IntKind.wrap .u32 ((xorI .u32 (xorI .u32 (rotR a 2) (rotR a 13)) (rotR a 22)) + (xorI .u32 (xorI .u32 (andI .u32 a b) (andI .u32 a c)) (andI .u32 b c)))
def runR (ks ws : List Int) : Nat → Nat → Int → Int → Int → Int → Int → Int → Int → Int → List Int
 | 0, _, a, b, c, d, e, f, g, h => [a, b, c, d, e, f, g, h]
 | r + 1, t, a, b, c, d, e, f, g, h => runR ks ws r (t + 1) (IntKind.wrap .u32 (T1 e f g h (ks.getD t 0) (ws.getD t 0) + T2 a b c)) a b c (IntKind.wrap .u32 (d + T1 e f g h (ks.getD t 0) (ws.getD t 0))) e f g
theorem runR_form (ks ws : List Int) : ∀ (r t : Nat) (a b c d e f g h : Int), ∃ x0 x1 x2 x3 x4 x5 x6 x7, runR ks ws r t a b c d e f g h = [x0, x1, x2, x3, x4, x5, x6, x7]
 | 0, _, a, b, c, d, e, f, g, h => ⟨_, _, _, _, _, _, _, _, rfl⟩
 | r + 1, t, a, b, c, d, e, f, g, h => runR_form ks ws r (t + 1) _ _ _ _ _ _ _ _
def tup8 (l : List Int) (st b4 : List Int) : Int × Int × Int × Int × Int × Int × Int × Int × List Int × List Int :=
 (l.getD 0 0, l.getD 1 0, l.getD 2 0, l.getD 3 0, l.getD 4 0, l.getD 5 0, l.getD 6 0, l.getD 7 0, st, b4)
theorem behindL0 {ks ws st b4 : List Int} : ∀ (r t fuel : Nat) (a b c d e f g h : Int), t + r = 64 → r < fuel →
  iter (fun p : Int × Int × Int × Int × Int × Int × Int × Int × List Int × Int × List Int × List Int × List Int => shaIBehindL0R p.1 p.2.1 p.2.2.1 p.2.2.2.1 p.2.2.2.2.1 p.2.2.2.2.2.1 p.2.2.2.2.2.2.1 p.2.2.2.2.2.2.2.1 p.2.2.2.2.2.2.2.2.1 p.2.2.2.2.2.2.2.2.2.1 p.2.2.2.2.2.2.2.2.2.2.1 p.2.2.2.2.2.2.2.2.2.2.2.1 p.2.2.2.2.2.2.2.2.2.2.2.2) fuel (a, b, c, d, e, f, g, h, ks, (t : Int), st, b4, ws)
   = some (tup8 (runR ks ws r t a b c d e f g h) st b4)
 | 0, t, fuel, a, b, c, d, e, f, g, h, ht, hf => by
  obtain ⟨fuel, rfl⟩ : ∃ n, fuel = n + 1 := ⟨fuel - 1, by omega⟩
  refine iter_end ?_
  show shaIBehindL0R a b c d e f g h ks (t : Int) st b4 ws = _
  unfold shaIBehindL0R
  exact guard_else (decide_eq_false (by omega)) rfl
 | r + 1, t, fuel, a, b, c, d, e, f, g, h, ht, hf => by
  obtain ⟨fuel, rfl⟩ : ∃ n, fuel = n + 1 := ⟨fuel - 1, by omega⟩
  refine iter_more ?_ (behindL0 r (t + 1) fuel (IntKind.wrap .u32 (T1 e f g h (ks.getD t 0) (ws.getD t 0) + T2 a b c)) a b c (IntKind.wrap .u32 (d + T1 e f g h (ks.getD t 0) (ws.getD t 0))) e f g (by omega) (by omega))
  show shaIBehindL0R a b c d e f g h ks (t : Int) st b4 ws = _
  unfold shaIBehindL0R
  simp only [Int.toNat_natCast]
  refine guard_step (decide_eq_true (by omega)) (guard_step (dn0 _) (guard_step (blt_lt (by omega)) (guard_step (blt_lt (by omega)) (bind_step (rl6 _) (bind_step (rl11 _) (bind_step (rl25 _) (guard_step (dn0 _) (guard_step (blt_lt (by omega)) (guard_step (blt_lt (by omega)) (bind_step (rl2 _) (bind_step (rl13 _) (bind_step (rl22 _) ?_))))))))))))
  rw [w64z _ (by omega) (by omega)]
  rfl
def addS (s r : List Int) : List Int := [IntKind.wrap .u32 (s.getD 0 0 + r.getD 0 0), IntKind.wrap .u32 (s.getD 1 0 + r.getD 1 0), IntKind.wrap .u32 (s.getD 2 0 + r.getD 2 0), IntKind.wrap .u32 (s.getD 3 0 + r.getD 3 0), IntKind.wrap .u32 (s.getD 4 0 + r.getD 4 0), IntKind.wrap .u32 (s.getD 5 0 + r.getD 5 0), IntKind.wrap .u32 (s.getD 6 0 + r.getD 6 0), IntKind.wrap .u32 (s.getD 7 0 + r.getD 7 0)]
def run8 (s b : List Int) : List Int := runR shaConstsT (wordsS b) 64 0 (s.getD 0 0) (s.getD 1 0) (s.getD 2 0) (s.getD 3 0) (s.getD 4 0) (s.getD 5 0) (s.getD 6 0) (s.getD 7 0)
def compS (s b : List Int) : List Int := addS s (run8 s b)
theorem eight {s : List Int} (h : s.length = 8) : ∃ x0 x1 x2 x3 x4 x5 x6 x7, s = [x0, x1, x2, x3, x4, x5, x6, x7] := by
 match s, h with
 | [x0, x1, x2, x3, x4, x5, x6, x7], _ => exact ⟨_, _, _, _, _, _, _, _, rfl⟩
theorem behindL1 (b4 : List Int) (s0 s1 s2 s3 s4 s5 s6 s7 x0 x1 x2 x3 x4 x5 x6 x7 : Int) :
  shaIBehindL1 [x0, x1, x2, x3, x4, x5, x6, x7] 0 [s0, s1, s2, s3, s4, s5, s6, s7] b4 = some (addS [s0, s1, s2, s3, s4, s5, s6, s7] [x0, x1, x2, x3, x4, x5, x6, x7], b4) := by
 rw [shaIBehindL1_eq]
 refine iter_more (b := ([x0, x1, x2, x3, x4, x5, x6, x7], 1, [IntKind.wrap .u32 (s0 + x0), s1, s2, s3, s4, s5, s6, s7], b4)) (by rfl) ?_
 refine iter_more (b := ([x0, x1, x2, x3, x4, x5, x6, x7], 2, [IntKind.wrap .u32 (s0 + x0), IntKind.wrap .u32 (s1 + x1), s2, s3, s4, s5, s6, s7], b4)) (by rfl) ?_
 refine iter_more (b := ([x0, x1, x2, x3, x4, x5, x6, x7], 3, [IntKind.wrap .u32 (s0 + x0), IntKind.wrap .u32 (s1 + x1), IntKind.wrap .u32 (s2 + x2), s3, s4, s5, s6, s7], b4)) (by rfl) ?_
 refine iter_more (b := ([x0, x1, x2, x3, x4, x5, x6, x7], 4, [IntKind.wrap .u32 (s0 + x0), IntKind.wrap .u32 (s1 + x1), IntKind.wrap .u32 (s2 + x2), IntKind.wrap .u32 (s3 + x3), s4, s5, s6, s7], b4)) (by rfl) ?_
 refine iter_more (b := ([x0, x1, x2, x3, x4, x5, x6, x7], 5, [IntKind.wrap .u32 (s0 + x0), IntKind.wrap .u32 (s1 + x1), IntKind.wrap .u32 (s2 + x2), IntKind.wrap .u32 (s3 + x3), IntKind.wrap .u32 (s4 + x4), s5, s6, s7], b4)) (by rfl) ?_
 refine iter_more (b := ([x0, x1, x2, x3, x4, x5, x6, x7], 6, [IntKind.wrap .u32 (s0 + x0), IntKind.wrap .u32 (s1 + x1), IntKind.wrap .u32 (s2 + x2), IntKind.wrap .u32 (s3 + x3), IntKind.wrap .u32 (s4 + x4), IntKind.wrap .u32 (s5 + x5), s6, s7], b4)) (by rfl) ?_
 refine iter_more (b := ([x0, x1, x2, x3, x4, x5, x6, x7], 7, [IntKind.wrap .u32 (s0 + x0), IntKind.wrap .u32 (s1 + x1), IntKind.wrap .u32 (s2 + x2), IntKind.wrap .u32 (s3 + x3), IntKind.wrap .u32 (s4 + x4), IntKind.wrap .u32 (s5 + x5), IntKind.wrap .u32 (s6 + x6), s7], b4)) (by rfl) ?_
 refine iter_more (b := ([x0, x1, x2, x3, x4, x5, x6, x7], 8, addS [s0, s1, s2, s3, s4, s5, s6, s7] [x0, x1, x2, x3, x4, x5, x6, x7], b4)) (by rfl) ?_
 exact iter_end (by rfl)
theorem shaBehind_val {s b : List Int} (hs : s.length = 8) (hb : Bytes b) (hl : b.length = 64) : shaIBehind s b = some (compS s b) := by
 obtain ⟨s0, s1, s2, s3, s4, s5, s6, s7, rfl⟩ := eight hs
 rw [shaIBehind_eq]
 unfold shaIBehindB
 refine bind_step (shaWords_val hb hl) (bind_step ((shaIBehindL0_eq _ _ _ _ _ _ _ _ _ _ _ _ _).trans (behindL0 64 0 1000 _ _ _ _ _ _ _ _ (by omega) (by omega))) ?_)
 unfold compS run8
 obtain ⟨x0, x1, x2, x3, x4, x5, x6, x7, hx⟩ := runR_form shaConstsT (wordsS b) 64 0 s0 s1 s2 s3 s4 s5 s6 s7
 have hx' : runR shaConstsT (wordsS b) 64 0 ([s0, s1, s2, s3, s4, s5, s6, s7].getD 0 0) ([s0, s1, s2, s3, s4, s5, s6, s7].getD 1 0) ([s0, s1, s2, s3, s4, s5, s6, s7].getD 2 0) ([s0, s1, s2, s3, s4, s5, s6, s7].getD 3 0) ([s0, s1, s2, s3, s4, s5, s6, s7].getD 4 0) ([s0, s1, s2, s3, s4, s5, s6, s7].getD 5 0) ([s0, s1, s2, s3, s4, s5, s6, s7].getD 6 0) ([s0, s1, s2, s3, s4, s5, s6, s7].getD 7 0) = [x0, x1, x2, x3, x4, x5, x6, x7] := hx
 rw [hx']
 exact bind_step (behindL1 _ s0 s1 s2 s3 s4 s5 s6 s7 x0 x1 x2 x3 x4 x5 x6 x7) rfl
theorem roundsL1 (k s b6 w : List Int) (t t1 t2 a b c d e f g h : Int) :
  ref03IRoundsL1 k t t1 t2 1 s b6 [a, b, c, d, e, f, g, h] (List.replicate 8 0) w = some (k, t, t1, t2, s, b6, [a, b, c, d, e, f, g, h], [0, a, b, c, d, e, f, g], w) := by
 rw [ref03IRoundsL1_eq]
 refine iter_more (b := (k, t, t1, t2, 2, s, b6, [a, b, c, d, e, f, g, h], [0, a, 0, 0, 0, 0, 0, 0], w)) (by rfl) ?_
 refine iter_more (b := (k, t, t1, t2, 3, s, b6, [a, b, c, d, e, f, g, h], [0, a, b, 0, 0, 0, 0, 0], w)) (by rfl) ?_
 refine iter_more (b := (k, t, t1, t2, 4, s, b6, [a, b, c, d, e, f, g, h], [0, a, b, c, 0, 0, 0, 0], w)) (by rfl) ?_
 refine iter_more (b := (k, t, t1, t2, 5, s, b6, [a, b, c, d, e, f, g, h], [0, a, b, c, d, 0, 0, 0], w)) (by rfl) ?_
 refine iter_more (b := (k, t, t1, t2, 6, s, b6, [a, b, c, d, e, f, g, h], [0, a, b, c, d, e, 0, 0], w)) (by rfl) ?_
 refine iter_more (b := (k, t, t1, t2, 7, s, b6, [a, b, c, d, e, f, g, h], [0, a, b, c, d, e, f, 0], w)) (by rfl) ?_
 refine iter_more (b := (k, t, t1, t2, 8, s, b6, [a, b, c, d, e, f, g, h], [0, a, b, c, d, e, f, g], w)) (by rfl) ?_
 exact iter_end (by rfl)
theorem roundsL0 {k s b6 w : List Int} (hk : k.length = 64) (hw : w.length = 64) : ∀ (r t fuel : Nat) (a b c d e f g h : Int), t + r = 64 → r < fuel →
  iter (fun p : List Int × Int × List Int × List Int × List Int × List Int => ref03IRoundsL0R p.1 p.2.1 p.2.2.1 p.2.2.2.1 p.2.2.2.2.1 p.2.2.2.2.2) fuel (k, (t : Int), s, b6, [a, b, c, d, e, f, g, h], w) = some (s, b6, runR k w r t a b c d e f g h)
 | 0, t, fuel, a, b, c, d, e, f, g, h, ht, hf => by
  obtain ⟨fuel, rfl⟩ : ∃ n, fuel = n + 1 := ⟨fuel - 1, by omega⟩
  refine iter_end ?_
  show ref03IRoundsL0R k (t : Int) s b6 [a, b, c, d, e, f, g, h] w = _
  unfold ref03IRoundsL0R
  exact guard_else (decide_eq_false (by omega)) rfl
 | r + 1, t, fuel, a, b, c, d, e, f, g, h, ht, hf => by
  obtain ⟨fuel, rfl⟩ : ∃ n, fuel = n + 1 := ⟨fuel - 1, by omega⟩
  refine iter_more ?_ (roundsL0 hk hw r (t + 1) fuel (IntKind.wrap .u32 (T1 e f g h (k.getD t 0) (w.getD t 0) + T2 a b c)) a b c (IntKind.wrap .u32 (d + T1 e f g h (k.getD t 0) (w.getD t 0))) e f g (by omega) (by omega))
  show ref03IRoundsL0R k (t : Int) s b6 [a, b, c, d, e, f, g, h] w = _
  unfold ref03IRoundsL0R
  simp only [Int.toNat_natCast]
  refine guard_step (decide_eq_true (by omega)) (bind_step (tr e 6 (by decide)) (bind_step (tr e 11 (by decide)) (bind_step (tr e 25 (by decide)) (guard_step (dn0 _) (guard_step (blt_lt (by omega)) (guard_step (dn0 _) (guard_step (blt_lt (by omega)) (guard_step (blt_lt (by omega)) (bind_step (tr a 2 (by decide)) (bind_step (tr a 13 (by decide)) (bind_step (tr a 22 (by decide)) (bind_step (roundsL1 _ _ _ _ _ _ _ a b c d e f g h) ?_))))))))))))
  show some (Sum.inl (k, IntKind.wrap .i64 ((t : Int) + 1), _)) = _
  rw [w64z _ (by omega) (by omega)]
  rfl
theorem roundsL2 (b6 : List Int) (s0 s1 s2 s3 s4 s5 s6 s7 x0 x1 x2 x3 x4 x5 x6 x7 : Int) :
  ref03IRoundsL2 0 [s0, s1, s2, s3, s4, s5, s6, s7] b6 [x0, x1, x2, x3, x4, x5, x6, x7] = some (b6, addS [x0, x1, x2, x3, x4, x5, x6, x7] [s0, s1, s2, s3, s4, s5, s6, s7]) := by
 rw [ref03IRoundsL2_eq]
 refine iter_more (b := (1, [s0, s1, s2, s3, s4, s5, s6, s7], b6, [IntKind.wrap .u32 (x0 + s0), x1, x2, x3, x4, x5, x6, x7])) (by rfl) ?_
 refine iter_more (b := (2, [s0, s1, s2, s3, s4, s5, s6, s7], b6, [IntKind.wrap .u32 (x0 + s0), IntKind.wrap .u32 (x1 + s1), x2, x3, x4, x5, x6, x7])) (by rfl) ?_
 refine iter_more (b := (3, [s0, s1, s2, s3, s4, s5, s6, s7], b6, [IntKind.wrap .u32 (x0 + s0), IntKind.wrap .u32 (x1 + s1), IntKind.wrap .u32 (x2 + s2), x3, x4, x5, x6, x7])) (by rfl) ?_
 refine iter_more (b := (4, [s0, s1, s2, s3, s4, s5, s6, s7], b6, [IntKind.wrap .u32 (x0 + s0), IntKind.wrap .u32 (x1 + s1), IntKind.wrap .u32 (x2 + s2), IntKind.wrap .u32 (x3 + s3), x4, x5, x6, x7])) (by rfl) ?_
 refine iter_more (b := (5, [s0, s1, s2, s3, s4, s5, s6, s7], b6, [IntKind.wrap .u32 (x0 + s0), IntKind.wrap .u32 (x1 + s1), IntKind.wrap .u32 (x2 + s2), IntKind.wrap .u32 (x3 + s3), IntKind.wrap .u32 (x4 + s4), x5, x6, x7])) (by rfl) ?_
 refine iter_more (b := (6, [s0, s1, s2, s3, s4, s5, s6, s7], b6, [IntKind.wrap .u32 (x0 + s0), IntKind.wrap .u32 (x1 + s1), IntKind.wrap .u32 (x2 + s2), IntKind.wrap .u32 (x3 + s3), IntKind.wrap .u32 (x4 + s4), IntKind.wrap .u32 (x5 + s5), x6, x7])) (by rfl) ?_
 refine iter_more (b := (7, [s0, s1, s2, s3, s4, s5, s6, s7], b6, [IntKind.wrap .u32 (x0 + s0), IntKind.wrap .u32 (x1 + s1), IntKind.wrap .u32 (x2 + s2), IntKind.wrap .u32 (x3 + s3), IntKind.wrap .u32 (x4 + s4), IntKind.wrap .u32 (x5 + s5), IntKind.wrap .u32 (x6 + s6), x7])) (by rfl) ?_
 refine iter_more (b := (8, [s0, s1, s2, s3, s4, s5, s6, s7], b6, addS [x0, x1, x2, x3, x4, x5, x6, x7] [s0, s1, s2, s3, s4, s5, s6, s7])) (by rfl) ?_
 exact iter_end (by rfl)
theorem addS_comm (s r : List Int) : addS s r = addS r s := by
 unfold addS
 rw [Int.add_comm (s.getD 0 0), Int.add_comm (s.getD 1 0), Int.add_comm (s.getD 2 0), Int.add_comm (s.getD 3 0), Int.add_comm (s.getD 4 0), Int.add_comm (s.getD 5 0), Int.add_comm (s.getD 6 0), Int.add_comm (s.getD 7 0)]
theorem refRounds_val {s b : List Int} (hs : s.length = 8) (hb : Bytes b) (hl : b.length = 64) : ref03IRounds s b shaConstsT = some (compS s b) := by
 obtain ⟨s0, s1, s2, s3, s4, s5, s6, s7, rfl⟩ := eight hs
 rw [ref03IRounds_eq]
 unfold ref03IRoundsB
 refine bind_step (refWords_val hb hl) (bind_step ((ref03IRoundsL0_eq _ _ _ _ _ _).trans (roundsL0 (by rfl) (wordsS_len b) 64 0 1000 s0 s1 s2 s3 s4 s5 s6 s7 (by omega) (by omega))) ?_)
 unfold compS run8
 obtain ⟨x0, x1, x2, x3, x4, x5, x6, x7, hx⟩ := runR_form shaConstsT (wordsS b) 64 0 s0 s1 s2 s3 s4 s5 s6 s7
 have hx' : runR shaConstsT (wordsS b) 64 0 ([s0, s1, s2, s3, s4, s5, s6, s7].getD 0 0) ([s0, s1, s2, s3, s4, s5, s6, s7].getD 1 0) ([s0, s1, s2, s3, s4, s5, s6, s7].getD 2 0) ([s0, s1, s2, s3, s4, s5, s6, s7].getD 3 0) ([s0, s1, s2, s3, s4, s5, s6, s7].getD 4 0) ([s0, s1, s2, s3, s4, s5, s6, s7].getD 5 0) ([s0, s1, s2, s3, s4, s5, s6, s7].getD 6 0) ([s0, s1, s2, s3, s4, s5, s6, s7].getD 7 0) = [x0, x1, x2, x3, x4, x5, x6, x7] := hx
 rw [hx', addS_comm]
 simp only [hx]
 exact bind_step (roundsL2 _ s0 s1 s2 s3 s4 s5 s6 s7 x0 x1 x2 x3 x4 x5 x6 x7) rfl
theorem compS_len (s b : List Int) : (compS s b).length = 8 := rfl
end Go.Sy
