/- SHA-256: words, the schedule, the rounds: what both texts compute. -/
import Derived.Test.YtfappeeggccicaaGreatDoorSyHE
import Derived.Test.YtfappeeggccicaaGreatDoorSyVS
set_option linter.unusedVariables false
set_option linter.unusedSimpArgs false
noncomputable section
namespace Go.Sy
open Go
theorem blt_lt {a b : Nat} (h : a < b) : Nat.blt a b = true := by simpa using h
theorem ble_le {a b : Nat} (h : a ≤ b) : Nat.ble a b = true := Nat.ble_eq_true_of_le h
theorem w64z (z : Int) (h1 : -9223372036854775808 ≤ z) (h2 : z < 9223372036854775808) : IntKind.wrap .i64 z = z := by
 have g1 : (IntKind.i64).signed = true := rfl
 have g2 : (2 : Int) ^ (IntKind.i64).bits = 18446744073709551616 := rfl
 have g3 : (2 : Int) ^ ((IntKind.i64).bits - 1) = 9223372036854775808 := rfl
 simp only [IntKind.wrap, g1, g2, g3, Bool.true_and]
 split <;> rename_i h <;> simp only [decide_eq_true_eq] at h <;> omega
theorem dn0 (n : Nat) : decide (0 ≤ ((n : Nat) : Int)) = true := decide_eq_true (Int.natCast_nonneg n)
theorem wu64z (z : Int) (h1 : 0 ≤ z) (h2 : z < 18446744073709551616) : IntKind.wrap .u64 z = z := by
 show z % 18446744073709551616 = z
 omega
theorem wu32z (z : Int) (h1 : 0 ≤ z) (h2 : z < 4294967296) : IntKind.wrap .u32 z = z := by
 show z % 4294967296 = z
 omega
theorem orI_comm (k : IntKind) (a b : Int) : orI k a b = orI k b a := by rw [orI_eq, orI_eq, BitVec.or_comm]
def rotR (x n : Int) : Int := orI .u32 (shrI .u32 x n) (shlI .u32 x (32 - n))
theorem turned_val (x : Int) {n : Int} (h0 : 0 ≤ n) (h1 : n ≤ 32) : ref03ITurned x n = some (rotR x n) := by
 rw [ref03ITurned_eq]
 unfold ref03ITurnedB
 have e : IntKind.wrap .u64 ((32 : Int) - n) = 32 - n := wu64z _ (by omega) (by omega)
 rw [e]
 exact guard_else (decide_eq_false (by omega)) (guard_else (decide_eq_false (by omega)) rfl)
theorem rotl_val (x : Int) {k n : Int} (h0 : 0 ≤ n) (h1 : n ≤ 32) (h : andI .u64 (IntKind.wrap .u64 k) (31 : Int) = 32 - n) : bitsRotateLeft32 x k = some (rotR x n) := by
 rw [bitsRotateLeft32_eq]
 unfold bitsRotateLeft32B
 have e : IntKind.wrap .u64 ((32 : Int) - (32 - n)) = n := by rw [wu64z _ (by omega) (by omega)]; omega
 rw [h, e]
 refine guard_else (decide_eq_false (by omega)) (guard_else (decide_eq_false (by omega)) ?_)
 rw [orI_comm]; rfl
theorem rl2 (x : Int) : bitsRotateLeft32 x (-2) = some (rotR x 2) := rotl_val x (by decide) (by decide) (by decide)
theorem rl6 (x : Int) : bitsRotateLeft32 x (-6) = some (rotR x 6) := rotl_val x (by decide) (by decide) (by decide)
theorem rl7 (x : Int) : bitsRotateLeft32 x (-7) = some (rotR x 7) := rotl_val x (by decide) (by decide) (by decide)
theorem rl11 (x : Int) : bitsRotateLeft32 x (-11) = some (rotR x 11) := rotl_val x (by decide) (by decide) (by decide)
theorem rl13 (x : Int) : bitsRotateLeft32 x (-13) = some (rotR x 13) := rotl_val x (by decide) (by decide) (by decide)
theorem rl17 (x : Int) : bitsRotateLeft32 x (-17) = some (rotR x 17) := rotl_val x (by decide) (by decide) (by decide)
theorem rl18 (x : Int) : bitsRotateLeft32 x (-18) = some (rotR x 18) := rotl_val x (by decide) (by decide) (by decide)
theorem rl19 (x : Int) : bitsRotateLeft32 x (-19) = some (rotR x 19) := rotl_val x (by decide) (by decide) (by decide)
theorem rl22 (x : Int) : bitsRotateLeft32 x (-22) = some (rotR x 22) := rotl_val x (by decide) (by decide) (by decide)
theorem rl25 (x : Int) : bitsRotateLeft32 x (-25) = some (rotR x 25) := rotl_val x (by decide) (by decide) (by decide)
theorem tr (x : Int) (n : Nat) (h : n ≤ 32) : ref03ITurned x (n : Int) = some (rotR x n) := turned_val x (by omega) (by omega)
theorem or32 {a b : Nat} (ha : a < 4294967296) (hb : b < 4294967296) : orI .u32 (a : Int) (b : Int) = ((a ||| b : Nat) : Int) := by
 have e : ∀ c : Nat, c < 4294967296 → (BitVec.ofInt 32 (c : Int)).toNat = c := fun c hc => by
  rw [BitVec.ofInt_natCast, BitVec.toNat_ofNat]; exact Nat.mod_eq_of_lt hc
 rw [orI_eq]
 show IntKind.wrap .u32 ((BitVec.ofInt 32 (a : Int) ||| BitVec.ofInt 32 (b : Int)).toNat : Nat) = _
 rw [BitVec.toNat_or, e a ha, e b hb]
 have := Nat.or_lt_two_pow (n := 32) (x := a) (y := b) ha hb
 exact wu32z _ (by omega) (by omega)
theorem or_add {m y : Nat} (k : Nat) (h : y < 2 ^ k) : m * 2 ^ k ||| y = m * 2 ^ k + y := by
 rw [← Nat.shiftLeft_eq, Nat.shiftLeft_add_eq_or_of_lt h]
theorem shl32 {a : Nat} {k : Nat} (hk : k < 32) (h : a * 2 ^ k < 4294967296) : shlI .u32 (a : Int) (k : Int) = ((a * 2 ^ k : Nat) : Int) := by
 unfold shlI
 have e : min ((k : Int).toNat) (IntKind.bits .u32) = k := by
  show min k 32 = k
  omega
 rw [e]
 have : (a : Int) * 2 ^ k = ((a * 2 ^ k : Nat) : Int) := by push_cast; rfl
 rw [this]
 exact wu32z _ (by omega) (by omega)
def be4 (a b c d : Nat) : Nat := a * 16777216 + b * 65536 + c * 256 + d
theorem be4_or {a b c d : Nat} (ha : a < 256) (hb : b < 256) (hc : c < 256) (hd : d < 256) :
  orI .u32 (orI .u32 (orI .u32 (shlI .u32 (IntKind.wrap .u32 (a : Int)) 24) (shlI .u32 (IntKind.wrap .u32 (b : Int)) 16)) (shlI .u32 (IntKind.wrap .u32 (c : Int)) 8)) (IntKind.wrap .u32 (d : Int)) = (be4 a b c d : Int) := by
 rw [wu32z _ (by omega) (by omega), wu32z _ (by omega) (by omega), wu32z _ (by omega) (by omega), wu32z _ (by omega) (by omega)]
 have e1 := shl32 (a := a) (k := 24) (by decide) (by simp only [show (2 : Nat) ^ 24 = 16777216 from rfl]; omega)
 have e2 := shl32 (a := b) (k := 16) (by decide) (by simp only [show (2 : Nat) ^ 16 = 65536 from rfl]; omega)
 have e3 := shl32 (a := c) (k := 8) (by decide) (by simp only [show (2 : Nat) ^ 8 = 256 from rfl]; omega)
 have f1 : orI .u32 (((a * 2 ^ 24 : Nat) : Int)) (((b * 2 ^ 16 : Nat) : Int)) = (((a * 256 + b) * 2 ^ 16 : Nat) : Int) := by
  rw [or32 (by simp only [show (2 : Nat) ^ 24 = 16777216 from rfl]; omega) (by simp only [show (2 : Nat) ^ 16 = 65536 from rfl]; omega), or_add 24 (by simp only [show (2 : Nat) ^ 16 = 65536 from rfl, show (2 : Nat) ^ 24 = 16777216 from rfl]; omega)]
  refine congrArg (fun n : Nat => (n : Int)) ?_
  simp only [show (2 : Nat) ^ 16 = 65536 from rfl, show (2 : Nat) ^ 24 = 16777216 from rfl]; omega
 have f2 : orI .u32 ((((a * 256 + b) * 2 ^ 16 : Nat) : Int)) (((c * 2 ^ 8 : Nat) : Int)) = ((((a * 256 + b) * 256 + c) * 2 ^ 8 : Nat) : Int) := by
  rw [or32 (by simp only [show (2 : Nat) ^ 16 = 65536 from rfl]; omega) (by simp only [show (2 : Nat) ^ 8 = 256 from rfl]; omega), or_add 16 (by simp only [show (2 : Nat) ^ 16 = 65536 from rfl, show (2 : Nat) ^ 8 = 256 from rfl]; omega)]
  refine congrArg (fun n : Nat => (n : Int)) ?_
  simp only [show (2 : Nat) ^ 16 = 65536 from rfl, show (2 : Nat) ^ 8 = 256 from rfl]; omega
 have f3 : orI .u32 (((((a * 256 + b) * 256 + c) * 2 ^ 8 : Nat) : Int)) ((d : Nat) : Int) = (be4 a b c d : Int) := by
  rw [or32 (by simp only [show (2 : Nat) ^ 8 = 256 from rfl]; omega) (by omega), or_add 8 (by simp only [show (2 : Nat) ^ 8 = 256 from rfl]; omega)]
  refine congrArg (fun n : Nat => (n : Int)) ?_
  simp only [show (2 : Nat) ^ 8 = 256 from rfl, be4]; omega
 rw [show (24 : Int) = ((24 : Nat) : Int) from rfl, e1, show (16 : Int) = ((16 : Nat) : Int) from rfl, e2, show (8 : Int) = ((8 : Nat) : Int) from rfl, e3, f1, f2, f3]
theorem more8 {x b : Nat} (hx : x < 16777216) (hb : b < 256) : orI .u32 (shlI .u32 (x : Int) 8) (IntKind.wrap .u32 (b : Int)) = ((x * 256 + b : Nat) : Int) := by
 rw [wu32z _ (by omega) (by omega)]
 have e3 := shl32 (a := x) (k := 8) (by decide) (by simp only [show (2 : Nat) ^ 8 = 256 from rfl]; omega)
 rw [show (8 : Int) = ((8 : Nat) : Int) from rfl, e3, or32 (by simp only [show (2 : Nat) ^ 8 = 256 from rfl]; omega) (by omega), or_add 8 (by simp only [show (2 : Nat) ^ 8 = 256 from rfl]; omega)]
def wordAt (b : List Int) (i : Nat) : Int := b.getD (4 * i) 0 * 16777216 + b.getD (4 * i + 1) 0 * 65536 + b.getD (4 * i + 2) 0 * 256 + b.getD (4 * i + 3) 0
def words16 (b : List Int) : Nat → List Int
 | 0 => []
 | n + 1 => words16 b n ++ [wordAt b n]
theorem words16_len (b : List Int) (n : Nat) : (words16 b n).length = n := by
 induction n with
 | zero => rfl
 | succ n ih => simp [words16, ih]
theorem refWord_val {b : List Int} (hb : Bytes b) (hl : b.length = 64) {i : Nat} (hi : i < 16) : ref03IWord b ((4 * i : Nat) : Int) = some (wordAt b i) := by
 rw [ref03IWord_eq]
 unfold ref03IWordB
 have e1 : IntKind.wrap .i64 (((4 * i : Nat) : Int) + 1) = ((4 * i + 1 : Nat) : Int) := w64z _ (by omega) (by omega)
 have e2 : IntKind.wrap .i64 (((4 * i : Nat) : Int) + 2) = ((4 * i + 2 : Nat) : Int) := w64z _ (by omega) (by omega)
 have e3 : IntKind.wrap .i64 (((4 * i : Nat) : Int) + 3) = ((4 * i + 3 : Nat) : Int) := w64z _ (by omega) (by omega)
 rw [e1, e2, e3]
 simp only [Int.toNat_natCast]
 refine guard_step (dn0 _) (guard_step (blt_lt (by omega)) (guard_step (dn0 _) (guard_step (blt_lt (by omega)) (guard_step (dn0 _) (guard_step (blt_lt (by omega)) (guard_step (dn0 _) (guard_step (blt_lt (by omega)) ?_)))))))
 have g : ∀ j, ∃ n : Nat, b.getD j 0 = (n : Int) ∧ n < 256 := fun j => by
  obtain ⟨n, hn⟩ := Int.eq_ofNat_of_zero_le (hb j).1
  exact ⟨n, hn, by have := (hb j).2; omega⟩
 obtain ⟨n0, h0, l0⟩ := g (4 * i)
 obtain ⟨n1, h1, l1⟩ := g (4 * i + 1)
 obtain ⟨n2, h2, l2⟩ := g (4 * i + 2)
 obtain ⟨n3, h3, l3⟩ := g (4 * i + 3)
 rw [h0, h1, h2, h3, be4_or l0 l1 l2 l3]
 unfold wordAt be4
 rw [h0, h1, h2, h3]
 simp only [Int.natCast_add, Int.natCast_mul]; rfl
def sigS (w15 w2 w7 w16 : Int) : Int :=
 IntKind.wrap .u32 ((IntKind.wrap .u32 ((IntKind.wrap .u32 ((xorI .u32 (xorI .u32 (rotR w2 17) (rotR w2 19)) (shrI .u32 w2 10)) + w7)) + (xorI .u32 (xorI .u32 (rotR w15 7) (rotR w15 18)) (shrI .u32 w15 3)))) + w16)
def nextW (l : List Int) : Int := sigS (l.getD (l.length - 15) 0) (l.getD (l.length - 2) 0) (l.getD (l.length - 7) 0) (l.getD (l.length - 16) 0)
def extW : Nat → List Int → List Int
 | 0, l => l
 | n + 1, l => extW n (l ++ [nextW l])
theorem extW_len : ∀ (n : Nat) (l : List Int), (extW n l).length = l.length + n
 | 0, l => rfl
 | n + 1, l => by simp only [extW]; rw [extW_len n]; simp; omega
def wordsS (b : List Int) : List Int := extW 48 (words16 b 16)
theorem wordsS_len (b : List Int) : (wordsS b).length = 64 := by simp [wordsS, extW_len, words16_len]
theorem room4 {n : Nat} (h : n ≤ 1000000) : roomB 4 n = true := by
 simp only [roomB, Bool.and_eq_true]
 exact ⟨ble_le (by omega), ble_le (by omega)⟩
theorem room1 {n : Nat} (h : n ≤ 1000000) : roomB 1 n = true := by
 simp only [roomB, Bool.and_eq_true]
 exact ⟨ble_le (by omega), ble_le (by omega)⟩
theorem refWordsL0 {b : List Int} (hb : Bytes b) (hl : b.length = 64) : ∀ (r i fuel : Nat), i + r = 16 → r < fuel →
  iter (fun p : List Int × Int × List Int => ref03IWordsL0R p.1 p.2.1 p.2.2) fuel (b, (i : Int), words16 b i) = some (words16 b 16)
 | 0, i, fuel, hi, hf => by
  obtain ⟨fuel, rfl⟩ : ∃ n, fuel = n + 1 := ⟨fuel - 1, by omega⟩
  have : i = 16 := by omega
  subst this
  refine iter_end ?_
  show ref03IWordsL0R b ((16 : Nat) : Int) (words16 b 16) = _
  unfold ref03IWordsL0R
  exact guard_else (by decide) rfl
 | r + 1, i, fuel, hi, hf => by
  obtain ⟨fuel, rfl⟩ : ∃ n, fuel = n + 1 := ⟨fuel - 1, by omega⟩
  refine iter_more (b := (b, ((i + 1 : Nat) : Int), words16 b (i + 1))) ?_ (refWordsL0 hb hl r (i + 1) fuel (by omega) (by omega))
  show ref03IWordsL0R b (i : Int) (words16 b i) = _
  unfold ref03IWordsL0R
  have e : IntKind.wrap .i64 ((4 : Int) * (i : Int)) = ((4 * i : Nat) : Int) := by rw [w64z _ (by omega) (by omega)]; omega
  rw [e]
  refine guard_step (decide_eq_true (by omega)) (bind_step (refWord_val hb hl (by omega)) (guard_step (room4 (by simp [words16_len]; omega)) ?_))
  rw [w64z _ (by omega) (by omega)]
  rfl
theorem refWordsL1 : ∀ (r fuel : Nat) (l : List Int), l.length + r = 64 → 16 ≤ l.length → r < fuel →
  iter (fun p : Int × List Int => ref03IWordsL1R p.1 p.2) fuel ((l.length : Int), l) = some (extW r l)
 | 0, fuel, l, hl, h16, hf => by
  obtain ⟨fuel, rfl⟩ : ∃ n, fuel = n + 1 := ⟨fuel - 1, by omega⟩
  refine iter_end ?_
  show ref03IWordsL1R (l.length : Int) l = _
  unfold ref03IWordsL1R
  exact guard_else (decide_eq_false (by omega)) rfl
 | r + 1, fuel, l, hl, h16, hf => by
  obtain ⟨fuel, rfl⟩ : ∃ n, fuel = n + 1 := ⟨fuel - 1, by omega⟩
  have ih := refWordsL1 r fuel (l ++ [nextW l]) (by simp; omega) (by simp; omega) (by omega)
  refine iter_more (b := (((l.length + 1 : Nat) : Int), l ++ [nextW l])) ?_ (by rw [show extW (r + 1) l = extW r (l ++ [nextW l]) from rfl]; simpa using ih)
  show ref03IWordsL1R (l.length : Int) l = _
  unfold ref03IWordsL1R
  have e15 : IntKind.wrap .i64 ((l.length : Int) - 15) = ((l.length - 15 : Nat) : Int) := by rw [w64z _ (by omega) (by omega)]; omega
  have e2 : IntKind.wrap .i64 ((l.length : Int) - 2) = ((l.length - 2 : Nat) : Int) := by rw [w64z _ (by omega) (by omega)]; omega
  have e7 : IntKind.wrap .i64 ((l.length : Int) - 7) = ((l.length - 7 : Nat) : Int) := by rw [w64z _ (by omega) (by omega)]; omega
  have e16 : IntKind.wrap .i64 ((l.length : Int) - 16) = ((l.length - 16 : Nat) : Int) := by rw [w64z _ (by omega) (by omega)]; omega
  rw [e15, e2, e7, e16]
  simp only [Int.toNat_natCast]
  refine guard_step (decide_eq_true (by omega)) (guard_step (dn0 _) (guard_step (blt_lt (by omega)) (guard_step (blt_lt (by omega)) (guard_step (dn0 _) (guard_step (blt_lt (by omega)) (guard_step (blt_lt (by omega)) (bind_step (tr _ 7 (by decide)) (bind_step (tr _ 18 (by decide)) (bind_step (tr _ 17 (by decide)) (bind_step (tr _ 19 (by decide)) (guard_step (dn0 _) (guard_step (blt_lt (by omega)) (guard_step (blt_lt (by omega)) (guard_step (dn0 _) (guard_step (blt_lt (by omega)) (guard_step (blt_lt (by omega)) (guard_step (room4 (by simp; omega)) ?_)))))))))))))))))
  rw [w64z _ (by omega) (by omega)]
  rfl
theorem refWords_val {b : List Int} (hb : Bytes b) (hl : b.length = 64) : ref03IWords b = some (wordsS b) := by
 rw [ref03IWords_eq]
 unfold ref03IWordsB
 refine bind_step ((ref03IWordsL0_eq _ _ _).trans (refWordsL0 hb hl 16 0 1000 (by omega) (by omega))) ?_
 have h := refWordsL1 48 1000 (words16 b 16) (by simp [words16_len]) (by simp [words16_len]) (by omega)
 rw [words16_len] at h
 exact bind_step ((ref03IWordsL1_eq _ _).trans h) rfl
theorem set_mid {l r : List Int} {x v : Int} {i : Nat} (h : l.length = i) : (l ++ x :: r).set i v = l ++ v :: r := by
 subst h
 rw [List.set_append, if_neg (by omega), Nat.sub_self, List.set_cons_zero]
theorem getD_mid {l r : List Int} {x : Int} {i : Nat} (h : l.length = i) : (l ++ x :: r).getD i 0 = x := by
 subst h
 rw [List.getD_eq_getElem?_getD, List.getElem?_append_right (by omega), Nat.sub_self]; rfl
theorem getD_left {l r : List Int} {i : Nat} (h : i < l.length) : (l ++ r).getD i 0 = l.getD i 0 := by
 rw [List.getD_eq_getElem?_getD, List.getD_eq_getElem?_getD, List.getElem?_append_left h]
theorem take_drop_get {b : List Int} {i n j : Nat} (h : j < n) (h2 : i + j < b.length) : (List.take n (List.drop i b)).getD j 0 = b.getD (i + j) 0 := by
 rw [List.getD_eq_getElem?_getD, List.getD_eq_getElem?_getD, List.getElem?_take, if_pos h, List.getElem?_drop]
theorem shaWordR {b l r b2 : List Int} {i j x v : Nat} (hb : Bytes b) (hi : i < 16) (hj : j < 4) (hl : b.length = 64) (hll : l.length = i) (hx : x < 16777216) (hv : b.getD (4 * i + j) 0 = (v : Int)) (hv2 : v < 256) :
  shaIWordsL1R b (i : Int) (i : Int) (List.take 4 (List.drop (4 * i) b)) (4 : Int) (j : Int) b2 (l ++ (x : Int) :: r) = some (.inl (b, (i : Int), (i : Int), List.take 4 (List.drop (4 * i) b), (4 : Int), ((j + 1 : Nat) : Int), b2, l ++ ((x * 256 + v : Nat) : Int) :: r)) := by
 unfold shaIWordsL1R
 have hlen : (List.take 4 (List.drop (4 * i) b)).length = 4 := by simp; omega
 simp only [Int.toNat_natCast]
 refine guard_step (decide_eq_true (by omega)) (guard_step (dn0 _) (guard_step (blt_lt (by omega)) (guard_step (dn0 _) (guard_step (blt_lt (by omega)) (guard_step (blt_lt (by omega)) (guard_step (dn0 _) (guard_step (blt_lt (by omega)) (guard_step (blt_lt (by omega)) ?_))))))))
 rw [getD_mid hll, set_mid hll, take_drop_get hj (by omega), hv, more8 hx hv2, w64z _ (by omega) (by omega)]
 rfl
theorem shaWordsL1 {b l r b2 : List Int} {i : Nat} (hb : Bytes b) (hi : i < 16) (hl : b.length = 64) (hll : l.length = i) :
  shaIWordsL1 b (i : Int) (i : Int) (List.take 4 (List.drop (4 * i) b)) (4 : Int) (0 : Int) b2 (l ++ 0 :: r) = some (b, (i : Int), b2, l ++ wordAt b i :: r) := by
 rw [shaIWordsL1_eq]
 have g : ∀ j, ∃ n : Nat, b.getD j 0 = (n : Int) ∧ n < 256 := fun j => by
  obtain ⟨n, hn⟩ := Int.eq_ofNat_of_zero_le (hb j).1
  exact ⟨n, hn, by have := (hb j).2; omega⟩
 obtain ⟨n0, h0, l0⟩ := g (4 * i + 0)
 obtain ⟨n1, h1, l1⟩ := g (4 * i + 1)
 obtain ⟨n2, h2, l2⟩ := g (4 * i + 2)
 obtain ⟨n3, h3, l3⟩ := g (4 * i + 3)
 refine iter_more (shaWordR (x := 0) (r := r) (b2 := b2) (j := 0) hb hi (by decide) hl hll (by decide) h0 l0) ?_
 refine iter_more (shaWordR (r := r) (b2 := b2) (j := 1) hb hi (by decide) hl hll (by omega) h1 l1) ?_
 refine iter_more (shaWordR (r := r) (b2 := b2) (j := 2) hb hi (by decide) hl hll (by omega) h2 l2) ?_
 refine iter_more (shaWordR (r := r) (b2 := b2) (j := 3) hb hi (by decide) hl hll (by omega) h3 l3) ?_
 refine iter_end ?_
 show shaIWordsL1R b (i : Int) (i : Int) _ (4 : Int) ((4 : Nat) : Int) b2 _ = _
 unfold shaIWordsL1R
 refine guard_else (by decide) ?_
 have e : (((((0 * 256 + n0) * 256 + n1) * 256 + n2) * 256 + n3 : Nat) : Int) = wordAt b i := by
  unfold wordAt
  rw [Nat.add_zero] at h0
  rw [h0, h1, h2, h3]
  omega
 rw [e]
theorem shaWordsL0 {b b2 : List Int} (hb : Bytes b) (hl : b.length = 64) : ∀ (r i fuel : Nat), i + r = 16 → r < fuel →
  iter (fun p : List Int × Int × List Int × List Int => shaIWordsL0R p.1 p.2.1 p.2.2.1 p.2.2.2) fuel (b, (i : Int), b2, words16 b i ++ List.replicate (64 - i) 0) = some (b2, words16 b 16 ++ List.replicate 48 0)
 | 0, i, fuel, hi, hf => by
  obtain ⟨fuel, rfl⟩ : ∃ n, fuel = n + 1 := ⟨fuel - 1, by omega⟩
  have : i = 16 := by omega
  subst this
  refine iter_end ?_
  show shaIWordsL0R b ((16 : Nat) : Int) b2 _ = _
  unfold shaIWordsL0R
  exact guard_else (by decide) rfl
 | r + 1, i, fuel, hi, hf => by
  obtain ⟨fuel, rfl⟩ : ∃ n, fuel = n + 1 := ⟨fuel - 1, by omega⟩
  refine iter_more (b := (b, ((i + 1 : Nat) : Int), b2, words16 b (i + 1) ++ List.replicate (64 - (i + 1)) 0)) ?_ (shaWordsL0 hb hl r (i + 1) fuel (by omega) (by omega))
  show shaIWordsL0R b (i : Int) b2 _ = _
  unfold shaIWordsL0R
  have e : IntKind.wrap .i64 ((4 : Int) * (i : Int)) = ((4 * i : Nat) : Int) := by rw [w64z _ (by omega) (by omega)]; omega
  have e2 : IntKind.wrap .i64 (((4 * i : Nat) : Int) + 4) = ((4 * i + 4 : Nat) : Int) := by rw [w64z _ (by omega) (by omega)]; omega
  rw [e, e2]
  simp only [Int.toNat_natCast]
  have e3 : 4 * i + 4 - 4 * i = 4 := by omega
  have hlen : (List.take 4 (List.drop (4 * i) b)).length = 4 := by simp; omega
  rw [e3, hlen]
  have e4 : List.replicate (64 - i) (0 : Int) = 0 :: List.replicate (64 - (i + 1)) 0 := by
   rw [show 64 - i = (64 - (i + 1)) + 1 by omega, List.replicate_succ]
  rw [e4]
  refine guard_step (decide_eq_true (by omega)) (guard_step (dn0 _) (guard_step (ble_le (by omega)) (guard_step (dn0 _) (guard_step (ble_le (by omega)) (bind_step (shaWordsL1 hb (by omega) hl (words16_len b i)) ?_)))))
  show some (Sum.inl (b, IntKind.wrap .i64 ((i : Int) + 1), b2, _)) = _
  rw [w64z _ (by omega) (by omega), words16, List.append_assoc]
  rfl
theorem shaWordsL2 {b2 : List Int} : ∀ (r fuel : Nat) (l q : List Int), l.length + r = 64 → q.length = r → 16 ≤ l.length → r < fuel →
  iter (fun p : Int × List Int × List Int => shaIWordsL2R p.1 p.2.1 p.2.2) fuel ((l.length : Int), b2, l ++ q) = some (b2, extW r l)
 | 0, fuel, l, q, hl, hq, h16, hf => by
  obtain ⟨fuel, rfl⟩ : ∃ n, fuel = n + 1 := ⟨fuel - 1, by omega⟩
  have : q = [] := List.length_eq_zero_iff.1 hq
  subst this
  refine iter_end ?_
  show shaIWordsL2R (l.length : Int) b2 (l ++ []) = _
  unfold shaIWordsL2R
  rw [List.append_nil]
  exact guard_else (decide_eq_false (by omega)) rfl
 | r + 1, fuel, l, q, hl, hq, h16, hf => by
  obtain ⟨fuel, rfl⟩ : ∃ n, fuel = n + 1 := ⟨fuel - 1, by omega⟩
  obtain ⟨y, q, rfl⟩ : ∃ y q', q = y :: q' := by
   cases q with
   | nil => cases hq
   | cons y q => exact ⟨y, q, rfl⟩
  have ih := shaWordsL2 (b2 := b2) r fuel (l ++ [nextW l]) q (by simp; omega) (by simpa using hq) (by simp; omega) (by omega)
  refine iter_more (b := (((l.length + 1 : Nat) : Int), b2, l ++ nextW l :: q)) ?_ (by rw [show extW (r + 1) l = extW r (l ++ [nextW l]) from rfl]; simpa using ih)
  show shaIWordsL2R (l.length : Int) b2 (l ++ y :: q) = _
  unfold shaIWordsL2R
  have e15 : IntKind.wrap .i64 ((l.length : Int) - 15) = ((l.length - 15 : Nat) : Int) := by rw [w64z _ (by omega) (by omega)]; omega
  have e2 : IntKind.wrap .i64 ((l.length : Int) - 2) = ((l.length - 2 : Nat) : Int) := by rw [w64z _ (by omega) (by omega)]; omega
  have e7 : IntKind.wrap .i64 ((l.length : Int) - 7) = ((l.length - 7 : Nat) : Int) := by rw [w64z _ (by omega) (by omega)]; omega
  have e16 : IntKind.wrap .i64 ((l.length : Int) - 16) = ((l.length - 16 : Nat) : Int) := by rw [w64z _ (by omega) (by omega)]; omega
  rw [e15, e2, e7, e16]
  simp only [Int.toNat_natCast]
  rw [getD_left (r := y :: q) (i := l.length - 15) (by omega), getD_left (r := y :: q) (i := l.length - 2) (by omega), getD_left (r := y :: q) (i := l.length - 7) (by omega), getD_left (r := y :: q) (i := l.length - 16) (by omega)]
  refine guard_step (decide_eq_true (by omega)) (guard_step (dn0 _) (guard_step (blt_lt (by omega)) (guard_step (blt_lt (by omega)) (guard_step (dn0 _) (guard_step (blt_lt (by omega)) (guard_step (blt_lt (by omega)) (bind_step (rl7 _) (bind_step (rl18 _) (bind_step (rl17 _) (bind_step (rl19 _) (guard_step (dn0 _) (guard_step (blt_lt (by omega)) (guard_step (blt_lt (by omega)) (guard_step (dn0 _) (guard_step (blt_lt (by omega)) (guard_step (blt_lt (by omega)) (guard_step (dn0 _) (guard_step (blt_lt (by omega)) (guard_step (blt_lt (by omega)) ?_)))))))))))))))))))
  show some (Sum.inl (IntKind.wrap .i64 ((l.length : Int) + 1), b2, _)) = _
  rw [w64z _ (by omega) (by omega), set_mid rfl]
  rfl
theorem shaWords_val {b : List Int} (hb : Bytes b) (hl : b.length = 64) : shaIWords b = some (wordsS b) := by
 rw [shaIWords_eq]
 unfold shaIWordsB
 refine bind_step ((shaIWordsL0_eq _ _ _ _).trans (shaWordsL0 hb hl 16 0 1000 (by omega) (by omega))) ?_
 have h := shaWordsL2 (b2 := List.replicate 64 0) 48 1000 (words16 b 16) (List.replicate 48 0) (by simp [words16_len]) (by simp) (by simp [words16_len]) (by omega)
 rw [words16_len] at h
 exact bind_step ((shaIWordsL2_eq _ _ _).trans h) rfl
end Go.Sy
