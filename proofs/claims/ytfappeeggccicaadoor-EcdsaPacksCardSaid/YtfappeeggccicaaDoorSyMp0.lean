/- Plain law: Pack and Unpack are the document's. -/
import Derived.Test.YtfappeeggccicaaDoorSyED
set_option linter.unusedVariables false
set_option linter.unusedSimpArgs false
namespace Go.Sy
open Go
theorem taken_snoc {l : List Int} {i : Nat} (h : i < l.length) : l.take i ++ [l.getD i (0 : Int)] = l.take (i + 1) := by
 rw [List.take_add_one, List.getD_eq_getElem?_getD, List.getElem?_eq_getElem h]; rfl
theorem rep_snoc (n : Nat) (c : Int) : List.replicate n c ++ [c] = List.replicate (n + 1) c := (List.replicate_succ' ..).symm
theorem getD_repl {n j : Nat} {c : Int} (h : j < n) : (List.replicate n c).getD j (0 : Int) = c := by
 rw [List.getD_eq_getElem?_getD, List.getElem?_replicate, if_pos h]; rfl
theorem getD_appI {a m : List Int} {j : Nat} (h : j < a.length) : (a ++ m).getD j (0 : Int) = a.getD j (0 : Int) := by
 simp [List.getD_eq_getElem?_getD, List.getElem?_append_left h]
theorem getD_app2 {a : List Int} {m j : Nat} {c : Int} (h : a.length ≤ j) (h2 : j < a.length + m) : (a ++ List.replicate m c).getD j (0 : Int) = c := by
 rw [List.getD_eq_getElem?_getD, List.getElem?_append_right h, List.getElem?_replicate, if_pos (by omega)]; rfl
theorem room1 {n : Nat} (h : n ≤ 140737488355328) : roomB 1 n = true := by
 simp only [roomB, Bool.and_eq_true]
 exact ⟨Nat.ble_eq_true_of_le h, Nat.ble_eq_true_of_le (by omega)⟩
theorem Bytes.app {a b : List Int} (ha : Bytes a) (hb : Bytes b) : Bytes (a ++ b) := fun j => by
 by_cases h : j < a.length
 ·rw [getD_appI h]; exact ha j
 ·rw [List.getD_eq_getElem?_getD, List.getElem?_append_right (by omega), ← List.getD_eq_getElem?_getD]; exact hb _
theorem Bytes.drp {b : List Int} (h : Bytes b) (n : Nat) : Bytes (b.drop n) := fun j => by
 rw [List.getD_eq_getElem?_getD, List.getElem?_drop, ← List.getD_eq_getElem?_getD]; exact h _
theorem Bytes.tak {b : List Int} (h : Bytes b) (n : Nat) : Bytes (b.take n) := by have := h.taken n; simpa using this
theorem Bytes.set {b : List Int} (h : Bytes b) (i : Nat) {v : Int} (h0 : 0 ≤ v) (h1 : v < 256) : Bytes (b.set i v) := fun j => by
 rw [getD_setI]
 split
 ·split
  ·exact ⟨h0, h1⟩
  ·exact ⟨by decide, by decide⟩
 ·exact h j
theorem copiedL0 {a : List Int} (hn : a.length ≤ 140737488355328) : ∀ (r i fuel : Nat), i + r = a.length → r < fuel →
  iter (fun p : List Int × Int × List Int => law06ICopiedL0R p.1 p.2.1 p.2.2) fuel (a, (i : Int), a.take i) = some a
 | 0, i, fuel, hi, hf => by
  obtain ⟨fuel, rfl⟩ : ∃ n, fuel = n + 1 := ⟨fuel - 1, by omega⟩
  rw [List.take_of_length_le (by omega)]
  refine iter_end ?_
  show law06ICopiedL0R a (i : Int) a = _
  unfold law06ICopiedL0R
  exact guard_else (decide_eq_false (by omega)) rfl
 | r + 1, i, fuel, hi, hf => by
  obtain ⟨fuel, rfl⟩ : ∃ n, fuel = n + 1 := ⟨fuel - 1, by omega⟩
  refine iter_more ?_ (copiedL0 hn r (i + 1) fuel (by omega) (by omega))
  show law06ICopiedL0R a (i : Int) (a.take i) = _
  unfold law06ICopiedL0R
  have t2 : Int.toNat (i : Int) = i := rfl
  have hl : (a.take i).length = i := by rw [List.length_take]; omega
  rw [t2, hl, wI64z _ (by omega) (by omega), taken_snoc (by omega)]
  exact guard_step (decide_eq_true (by omega)) (guard_step (by simp) (guard_step (blt_of (by omega)) (guard_step (room1 (by simp; omega)) rfl)))
theorem law06ICopied_val {a : List Int} (hn : a.length ≤ 140737488355328) : law06ICopied a = some a := by
 have hbig := bigFuel_eq
 rw [law06ICopied_eq]
 unfold law06ICopiedB
 exact bind_step ((law06ICopiedL0_eq _ _ _).trans (copiedL0 hn a.length 0 bigFuel (by omega) (by omega))) rfl
def marks6 : List Int := List.replicate 70 (165 : Int)
theorem lent6L0 {a : List Int} (hn : a.length ≤ 140737488351232) : ∀ (r i fuel : Nat), i + r = 70 → r < fuel →
  iter (fun p : List Int × Int × List Int => law06ILentL0R p.1 p.2.1 p.2.2) fuel (a, (i : Int), a ++ List.replicate i 165) = some (a, a ++ marks6)
 | 0, i, fuel, hi, hf => by
  obtain ⟨fuel, rfl⟩ : ∃ n, fuel = n + 1 := ⟨fuel - 1, by omega⟩
  obtain rfl : i = 70 := by omega
  refine iter_end ?_
  show law06ILentL0R a ((70 : Nat) : Int) (a ++ marks6) = _
  unfold law06ILentL0R
  exact guard_else (decide_eq_false (by omega)) rfl
 | r + 1, i, fuel, hi, hf => by
  obtain ⟨fuel, rfl⟩ : ∃ n, fuel = n + 1 := ⟨fuel - 1, by omega⟩
  refine iter_more ?_ (lent6L0 hn r (i + 1) fuel (by omega) (by omega))
  show law06ILentL0R a (i : Int) (a ++ List.replicate i 165) = _
  unfold law06ILentL0R
  rw [wI64z _ (by omega) (by omega), List.append_assoc, rep_snoc]
  exact guard_step (decide_eq_true (by omega)) (guard_step (room1 (by simp; omega)) rfl)
theorem law06ILent_val {a : List Int} (hn : a.length ≤ 140737488351232) : law06ILent a = some ((0, a.length), a ++ marks6) := by
 rw [law06ILent_eq]
 unfold law06ILentB
 have h := lent6L0 hn 70 0 1000 (by omega) (by omega)
 rw [List.replicate_zero, List.append_nil] at h
 have t2 : Int.toNat ((a.length : Nat) : Int) = a.length := rfl
 refine bind_step (law06ICopied_val (by omega)) (bind_step ((law06ILentL0_eq _ _ _).trans h) ?_)
 show cond _ (cond (Nat.ble (Int.toNat ((a.length : Nat) : Int)) (a ++ marks6).length) _ _) _ = _
 rw [t2, Nat.sub_zero]
 exact guard_step (by simp) (guard_step (Nat.ble_eq_true_of_le (by simp)) rfl)
theorem same6L0 {a : List Int} (hn : a.length ≤ 140737488355328) : ∀ (r i fuel : Nat), i + r = a.length → r < fuel →
  iter (fun p : List Int × List Int × Int => law06ISameL0R p.1 p.2.1 p.2.2) fuel (a, a, (i : Int)) = some (.inr ())
 | 0, i, fuel, hi, hf => by
  obtain ⟨fuel, rfl⟩ : ∃ n, fuel = n + 1 := ⟨fuel - 1, by omega⟩
  refine iter_end ?_
  show law06ISameL0R a a (i : Int) = _
  unfold law06ISameL0R
  exact guard_else (decide_eq_false (by omega)) rfl
 | r + 1, i, fuel, hi, hf => by
  obtain ⟨fuel, rfl⟩ : ∃ n, fuel = n + 1 := ⟨fuel - 1, by omega⟩
  refine iter_more ?_ (same6L0 hn r (i + 1) fuel (by omega) (by omega))
  show law06ISameL0R a a (i : Int) = _
  unfold law06ISameL0R
  have t2 : Int.toNat (i : Int) = i := rfl
  rw [t2, wI64z _ (by omega) (by omega)]
  have c1 : decide (0 ≤ (i : Int)) = true := by simp
  exact guard_step (decide_eq_true (by omega)) (guard_step c1 (guard_step (blt_of (by omega)) (guard_step c1 (guard_step (blt_of (by omega)) (guard_else (by simp) rfl)))))
theorem law06ISame_self {a : List Int} (hn : a.length ≤ 140737488355328) : law06ISame a a = some true := by
 have hbig := bigFuel_eq
 rw [law06ISame_eq]
 unfold law06ISameB
 exact guard_else (by simp) (bind_step ((law06ISameL0_eq _ _ _).trans (same6L0 hn a.length 0 bigFuel (by omega) (by omega))) rfl)
theorem still6L0 {a : List Int} (hn : a.length ≤ 140737488351232) : ∀ (r i fuel : Nat), i + r = a.length + 70 → r < fuel →
  iter (fun p : List Int × (Nat × Nat) × Int × List Int => law06IStillL0R p.1 p.2.1 p.2.2.1 p.2.2.2) fuel (a, (0, a.length + 70), (i : Int), a ++ marks6) = some (.inr (a ++ marks6))
 | 0, i, fuel, hi, hf => by
  obtain ⟨fuel, rfl⟩ : ∃ n, fuel = n + 1 := ⟨fuel - 1, by omega⟩
  refine iter_end ?_
  show law06IStillL0R a (0, a.length + 70) (i : Int) (a ++ marks6) = _
  unfold law06IStillL0R
  exact guard_else (decide_eq_false (by show ¬ (i : Int) < ((a.length + 70 : Nat) : Int); omega)) rfl
 | r + 1, i, fuel, hi, hf => by
  obtain ⟨fuel, rfl⟩ : ∃ n, fuel = n + 1 := ⟨fuel - 1, by omega⟩
  refine iter_more ?_ (still6L0 hn r (i + 1) fuel (by omega) (by omega))
  show law06IStillL0R a (0, a.length + 70) (i : Int) (a ++ marks6) = _
  unfold law06IStillL0R
  have t2 : Int.toNat (i : Int) = i := rfl
  have hl : (a ++ marks6).length = a.length + 70 := by simp [marks6]
  have e0 : (0, a.length + 70).1 + i = i := Nat.zero_add i
  rw [t2, e0, wI64z _ (by omega) (by omega)]
  have c1 : decide ((i : Int) < (((0, a.length + 70).2 : Nat) : Int)) = true := decide_eq_true (by show (i : Int) < ((a.length + 70 : Nat) : Int); omega)
  have c2 : Nat.blt i (0, a.length + 70).2 = true := blt_of (by show i < a.length + 70; omega)
  have c3 : Nat.blt i (a ++ marks6).length = true := blt_of (by omega)
  have c0 : decide (0 ≤ (i : Int)) = true := by simp
  refine guard_step c1 ?_
  by_cases hd : i < a.length
  ·exact guard_step (decide_eq_true (by omega)) (guard_step c0 (guard_step c2 (guard_step c3 (guard_step c0 (guard_step (blt_of hd) (guard_else (by rw [getD_appI hd]; simp) (guard_else (decide_eq_false (by omega)) rfl)))))))
  ·exact guard_else (decide_eq_false (by omega)) (guard_step (decide_eq_true (by omega)) (guard_step c0 (guard_step c2 (guard_step c3 (guard_else (by unfold marks6; rw [getD_app2 (by omega) (by omega)]; simp) rfl)))))
theorem law06IStill_val {a : List Int} (hn : a.length ≤ 140737488351232) : law06IStill (0, a.length) (a ++ marks6) a = some (true, a ++ marks6) := by
 have hbig := bigFuel_eq
 rw [law06IStill_eq]
 unfold law06IStillB
 have w1 : IntKind.wrap .i64 (((a.length : Nat) : Int) + (70 : Int)) = ((a.length + 70 : Nat) : Int) := by rw [wI64z _ (by omega) (by omega)]; rfl
 have t1 : Int.toNat ((a.length + 70 : Nat) : Int) = a.length + 70 := rfl
 rw [w1, t1]
 have hl : (a ++ marks6).length = a.length + 70 := by simp [marks6]
 refine guard_else (by simp) (guard_step (decide_eq_true (by omega)) (guard_step (Nat.ble_eq_true_of_le (by show a.length + 70 ≤ (a ++ marks6).length - 0; omega)) (bind_step ((law06IStillL0_eq _ _ _ _).trans (still6L0 hn (a.length + 70) 0 bigFuel (by omega) (by omega))) rfl)))
theorem low_marks : ∀ n : Fin 256, andNotI .u8 ((n.val : Nat) : Int) 128 = Int.tmod ((n.val : Nat) : Int) 128 ∧ (andI .u8 ((n.val : Nat) : Int) 128 != 0) = decide (((n.val : Nat) : Int) ≥ 128) ∧ 0 ≤ Int.tmod ((n.val : Nat) : Int) 128 ∧ Int.tmod ((n.val : Nat) : Int) 128 < 256 := by decide +kernel
theorem low_byte {v : Int} (h0 : 0 ≤ v) (h1 : v < 256) : andNotI .u8 v 128 = Int.tmod v 128 ∧ (andI .u8 v 128 != 0) = decide (v ≥ 128) ∧ 0 ≤ Int.tmod v 128 ∧ Int.tmod v 128 < 256 := by
 obtain ⟨n, rfl⟩ := Int.eq_ofNat_of_zero_le h0
 exact low_marks ⟨n, by omega⟩
theorem unpackL0 {d : List Int} {b2 : Nat × Nat × Bool} (hd : d.length = 64) : ∀ (r i fuel : Nat), i + r = 64 → 32 ≤ i → r < fuel →
  iter (fun p : List Int × Int × (Nat × Nat × Bool) × List Int => ref06UnpackL0R p.1 p.2.1 p.2.2.1 p.2.2.2) fuel (d, (i : Int), b2, (d.take i).drop 32) = some (d, b2, d.drop 32)
 | 0, i, fuel, hi, h32, hf => by
  obtain ⟨fuel, rfl⟩ : ∃ n, fuel = n + 1 := ⟨fuel - 1, by omega⟩
  rw [List.take_of_length_le (by omega)]
  refine iter_end ?_
  show ref06UnpackL0R d (i : Int) b2 (d.drop 32) = _
  unfold ref06UnpackL0R
  exact guard_else (decide_eq_false (by omega)) rfl
 | r + 1, i, fuel, hi, h32, hf => by
  obtain ⟨fuel, rfl⟩ : ∃ n, fuel = n + 1 := ⟨fuel - 1, by omega⟩
  refine iter_more ?_ (unpackL0 hd r (i + 1) fuel (by omega) (by omega) (by omega))
  show ref06UnpackL0R d (i : Int) b2 ((d.take i).drop 32) = _
  unfold ref06UnpackL0R
  have t2 : Int.toNat (i : Int) = i := rfl
  have hs : (d.take i).drop 32 ++ [d.getD i (0 : Int)] = (d.take (i + 1)).drop 32 := by
   rw [← taken_snoc (by omega), List.drop_append_of_le_length (by rw [List.length_take]; omega)]
  rw [t2, hs, wI64z _ (by omega) (by omega)]
  exact guard_step (decide_eq_true (by omega)) (guard_step (by simp) (guard_step (blt_of (by omega)) (guard_step (room1 (by simp; omega)) rfl)))
def unpackV (d : List Int) : P3 × Int :=
 if d.length = 64 then
  (if checkV ((getV (d.take 32)).1, (getV ((d.drop 32).set 0 (Int.tmod (d.getD 32 0) 128))).1, decide (d.getD 32 0 ≥ 128)) = 0
   then (((getV (d.take 32)).1, (getV ((d.drop 32).set 0 (Int.tmod (d.getD 32 0) 128))).1, decide (d.getD 32 0 ≥ 128)), 0)
   else ((0, 0, false), checkV ((getV (d.take 32)).1, (getV ((d.drop 32).set 0 (Int.tmod (d.getD 32 0) 128))).1, decide (d.getD 32 0 ≥ 128))))
 else ((0, 0, false), 66)
theorem ecdsaUnpack_val {d : List Int} (hd : Bytes d) : ecdsaUnpack d = some (unpackV d) := by
 rw [ecdsaUnpack_eq]
 unfold ecdsaUnpackB unpackV
 by_cases h : d.length = 64
 ·rw [if_pos h]
  have k1 : spliceL (List.replicate 32 (0 : Int)) 0 (List.take 32 (List.take (d.length - 32) (List.drop 32 d))) = d.drop 32 := by
   have hl : (d.drop 32).length = 32 := by simp [h]
   have e1 : List.take (d.length - 32) (d.drop 32) = d.drop 32 := List.take_of_length_le (by omega)
   have e2 : List.take 32 (d.drop 32) = d.drop 32 := List.take_of_length_le (by omega)
   rw [e1, e2]
   unfold spliceL
   simp [h]
  have k2 : (d.drop 32).getD 0 (0 : Int) = d.getD 32 0 := by simp [List.getD_eq_getElem?_getD]
  obtain ⟨m1, m2, m3, m4⟩ := low_byte (hd 32).1 (hd 32).2
  have hT : Bytes ((d.drop 32).set 0 (Int.tmod (d.getD 32 0) 128)) := (hd.drp 32).set 0 m3 m4
  have hTl : List.take 32 (List.drop 0 ((d.drop 32).set 0 (Int.tmod (d.getD 32 0) 128))) = (d.drop 32).set 0 (Int.tmod (d.getD 32 0) 128) := whole32 (by simp [h])
  rw [k1, k2, m1, m2, hTl, List.drop_zero]
  have hc := ecdsaCheck_val (s := ((getV (d.take 32)).1, (getV ((d.drop 32).set 0 (Int.tmod (d.getD 32 0) 128))).1, decide (d.getD 32 0 ≥ 128))) ⟨getV_lt (hd.tak 32), getV_lt hT⟩
  refine guard_else (by simp [h]) (guard_step (Nat.ble_eq_true_of_le (by omega)) (guard_step (Nat.ble_eq_true_of_le (by omega)) (bind_step (u256Get_val (hd.tak 32)) (bind_step (u256Get_val hT) (bind_step hc ?_)))))
  by_cases h0 : checkV ((getV (d.take 32)).1, (getV ((d.drop 32).set 0 (Int.tmod (d.getD 32 0) 128))).1, decide (d.getD 32 0 ≥ 128)) = 0
  ·rw [if_pos h0]; exact guard_else (by rw [h0]; rfl) rfl
  ·rw [if_neg h0]; exact guard_step (by simpa using h0) rfl
 ·rw [if_neg h]; exact guard_step (by simp; omega) rfl
theorem ref06Unpack_val {d : List Int} (hd : Bytes d) : ref06Unpack d = some (unpackV d) := by
 rw [ref06Unpack_eq]
 unfold ref06UnpackB unpackV
 by_cases h : d.length = 64
 ·rw [if_pos h]
  have h0 := unpackL0 (b2 := (0, 0, false)) h 32 32 1000 (by omega) (by omega) (by omega)
  have e0 : (d.take 32).drop 32 = ([] : List Int) := List.drop_of_length_le (by rw [List.length_take]; omega)
  rw [e0] at h0
  have hlen : (d.drop 32).length = 32 := by simp [h]
  have k2 : (d.drop 32).getD 0 (0 : Int) = d.getD 32 0 := by simp [List.getD_eq_getElem?_getD]
  obtain ⟨m1, m2, m3, m4⟩ := low_byte (hd 32).1 (hd 32).2
  have hT : Bytes ((d.drop 32).set 0 (Int.tmod (d.getD 32 0) 128)) := (hd.drp 32).set 0 m3 m4
  have hc := ref06Check_val (s := ((getV (d.take 32)).1, (getV ((d.drop 32).set 0 (Int.tmod (d.getD 32 0) 128))).1, decide (d.getD 32 0 ≥ 128))) ⟨getV_lt (hd.tak 32), getV_lt hT⟩
  have b0 : Nat.blt 0 (d.drop 32).length = true := blt_of (by omega)
  refine guard_else (by simp [h]) (bind_step ((ref06UnpackL0_eq _ _ _ _).trans h0) ?_)
  refine guard_step b0 (guard_step b0 (guard_step b0 (guard_step b0 (guard_step (Nat.ble_eq_true_of_le (show 32 ≤ d.length by omega)) ?_))))
  refine bind_step (ref01Get_val (b := List.take 32 (List.drop 0 d)) (hd.tak 32)) ?_
  show (ref01Get ((d.drop 32).set 0 (Int.tmod ((d.drop 32).getD 0 (0 : Int)) 128))).bind _ = _
  rw [k2]
  refine bind_step (ref01Get_val hT) (guard_step (blt_of (show 32 < d.length by omega)) (bind_step hc ?_))
  by_cases h0 : checkV ((getV (d.take 32)).1, (getV ((d.drop 32).set 0 (Int.tmod (d.getD 32 0) 128))).1, decide (d.getD 32 0 ≥ 128)) = 0
  ·rw [if_pos h0]; exact guard_else (by rw [h0]; rfl) rfl
  ·rw [if_neg h0]; exact guard_step (by simpa using h0) rfl
 ·rw [if_neg h]; exact guard_step (by simp; omega) rfl
theorem unpackV_lt {d : List Int} (hd : Bytes d) : In256 (unpackV d).1 := by
 have z : In256 ((0, 0, false) : P3) := ⟨by decide, by decide⟩
 obtain ⟨m1, m2, m3, m4⟩ := low_byte (hd 32).1 (hd 32).2
 unfold unpackV
 split
 ·split
  ·exact ⟨getV_lt (hd.tak 32), getV_lt ((hd.drp 32).set 0 m3 m4)⟩
  ·exact z
 ·exact z
def packV (s : P3) : Int × List Int := if checkV s = 0 then (0, put32 s.1 ++ hiV s.2.1 s.2.2) else (checkV s, [])
theorem ecdsaPack_all {s : P3} (hs : In256 s) : ecdsaPack s = some (packV s) := by
 unfold packV
 by_cases h : checkV s = 0
 ·rw [if_pos h]; exact ecdsaPack_val hs.1 hs.2 h
 ·rw [if_neg h, ecdsaPack_eq]
  unfold ecdsaPackB
  exact bind_step (ecdsaCheck_val hs) (guard_step (by simpa using h) rfl)
theorem packL0 {s : P3} {a t : List Int} (ha : a.length = 32) : ∀ (r i fuel : Nat), i + r = 32 → r < fuel →
  iter (fun p : Int × (Nat × Nat × Bool) × List Int × List Int × List Int => ref06PackL0R p.1 p.2.1 p.2.2.1 p.2.2.2.1 p.2.2.2.2) fuel ((i : Int), s, a, t, a.take i) = some (s, t, a)
 | 0, i, fuel, hi, hf => by
  obtain ⟨fuel, rfl⟩ : ∃ n, fuel = n + 1 := ⟨fuel - 1, by omega⟩
  rw [List.take_of_length_le (by omega)]
  refine iter_end ?_
  show ref06PackL0R (i : Int) s a t a = _
  unfold ref06PackL0R
  exact guard_else (decide_eq_false (by omega)) rfl
 | r + 1, i, fuel, hi, hf => by
  obtain ⟨fuel, rfl⟩ : ∃ n, fuel = n + 1 := ⟨fuel - 1, by omega⟩
  refine iter_more ?_ (packL0 ha r (i + 1) fuel (by omega) (by omega))
  show ref06PackL0R (i : Int) s a t (a.take i) = _
  unfold ref06PackL0R
  have t2 : Int.toNat (i : Int) = i := rfl
  rw [t2, taken_snoc (by omega), wI64z _ (by omega) (by omega)]
  exact guard_step (decide_eq_true (by omega)) (guard_step (by simp) (guard_step (blt_of (by omega)) (guard_step (blt_of (by omega)) (guard_step (room1 (by simp; omega)) rfl))))
theorem packL1 {s : P3} {a t : List Int} (ha : a.length = 32) (ht : t.length = 32) : ∀ (r i fuel : Nat), i + r = 32 → r < fuel →
  iter (fun p : Int × (Nat × Nat × Bool) × List Int × List Int => ref06PackL1R p.1 p.2.1 p.2.2.1 p.2.2.2) fuel ((i : Int), s, t, a ++ t.take i) = some (s, a ++ t)
 | 0, i, fuel, hi, hf => by
  obtain ⟨fuel, rfl⟩ : ∃ n, fuel = n + 1 := ⟨fuel - 1, by omega⟩
  rw [List.take_of_length_le (by omega)]
  refine iter_end ?_
  show ref06PackL1R (i : Int) s t (a ++ t) = _
  unfold ref06PackL1R
  exact guard_else (decide_eq_false (by omega)) rfl
 | r + 1, i, fuel, hi, hf => by
  obtain ⟨fuel, rfl⟩ : ∃ n, fuel = n + 1 := ⟨fuel - 1, by omega⟩
  refine iter_more ?_ (packL1 ha ht r (i + 1) fuel (by omega) (by omega))
  show ref06PackL1R (i : Int) s t (a ++ t.take i) = _
  unfold ref06PackL1R
  have t2 : Int.toNat (i : Int) = i := rfl
  rw [t2, List.append_assoc, taken_snoc (by omega), wI64z _ (by omega) (by omega)]
  exact guard_step (decide_eq_true (by omega)) (guard_step (by simp) (guard_step (blt_of (by omega)) (guard_step (blt_of (by omega)) (guard_step (room1 (by simp; omega)) rfl))))
theorem add128 : ∀ n : Fin 128, IntKind.wrap .u8 (((n.val : Nat) : Int) + 128) = ((n.val + 128 : Nat) : Int) := by decide +kernel
theorem ref06Pack_all {s : P3} (hs : In256 s) : ref06Pack s = some (packV s) := by
 unfold packV
 by_cases h : checkV s = 0
 ·rw [if_pos h, ref06Pack_eq]
  unfold ref06PackB
  have ht := top_low (low_of (of_check (s := s) h).2.2)
  have l1 := put32_length s.1
  have l2 := put32_length s.2.1
  have a0 := packL0 (s := s) (t := put32 s.2.1) l1 32 0 1000 (by omega) (by omega)
  have a1 := packL1 (s := s) l1 l2 32 0 1000 (by omega) (by omega)
  rw [List.take_zero] at a0 a1
  rw [List.append_nil] at a1
  refine bind_step (ref06Check_val hs) (guard_else (by rw [h]; rfl) (bind_step (ref01Put_val _) (bind_step (ref01Put_val _) (bind_step ((ref06PackL0_eq _ _ _ _ _).trans a0) (bind_step ((ref06PackL1_eq _ _ _ _).trans a1) ?_)))))
  have hl : (put32 s.1 ++ put32 s.2.1).length = 64 := by rw [List.length_append, l1, l2]
  have hg : (put32 s.1 ++ put32 s.2.1).getD 32 (0 : Int) = ((byteN s.2.1 31 : Nat) : Int) := by
   rw [List.getD_eq_getElem?_getD, List.getElem?_append_right (by omega), l1, ← List.getD_eq_getElem?_getD]; exact put32_0 _
  show cond s.2.2 (cond (Nat.blt 32 (put32 s.1 ++ put32 s.2.1).length) (cond (Nat.blt 32 (put32 s.1 ++ put32 s.2.1).length) (cond (Nat.blt 32 (put32 s.1 ++ put32 s.2.1).length) (cond (Nat.blt 32 (put32 s.1 ++ put32 s.2.1).length) (some ((0 : Int), (put32 s.1 ++ put32 s.2.1).set 32 (IntKind.wrap .u8 ((put32 s.1 ++ put32 s.2.1).getD 32 (0 : Int) + 128)))) none) none) none) none) (some ((0 : Int), put32 s.1 ++ put32 s.2.1)) = _
  rw [hg, add128 ⟨_, ht⟩, hl]
  unfold hiV
  cases s.2.2 with
  | true =>
   rw [if_pos rfl]
   refine guard_step rfl (guard_step rfl (guard_step rfl (guard_step rfl (guard_step rfl ?_))))
   rw [List.set_append_right _ _ (by omega), l1]
  | false => rw [if_neg (by decide)]; rfl
 ·rw [if_neg h, ref06Pack_eq]
  unfold ref06PackB
  exact bind_step (ref06Check_val hs) (guard_step (by simpa using h) rfl)
theorem packV_len (s : P3) : (packV s).2.length ≤ 64 := by
 unfold packV
 split
 ·simp [put32_length, hiV_length]
 ·simp
end Go.Sy
