/- Plain law: Pack and Unpack are the document's. -/
import Derived.Test.YtfappeeggccicaaDoorSyED
set_option linter.unusedVariables false
set_option linter.unusedSimpArgs false
namespace Go.Sy
open Go
theorem taken_snoc {l : List Int} {i : Nat} (h : i < l.length) : l.take i ++ [l.getD i (0 : Int)] = l.take (i + 1) := by
 rw [List.take_add_one, List.getD_eq_getElem?_getD, List.getElem?_eq_getElem h]; rfl
theorem rep_snoc (n : Nat) (c : Int) : List.replicate n c ++ [c] = List.replicate (n + 1) c := (List.replicate_succ' ..).symm
theorem getD_repl {n j : Nat} {c : Int} (h : j < n) : (List.replicate n c).getD j (0 : Int) = c := by
 rw [List.getD_eq_getElem?_getD, List.getElem?_replicate, if_pos h]; rfl
theorem getD_appI {a m : List Int} {j : Nat} (h : j < a.length) : (a ++ m).getD j (0 : Int) = a.getD j (0 : Int) := by
 simp [List.getD_eq_getElem?_getD, List.getElem?_append_left h]
theorem getD_app2 {a : List Int} {m j : Nat} {c : Int} (h : a.length ≤ j) (h2 : j < a.length + m) : (a ++ List.replicate m c).getD j (0 : Int) = c := by
 rw [List.getD_eq_getElem?_getD, List.getElem?_append_right h, List.getElem?_replicate, if_pos (by omega)]; rfl
theorem room1 {n : Nat} (h : n ≤ 140737488355328) : roomB 1 n = true := by
 simp only [roomB, Bool.and_eq_true]
 exact ⟨Nat.ble_eq_true_of_le h, Nat.ble_eq_true_of_le (by omega)⟩
theorem Bytes.app {a b : List Int} (ha : Bytes a) (hb : Bytes b) : Bytes (a ++ b) := fun j => by
 by_cases h : j < a.length
 ·rw [getD_appI h]; exact ha j
 ·rw [List.getD_eq_getElem?_getD, List.getElem?_append_right (by omega), ← List.getD_eq_getElem?_getD]; exact hb _
theorem Bytes.drp {b : List Int} (h : Bytes b) (n : Nat) : Bytes (b.drop n) := fun j => by
 rw [List.getD_eq_getElem?_getD, List.getElem?_drop, ← List.getD_eq_getElem?_getD]; exact h _
theorem Bytes.tak {b : List Int} (h : Bytes b) (n : Nat) : Bytes (b.take n) := by have := h.taken n; simpa using this
theorem Bytes.set {b : List Int} (h : Bytes b) (i : Nat) {v : Int} (h0 : 0 ≤ v) (h1 : v < 256) : Bytes (b.set i v) := fun j => by
 rw [getD_setI]
 split
 ·split
  ·exact ⟨h0, h1⟩
  ·exact ⟨by decide, by decide⟩
 ·exact h j
theorem copiedL0 {a : List Int} (hn : a.length ≤ 140737488355328) : ∀ (r i fuel : Nat), i + r = a.length → r < fuel →
  iter (fun p : List Int × Int × List Int => law06ICopiedL0R p.1 p.2.1 p.2.2) fuel (a, (i : Int), a.take i) = some a
 | 0, i, fuel, hi, hf => by
  obtain ⟨fuel, rfl⟩ : ∃ n, fuel = n + 1 := ⟨fuel - 1, by omega⟩
  rw [List.take_of_length_le (by omega)]
  refine iter_end ?_
  show law06ICopiedL0R a (i : Int) a = _
  unfold law06ICopiedL0R
  exact guard_else (decide_eq_false (by omega)) rfl
 | r + 1, i, fuel, hi, hf => by
  obtain ⟨fuel, rfl⟩ : ∃ n, fuel = n + 1 := ⟨fuel - 1, by omega⟩
  refine iter_more ?_ (copiedL0 hn r (i + 1) fuel (by omega) (by omega))
  show law06ICopiedL0R a (i : Int) (a.take i) = _
  unfold law06ICopiedL0R
  have t2 : Int.toNat (i : Int) = i := rfl
  have hl : (a.take i).length = i := by rw [List.length_take]; omega
  rw [t2, hl, wI64z _ (by omega) (by omega), taken_snoc (by omega)]
  exact guard_step (decide_eq_true (by omega)) (guard_step (by simp) (guard_step (blt_of (by omega)) (guard_step (room1 (by simp; omega)) rfl)))
theorem law06ICopied_val {a : List Int} (hn : a.length ≤ 140737488355328) : law06ICopied a = some a := by
 have hbig := bigFuel_eq
 rw [law06ICopied_eq]
 unfold law06ICopiedB
 exact bind_step ((law06ICopiedL0_eq _ _ _).trans (copiedL0 hn a.length 0 bigFuel (by omega) (by omega))) rfl
theorem same6L0 {a : List Int} (hn : a.length ≤ 140737488355328) : ∀ (r i fuel : Nat), i + r = a.length → r < fuel →
  iter (fun p : List Int × List Int × Int => law06ISameL0R p.1 p.2.1 p.2.2) fuel (a, a, (i : Int)) = some (.inr ())
 | 0, i, fuel, hi, hf => by
  obtain ⟨fuel, rfl⟩ : ∃ n, fuel = n + 1 := ⟨fuel - 1, by omega⟩
  refine iter_end ?_
  show law06ISameL0R a a (i : Int) = _
  unfold law06ISameL0R
  exact guard_else (decide_eq_false (by omega)) rfl
 | r + 1, i, fuel, hi, hf => by
  obtain ⟨fuel, rfl⟩ : ∃ n, fuel = n + 1 := ⟨fuel - 1, by omega⟩
  refine iter_more ?_ (same6L0 hn r (i + 1) fuel (by omega) (by omega))
  show law06ISameL0R a a (i : Int) = _
  unfold law06ISameL0R
  have t2 : Int.toNat (i : Int) = i := rfl
  rw [t2, wI64z _ (by omega) (by omega)]
  have c1 : decide (0 ≤ (i : Int)) = true := by simp
  exact guard_step (decide_eq_true (by omega)) (guard_step c1 (guard_step (blt_of (by omega)) (guard_step c1 (guard_step (blt_of (by omega)) (guard_else (by simp) rfl)))))
theorem law06ISame_self {a : List Int} (hn : a.length ≤ 140737488355328) : law06ISame a a = some true := by
 have hbig := bigFuel_eq
 rw [law06ISame_eq]
 unfold law06ISameB
 exact guard_else (by simp) (bind_step ((law06ISameL0_eq _ _ _).trans (same6L0 hn a.length 0 bigFuel (by omega) (by omega))) rfl)
theorem low_marks : ∀ n : Fin 256, andNotI .u8 ((n.val : Nat) : Int) 128 = Int.tmod ((n.val : Nat) : Int) 128 ∧ (andI .u8 ((n.val : Nat) : Int) 128 != 0) = decide (((n.val : Nat) : Int) ≥ 128) ∧ 0 ≤ Int.tmod ((n.val : Nat) : Int) 128 ∧ Int.tmod ((n.val : Nat) : Int) 128 < 256 := by decide +kernel
theorem low_byte {v : Int} (h0 : 0 ≤ v) (h1 : v < 256) : andNotI .u8 v 128 = Int.tmod v 128 ∧ (andI .u8 v 128 != 0) = decide (v ≥ 128) ∧ 0 ≤ Int.tmod v 128 ∧ Int.tmod v 128 < 256 := by
 obtain ⟨n, rfl⟩ := Int.eq_ofNat_of_zero_le h0
 exact low_marks ⟨n, by omega⟩
def unpackV (d : List Int) : P3 × Int :=
 if d.length = 64 then
  (if checkV ((getV (d.take 32)).1, (getV ((d.drop 32).set 0 (Int.tmod (d.getD 32 0) 128))).1, decide (d.getD 32 0 ≥ 128)) = 0
   then (((getV (d.take 32)).1, (getV ((d.drop 32).set 0 (Int.tmod (d.getD 32 0) 128))).1, decide (d.getD 32 0 ≥ 128)), 0)
   else ((0, 0, false), checkV ((getV (d.take 32)).1, (getV ((d.drop 32).set 0 (Int.tmod (d.getD 32 0) 128))).1, decide (d.getD 32 0 ≥ 128))))
 else ((0, 0, false), 66)
theorem ecdsaUnpack_val {d : List Int} (hd : Bytes d) : ecdsaUnpack d = some (unpackV d) := by
 rw [ecdsaUnpack_eq]
 unfold ecdsaUnpackB unpackV
 by_cases h : d.length = 64
 ·rw [if_pos h]
  have k1 : spliceL (List.replicate 32 (0 : Int)) 0 (List.take 32 (List.take (d.length - 32) (List.drop 32 d))) = d.drop 32 := by
   have hl : (d.drop 32).length = 32 := by simp [h]
   have e1 : List.take (d.length - 32) (d.drop 32) = d.drop 32 := List.take_of_length_le (by omega)
   have e2 : List.take 32 (d.drop 32) = d.drop 32 := List.take_of_length_le (by omega)
   rw [e1, e2]
   unfold spliceL
   simp [h]
  have k2 : (d.drop 32).getD 0 (0 : Int) = d.getD 32 0 := by simp [List.getD_eq_getElem?_getD]
  obtain ⟨m1, m2, m3, m4⟩ := low_byte (hd 32).1 (hd 32).2
  have hT : Bytes ((d.drop 32).set 0 (Int.tmod (d.getD 32 0) 128)) := (hd.drp 32).set 0 m3 m4
  have hTl : List.take 32 (List.drop 0 ((d.drop 32).set 0 (Int.tmod (d.getD 32 0) 128))) = (d.drop 32).set 0 (Int.tmod (d.getD 32 0) 128) := whole32 (by simp [h])
  rw [k1, k2, m1, m2, hTl, List.drop_zero]
  have hc := ecdsaCheck_val (s := ((getV (d.take 32)).1, (getV ((d.drop 32).set 0 (Int.tmod (d.getD 32 0) 128))).1, decide (d.getD 32 0 ≥ 128))) ⟨getV_lt (hd.tak 32), getV_lt hT⟩
  refine guard_else (by simp [h]) (guard_step (Nat.ble_eq_true_of_le (by omega)) (guard_step (Nat.ble_eq_true_of_le (by omega)) (bind_step (u256Get_val (hd.tak 32)) (bind_step (u256Get_val hT) (bind_step hc ?_)))))
  by_cases h0 : checkV ((getV (d.take 32)).1, (getV ((d.drop 32).set 0 (Int.tmod (d.getD 32 0) 128))).1, decide (d.getD 32 0 ≥ 128)) = 0
  ·rw [if_pos h0]; exact guard_else (by rw [h0]; rfl) rfl
  ·rw [if_neg h0]; exact guard_step (by simpa using h0) rfl
 ·rw [if_neg h]; exact guard_step (by simp; omega) rfl
theorem unpackV_lt {d : List Int} (hd : Bytes d) : In256 (unpackV d).1 := by
 have z : In256 ((0, 0, false) : P3) := ⟨by decide, by decide⟩
 obtain ⟨m1, m2, m3, m4⟩ := low_byte (hd 32).1 (hd 32).2
 unfold unpackV
 split
 ·split
  ·exact ⟨getV_lt (hd.tak 32), getV_lt ((hd.drp 32).set 0 m3 m4)⟩
  ·exact z
 ·exact z
def packV (s : P3) : Int × List Int := if checkV s = 0 then (0, put32 s.1 ++ hiV s.2.1 s.2.2) else (checkV s, [])
theorem ecdsaPack_all {s : P3} (hs : In256 s) : ecdsaPack s = some (packV s) := by
 unfold packV
 by_cases h : checkV s = 0
 ·rw [if_pos h]; exact ecdsaPack_val hs.1 hs.2 h
 ·rw [if_neg h, ecdsaPack_eq]
  unfold ecdsaPackB
  exact bind_step (ecdsaCheck_val hs) (guard_step (by simpa using h) rfl)
theorem packV_unpack {d : List Int} (hd : Bytes d) (hl : d.length = 64) (h0 : (unpackV d).2 = 0) : checkV (unpackV d).1 = 0 ∧ packV (unpackV d).1 = (0, d) := by
 obtain ⟨m1, m2, m3, m4⟩ := low_byte (hd 32).1 (hd 32).2
 have hT : Bytes ((d.drop 32).set 0 (Int.tmod (d.getD 32 0) 128)) := (hd.drp 32).set 0 m3 m4
 have hTl : ((d.drop 32).set 0 (Int.tmod (d.getD 32 0) 128)).length = 32 := by simp [hl]
 have hAl : (d.take 32).length = 32 := by rw [List.length_take]; omega
 have eA : put32 (getV (d.take 32)).1 = d.take 32 := by
  unfold getV; rw [if_neg (by omega), hAl]; exact put_get (hd.tak 32) hAl
 have eT : put32 (getV ((d.drop 32).set 0 (Int.tmod (d.getD 32 0) 128))).1 = (d.drop 32).set 0 (Int.tmod (d.getD 32 0) 128) := by
  unfold getV; rw [if_neg (by omega), hTl]; exact put_get hT hTl
 have k2 : (d.drop 32).getD 0 (0 : Int) = d.getD 32 0 := by simp [List.getD_eq_getElem?_getD]
 unfold unpackV at h0 ⊢
 rw [if_pos hl] at h0 ⊢
 by_cases hc : checkV ((getV (d.take 32)).1, (getV ((d.drop 32).set 0 (Int.tmod (d.getD 32 0) 128))).1, decide (d.getD 32 0 ≥ 128)) = 0
 ·rw [if_pos hc]
  refine ⟨hc, ?_⟩
  unfold packV
  rw [if_pos hc]
  refine Prod.ext rfl ?_
  show put32 (getV (d.take 32)).1 ++ hiV (getV ((d.drop 32).set 0 (Int.tmod (d.getD 32 0) 128))).1 (decide (d.getD 32 0 ≥ 128)) = d
  have hb := put32_0 (getV ((d.drop 32).set 0 (Int.tmod (d.getD 32 0) 128))).1
  rw [eT, getD_setI, if_pos rfl, if_pos (by simp [hl])] at hb
  have hs := set_self (l := d.drop 32) (by simp [hl])
  rw [k2] at hs
  have h32 := hd 32
  have key : hiV (getV ((d.drop 32).set 0 (Int.tmod (d.getD 32 0) 128))).1 (decide (d.getD 32 0 ≥ 128)) = d.drop 32 := by
   unfold hiV
   rw [eT]
   generalize byteN (getV ((d.drop 32).set 0 (Int.tmod (d.getD 32 0) 128))).1 31 = q at *
   generalize d.getD 32 0 = v at *
   have hm := Int.tmod_eq_emod_of_nonneg h32.1 (b := 128)
   by_cases hv : v ≥ 128
   ·rw [if_pos (decide_eq_true hv), List.set_set]
    have : ((q + 128 : Nat) : Int) = v := by omega
    rw [this, hs]
   ·rw [if_neg (by simpa using hv)]
    have : Int.tmod v 128 = v := by omega
    rw [this, hs]
  rw [eA]
  rw [key]
  exact List.take_append_drop 32 d
 ·rw [if_neg hc] at h0; exact absurd h0 hc
theorem checkV_any (s : P3) : checkV s = 0 ∨ checkV s = 61 ∨ checkV s = 62 ∨ checkV s = 63 := by
 unfold checkV
 split
 ·split
  ·split
   ·exact .inl rfl
   ·exact .inr (.inr (.inr rfl))
  ·exact .inr (.inr (.inl rfl))
 ·exact .inr (.inl rfl)
end Go.Sy
