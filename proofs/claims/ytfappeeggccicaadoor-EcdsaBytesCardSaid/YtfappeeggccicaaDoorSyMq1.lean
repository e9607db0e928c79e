/- Plain law: bytes are unpacked and packed again; only 64 bytes. -/
import Derived.Test.YtfappeeggccicaaDoorSyMp0
import Derived.Test.YtfappeeggccicaaDoorSyVQ
set_option linter.unusedVariables false
set_option linter.unusedSimpArgs false
namespace Go.Sy
open Go
theorem fill0 {l : Unit × Unit} {b2 : List Int} {n : Nat} (hn : n ≤ 140737488355328) : ∀ (r k fuel : Nat) (x : List Int), x.length = n → k + r = n → r < fuel → (∀ j, j < k → x.getD j (0 : Int) = 0) →
  iter (fun p : Int × (Unit × Unit) × List Int × List Int => law06IApartL1R p.1 p.2.1 p.2.2.1 p.2.2.2) fuel ((k : Int), l, x, b2) = some (l, List.replicate n (0 : Int), b2)
 | 0, k, fuel, x, hx, hk, hf, hj => by
  obtain ⟨fuel, rfl⟩ : ∃ n, fuel = n + 1 := ⟨fuel - 1, by omega⟩
  obtain rfl : x = List.replicate n (0 : Int) := ext_getDI (by simp [hx]) fun j h => by rw [hj j (by omega), getD_repl (by omega)]
  refine iter_end ?_
  show law06IApartL1R (k : Int) l (List.replicate n (0 : Int)) b2 = _
  unfold law06IApartL1R
  exact guard_else (decide_eq_false (by omega)) rfl
 | r + 1, k, fuel, x, hx, hk, hf, hj => by
  obtain ⟨fuel, rfl⟩ : ∃ n, fuel = n + 1 := ⟨fuel - 1, by omega⟩
  refine iter_more ?_ (fill0 hn r (k + 1) fuel (x.set k 0) (by simpa using hx) (by omega) (by omega) fun j h => ?_)
  ·show law06IApartL1R (k : Int) l x b2 = _
   unfold law06IApartL1R
   have t2 : Int.toNat (k : Int) = k := rfl
   rw [t2, wI64z _ (by omega) (by omega)]
   exact guard_step (decide_eq_true (by omega)) (guard_step (by simp) (guard_step (blt_of (by omega)) (guard_step (blt_of (by omega)) rfl)))
  ·rw [getD_setI]
   by_cases e : k = j
   ·rw [if_pos e, if_pos (by omega)]
   ·rw [if_neg e]; exact hj j (by omega)
theorem fill1 {l : Unit × Unit} {lB1 : List Int} {n : Nat} (hn : n ≤ 140737488355328) : ∀ (r k fuel : Nat) (x : List Int), x.length = n → k + r = n → r < fuel → (∀ j, j < k → x.getD j (0 : Int) = 1) →
  iter (fun p : Int × (Unit × Unit) × List Int × List Int => law06IApartL1v1R p.1 p.2.1 p.2.2.1 p.2.2.2) fuel ((k : Int), l, lB1, x) = some (l, lB1, List.replicate n (1 : Int))
 | 0, k, fuel, x, hx, hk, hf, hj => by
  obtain ⟨fuel, rfl⟩ : ∃ n, fuel = n + 1 := ⟨fuel - 1, by omega⟩
  obtain rfl : x = List.replicate n (1 : Int) := ext_getDI (by simp [hx]) fun j h => by rw [hj j (by omega), getD_repl (by omega)]
  refine iter_end ?_
  show law06IApartL1v1R (k : Int) l lB1 (List.replicate n (1 : Int)) = _
  unfold law06IApartL1v1R
  exact guard_else (decide_eq_false (by omega)) rfl
 | r + 1, k, fuel, x, hx, hk, hf, hj => by
  obtain ⟨fuel, rfl⟩ : ∃ n, fuel = n + 1 := ⟨fuel - 1, by omega⟩
  refine iter_more ?_ (fill1 hn r (k + 1) fuel (x.set k 1) (by simpa using hx) (by omega) (by omega) fun j h => ?_)
  ·show law06IApartL1v1R (k : Int) l lB1 x = _
   unfold law06IApartL1v1R
   have t2 : Int.toNat (k : Int) = k := rfl
   rw [t2, wI64z _ (by omega) (by omega)]
   exact guard_step (decide_eq_true (by omega)) (guard_step (by simp) (guard_step (blt_of (by omega)) (guard_step (blt_of (by omega)) rfl)))
  ·rw [getD_setI]
   by_cases e : k = j
   ·rw [if_pos e, if_pos (by omega)]
   ·rw [if_neg e]; exact hj j (by omega)
theorem grow0 {l : List Int × Unit} {b2 : List Int} {x : List Int} (hn : x.length ≤ 1000000) : ∀ (r k fuel : Nat), k + r = 70 → r < fuel →
  iter (fun p : Int × (List Int × Unit) × List Int × List Int => law06IApartL3R p.1 p.2.1 p.2.2.1 p.2.2.2) fuel ((k : Int), l, b2, x ++ List.replicate k (125 : Int)) = some ((l.1, ()), b2, x ++ List.replicate 70 (125 : Int))
 | 0, k, fuel, hk, hf => by
  obtain ⟨fuel, rfl⟩ : ∃ n, fuel = n + 1 := ⟨fuel - 1, by omega⟩
  obtain rfl : k = 70 := by omega
  refine iter_end ?_
  show law06IApartL3R ((70 : Nat) : Int) l b2 (x ++ List.replicate 70 (125 : Int)) = _
  unfold law06IApartL3R
  exact guard_else (decide_eq_false (by omega)) rfl
 | r + 1, k, fuel, hk, hf => by
  obtain ⟨fuel, rfl⟩ : ∃ n, fuel = n + 1 := ⟨fuel - 1, by omega⟩
  refine iter_more ?_ (grow0 hn r (k + 1) fuel (by omega) (by omega)) (b := (((k + 1 : Nat) : Int), (l.1, ()), b2, x ++ List.replicate (k + 1) (125 : Int)))
  show law06IApartL3R (k : Int) l b2 (x ++ List.replicate k (125 : Int)) = _
  unfold law06IApartL3R
  rw [wI64z _ (by omega) (by omega), List.append_assoc, rep_snoc]
  exact guard_step (decide_eq_true (by omega)) (guard_step (room1 (by simp; omega)) rfl)
theorem grow1 {l : List Int × List Int} {m : List (List Int)} {x : List Int} (hn : x.length ≤ 1000000) : ∀ (r k fuel : Nat), k + r = 70 → r < fuel →
  iter (fun p : Int × (List Int × List Int) × List (List Int) × List Int => law06IApartL3v1R p.1 p.2.1 p.2.2.1 p.2.2.2) fuel ((k : Int), l, m, x ++ List.replicate k (126 : Int)) = some (l, m, x ++ List.replicate 70 (126 : Int))
 | 0, k, fuel, hk, hf => by
  obtain ⟨fuel, rfl⟩ : ∃ n, fuel = n + 1 := ⟨fuel - 1, by omega⟩
  obtain rfl : k = 70 := by omega
  refine iter_end ?_
  show law06IApartL3v1R ((70 : Nat) : Int) l m (x ++ List.replicate 70 (126 : Int)) = _
  unfold law06IApartL3v1R
  exact guard_else (decide_eq_false (by omega)) rfl
 | r + 1, k, fuel, hk, hf => by
  obtain ⟨fuel, rfl⟩ : ∃ n, fuel = n + 1 := ⟨fuel - 1, by omega⟩
  refine iter_more ?_ (grow1 hn r (k + 1) fuel (by omega) (by omega)) (b := (((k + 1 : Nat) : Int), l, m, x ++ List.replicate (k + 1) (126 : Int)))
  show law06IApartL3v1R (k : Int) l m (x ++ List.replicate k (126 : Int)) = _
  unfold law06IApartL3v1R
  rw [wI64z _ (by omega) (by omega), List.append_assoc, rep_snoc]
  exact guard_step (decide_eq_true (by omega)) (guard_step (room1 (by simp; omega)) rfl)
theorem look0 {l : List Int × List Int} {m : List (List Int)} {n : Nat} (hn : n ≤ 1000000) (hm : 0 < m.length) (h1 : l.1 = List.replicate n (0 : Int)) (h2 : m.getD 0 ([] : List Int) = List.replicate n (0 : Int) ++ List.replicate 70 (125 : Int)) : ∀ (r k fuel : Nat), k + r = n + 70 → r < fuel →
  iter (fun p : Int × Int × (List Int × List Int) × List (List Int) => law06IApartL5R p.1 p.2.1 p.2.2.1 p.2.2.2) fuel ((n : Int), (k : Int), l, m) = some (.inr (l, m))
 | 0, k, fuel, hk, hf => by
  obtain ⟨fuel, rfl⟩ : ∃ n, fuel = n + 1 := ⟨fuel - 1, by omega⟩
  refine iter_end ?_
  show law06IApartL5R (n : Int) (k : Int) l m = _
  unfold law06IApartL5R
  rw [h2]
  have hl : (List.replicate n (0 : Int) ++ List.replicate 70 (125 : Int)).length = n + 70 := by simp
  exact guard_step (blt_of hm) (guard_step (blt_of hm) (guard_else (decide_eq_false (by rw [hl]; omega)) rfl))
 | r + 1, k, fuel, hk, hf => by
  obtain ⟨fuel, rfl⟩ : ∃ n, fuel = n + 1 := ⟨fuel - 1, by omega⟩
  refine iter_more ?_ (look0 hn hm h1 h2 r (k + 1) fuel (by omega) (by omega))
  show law06IApartL5R (n : Int) (k : Int) l m = _
  unfold law06IApartL5R
  have t2 : Int.toNat (k : Int) = k := rfl
  have hl : (List.replicate n (0 : Int) ++ List.replicate 70 (125 : Int)).length = n + 70 := by simp
  have c0 : decide (0 ≤ (k : Int)) = true := by simp
  have cm := blt_of hm
  have ck : Nat.blt k (List.replicate n (0 : Int) ++ List.replicate 70 (125 : Int)).length = true := blt_of (by omega)
  rw [t2, h1, h2, wI64z _ (by omega) (by omega)]
  refine guard_step cm (guard_step cm (guard_step (decide_eq_true (by rw [hl]; omega)) ?_))
  by_cases hd : k < n
  ·have e1 : (List.replicate n (0 : Int)).getD k (0 : Int) = 0 := getD_repl hd
   have e2 : (List.replicate n (0 : Int) ++ List.replicate 70 (125 : Int)).getD k (0 : Int) = 0 := by rw [getD_appI (by simpa using hd)]; exact e1
   rw [e1, e2]
   exact guard_step (decide_eq_true (by omega)) (guard_step c0 (guard_step (blt_of (by simpa using hd)) (guard_else rfl (guard_step cm (guard_step cm (guard_step c0 (guard_step ck (guard_else rfl (guard_else (decide_eq_false (by omega)) rfl)))))))))
  ·have e2 : (List.replicate n (0 : Int) ++ List.replicate 70 (125 : Int)).getD k (0 : Int) = 125 := getD_app2 (by simp; omega) (by simp; omega)
   rw [e2]
   exact guard_else (decide_eq_false (by omega)) (guard_step (decide_eq_true (by omega)) (guard_step cm (guard_step cm (guard_step c0 (guard_step ck (guard_else rfl rfl))))))
theorem look1 {l : List Int × List Int} {m : List (List Int)} {n : Nat} (hn : n ≤ 1000000) (hm : 1 < m.length) (h1 : l.2 = List.replicate n (1 : Int)) (h2 : m.getD 1 ([] : List Int) = List.replicate n (1 : Int) ++ List.replicate 70 (126 : Int)) : ∀ (r k fuel : Nat), k + r = n + 70 → r < fuel →
  iter (fun p : Int × Int × (List Int × List Int) × List (List Int) => law06IApartL5v1R p.1 p.2.1 p.2.2.1 p.2.2.2) fuel ((n : Int), (k : Int), l, m) = some (.inr (l, m))
 | 0, k, fuel, hk, hf => by
  obtain ⟨fuel, rfl⟩ : ∃ n, fuel = n + 1 := ⟨fuel - 1, by omega⟩
  refine iter_end ?_
  show law06IApartL5v1R (n : Int) (k : Int) l m = _
  unfold law06IApartL5v1R
  rw [h2]
  have hl : (List.replicate n (1 : Int) ++ List.replicate 70 (126 : Int)).length = n + 70 := by simp
  exact guard_step (blt_of hm) (guard_step (blt_of hm) (guard_else (decide_eq_false (by rw [hl]; omega)) rfl))
 | r + 1, k, fuel, hk, hf => by
  obtain ⟨fuel, rfl⟩ : ∃ n, fuel = n + 1 := ⟨fuel - 1, by omega⟩
  refine iter_more ?_ (look1 hn hm h1 h2 r (k + 1) fuel (by omega) (by omega))
  show law06IApartL5v1R (n : Int) (k : Int) l m = _
  unfold law06IApartL5v1R
  have t2 : Int.toNat (k : Int) = k := rfl
  have hl : (List.replicate n (1 : Int) ++ List.replicate 70 (126 : Int)).length = n + 70 := by simp
  have c0 : decide (0 ≤ (k : Int)) = true := by simp
  have cm := blt_of hm
  have ck : Nat.blt k (List.replicate n (1 : Int) ++ List.replicate 70 (126 : Int)).length = true := blt_of (by omega)
  rw [t2, h1, h2, wI64z _ (by omega) (by omega)]
  refine guard_step cm (guard_step cm (guard_step (decide_eq_true (by rw [hl]; omega)) ?_))
  by_cases hd : k < n
  ·have e1 : (List.replicate n (1 : Int)).getD k (0 : Int) = 1 := getD_repl hd
   have e2 : (List.replicate n (1 : Int) ++ List.replicate 70 (126 : Int)).getD k (0 : Int) = 1 := by rw [getD_appI (by simpa using hd)]; exact e1
   rw [e1, e2]
   exact guard_step (decide_eq_true (by omega)) (guard_step c0 (guard_step (blt_of (by simpa using hd)) (guard_else rfl (guard_step cm (guard_step cm (guard_step c0 (guard_step ck (guard_else rfl (guard_else (decide_eq_false (by omega)) rfl)))))))))
  ·have e2 : (List.replicate n (1 : Int) ++ List.replicate 70 (126 : Int)).getD k (0 : Int) = 126 := getD_app2 (by simp; omega) (by simp; omega)
   rw [e2]
   exact guard_else (decide_eq_false (by omega)) (guard_step (decide_eq_true (by omega)) (guard_step cm (guard_step cm (guard_step c0 (guard_step ck (guard_else rfl rfl))))))
theorem law06IApart_val {a b : List Int} (ha : a.length ≤ 1000) (hb : b.length ≤ 1000) : law06IApart ((), ()) a b = some true := by
 have hbig := bigFuel_eq
 rw [law06IApart_eq]
 unfold law06IApartB
 have f0 := fill0 (l := ((), ())) (b2 := b) (n := a.length) (by omega) a.length 0 bigFuel a rfl (by omega) (by omega) (fun j h => absurd h (by omega))
 have f1 := fill1 (l := ((), ())) (lB1 := List.replicate a.length (0 : Int)) (n := b.length) (by omega) b.length 0 bigFuel b rfl (by omega) (by omega) (fun j h => absurd h (by omega))
 generalize a.length = A at *
 generalize b.length = B at *
 have g0 := grow0 (l := (List.replicate A (0 : Int), ())) (b2 := List.replicate B (1 : Int)) (x := List.replicate A (0 : Int)) (by simp; omega) 70 0 1000 (by omega) (by omega)
 have g1 := grow1 (l := (List.replicate A (0 : Int), List.replicate B (1 : Int))) (m := [List.replicate A (0 : Int) ++ List.replicate 70 (125 : Int)]) (x := List.replicate B (1 : Int)) (by simp; omega) 70 0 1000 (by omega) (by omega)
 rw [List.replicate_zero, List.append_nil] at g0 g1
 have k0 := look0 (l := (List.replicate A (0 : Int), List.replicate B (1 : Int))) (m := [List.replicate A (0 : Int) ++ List.replicate 70 (125 : Int)] ++ [List.replicate B (1 : Int) ++ List.replicate 70 (126 : Int)]) (n := A) (by omega) (by simp) rfl rfl (A + 70) 0 bigFuel (by omega) (by omega)
 have k1 := look1 (l := (List.replicate A (0 : Int), List.replicate B (1 : Int))) (m := [List.replicate A (0 : Int) ++ List.replicate 70 (125 : Int)] ++ [List.replicate B (1 : Int) ++ List.replicate 70 (126 : Int)]) (n := B) (by omega) (by simp) rfl rfl (B + 70) 0 bigFuel (by omega) (by omega)
 have lA : (List.replicate A (0 : Int)).length = A := List.length_replicate
 have lB : (List.replicate B (1 : Int)).length = B := List.length_replicate
 generalize List.replicate A (0 : Int) = xa at *
 generalize List.replicate B (1 : Int) = xb at *
 refine bind_step ((law06IApartL1_eq _ _ _ _).trans f0) (bind_step ((law06IApartL1v1_eq _ _ _ _).trans f1) ?_)
 refine bind_step ((law06IApartL3_eq _ _ _ _).trans g0) (guard_step rfl ?_)
 refine bind_step ((law06IApartL3v1_eq _ _ _ _).trans g1) (guard_step rfl (bind_step rfl ?_))
 refine bind_step ((law06IApartL5_eq _ _ _ _).trans (by rw [lA]; exact k0)) ?_
 exact bind_step ((law06IApartL5v1_eq _ _ _ _).trans (by rw [lB]; exact k1)) rfl
theorem zeroS : ((u256eq 0 0) && ((u256eq 0 0) && (false == false))) = true := by decide +kernel
theorem law06EcdsaBytes_true {data : List Int} (hd : Bytes data) (hn : data.length ≤ 140737488351232) : law06EcdsaBytes data = some true := by
 have hbig := bigFuel_eq
 rw [law06EcdsaBytes_eq]
 unfold law06EcdsaBytesB
 have hu := unpackV_lt hd
 refine bind_step (law06ICopied_val (by omega)) (bind_step (ecdsaUnpack_val hd) ?_)
 by_cases hl : data.length = 64
 ·have z1 : unpackV (List.take 63 (List.drop 0 data)) = ((0, 0, false), 66) := by
   unfold unpackV; rw [if_neg (by rw [List.drop_zero, List.length_take]; omega)]
  have z2 : unpackV (data ++ [(0 : Int)]) = ((0, 0, false), 66) := by
   unfold unpackV; rw [if_neg (by simp; omega)]
  have hb0 : Bytes [(0 : Int)] := fun j => by
   cases j with
   | zero => exact ⟨by decide, by decide⟩
   | succ j => exact ⟨by simp, by simp⟩
  refine guard_else (by simp [hl]) (guard_step (Nat.ble_eq_true_of_le (by omega)) (bind_step ((ecdsaUnpack_val ((hd.drp 0).tak 63)).trans (congrArg some z1)) (bind_step (law06ICopied_val (by omega)) (guard_step (room1 (by simp; omega)) (bind_step ((ecdsaUnpack_val (hd.app hb0)).trans (congrArg some z2)) (guard_else rfl (guard_else rfl (guard_else (by rw [zeroS]; rfl) (guard_else (by rw [zeroS]; rfl) ?_)))))))))
  by_cases h0 : (unpackV data).2 = 0
  ·obtain ⟨hc, hp⟩ := packV_unpack hd hl h0
   have he := (ecdsaPack_all hu).trans (congrArg some hp)
   have hs := law06ISame_self (a := data) (by omega)
   refine guard_else (by rw [h0]; rfl) (bind_step he (bind_step he (guard_else rfl (guard_else rfl (bind_step hs (guard_else rfl (bind_step hs (guard_else rfl (bind_step (ecdsaCheck_val hu) (guard_else (by rw [hc]; rfl) ?_))))))))))
   exact bind_step (law06IApart_val (by show data.length ≤ 1000; omega) (by show data.length ≤ 1000; omega)) (guard_else rfl (bind_step he (guard_step rfl (bind_step hs rfl))))
  ·have hz : (unpackV data).1 = (0, 0, false) ∧ ((unpackV data).2 = 61 ∨ (unpackV data).2 = 62 ∨ (unpackV data).2 = 63) := by
    unfold unpackV at h0 ⊢
    rw [if_pos hl] at h0 ⊢
    split
    ·rename_i hc; rw [if_pos hc] at h0; exact absurd rfl h0
    ·rename_i hc
     refine ⟨rfl, ?_⟩
     rcases checkV_any ((getV (data.take 32)).1, (getV ((data.drop 32).set 0 (Int.tmod (data.getD 32 0) 128))).1, decide (data.getD 32 0 ≥ 128)) with h | h
     ·exact absurd h hc
     ·exact h
   obtain ⟨e1, e2⟩ := hz
   rw [e1]
   rcases e2 with e | e | e <;> rw [e]
   ·exact guard_step rfl (guard_step rfl (congrArg some zeroS))
   ·exact guard_step rfl (guard_else rfl (guard_step rfl (congrArg some zeroS)))
   ·exact guard_step rfl (guard_else rfl (guard_else rfl (guard_step rfl (congrArg some zeroS))))
 ·have z1 : unpackV data = ((0, 0, false), 66) := by unfold unpackV; rw [if_neg hl]
  rw [z1]
  exact guard_step (by simp; omega) (guard_step rfl (congrArg some zeroS))
end Go.Sy
