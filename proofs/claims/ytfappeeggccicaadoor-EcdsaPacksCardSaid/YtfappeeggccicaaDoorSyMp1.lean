/- Plain law: Pack and Unpack are the document's; what is answered is new memory. -/
import Derived.Test.YtfappeeggccicaaDoorSyMp0
import Derived.Test.YtfappeeggccicaaDoorSyVP
set_option linter.unusedVariables false
set_option linter.unusedSimpArgs false
namespace Go.Sy
open Go
theorem fill0 {l : Unit × Unit × Unit} {b2 i : List Int} {n : Nat} (hn : n ≤ 140737488355328) : ∀ (r k fuel : Nat) (x : List Int), x.length = n → k + r = n → r < fuel → (∀ j, j < k → x.getD j (0 : Int) = 0) →
  iter (fun p : Int × (Unit × Unit × Unit) × List Int × List Int × List Int => law06IApartL1R p.1 p.2.1 p.2.2.1 p.2.2.2.1 p.2.2.2.2) fuel ((k : Int), l, x, b2, i) = some (l, List.replicate n (0 : Int), b2, i)
 | 0, k, fuel, x, hx, hk, hf, hj => by
  obtain ⟨fuel, rfl⟩ : ∃ n, fuel = n + 1 := ⟨fuel - 1, by omega⟩
  obtain rfl : x = List.replicate n (0 : Int) := ext_getDI (by simp [hx]) fun j h => by rw [hj j (by omega), getD_repl (by omega)]
  refine iter_end ?_
  show law06IApartL1R (k : Int) l (List.replicate n (0 : Int)) b2 i = _
  unfold law06IApartL1R
  exact guard_else (decide_eq_false (by omega)) rfl
 | r + 1, k, fuel, x, hx, hk, hf, hj => by
  obtain ⟨fuel, rfl⟩ : ∃ n, fuel = n + 1 := ⟨fuel - 1, by omega⟩
  refine iter_more ?_ (fill0 hn r (k + 1) fuel (x.set k 0) (by simpa using hx) (by omega) (by omega) fun j h => ?_)
  ·show law06IApartL1R (k : Int) l x b2 i = _
   unfold law06IApartL1R
   have t2 : Int.toNat (k : Int) = k := rfl
   rw [t2, wI64z _ (by omega) (by omega)]
   exact guard_step (decide_eq_true (by omega)) (guard_step (by simp) (guard_step (blt_of (by omega)) (guard_step (blt_of (by omega)) rfl)))
  ·rw [getD_setI]
   by_cases e : k = j
   ·rw [if_pos e, if_pos (by omega)]
   ·rw [if_neg e]; exact hj j (by omega)
theorem fill1 {l : Unit × Unit × Unit} {lB1 i : List Int} {n : Nat} (hn : n ≤ 140737488355328) : ∀ (r k fuel : Nat) (x : List Int), x.length = n → k + r = n → r < fuel → (∀ j, j < k → x.getD j (0 : Int) = 1) →
  iter (fun p : Int × (Unit × Unit × Unit) × List Int × List Int × List Int => law06IApartL1v1R p.1 p.2.1 p.2.2.1 p.2.2.2.1 p.2.2.2.2) fuel ((k : Int), l, lB1, x, i) = some (l, lB1, List.replicate n (1 : Int), i)
 | 0, k, fuel, x, hx, hk, hf, hj => by
  obtain ⟨fuel, rfl⟩ : ∃ n, fuel = n + 1 := ⟨fuel - 1, by omega⟩
  obtain rfl : x = List.replicate n (1 : Int) := ext_getDI (by simp [hx]) fun j h => by rw [hj j (by omega), getD_repl (by omega)]
  refine iter_end ?_
  show law06IApartL1v1R (k : Int) l lB1 (List.replicate n (1 : Int)) i = _
  unfold law06IApartL1v1R
  exact guard_else (decide_eq_false (by omega)) rfl
 | r + 1, k, fuel, x, hx, hk, hf, hj => by
  obtain ⟨fuel, rfl⟩ : ∃ n, fuel = n + 1 := ⟨fuel - 1, by omega⟩
  refine iter_more ?_ (fill1 hn r (k + 1) fuel (x.set k 1) (by simpa using hx) (by omega) (by omega) fun j h => ?_)
  ·show law06IApartL1v1R (k : Int) l lB1 x i = _
   unfold law06IApartL1v1R
   have t2 : Int.toNat (k : Int) = k := rfl
   rw [t2, wI64z _ (by omega) (by omega)]
   exact guard_step (decide_eq_true (by omega)) (guard_step (by simp) (guard_step (blt_of (by omega)) (guard_step (blt_of (by omega)) rfl)))
  ·rw [getD_setI]
   by_cases e : k = j
   ·rw [if_pos e, if_pos (by omega)]
   ·rw [if_neg e]; exact hj j (by omega)
theorem fill2 {l : Unit × Unit × Unit} {lB1 b2 : List Int} {n : Nat} (hn : n ≤ 140737488355328) : ∀ (r k fuel : Nat) (x : List Int), x.length = n → k + r = n → r < fuel → (∀ j, j < k → x.getD j (0 : Int) = 2) →
  iter (fun p : Int × (Unit × Unit × Unit) × List Int × List Int × List Int => law06IApartL1v2R p.1 p.2.1 p.2.2.1 p.2.2.2.1 p.2.2.2.2) fuel ((k : Int), l, lB1, b2, x) = some (l, lB1, b2, List.replicate n (2 : Int))
 | 0, k, fuel, x, hx, hk, hf, hj => by
  obtain ⟨fuel, rfl⟩ : ∃ n, fuel = n + 1 := ⟨fuel - 1, by omega⟩
  obtain rfl : x = List.replicate n (2 : Int) := ext_getDI (by simp [hx]) fun j h => by rw [hj j (by omega), getD_repl (by omega)]
  refine iter_end ?_
  show law06IApartL1v2R (k : Int) l lB1 b2 (List.replicate n (2 : Int)) = _
  unfold law06IApartL1v2R
  exact guard_else (decide_eq_false (by omega)) rfl
 | r + 1, k, fuel, x, hx, hk, hf, hj => by
  obtain ⟨fuel, rfl⟩ : ∃ n, fuel = n + 1 := ⟨fuel - 1, by omega⟩
  refine iter_more ?_ (fill2 hn r (k + 1) fuel (x.set k 2) (by simpa using hx) (by omega) (by omega) fun j h => ?_)
  ·show law06IApartL1v2R (k : Int) l lB1 b2 x = _
   unfold law06IApartL1v2R
   have t2 : Int.toNat (k : Int) = k := rfl
   rw [t2, wI64z _ (by omega) (by omega)]
   exact guard_step (decide_eq_true (by omega)) (guard_step (by simp) (guard_step (blt_of (by omega)) (guard_step (blt_of (by omega)) rfl)))
  ·rw [getD_setI]
   by_cases e : k = j
   ·rw [if_pos e, if_pos (by omega)]
   ·rw [if_neg e]; exact hj j (by omega)
theorem grow0 {l : List Int × Unit × Unit} {b2 : List Int} {i : List Int} {x : List Int} (hn : x.length ≤ 1000000) : ∀ (r k fuel : Nat), k + r = 70 → r < fuel →
  iter (fun p : Int × (List Int × Unit × Unit) × List Int × List Int × List Int => law06IApartL3R p.1 p.2.1 p.2.2.1 p.2.2.2.1 p.2.2.2.2) fuel ((k : Int), l, b2, i, x ++ List.replicate k (125 : Int)) = some ((l.1, (), ()), b2, i, x ++ List.replicate 70 (125 : Int))
 | 0, k, fuel, hk, hf => by
  obtain ⟨fuel, rfl⟩ : ∃ n, fuel = n + 1 := ⟨fuel - 1, by omega⟩
  obtain rfl : k = 70 := by omega
  refine iter_end ?_
  show law06IApartL3R ((70 : Nat) : Int) l b2 i (x ++ List.replicate 70 (125 : Int)) = _
  unfold law06IApartL3R
  exact guard_else (decide_eq_false (by omega)) rfl
 | r + 1, k, fuel, hk, hf => by
  obtain ⟨fuel, rfl⟩ : ∃ n, fuel = n + 1 := ⟨fuel - 1, by omega⟩
  refine iter_more ?_ (grow0 hn r (k + 1) fuel (by omega) (by omega)) (b := (((k + 1 : Nat) : Int), (l.1, (), ()), b2, i, x ++ List.replicate (k + 1) (125 : Int)))
  show law06IApartL3R (k : Int) l b2 i (x ++ List.replicate k (125 : Int)) = _
  unfold law06IApartL3R
  rw [wI64z _ (by omega) (by omega), List.append_assoc, rep_snoc]
  exact guard_step (decide_eq_true (by omega)) (guard_step (room1 (by simp; omega)) rfl)
theorem grow1 {l : List Int × List Int × Unit} {i : List Int} {m : List (List Int)} {x : List Int} (hn : x.length ≤ 1000000) : ∀ (r k fuel : Nat), k + r = 70 → r < fuel →
  iter (fun p : Int × (List Int × List Int × Unit) × List Int × List (List Int) × List Int => law06IApartL3v1R p.1 p.2.1 p.2.2.1 p.2.2.2.1 p.2.2.2.2) fuel ((k : Int), l, i, m, x ++ List.replicate k (126 : Int)) = some ((l.1, l.2.1, ()), i, m, x ++ List.replicate 70 (126 : Int))
 | 0, k, fuel, hk, hf => by
  obtain ⟨fuel, rfl⟩ : ∃ n, fuel = n + 1 := ⟨fuel - 1, by omega⟩
  obtain rfl : k = 70 := by omega
  refine iter_end ?_
  show law06IApartL3v1R ((70 : Nat) : Int) l i m (x ++ List.replicate 70 (126 : Int)) = _
  unfold law06IApartL3v1R
  exact guard_else (decide_eq_false (by omega)) rfl
 | r + 1, k, fuel, hk, hf => by
  obtain ⟨fuel, rfl⟩ : ∃ n, fuel = n + 1 := ⟨fuel - 1, by omega⟩
  refine iter_more ?_ (grow1 hn r (k + 1) fuel (by omega) (by omega)) (b := (((k + 1 : Nat) : Int), (l.1, l.2.1, ()), i, m, x ++ List.replicate (k + 1) (126 : Int)))
  show law06IApartL3v1R (k : Int) l i m (x ++ List.replicate k (126 : Int)) = _
  unfold law06IApartL3v1R
  rw [wI64z _ (by omega) (by omega), List.append_assoc, rep_snoc]
  exact guard_step (decide_eq_true (by omega)) (guard_step (room1 (by simp; omega)) rfl)
theorem grow2 {l : List Int × List Int × List Int} {m : List (List Int)} {x : List Int} (hn : x.length ≤ 1000000) : ∀ (r k fuel : Nat), k + r = 70 → r < fuel →
  iter (fun p : Int × (List Int × List Int × List Int) × List (List Int) × List Int => law06IApartL3v2R p.1 p.2.1 p.2.2.1 p.2.2.2) fuel ((k : Int), l, m, x ++ List.replicate k (127 : Int)) = some (l, m, x ++ List.replicate 70 (127 : Int))
 | 0, k, fuel, hk, hf => by
  obtain ⟨fuel, rfl⟩ : ∃ n, fuel = n + 1 := ⟨fuel - 1, by omega⟩
  obtain rfl : k = 70 := by omega
  refine iter_end ?_
  show law06IApartL3v2R ((70 : Nat) : Int) l m (x ++ List.replicate 70 (127 : Int)) = _
  unfold law06IApartL3v2R
  exact guard_else (decide_eq_false (by omega)) rfl
 | r + 1, k, fuel, hk, hf => by
  obtain ⟨fuel, rfl⟩ : ∃ n, fuel = n + 1 := ⟨fuel - 1, by omega⟩
  refine iter_more ?_ (grow2 hn r (k + 1) fuel (by omega) (by omega)) (b := (((k + 1 : Nat) : Int), l, m, x ++ List.replicate (k + 1) (127 : Int)))
  show law06IApartL3v2R (k : Int) l m (x ++ List.replicate k (127 : Int)) = _
  unfold law06IApartL3v2R
  rw [wI64z _ (by omega) (by omega), List.append_assoc, rep_snoc]
  exact guard_step (decide_eq_true (by omega)) (guard_step (room1 (by simp; omega)) rfl)
theorem look0 {l : List Int × List Int × List Int} {m : List (List Int)} {n : Nat} (hn : n ≤ 1000000) (hm : 0 < m.length) (h1 : l.1 = List.replicate n (0 : Int)) (h2 : m.getD 0 ([] : List Int) = List.replicate n (0 : Int) ++ List.replicate 70 (125 : Int)) : ∀ (r k fuel : Nat), k + r = n + 70 → r < fuel →
  iter (fun p : Int × Int × (List Int × List Int × List Int) × List (List Int) => law06IApartL5R p.1 p.2.1 p.2.2.1 p.2.2.2) fuel ((n : Int), (k : Int), l, m) = some (.inr (l, m))
 | 0, k, fuel, hk, hf => by
  obtain ⟨fuel, rfl⟩ : ∃ n, fuel = n + 1 := ⟨fuel - 1, by omega⟩
  refine iter_end ?_
  show law06IApartL5R (n : Int) (k : Int) l m = _
  unfold law06IApartL5R
  rw [h2]
  have hl : (List.replicate n (0 : Int) ++ List.replicate 70 (125 : Int)).length = n + 70 := by simp
  exact guard_step (blt_of hm) (guard_step (blt_of hm) (guard_else (decide_eq_false (by rw [hl]; omega)) rfl))
 | r + 1, k, fuel, hk, hf => by
  obtain ⟨fuel, rfl⟩ : ∃ n, fuel = n + 1 := ⟨fuel - 1, by omega⟩
  refine iter_more ?_ (look0 hn hm h1 h2 r (k + 1) fuel (by omega) (by omega))
  show law06IApartL5R (n : Int) (k : Int) l m = _
  unfold law06IApartL5R
  have t2 : Int.toNat (k : Int) = k := rfl
  have hl : (List.replicate n (0 : Int) ++ List.replicate 70 (125 : Int)).length = n + 70 := by simp
  have c0 : decide (0 ≤ (k : Int)) = true := by simp
  have cm := blt_of hm
  have ck : Nat.blt k (List.replicate n (0 : Int) ++ List.replicate 70 (125 : Int)).length = true := blt_of (by omega)
  rw [t2, h1, h2, wI64z _ (by omega) (by omega)]
  refine guard_step cm (guard_step cm (guard_step (decide_eq_true (by rw [hl]; omega)) ?_))
  by_cases hd : k < n
  ·have e1 : (List.replicate n (0 : Int)).getD k (0 : Int) = 0 := getD_repl hd
   have e2 : (List.replicate n (0 : Int) ++ List.replicate 70 (125 : Int)).getD k (0 : Int) = 0 := by rw [getD_appI (by simpa using hd)]; exact e1
   rw [e1, e2]
   exact guard_step (decide_eq_true (by omega)) (guard_step c0 (guard_step (blt_of (by simpa using hd)) (guard_else rfl (guard_step cm (guard_step cm (guard_step c0 (guard_step ck (guard_else rfl (guard_else (decide_eq_false (by omega)) rfl)))))))))
  ·have e2 : (List.replicate n (0 : Int) ++ List.replicate 70 (125 : Int)).getD k (0 : Int) = 125 := getD_app2 (by simp; omega) (by simp; omega)
   rw [e2]
   exact guard_else (decide_eq_false (by omega)) (guard_step (decide_eq_true (by omega)) (guard_step cm (guard_step cm (guard_step c0 (guard_step ck (guard_else rfl rfl))))))
theorem look1 {l : List Int × List Int × List Int} {m : List (List Int)} {n : Nat} (hn : n ≤ 1000000) (hm : 1 < m.length) (h1 : l.2.1 = List.replicate n (1 : Int)) (h2 : m.getD 1 ([] : List Int) = List.replicate n (1 : Int) ++ List.replicate 70 (126 : Int)) : ∀ (r k fuel : Nat), k + r = n + 70 → r < fuel →
  iter (fun p : Int × Int × (List Int × List Int × List Int) × List (List Int) => law06IApartL5v1R p.1 p.2.1 p.2.2.1 p.2.2.2) fuel ((n : Int), (k : Int), l, m) = some (.inr (l, m))
 | 0, k, fuel, hk, hf => by
  obtain ⟨fuel, rfl⟩ : ∃ n, fuel = n + 1 := ⟨fuel - 1, by omega⟩
  refine iter_end ?_
  show law06IApartL5v1R (n : Int) (k : Int) l m = _
  unfold law06IApartL5v1R
  rw [h2]
  have hl : (List.replicate n (1 : Int) ++ List.replicate 70 (126 : Int)).length = n + 70 := by simp
  exact guard_step (blt_of hm) (guard_step (blt_of hm) (guard_else (decide_eq_false (by rw [hl]; omega)) rfl))
 | r + 1, k, fuel, hk, hf => by
  obtain ⟨fuel, rfl⟩ : ∃ n, fuel = n + 1 := ⟨fuel - 1, by omega⟩
  refine iter_more ?_ (look1 hn hm h1 h2 r (k + 1) fuel (by omega) (by omega))
  show law06IApartL5v1R (n : Int) (k : Int) l m = _
  unfold law06IApartL5v1R
  have t2 : Int.toNat (k : Int) = k := rfl
  have hl : (List.replicate n (1 : Int) ++ List.replicate 70 (126 : Int)).length = n + 70 := by simp
  have c0 : decide (0 ≤ (k : Int)) = true := by simp
  have cm := blt_of hm
  have ck : Nat.blt k (List.replicate n (1 : Int) ++ List.replicate 70 (126 : Int)).length = true := blt_of (by omega)
  rw [t2, h1, h2, wI64z _ (by omega) (by omega)]
  refine guard_step cm (guard_step cm (guard_step (decide_eq_true (by rw [hl]; omega)) ?_))
  by_cases hd : k < n
  ·have e1 : (List.replicate n (1 : Int)).getD k (0 : Int) = 1 := getD_repl hd
   have e2 : (List.replicate n (1 : Int) ++ List.replicate 70 (126 : Int)).getD k (0 : Int) = 1 := by rw [getD_appI (by simpa using hd)]; exact e1
   rw [e1, e2]
   exact guard_step (decide_eq_true (by omega)) (guard_step c0 (guard_step (blt_of (by simpa using hd)) (guard_else rfl (guard_step cm (guard_step cm (guard_step c0 (guard_step ck (guard_else rfl (guard_else (decide_eq_false (by omega)) rfl)))))))))
  ·have e2 : (List.replicate n (1 : Int) ++ List.replicate 70 (126 : Int)).getD k (0 : Int) = 126 := getD_app2 (by simp; omega) (by simp; omega)
   rw [e2]
   exact guard_else (decide_eq_false (by omega)) (guard_step (decide_eq_true (by omega)) (guard_step cm (guard_step cm (guard_step c0 (guard_step ck (guard_else rfl rfl))))))
theorem look2 {l : List Int × List Int × List Int} {m : List (List Int)} {n : Nat} (hn : n ≤ 1000000) (hm : 2 < m.length) (h1 : l.2.2 = List.replicate n (2 : Int)) (h2 : m.getD 2 ([] : List Int) = List.replicate n (2 : Int) ++ List.replicate 70 (127 : Int)) : ∀ (r k fuel : Nat), k + r = n + 70 → r < fuel →
  iter (fun p : Int × Int × (List Int × List Int × List Int) × List (List Int) => law06IApartL5v2R p.1 p.2.1 p.2.2.1 p.2.2.2) fuel ((n : Int), (k : Int), l, m) = some (.inr (l, m))
 | 0, k, fuel, hk, hf => by
  obtain ⟨fuel, rfl⟩ : ∃ n, fuel = n + 1 := ⟨fuel - 1, by omega⟩
  refine iter_end ?_
  show law06IApartL5v2R (n : Int) (k : Int) l m = _
  unfold law06IApartL5v2R
  rw [h2]
  have hl : (List.replicate n (2 : Int) ++ List.replicate 70 (127 : Int)).length = n + 70 := by simp
  exact guard_step (blt_of hm) (guard_step (blt_of hm) (guard_else (decide_eq_false (by rw [hl]; omega)) rfl))
 | r + 1, k, fuel, hk, hf => by
  obtain ⟨fuel, rfl⟩ : ∃ n, fuel = n + 1 := ⟨fuel - 1, by omega⟩
  refine iter_more ?_ (look2 hn hm h1 h2 r (k + 1) fuel (by omega) (by omega))
  show law06IApartL5v2R (n : Int) (k : Int) l m = _
  unfold law06IApartL5v2R
  have t2 : Int.toNat (k : Int) = k := rfl
  have hl : (List.replicate n (2 : Int) ++ List.replicate 70 (127 : Int)).length = n + 70 := by simp
  have c0 : decide (0 ≤ (k : Int)) = true := by simp
  have cm := blt_of hm
  have ck : Nat.blt k (List.replicate n (2 : Int) ++ List.replicate 70 (127 : Int)).length = true := blt_of (by omega)
  rw [t2, h1, h2, wI64z _ (by omega) (by omega)]
  refine guard_step cm (guard_step cm (guard_step (decide_eq_true (by rw [hl]; omega)) ?_))
  by_cases hd : k < n
  ·have e1 : (List.replicate n (2 : Int)).getD k (0 : Int) = 2 := getD_repl hd
   have e2 : (List.replicate n (2 : Int) ++ List.replicate 70 (127 : Int)).getD k (0 : Int) = 2 := by rw [getD_appI (by simpa using hd)]; exact e1
   rw [e1, e2]
   exact guard_step (decide_eq_true (by omega)) (guard_step c0 (guard_step (blt_of (by simpa using hd)) (guard_else rfl (guard_step cm (guard_step cm (guard_step c0 (guard_step ck (guard_else rfl (guard_else (decide_eq_false (by omega)) rfl)))))))))
  ·have e2 : (List.replicate n (2 : Int) ++ List.replicate 70 (127 : Int)).getD k (0 : Int) = 127 := getD_app2 (by simp; omega) (by simp; omega)
   rw [e2]
   exact guard_else (decide_eq_false (by omega)) (guard_step (decide_eq_true (by omega)) (guard_step cm (guard_step cm (guard_step c0 (guard_step ck (guard_else rfl rfl))))))
theorem law06IApart_val {a b c : List Int} (ha : a.length ≤ 1000) (hb : b.length ≤ 1000) (hc : c.length ≤ 1000) : law06IApart ((), (), ()) a b c = some true := by
 have hbig := bigFuel_eq
 rw [law06IApart_eq]
 unfold law06IApartB
 have f0 := fill0 (l := ((), (), ())) (b2 := b) (i := c) (n := a.length) (by omega) a.length 0 bigFuel a rfl (by omega) (by omega) (fun j h => absurd h (by omega))
 have f1 := fill1 (l := ((), (), ())) (lB1 := List.replicate a.length (0 : Int)) (i := c) (n := b.length) (by omega) b.length 0 bigFuel b rfl (by omega) (by omega) (fun j h => absurd h (by omega))
 have f2 := fill2 (l := ((), (), ())) (lB1 := List.replicate a.length (0 : Int)) (b2 := List.replicate b.length (1 : Int)) (n := c.length) (by omega) c.length 0 bigFuel c rfl (by omega) (by omega) (fun j h => absurd h (by omega))
 generalize a.length = A at *
 generalize b.length = B at *
 generalize c.length = C at *
 have g0 := grow0 (l := (List.replicate A (0 : Int), (), ())) (b2 := List.replicate B (1 : Int)) (i := List.replicate C (2 : Int)) (x := List.replicate A (0 : Int)) (by simp; omega) 70 0 1000 (by omega) (by omega)
 have g1 := grow1 (l := (List.replicate A (0 : Int), List.replicate B (1 : Int), ())) (i := List.replicate C (2 : Int)) (m := [List.replicate A (0 : Int) ++ List.replicate 70 (125 : Int)]) (x := List.replicate B (1 : Int)) (by simp; omega) 70 0 1000 (by omega) (by omega)
 have g2 := grow2 (l := (List.replicate A (0 : Int), List.replicate B (1 : Int), List.replicate C (2 : Int))) (m := [List.replicate A (0 : Int) ++ List.replicate 70 (125 : Int)] ++ [List.replicate B (1 : Int) ++ List.replicate 70 (126 : Int)]) (x := List.replicate C (2 : Int)) (by simp; omega) 70 0 1000 (by omega) (by omega)
 rw [List.replicate_zero, List.append_nil] at g0 g1 g2
 have k0 := look0 (l := (List.replicate A (0 : Int), List.replicate B (1 : Int), List.replicate C (2 : Int))) (m := [List.replicate A (0 : Int) ++ List.replicate 70 (125 : Int)] ++ [List.replicate B (1 : Int) ++ List.replicate 70 (126 : Int)] ++ [List.replicate C (2 : Int) ++ List.replicate 70 (127 : Int)]) (n := A) (by omega) (by simp) rfl rfl (A + 70) 0 bigFuel (by omega) (by omega)
 have k1 := look1 (l := (List.replicate A (0 : Int), List.replicate B (1 : Int), List.replicate C (2 : Int))) (m := [List.replicate A (0 : Int) ++ List.replicate 70 (125 : Int)] ++ [List.replicate B (1 : Int) ++ List.replicate 70 (126 : Int)] ++ [List.replicate C (2 : Int) ++ List.replicate 70 (127 : Int)]) (n := B) (by omega) (by simp) rfl rfl (B + 70) 0 bigFuel (by omega) (by omega)
 have k2 := look2 (l := (List.replicate A (0 : Int), List.replicate B (1 : Int), List.replicate C (2 : Int))) (m := [List.replicate A (0 : Int) ++ List.replicate 70 (125 : Int)] ++ [List.replicate B (1 : Int) ++ List.replicate 70 (126 : Int)] ++ [List.replicate C (2 : Int) ++ List.replicate 70 (127 : Int)]) (n := C) (by omega) (by simp) rfl rfl (C + 70) 0 bigFuel (by omega) (by omega)
 have lA : (List.replicate A (0 : Int)).length = A := List.length_replicate
 have lB : (List.replicate B (1 : Int)).length = B := List.length_replicate
 have lC : (List.replicate C (2 : Int)).length = C := List.length_replicate
 generalize List.replicate A (0 : Int) = xa at *
 generalize List.replicate B (1 : Int) = xb at *
 generalize List.replicate C (2 : Int) = xc at *
 refine bind_step ((law06IApartL1_eq _ _ _ _ _).trans f0) (bind_step ((law06IApartL1v1_eq _ _ _ _ _).trans f1) (bind_step ((law06IApartL1v2_eq _ _ _ _ _).trans f2) ?_))
 refine bind_step ((law06IApartL3_eq _ _ _ _ _).trans g0) (guard_step rfl ?_)
 refine bind_step ((law06IApartL3v1_eq _ _ _ _ _).trans g1) (guard_step rfl (bind_step rfl ?_))
 refine bind_step ((law06IApartL3v2_eq _ _ _ _).trans g2) (guard_step rfl (bind_step rfl ?_))
 refine bind_step ((law06IApartL5_eq _ _ _ _).trans (by rw [lA]; exact k0)) ?_
 refine bind_step ((law06IApartL5v1_eq _ _ _ _).trans (by rw [lB]; exact k1)) ?_
 exact bind_step ((law06IApartL5v2_eq _ _ _ _).trans (by rw [lC]; exact k2)) rfl
theorem turnL0 {data : List Int} (hn : data.length ≤ 140737488351232) (hd : Bytes data) {f : Int} {s : P3} {x y : List Int} : ∀ (r i fuel : Nat) (b : List Int), i + r = data.length → r < fuel → b.length = data.length + 70 → Bytes b →
  ∃ b', Bytes b' ∧ b'.length = data.length + 70 ∧ iter (fun p : List Int × Int × (Nat × Nat) × Int × (Nat × Nat × Bool) × List Int × List Int × List Int => law06EcdsaPacksL0R p.1 p.2.1 p.2.2.1 p.2.2.2.1 p.2.2.2.2.1 p.2.2.2.2.2.1 p.2.2.2.2.2.2.1 p.2.2.2.2.2.2.2) fuel (data, f, (0, data.length), (i : Int), s, x, y, b) = some (f, (0, data.length), s, x, y, b')
 | 0, i, fuel, b, hi, hf, hb, hB => by
  obtain ⟨fuel, rfl⟩ : ∃ n, fuel = n + 1 := ⟨fuel - 1, by omega⟩
  refine ⟨b, hB, hb, iter_end ?_⟩
  show law06EcdsaPacksL0R data f (0, data.length) (i : Int) s x y b = _
  unfold law06EcdsaPacksL0R
  exact guard_else (decide_eq_false (by omega)) rfl
 | r + 1, i, fuel, b, hi, hf, hb, hB => by
  obtain ⟨fuel, rfl⟩ : ∃ n, fuel = n + 1 := ⟨fuel - 1, by omega⟩
  have e1 : IntKind.wrap .i64 ((IntKind.wrap .i64 (((data.length : Nat) : Int) - (1 : Int))) - (i : Int)) = ((data.length - 1 - i : Nat) : Int) := by
   have e2 : IntKind.wrap .i64 (((data.length : Nat) : Int) - (1 : Int)) = ((data.length : Nat) : Int) - 1 := wI64z _ (by omega) (by omega)
   rw [e2, wI64z _ (by omega) (by omega)]; omega
  have hv := hd (data.length - 1 - i)
  obtain ⟨b', h1, h2, h3⟩ := turnL0 hn hd (f := f) (s := s) (x := x) (y := y) r (i + 1) fuel (b.set i (data.getD (data.length - 1 - i) (0 : Int))) (by omega) (by omega) (by simpa using hb) (hB.set i hv.1 hv.2)
  refine ⟨b', h1, h2, iter_more ?_ h3⟩
  show law06EcdsaPacksL0R data f (0, data.length) (i : Int) s x y b = _
  unfold law06EcdsaPacksL0R
  have t1 : Int.toNat ((data.length - 1 - i : Nat) : Int) = data.length - 1 - i := rfl
  have t2 : Int.toNat (i : Int) = i := rfl
  have e0 : (0, data.length).1 + i = i := Nat.zero_add i
  rw [e1, t1, t2, e0, wI64z _ (by omega) (by omega)]
  exact guard_step (decide_eq_true (by omega)) (guard_step (by simp) (guard_step (blt_of (by omega)) (guard_step (by simp) (guard_step (blt_of (show i < data.length by omega)) (guard_step (blt_of (by omega)) rfl)))))
theorem marks6_bytes : Bytes marks6 := fun j => by
 by_cases h : j < 70
 ·rw [show marks6.getD j (0 : Int) = 165 from getD_repl h]; exact ⟨by decide, by decide⟩
 ·rw [List.getD_eq_getElem?_getD, List.getElem?_eq_none (by simp [marks6]; omega)]; exact ⟨by decide, by decide⟩
theorem law06EcdsaPacks_true {s : P3} {data : List Int} (hs : In256 s) (hd : Bytes data) (hn : data.length ≤ 140737488351232) : law06EcdsaPacks s data = some true := by
 have hbig := bigFuel_eq
 rw [law06EcdsaPacks_eq]
 unfold law06EcdsaPacksB
 have hu := unpackV_lt hd
 have hgl : (data ++ marks6).length = data.length + 70 := by simp [marks6]
 obtain ⟨b', hB, hbl, hL⟩ := turnL0 hn hd (f := (packV s).1) (s := s) (x := (packV s).2) (y := (packV s).2) data.length 0 bigFuel (data ++ marks6) (by omega) (by omega) hgl (hd.app marks6_bytes)
 have tk : List.take (0, data.length).2 (List.drop (0, data.length).1 (data ++ marks6)) = data := by
  show List.take data.length (List.drop 0 (data ++ marks6)) = data
  rw [List.drop_zero, List.take_left' rfl]
 have hnb : Nat.ble ((0, data.length).1 + (0, data.length).2) (data ++ marks6).length = true := Nat.ble_eq_true_of_le (by show 0 + data.length ≤ _; omega)
 have hnb' : Nat.ble ((0, data.length).1 + (0, data.length).2) b'.length = true := Nat.ble_eq_true_of_le (by show 0 + data.length ≤ _; omega)
 have hv : Bytes (List.take (0, data.length).2 (List.drop (0, data.length).1 b')) := (hB.drp 0).tak _
 have hvl : (List.take (0, data.length).2 (List.drop (0, data.length).1 b')).length ≤ 140737488355328 := by
  show (List.take data.length (List.drop 0 b')).length ≤ _
  rw [List.length_take]; omega
 have hw := unpackV_lt hv
 have p1 := packV_len s
 have p2 := packV_len (unpackV (List.take (0, data.length).2 (List.drop (0, data.length).1 b'))).1
 refine bind_step (ecdsaPack_all hs) (bind_step (ref06Pack_all hs) (bind_step (law06ISame_self (by omega)) (guard_else rfl (bind_step (law06INum_val _) (guard_else (by simp) ?_)))))
 refine bind_step (law06ILent_val hn) (guard_step hnb ?_)
 show (ecdsaUnpack (List.take (0, data.length).2 (List.drop (0, data.length).1 (data ++ marks6)))).bind _ = _
 rw [tk]
 refine bind_step (ecdsaUnpack_val hd) (bind_step (ref06Unpack_val hd) (guard_else (nsameP hu) (bind_step (law06INum_val _) (guard_else (by simp) ?_))))
 refine bind_step (law06IStill_val hn) (guard_else rfl (bind_step ((law06EcdsaPacksL0_eq _ _ _ _ _ _ _ _).trans hL) (guard_step hnb' ?_)))
 refine bind_step (ecdsaUnpack_val hv) (guard_step hnb' (bind_step (law06ICopied_val hvl) (bind_step (ref06Unpack_val hv) (guard_else (nsameP hw) (bind_step (law06INum_val _) (guard_else (by simp) ?_))))))
 have hS := law06ISame_self (a := (packV s).2) (by omega)
 have hV := law06ISame_self (a := (packV (unpackV (List.take (0, data.length).2 (List.drop (0, data.length).1 b'))).1).2) (by omega)
 have hA := law06IApart_val (a := (packV s).2) (b := (packV s).2) (c := (packV (unpackV (List.take (0, data.length).2 (List.drop (0, data.length).1 b'))).1).2) (by omega) (by omega) (by omega)
 refine bind_step (ecdsaPack_all hs) (bind_step (ecdsaPack_all hw) (bind_step (ref06Pack_all hw) (bind_step hS (guard_step rfl (bind_step (law06INum_val _) (guard_step (by simp) (bind_step hV (guard_step rfl (bind_step (law06INum_val _) (guard_step (by simp) ?_))))))))))
 exact bind_step hA rfl
end Go.Sy
