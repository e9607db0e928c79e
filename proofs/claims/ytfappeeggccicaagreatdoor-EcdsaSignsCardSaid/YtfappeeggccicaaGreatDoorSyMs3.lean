/- SHA-256: the tables are roots of primes, as the document reckons them. -/
import Derived.Test.YtfappeeggccicaaGreatDoorSyMs2
set_option linter.unusedVariables false
set_option linter.unusedSimpArgs false
noncomputable section
namespace Go.Sy
open Go
def nl (l : List Nat) : List Int := List.map (fun n : Nat => (n : Int)) l
def nv : List Nat → Nat
 | [] => 0
 | a :: l => a + 65536 * nv l
def lok (l : List Nat) : Prop := ∀ a ∈ l, a < 65536
theorem nl_app (a b : List Nat) : nl (a ++ b) = nl a ++ nl b := List.map_append
theorem nl_cons (a : Nat) (b : List Nat) : nl (a :: b) = (a : Int) :: nl b := rfl
theorem nl_len (a : List Nat) : (nl a).length = a.length := List.length_map _
theorem nl_getD (l : List Nat) (i : Nat) : (nl l).getD i 0 = ((l.getD i 0 : Nat) : Int) := by
 unfold nl
 rw [List.getD_eq_getElem?_getD, List.getD_eq_getElem?_getD, List.getElem?_map]
 cases l[i]? <;> rfl
theorem nv_app : ∀ (a b : List Nat), nv (a ++ b) = nv a + 65536 ^ a.length * nv b
 | [], b => by simp [nv]
 | x :: a, b => by
  have := nv_app a b
  simp only [List.cons_append, nv, List.length_cons, Nat.pow_succ, this]
  grind
theorem nv_zero : ∀ n : Nat, nv (List.replicate n 0) = 0
 | 0 => rfl
 | n + 1 => by rw [List.replicate_succ, nv, nv_zero n]
theorem nv_lt : ∀ {l : List Nat}, lok l → nv l < 65536 ^ l.length
 | [], _ => by simp [nv]
 | a :: l, h => by
  have h1 := nv_lt (l := l) fun b hb => h b (List.mem_cons_of_mem _ hb)
  have h2 := h a (List.mem_cons_self ..)
  simp only [nv, List.length_cons, Nat.pow_succ]
  omega
theorem lok_app {a b : List Nat} (h1 : lok a) (h2 : lok b) : lok (a ++ b) := fun c hc => by
 rcases List.mem_append.1 hc with h | h
 ·exact h1 c h
 ·exact h2 c h
theorem lok_cons {a : Nat} {b : List Nat} (h1 : a < 65536) (h2 : lok b) : lok (a :: b) := fun c hc => by
 rcases List.mem_cons.1 hc with h | h
 ·rw [h]; exact h1
 ·exact h2 c h
theorem lok_take {l : List Nat} (h : lok l) (n : Nat) : lok (l.take n) := fun a ha => h a (List.mem_of_mem_take ha)
theorem lok_drop {l : List Nat} (h : lok l) (n : Nat) : lok (l.drop n) := fun a ha => h a (List.mem_of_mem_drop ha)
theorem lok_zero (n : Nat) : lok (List.replicate n 0) := fun a ha => by rw [(List.mem_replicate.1 ha).2]; decide
theorem lok_getD {l : List Nat} (h : lok l) (i : Nat) : l.getD i 0 < 65536 := by
 rw [List.getD_eq_getElem?_getD]
 cases e : l[i]? with
 | none => exact (by decide : 0 < 65536)
 | some a => exact h a (List.mem_of_getElem? e)
theorem mul16 {a b : Nat} (ha : a < 65536) (hb : b < 65536) : a * b ≤ 4294836225 := by
 have := Nat.mul_le_mul (show a ≤ 65535 by omega) (show b ≤ 65535 by omega)
 omega
theorem prodL1 {i : Nat} {x : List Nat} {b4 : List Int} (hi : i < 8) (hx : x.getD i 0 < 65536) : ∀ (ys zs : List Nat) (j fuel c : Nat) (pre post yp yr : List Nat), yp.length = j → j + ys.length = 8 → zs.length = ys.length → pre.length = i + j → lok ys → lok zs → c < 65536 → ys.length < fuel →
  ∃ zs' c', zs'.length = zs.length ∧ lok zs' ∧ c' < 65536 ∧ nv zs' + c' * 65536 ^ zs.length = nv zs + x.getD i 0 * nv ys + c ∧
   iter (fun p : Int × Int × Int × List Int × List Int × List Int × List Int => ref03IProductL1R p.1 p.2.1 p.2.2.1 p.2.2.2.1 p.2.2.2.2.1 p.2.2.2.2.2.1 p.2.2.2.2.2.2) fuel ((i : Int), (c : Int), (j : Int), nl x, nl (yp ++ (ys ++ yr)), b4, nl (pre ++ (zs ++ post))) = some ((i : Int), (c' : Int), nl x, nl (yp ++ (ys ++ yr)), b4, nl (pre ++ (zs' ++ post)))
 | [], [], j, fuel, c, pre, post, yp, yr, h1, h2, h3, h4, h5, h6, h7, hf => by
  obtain ⟨fuel, rfl⟩ : ∃ n, fuel = n + 1 := ⟨fuel - 1, by omega⟩
  refine ⟨[], c, rfl, fun a ha => (by cases ha), h7, by simp [nv], iter_end ?_⟩
  show ref03IProductL1R (i : Int) (c : Int) (j : Int) _ _ b4 _ = _
  unfold ref03IProductL1R
  simp only [List.length_nil] at h2
  exact guard_else (decide_eq_false (by omega)) rfl
 | [], z :: zs, j, fuel, c, pre, post, yp, yr, h1, h2, h3, h4, h5, h6, h7, hf => by cases h3
 | y :: ys, [], j, fuel, c, pre, post, yp, yr, h1, h2, h3, h4, h5, h6, h7, hf => by cases h3
 | y :: ys, z :: zs, j, fuel, c, pre, post, yp, yr, h1, h2, h3, h4, h5, h6, h7, hf => by
  obtain ⟨fuel, rfl⟩ : ∃ n, fuel = n + 1 := ⟨fuel - 1, by omega⟩
  simp only [List.length_cons] at h2 h3 hf
  have hy : y < 65536 := h5 y (List.mem_cons_self ..)
  have hz : z < 65536 := h6 z (List.mem_cons_self ..)
  have hm := mul16 hx hy
  obtain ⟨zs', c', k1, k2, k3, k4, k5⟩ := prodL1 (b4 := b4) hi hx ys zs (j + 1) fuel ((z + x.getD i 0 * y + c) / 65536) (pre ++ [(z + x.getD i 0 * y + c) % 65536]) post (yp ++ [y]) yr (by simp [h1]) (by omega) (by omega) (by simp [h4]; omega) (fun a ha => h5 a (List.mem_cons_of_mem _ ha)) (fun a ha => h6 a (List.mem_cons_of_mem _ ha)) (by omega) (by omega)
  refine ⟨(z + x.getD i 0 * y + c) % 65536 :: zs', c', by simp [k1], lok_cons (Nat.mod_lt _ (by decide)) k2, k3, ?_, ?_⟩
  ·have hd := Nat.mod_add_div (z + x.getD i 0 * y + c) 65536
   simp only [nv, List.length_cons, Nat.pow_succ]
   generalize (z + x.getD i 0 * y + c) % 65536 = r at *
   generalize (z + x.getD i 0 * y + c) / 65536 = q at *
   grind
  ·simp only [List.append_assoc, List.cons_append, List.nil_append] at k5 ⊢
   refine iter_more ?_ k5
   show ref03IProductL1R (i : Int) (c : Int) (j : Int) (nl x) (nl (yp ++ y :: (ys ++ yr))) b4 (nl (pre ++ z :: (zs ++ post))) = _
   unfold ref03IProductL1R
   have e1 : IntKind.wrap .i64 ((i : Int) + (j : Int)) = ((i + j : Nat) : Int) := by rw [w64z _ (by omega) (by omega)]; omega
   have g1 : (nl (pre ++ z :: (zs ++ post))).getD (i + j) 0 = (z : Int) := by rw [nl_app, nl_cons, getD_mid (by rw [nl_len, h4])]
   have g2 : (nl (yp ++ y :: (ys ++ yr))).getD j 0 = (y : Int) := by rw [nl_app, nl_cons, getD_mid (by rw [nl_len, h1])]
   rw [e1]
   simp only [Int.toNat_natCast]
   rw [g1, g2, nl_getD]
   have e2 : ((x.getD i 0 : Nat) : Int) * (y : Int) = ((x.getD i 0 * y : Nat) : Int) := (Int.natCast_mul _ _).symm
   rw [e2]
   generalize hp : x.getD i 0 * y = p at *
   have e3 : IntKind.wrap .i64 ((p : Nat) : Int) = (p : Int) := w64z _ (by omega) (by omega)
   have e4 : IntKind.wrap .i64 ((z : Int) + (p : Int)) = ((z + p : Nat) : Int) := by rw [w64z _ (by omega) (by omega)]; omega
   have e5 : IntKind.wrap .i64 (((z + p : Nat) : Int) + (c : Int)) = ((z + p + c : Nat) : Int) := by rw [w64z _ (by omega) (by omega)]; omega
   have e6 : Int.tmod ((z + p + c : Nat) : Int) 65536 = (((z + p + c) % 65536 : Nat) : Int) := rfl
   have e7 : Int.tdiv ((z + p + c : Nat) : Int) 65536 = (((z + p + c) / 65536 : Nat) : Int) := rfl
   rw [e3, e4, e5, e6, e7]
   refine guard_step (decide_eq_true (by omega)) (guard_step (dn0 _) (guard_step (blt_lt (by omega)) (guard_step (blt_lt (by omega)) (guard_step (dn0 _) (guard_step (blt_lt (by omega)) (guard_step (blt_lt (by omega)) (guard_step (dn0 _) (guard_step (blt_lt (by omega)) (guard_step (blt_lt (by omega)) (guard_step (dn0 _) (guard_step (blt_lt (by omega)) (guard_step (blt_lt (by omega)) ?_))))))))))))
   have e8 : IntKind.wrap .i64 (((z + p + c) / 65536 : Nat) : Int) = (((z + p + c) / 65536 : Nat) : Int) := w64z _ (by omega) (by omega)
   have e9 : IntKind.wrap .i64 ((j : Int) + 1) = ((j + 1 : Nat) : Int) := by rw [w64z _ (by omega) (by omega)]; omega
   rw [e8, e9, nl_app pre, nl_cons, set_mid (by rw [nl_len, h4]), nl_app pre, nl_cons]
theorem nv_take {x : List Nat} {i : Nat} (h : i < x.length) : nv (x.take (i + 1)) = nv (x.take i) + 65536 ^ i * x.getD i 0 := by
 have e : x.take (i + 1) = x.take i ++ [x.getD i 0] := by
  rw [List.take_add_one, List.getElem?_eq_getElem h, List.getD_eq_getElem?_getD, List.getElem?_eq_getElem h]; rfl
 rw [e, nv_app, List.length_take, Nat.min_eq_left (by omega)]
 simp [nv]
theorem prodL0 {x y8 yr : List Nat} {b4 : List Int} (hx : x.length = 16) (hxo : lok x) (hy : y8.length = 8) (hyo : lok y8) : ∀ (r i fuel : Nat) (w : List Nat), i + r = 8 → w.length = i + 8 → lok w → nv w = nv (x.take i) * nv y8 → r < fuel →
  ∃ w', w'.length = 16 ∧ lok w' ∧ nv w' = nv (x.take 8) * nv y8 ∧ iter (fun p : Int × List Int × List Int × List Int × List Int => ref03IProductL0R p.1 p.2.1 p.2.2.1 p.2.2.2.1 p.2.2.2.2) fuel ((i : Int), nl x, nl (y8 ++ yr), b4, nl (w ++ List.replicate (8 - i) 0)) = some (b4, nl w')
 | 0, i, fuel, w, hi, hw, hwo, hv, hf => by
  obtain ⟨fuel, rfl⟩ : ∃ n, fuel = n + 1 := ⟨fuel - 1, by omega⟩
  have : i = 8 := by omega
  subst this
  refine ⟨w, hw, hwo, hv, iter_end ?_⟩
  show ref03IProductL0R ((8 : Nat) : Int) _ _ b4 _ = _
  unfold ref03IProductL0R
  rw [Nat.sub_self, List.replicate_zero, List.append_nil]
  exact guard_else (by decide) rfl
 | r + 1, i, fuel, w, hi, hw, hwo, hv, hf => by
  obtain ⟨fuel, rfl⟩ : ∃ n, fuel = n + 1 := ⟨fuel - 1, by omega⟩
  obtain ⟨m, c, k1, k2, k3, k4, k5⟩ := prodL1 (i := i) (x := x) (b4 := b4) (by omega) (lok_getD hxo i) y8 (w.drop i) 0 1000 0 (w.take i) (List.replicate (8 - i) 0) [] yr rfl (by omega) (by simp; omega) (by simp; omega) hyo (lok_drop hwo i) (by decide) (by omega)
  have hdl : (w.drop i).length = 8 := by simp; omega
  have htl : (w.take i).length = i := by simp; omega
  have hsp : w.take i ++ (w.drop i ++ List.replicate (8 - i) 0) = w ++ List.replicate (8 - i) 0 := by rw [← List.append_assoc, List.take_append_drop]
  rw [hsp, List.nil_append] at k5
  have hw' : nv w = nv (w.take i) + 65536 ^ i * nv (w.drop i) := by
   have := nv_app (w.take i) (w.drop i)
   rw [List.take_append_drop, htl] at this; exact this
  have hv' : nv (w.take i ++ (m ++ [c])) = nv (x.take (i + 1)) * nv y8 := by
   rw [nv_take (by omega), nv_app, nv_app, htl, k1, hdl]
   rw [hdl] at k4
   simp only [nv, Nat.mul_zero, Nat.add_zero] at k4 ⊢
   generalize (65536 : Nat) ^ 8 = P at *
   generalize (65536 : Nat) ^ i = Q at *
   have e : nv m + P * c = nv (w.drop i) + x.getD i 0 * nv y8 := by rw [Nat.mul_comm P]; exact k4
   rw [e]
   grind
  obtain ⟨w', j1, j2, j3, j4⟩ := prodL0 (yr := yr) (b4 := b4) hx hxo hy hyo r (i + 1) fuel (w.take i ++ (m ++ [c])) (by omega) (by simp [k1]; omega) (lok_app (lok_take hwo i) (lok_app k2 (lok_cons k3 (fun a ha => by cases ha)))) hv' (by omega)
  refine ⟨w', j1, j2, j3, iter_more ?_ j4⟩
  show ref03IProductL0R (i : Int) (nl x) (nl (y8 ++ yr)) b4 (nl (w ++ List.replicate (8 - i) 0)) = _
  unfold ref03IProductL0R
  refine guard_step (decide_eq_true (by omega)) (bind_step ((ref03IProductL1_eq _ _ _ _ _ _ _).trans k5) ?_)
  have e1 : IntKind.wrap .i64 ((i : Int) + 8) = ((i + 8 : Nat) : Int) := by rw [w64z _ (by omega) (by omega)]; omega
  have e2 : IntKind.wrap .i64 ((i : Int) + 1) = ((i + 1 : Nat) : Int) := by rw [w64z _ (by omega) (by omega)]; omega
  simp only [e1, e2, Int.toNat_natCast]
  have hr : List.replicate (8 - i) (0 : Nat) = 0 :: List.replicate (8 - (i + 1)) 0 := by rw [show 8 - i = (8 - (i + 1)) + 1 by omega, List.replicate_succ]
  have hl2 : (w.take i ++ m).length = i + 8 := by simp [k1]; omega
  have e3 : w.take i ++ (m ++ List.replicate (8 - i) 0) = (w.take i ++ m) ++ 0 :: List.replicate (8 - (i + 1)) 0 := by rw [hr, List.append_assoc]
  rw [e3, nl_app (w.take i ++ m), nl_cons, getD_mid (by rw [nl_len, hl2]), set_mid (by rw [nl_len, hl2])]
  refine guard_step (dn0 _) (guard_step (blt_lt (by omega)) (guard_step (blt_lt (by omega)) (guard_step (dn0 _) (guard_step (blt_lt (by omega)) (guard_step (blt_lt (by omega)) ?_)))))
  have e4 : IntKind.wrap .i64 (((0 : Nat) : Int) + (c : Int)) = (c : Int) := by rw [w64z _ (by omega) (by omega)]; omega
  have e5 : (w.take i ++ (m ++ [c])) ++ List.replicate (8 - (i + 1)) 0 = (w.take i ++ m) ++ c :: List.replicate (8 - (i + 1)) 0 := by simp
  rw [e4, e5, nl_app (w.take i ++ m), nl_cons]
theorem take8 {x : List Nat} (hx : x.length = 16) (h : nv x < 65536 ^ 8) : nv (x.take 8) = nv x := by
 have h1 := nv_app (x.take 8) (x.drop 8)
 rw [List.take_append_drop, List.length_take, hx] at h1
 have h0 : nv (x.drop 8) = 0 := by
  rcases Nat.eq_zero_or_pos (nv (x.drop 8)) with h | h'
  ·exact h
  ·have : 65536 ^ 8 * 1 ≤ 65536 ^ 8 * nv (x.drop 8) := Nat.mul_le_mul_left _ h'
   simp only [Nat.min_eq_left (show 8 ≤ 16 by decide)] at h1
   omega
 rw [h0] at h1
 omega
theorem refProduct_val {x y : List Nat} (hx : x.length = 16) (hxo : lok x) (hy : y.length = 16) (hyo : lok y) (hxv : nv x < 65536 ^ 8) (hyv : nv y < 65536 ^ 8) :
  ∃ z, z.length = 16 ∧ lok z ∧ nv z = nv x * nv y ∧ ref03IProduct (nl x) (nl y) = some (nl z) := by
 obtain ⟨w, h1, h2, h3, h4⟩ := prodL0 (x := x) (y8 := y.take 8) (yr := y.drop 8) (b4 := List.replicate 16 0) hx hxo (by simp; omega) (lok_take hyo 8) 8 0 1000 (List.replicate 8 0) (by omega) (by simp) (lok_zero 8) (by rw [nv_zero]; simp [nv]) (by omega)
 rw [take8 hx hxv, take8 hy hyv] at h3
 refine ⟨w, h1, h2, h3, ?_⟩
 rw [ref03IProduct_eq]
 unfold ref03IProductB
 rw [List.take_append_drop] at h4
 exact bind_step ((ref03IProductL0_eq _ _ _ _ _).trans h4) rfl
theorem atMostL0 : ∀ (n fuel : Nat) (xp yp t : List Nat), xp.length = n → yp.length = n → n ≤ 16 → lok xp → lok yp → n < fuel →
  ∃ q, iter (fun p : Int × List Int × List Int => ref03IAtMostL0R p.1 p.2.1 p.2.2) fuel ((n : Int) - 1, nl (xp ++ t), nl (yp ++ t)) = some q ∧ (q = .inr () ∧ nv (xp ++ t) = nv (yp ++ t) ∨ ∃ b, q = .inl b ∧ b = decide (nv (xp ++ t) ≤ nv (yp ++ t)))
 | 0, fuel, xp, yp, t, hx, hy, hn, ho, ho2, hf => by
  obtain ⟨fuel, rfl⟩ : ∃ n, fuel = n + 1 := ⟨fuel - 1, by omega⟩
  have e1 : xp = [] := List.length_eq_zero_iff.1 hx
  have e2 : yp = [] := List.length_eq_zero_iff.1 hy
  subst e1; subst e2
  refine ⟨.inr (), iter_end ?_, .inl ⟨rfl, rfl⟩⟩
  show ref03IAtMostL0R (((0 : Nat) : Int) - 1) _ _ = _
  unfold ref03IAtMostL0R
  exact guard_else (by decide) rfl
 | n + 1, fuel, xp, yp, t, hx, hy, hn, ho, ho2, hf => by
  obtain ⟨fuel, rfl⟩ : ∃ n, fuel = n + 1 := ⟨fuel - 1, by omega⟩
  obtain ⟨xs, a, rfl⟩ : ∃ l a, xp = l ++ [a] := ⟨xp.dropLast, xp.getLast (by intro e; subst e; cases hx), (List.dropLast_concat_getLast _).symm⟩
  obtain ⟨ys, b, rfl⟩ : ∃ l a, yp = l ++ [a] := ⟨yp.dropLast, yp.getLast (by intro e; subst e; cases hy), (List.dropLast_concat_getLast _).symm⟩
  have hxl : xs.length = n := by simpa using hx
  have hyl : ys.length = n := by simpa using hy
  have hxs : lok xs := fun c hc => ho c (by simp [hc])
  have hys : lok ys := fun c hc => ho2 c (by simp [hc])
  simp only [List.append_assoc, List.singleton_append]
  have e0 : (((n + 1 : Nat) : Int) - 1) = (n : Int) := by omega
  rw [e0]
  have ga : (nl (xs ++ a :: t)).getD n 0 = (a : Int) := by rw [nl_app, nl_cons, getD_mid (by rw [nl_len, hxl])]
  have gb : (nl (ys ++ b :: t)).getD n 0 = (b : Int) := by rw [nl_app, nl_cons, getD_mid (by rw [nl_len, hyl])]
  by_cases hab : a = b
  ·subst hab
   obtain ⟨q, h1, h2⟩ := atMostL0 n fuel xs ys (a :: t) hxl hyl (by omega) hxs hys (by omega)
   refine ⟨q, iter_more ?_ h1, h2⟩
   show ref03IAtMostL0R (n : Int) _ _ = _
   unfold ref03IAtMostL0R
   simp only [Int.toNat_natCast, ga, gb]
   refine guard_step (decide_eq_true (by omega)) (guard_step (dn0 _) (guard_step (blt_lt (by omega)) (guard_step (blt_lt (by omega)) (guard_step (dn0 _) (guard_step (blt_lt (by omega)) (guard_step (blt_lt (by omega)) (guard_else (by simp) ?_)))))))
   rw [w64z _ (by omega) (by omega)]
  ·have hv1 := nv_app xs (a :: t)
   have hv2 := nv_app ys (b :: t)
   have l1 := nv_lt hxs
   have l2 := nv_lt hys
   rw [hxl] at hv1 l1
   rw [hyl] at hv2 l2
   simp only [nv] at hv1 hv2
   refine ⟨.inl (decide ((a : Int) < (b : Int))), iter_end ?_, .inr ⟨_, rfl, ?_⟩⟩
   ·show ref03IAtMostL0R (n : Int) _ _ = _
    unfold ref03IAtMostL0R
    simp only [Int.toNat_natCast, ga, gb]
    exact guard_step (decide_eq_true (by omega)) (guard_step (dn0 _) (guard_step (blt_lt (by omega)) (guard_step (blt_lt (by omega)) (guard_step (dn0 _) (guard_step (blt_lt (by omega)) (guard_step (blt_lt (by omega)) (guard_step (by simp; omega) (guard_step (dn0 _) (guard_step (blt_lt (by omega)) (guard_step (blt_lt (by omega)) (guard_step (dn0 _) (guard_step (blt_lt (by omega)) (guard_step (blt_lt (by omega)) rfl)))))))))))))
   ·rw [hv1, hv2]
    generalize (65536 : Nat) ^ n = P at *
    generalize nv t = T at *
    rcases Nat.lt_or_ge a b with h | h
    ·rw [decide_eq_true (by omega), decide_eq_true]
     have : P * (a + 65536 * T + 1) ≤ P * (b + 65536 * T) := Nat.mul_le_mul_left _ (by omega)
     rw [Nat.mul_add, Nat.mul_one] at this
     omega
    ·rw [decide_eq_false (by omega), decide_eq_false]
     have : P * (b + 65536 * T + 1) ≤ P * (a + 65536 * T) := Nat.mul_le_mul_left _ (by omega)
     rw [Nat.mul_add, Nat.mul_one] at this
     omega
theorem refAtMost_val {x y : List Nat} (hx : x.length = 16) (hy : y.length = 16) (hxo : lok x) (hyo : lok y) : ref03IAtMost (nl x) (nl y) = some (decide (nv x ≤ nv y)) := by
 rw [ref03IAtMost_eq]
 unfold ref03IAtMostB
 obtain ⟨q, h1, h2⟩ := atMostL0 16 1000 x y [] hx hy (by omega) hxo hyo (by omega)
 rw [List.append_nil, List.append_nil] at h1 h2
 refine bind_step ((ref03IAtMostL0_eq _ _ _).trans h1) ?_
 rcases h2 with ⟨rfl, h2⟩ | ⟨b, rfl, rfl⟩
 ·rw [h2, decide_eq_true (Nat.le_refl _)]; rfl
 ·rfl
def limb16 (m : Nat) : List Nat := [m % 65536, m / 65536 % 65536, m / 65536 / 65536 % 65536, m / 65536 / 65536 / 65536 % 65536, 0, 0, 0, 0, 0, 0, 0, 0, 0, 0, 0, 0]
theorem refLimbs_val {m : Nat} (hm : m < 281474976710656) : ref03ILimbs (m : Int) = some (nl (limb16 m)) := by
 rw [ref03ILimbs_eq]
 unfold ref03ILimbsB
 have e1 : Int.tdiv (m : Int) 65536 = ((m / 65536 : Nat) : Int) := rfl
 have e2 : IntKind.wrap .i64 ((m / 65536 : Nat) : Int) = ((m / 65536 : Nat) : Int) := w64z _ (by omega) (by omega)
 have e3 : Int.tdiv ((m / 65536 : Nat) : Int) 65536 = ((m / 65536 / 65536 : Nat) : Int) := rfl
 have e4 : IntKind.wrap .i64 ((m / 65536 / 65536 : Nat) : Int) = ((m / 65536 / 65536 : Nat) : Int) := w64z _ (by omega) (by omega)
 have e5 : Int.tdiv ((m / 65536 / 65536 : Nat) : Int) 65536 = ((m / 65536 / 65536 / 65536 : Nat) : Int) := rfl
 have e6 : IntKind.wrap .i64 ((m / 65536 / 65536 / 65536 : Nat) : Int) = ((m / 65536 / 65536 / 65536 : Nat) : Int) := w64z _ (by omega) (by omega)
 rw [e1, e2, e3, e4, e5, e6]
 rfl
theorem limb16_len (m : Nat) : (limb16 m).length = 16 := rfl
theorem limb16_ok (m : Nat) : lok (limb16 m) := by
 intro a ha
 simp only [limb16, List.mem_cons, List.not_mem_nil, or_false] at ha
 rcases ha with h | h | h | h | h <;> omega
theorem limb16_nv {m : Nat} (hm : m < 281474976710656) : nv (limb16 m) = m := by
 simp only [limb16, nv]
 omega
theorem bitsL0 {k q : Nat} {W : List Nat} (hk : k = 2 ∨ k = 3) (hW : W.length = 16) (hWo : lok W) (hq1 : q ^ k ≤ nv W) (hq2 : nv W < (q + 1) ^ k) : ∀ (m lo hi fuel : Nat), lo ≤ q → q < hi → hi ≤ 281474976710656 → hi - lo ≤ 2 ^ m → m < fuel →
  iter (fun p : Int × Int × Int × List Int => ref03IBitsL0R p.1 p.2.1 p.2.2.1 p.2.2.2) fuel ((k : Int), (lo : Int), (hi : Int), nl W) = some (q : Int)
 | m, lo, hi, fuel, h1, h2, h3, h4, hf => by
  obtain ⟨fuel, rfl⟩ : ∃ n, fuel = n + 1 := ⟨fuel - 1, by omega⟩
  have ew : IntKind.wrap .i64 ((hi : Int) - (lo : Int)) = ((hi - lo : Nat) : Int) := by rw [w64z _ (by omega) (by omega)]; omega
  by_cases hd : hi - lo = 1
  ·have : lo = q := by omega
   subst this
   refine iter_end ?_
   show ref03IBitsL0R (k : Int) (lo : Int) (hi : Int) (nl W) = _
   unfold ref03IBitsL0R
   rw [ew]
   exact guard_else (decide_eq_false (by omega)) rfl
  ·cases m with
   | zero => simp at h4; omega
   | succ m =>
    rw [Nat.pow_succ] at h4
    have em1 : IntKind.wrap .i64 ((lo : Int) + (hi : Int)) = ((lo + hi : Nat) : Int) := by rw [w64z _ (by omega) (by omega)]; omega
    have em2 : Int.tdiv ((lo + hi : Nat) : Int) 2 = (((lo + hi) / 2 : Nat) : Int) := rfl
    have em3 : IntKind.wrap .i64 (((lo + hi) / 2 : Nat) : Int) = (((lo + hi) / 2 : Nat) : Int) := w64z _ (by omega) (by omega)
    generalize hmid : (lo + hi) / 2 = mid at *
    have hm48 : mid < 281474976710656 := by omega
    have hlv := limb16_nv hm48
    have hb : nv (limb16 mid) < 65536 ^ 8 := by rw [hlv]; exact Nat.lt_of_lt_of_le hm48 (by decide)
    obtain ⟨z2, a1, a2, a3, a4⟩ := refProduct_val (limb16_len mid) (limb16_ok mid) (limb16_len mid) (limb16_ok mid) hb hb
    rw [hlv] at a3
    have hsq : mid * mid < 65536 ^ 8 := by
     have := Nat.mul_le_mul (show mid ≤ 281474976710656 by omega) (show mid ≤ 281474976710656 by omega)
     exact Nat.lt_of_le_of_lt this (by decide)
    obtain ⟨z3, c1, c2, c3, c4⟩ := refProduct_val a1 a2 (limb16_len mid) (limb16_ok mid) (by rw [a3]; exact hsq) hb
    rw [a3, hlv] at c3
    have key : ∀ P : Nat, P = mid ^ k → (P ≤ nv W ↔ mid ≤ q) := fun P hP => by
     subst hP
     constructor
     ·intro h
      rcases Nat.lt_or_ge q mid with h' | h'
      ·have := Nat.pow_le_pow_left (show q + 1 ≤ mid from h') k
       omega
      ·exact h'
     ·intro h
      exact Nat.le_trans (Nat.pow_le_pow_left h k) hq1
    have hstep : ref03IBitsL0R (k : Int) (lo : Int) (hi : Int) (nl W) = some (.inl (if mid ≤ q then ((k : Int), (mid : Int), (hi : Int), nl W) else ((k : Int), (lo : Int), (mid : Int), nl W))) := by
     unfold ref03IBitsL0R
     rw [ew, em1, em2, em3]
     refine guard_step (decide_eq_true (by omega)) (bind_step (refLimbs_val hm48) (bind_step a4 ?_))
     rcases hk with rfl | rfl
     ·refine guard_else (by decide) (bind_step (refAtMost_val a1 hW a2 hWo) ?_)
      have := key (nv z2) (by rw [a3, Nat.pow_two])
      by_cases h : mid ≤ q
      ·rw [if_pos h, decide_eq_true (this.2 h)]; rfl
      ·rw [if_neg h, decide_eq_false (fun h' => h (this.1 h'))]; rfl
     ·refine guard_step (by decide) (bind_step c4 (bind_step (refAtMost_val c1 hW c2 hWo) ?_))
      have := key (nv z3) (by rw [c3, Nat.pow_succ, Nat.pow_two])
      by_cases h : mid ≤ q
      ·rw [if_pos h, decide_eq_true (this.2 h)]; rfl
      ·rw [if_neg h, decide_eq_false (fun h' => h (this.1 h'))]; rfl
    by_cases h : mid ≤ q
    ·rw [if_pos h] at hstep
     exact iter_more hstep (bitsL0 hk hW hWo hq1 hq2 m mid hi fuel h h2 h3 (by omega) (by omega))
    ·rw [if_neg h] at hstep
     exact iter_more hstep (bitsL0 hk hW hWo hq1 hq2 m lo mid fuel h1 (by omega) (by omega) (by omega) (by omega))
theorem refBits_val {n k q : Nat} (hk : k = 2 ∨ k = 3) (hn : n < 65536) (hq : q < 281474976710656) (hq1 : q ^ k ≤ n * 65536 ^ (2 * k)) (hq2 : n * 65536 ^ (2 * k) < (q + 1) ^ k) : ref03IBits (n : Int) (k : Int) = some ((q % 4294967296 : Nat) : Int) := by
 rw [ref03IBits_eq]
 unfold ref03IBitsB
 have e1 : IntKind.wrap .i64 ((2 : Int) * (k : Int)) = ((2 * k : Nat) : Int) := by rcases hk with rfl | rfl <;> decide
 rw [e1]
 simp only [Int.toNat_natCast]
 have e2 : (List.replicate 16 (0 : Int)).set (2 * k) (n : Int) = nl ((List.replicate 16 0).set (2 * k) n) := by rcases hk with rfl | rfl <;> rfl
 rw [e2]
 have hv : nv ((List.replicate 16 0).set (2 * k) n) = n * 65536 ^ (2 * k) := by rcases hk with rfl | rfl <;> (simp only [List.replicate, List.set, nv]; omega)
 have ho : lok ((List.replicate 16 0).set (2 * k) n) := fun a ha => by
  rcases List.mem_or_eq_of_mem_set ha with h | h
  ·exact lok_zero 16 a h
  ·rw [h]; exact hn
 refine guard_step (dn0 _) (guard_step (blt_lt (by rcases hk with rfl | rfl <;> decide)) (guard_step (blt_lt (by rcases hk with rfl | rfl <;> decide)) (bind_step ((ref03IBitsL0_eq _ _ _ _).trans (bitsL0 hk (by simp) ho (by rw [hv]; exact hq1) (by rw [hv]; exact hq2) 48 0 281474976710656 1000 (by omega) (by omega) (by omega) (by decide) (by omega))) ?_)))
 have e3 : Int.tmod (q : Int) 4294967296 = ((q % 4294967296 : Nat) : Int) := rfl
 rw [e3, wu32z _ (by omega) (by omega)]
def tab3 : List (Nat × Nat) := [(2, 5411319704), (3, 6194414737), (5, 7344290767), (7, 8215976869), (11, 9551921755), (13, 10098905585), (17, 11043570340), (19, 11460697813), (23, 12214315672), (29, 13195500289), (31, 13492127166), (37, 14311783875), (41, 14809980276), (43, 15046980094), (47, 15499789991), (53, 16133124468), (59, 16720292289), (61, 16907126662), (67, 17444216262), (71, 17784676812), (73, 17950125167), (79, 18429019306), (83, 18734950876), (89, 19175934170), (97, 19734090066), (101, 20001703533), (103, 20132865992), (107, 20390182855), (109, 20516441075), (113, 20764397895), (127, 21588763473), (131, 21813078375), (137, 22141143685), (139, 22248366392), (149, 22769593852), (151, 22871018771), (157, 23170020180), (163, 23461497531), (167, 23651862830), (173, 23931792517), (179, 24205322401), (181, 24295138891), (191, 24734567280), (193, 24820601251), (197, 24990902297), (199, 25075189284), (211, 25569408389), (223, 26045227120), (227, 26200031510), (229, 26276752392), (233, 26428864332), (239, 26653801653), (241, 26727943347), (251, 27092625994), (257, 27306805839), (263, 27517677555), (269, 27725365998), (271, 27793908591), (277, 27997534228), (281, 28131656200), (283, 28198240250), (293, 28526537963), (307, 28973835255), (311, 29099129074)]
def tab2 : List (Nat × Nat) := [(2, 6074000999), (3, 7439101573), (5, 9603838834), (7, 11363415354), (11, 14244795007), (13, 15485724812), (17, 17708603819), (19, 18721328409)]
def lookN : List (Nat × Nat) → Nat → Option Nat
 | [], _ => none
 | (p, q) :: l, n => bif Nat.beq p n then some q else lookN l n
def certB (k : Nat) : List (Nat × Nat) → Bool
 | [] => true
 | (p, q) :: l => Nat.blt p 65536 && (Nat.blt q 281474976710656 && (Nat.ble (q ^ k) (p * 65536 ^ (2 * k)) && (Nat.blt (p * 65536 ^ (2 * k)) ((q + 1) ^ k) && certB k l)))
theorem cert_spec {k : Nat} (hk : k = 2 ∨ k = 3) : ∀ {l : List (Nat × Nat)}, certB k l = true → ∀ n q, lookN l n = some q → ref03IBits (n : Int) (k : Int) = some ((q % 4294967296 : Nat) : Int)
 | [], _, n, q, h => by cases h
 | (p, r) :: l, hc, n, q, h => by
  simp only [certB, Bool.and_eq_true] at hc
  obtain ⟨h1, h2, h3, h4, h5⟩ := hc
  simp only [lookN] at h
  cases hb : Nat.beq p n
  ·rw [hb] at h; exact cert_spec hk h5 n q h
  ·rw [hb] at h
   have := Nat.eq_of_beq_eq_true hb
   subst this
   simp only [cond_true, Option.some.injEq] at h
   subst h
   exact refBits_val hk (by simpa using h1) (by simpa using h2) (Nat.le_of_ble_eq_true h3) (by simpa using h4)
def primeC (n : Nat) : Option Bool := (iter (fun p : Int × Int => ref03IPrimeL0R p.1 p.2) 1000 ((n : Int), 2)).bind fun q1 => sumK q1 (fun _ => some false) (fun _ => some true)
theorem prime_val (n : Nat) : ref03IPrime (n : Int) = primeC n := by
 rw [ref03IPrime_eq]
 unfold ref03IPrimeB primeC
 rw [ref03IPrimeL0_eq]
def sameB : Option Bool → Bool → Bool
 | some a, b => a == b
 | none, _ => false
def primesOk (tab : List (Nat × Nat)) : Nat → Nat → Bool
 | 0, _ => true
 | r + 1, n => sameB (primeC n) (lookN tab n).isSome && primesOk tab r (n + 1)
theorem primesOk_spec {tab : List (Nat × Nat)} : ∀ (r n : Nat), primesOk tab r n = true → ∀ m, n ≤ m → m < n + r → ref03IPrime (m : Int) = some (lookN tab m).isSome
 | 0, n, _, m, h1, h2 => by omega
 | r + 1, n, h, m, h1, h2 => by
  simp only [primesOk, Bool.and_eq_true] at h
  by_cases e : m = n
  ·subst e
   rw [prime_val]
   have := h.1
   unfold sameB at this
   split at this
   ·rename_i a b ha
    rw [ha, eq_of_beq this]
   ·cases this
  ·exact primesOk_spec r (n + 1) h.2 m (by omega) (by omega)
def goT (tab : List (Nat × Nat)) (count : Nat) : Nat → Nat → List Int → Option (List Int)
 | 0, _, _ => none
 | f + 1, n, acc => bif Nat.blt acc.length count then (match lookN tab n with
   | some q => goT tab count f (n + 1) (acc ++ [((q % 4294967296 : Nat) : Int)])
   | none => goT tab count f (n + 1) acc) else some acc
theorem rootsL0 {tab : List (Nat × Nat)} {k count r : Nat} (hk : k = 2 ∨ k = 3) (hcnt : count ≤ 1000) (hc : certB k tab = true) (hp : primesOk tab r 2 = true) (hr : r ≤ 1000) : ∀ (f n : Nat) (acc l : List Int), 2 ≤ n → n + f ≤ 2 + r + 1 → goT tab count f n acc = some l → ∀ fuel, f ≤ fuel →
  iter (fun p : Int × Int × Int × List Int => ref03RootsL0R p.1 p.2.1 p.2.2.1 p.2.2.2) fuel ((count : Int), (k : Int), (n : Int), acc) = some l
 | 0, n, acc, l, h2, hn, h, fuel, hf => by cases h
 | f + 1, n, acc, l, h2, hn, h, fuel, hf => by
  obtain ⟨fuel, rfl⟩ : ∃ n, fuel = n + 1 := ⟨fuel - 1, by omega⟩
  simp only [goT] at h
  cases hb : Nat.blt acc.length count
  ·rw [hb] at h
   simp only [cond_false, Option.some.injEq] at h
   subst h
   refine iter_end ?_
   show ref03RootsL0R (count : Int) (k : Int) (n : Int) acc = _
   unfold ref03RootsL0R
   have : ¬ acc.length < count := by
    intro h; have := blt_lt h; rw [hb] at this; cases this
   exact guard_else (decide_eq_false (by omega)) rfl
  ·rw [hb] at h
   have hlt : acc.length < count := by simpa using hb
   simp only [cond_true] at h
   have hpr : f = 0 ∨ n < 2 + r := by omega
   have hf0 : f ≠ 0 := by
    intro e; subst e
    split at h <;> cases h
   have hprime := primesOk_spec r 2 hp n h2 (by omega)
   split at h
   ·rename_i q hq
    refine iter_more (b := ((count : Int), (k : Int), ((n + 1 : Nat) : Int), acc ++ [((q % 4294967296 : Nat) : Int)])) ?_ (rootsL0 hk hcnt hc hp hr f (n + 1) _ l (by omega) (by omega) h fuel (by omega))
    show ref03RootsL0R (count : Int) (k : Int) (n : Int) acc = _
    unfold ref03RootsL0R
    rw [hq] at hprime
    refine guard_step (decide_eq_true (by omega)) (bind_step hprime (guard_step rfl (bind_step (cert_spec hk hc n q hq) (guard_step (room4 (by simp; omega)) ?_))))
    rw [w64z _ (by omega) (by omega)]
    rfl
   ·rename_i hq
    refine iter_more (b := ((count : Int), (k : Int), ((n + 1 : Nat) : Int), acc)) ?_ (rootsL0 hk hcnt hc hp hr f (n + 1) _ l (by omega) (by omega) h fuel (by omega))
    show ref03RootsL0R (count : Int) (k : Int) (n : Int) acc = _
    unfold ref03RootsL0R
    rw [hq] at hprime
    refine guard_step (decide_eq_true (by omega)) (bind_step hprime (guard_else rfl ?_))
    rw [w64z _ (by omega) (by omega)]
    rfl
theorem cert3 : certB 3 tab3 = true := by decide +kernel
theorem cert2 : certB 2 tab2 = true := by decide +kernel
theorem primes3 : primesOk tab3 310 2 = true := by kernel_rfl
theorem primes2 : primesOk tab2 18 2 = true := by kernel_rfl
theorem go3 : goT tab3 64 311 2 [] = some shaConstsT := by decide +kernel
theorem go2 : goT tab2 8 19 2 [] = some shaStartT := by decide +kernel
theorem refRoots3_val : ref03Roots 64 3 = some shaConstsT := by
 rw [ref03Roots_eq]
 unfold ref03RootsB
 exact bind_step ((ref03RootsL0_eq _ _ _ _).trans (rootsL0 (tab := tab3) (k := 3) (count := 64) (r := 310) (.inr rfl) (by decide) cert3 primes3 (by decide) 311 2 [] _ (by decide) (by decide) go3 1000 (by decide))) rfl
theorem refRoots2_val : ref03Roots 8 2 = some shaStartT := by
 rw [ref03Roots_eq]
 unfold ref03RootsB
 exact bind_step ((ref03RootsL0_eq _ _ _ _).trans (rootsL0 (tab := tab2) (k := 2) (count := 8) (r := 18) (.inl rfl) (by decide) cert2 primes2 (by decide) 19 2 [] _ (by decide) (by decide) go2 1000 (by decide))) rfl
theorem refStart_val : ref03Start = some shaStartT := by
 rw [ref03Start_eq]
 unfold ref03StartB
 exact bind_step refRoots2_val (by kernel_rfl)
end Go.Sy
