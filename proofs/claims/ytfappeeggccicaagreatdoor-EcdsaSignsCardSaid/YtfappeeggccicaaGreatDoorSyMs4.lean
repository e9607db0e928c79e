/- SHA-256: what is put behind a text, the blocks one by one, the hasher and the digest. -/
import Derived.Test.YtfappeeggccicaaGreatDoorSyMs3
set_option linter.unusedVariables false
set_option linter.unusedSimpArgs false
noncomputable section
namespace Go.Sy
open Go
theorem Bytes_of {l : List Int} (h : ∀ a ∈ l, 0 ≤ a ∧ a < 256) : Bytes l := fun i => by
 rw [List.getD_eq_getElem?_getD]
 cases e : l[i]? with
 | none => exact ⟨by decide, by decide⟩
 | some a => exact h a (List.mem_of_getElem? e)
theorem Bytes_mem {l : List Int} (h : Bytes l) : ∀ a ∈ l, 0 ≤ a ∧ a < 256 := fun a ha => by
 obtain ⟨i, hi, e⟩ := List.getElem_of_mem ha
 have := h i
 rw [List.getD_eq_getElem?_getD, List.getElem?_eq_getElem hi, e] at this
 exact this
theorem Bytes_app {a b : List Int} (ha : Bytes a) (hb : Bytes b) : Bytes (a ++ b) := Bytes_of fun c hc => by
 rcases List.mem_append.1 hc with h | h
 ·exact Bytes_mem ha c h
 ·exact Bytes_mem hb c h
theorem Bytes_take {a : List Int} (ha : Bytes a) (n : Nat) : Bytes (a.take n) := Bytes_of fun c hc => Bytes_mem ha c (List.mem_of_mem_take hc)
theorem Bytes_drop {a : List Int} (ha : Bytes a) (n : Nat) : Bytes (a.drop n) := Bytes_of fun c hc => Bytes_mem ha c (List.mem_of_mem_drop hc)
theorem Bytes_zero (n : Nat) : Bytes (List.replicate n 0) := Bytes_of fun c hc => by rw [(List.mem_replicate.1 hc).2]; decide
theorem Bytes_cons {a : Int} {l : List Int} (h : 0 ≤ a ∧ a < 256) (hl : Bytes l) : Bytes (a :: l) := Bytes_of fun c hc => by
 rcases List.mem_cons.1 hc with e | e
 ·rw [e]; exact h
 ·exact Bytes_mem hl c e
theorem Bytes_nil : Bytes [] := Bytes_of fun c hc => by cases hc
theorem wrapU8 (x : Int) : 0 ≤ IntKind.wrap .u8 x ∧ IntKind.wrap .u8 x < 256 := by
 have h1 : (IntKind.u8).signed = false := rfl
 have h2 : (2 : Int) ^ (IntKind.u8).bits = 256 := rfl
 simp only [IntKind.wrap, h1, h2, Bool.false_and, Bool.false_eq_true, if_false]
 omega
def padZ (n : Nat) : Nat := (64 - (n % 64 + 9) % 64) % 64
def outP (m i : Nat) : Int := IntKind.wrap .u8 (shrI .u64 (m : Int) ((8 * i : Nat) : Int))
def beN (m : Nat) : Nat → List Int
 | 0 => []
 | r + 1 => outP m r :: beN m r
theorem beN_len (m : Nat) : ∀ r, (beN m r).length = r
 | 0 => rfl
 | r + 1 => by simp [beN, beN_len m r]
theorem beN_bytes (m : Nat) : ∀ r, Bytes (beN m r)
 | 0 => Bytes_nil
 | r + 1 => Bytes_cons (wrapU8 _) (beN_bytes m r)
def padS (n : Nat) : List Int := 128 :: (List.replicate (padZ n) 0 ++ beN (n * 8) 8)
theorem padS_len (n : Nat) : (padS n).length = 9 + padZ n := by simp [padS, beN_len]; omega
theorem padS_bytes (n : Nat) : Bytes (padS n) := Bytes_cons (by decide) (Bytes_app (Bytes_zero _) (beN_bytes _ _))
theorem pad_mod (n : Nat) : (n + (padS n).length) % 64 = 0 := by rw [padS_len]; unfold padZ; omega
theorem padR0 {n : Nat} (hn : n ≤ 1000000) : ∀ (r j fuel : Nat), j + r = padZ n → r < fuel →
  iter (fun p : Int × List Int => ref03PadL0R p.1 p.2) fuel ((n : Int), 128 :: List.replicate j 0) = some ((n : Int), 128 :: List.replicate (padZ n) 0)
 | r, j, fuel, hj, hf => by
  obtain ⟨fuel, rfl⟩ : ∃ n, fuel = n + 1 := ⟨fuel - 1, by omega⟩
  have e1 : Int.tmod (n : Int) 64 = ((n % 64 : Nat) : Int) := rfl
  have el : (128 :: List.replicate j (0 : Int)).length = 1 + j := by simp; omega
  have hz : padZ n < 64 := Nat.mod_lt _ (by decide)
  have e2 : IntKind.wrap .i64 (((n % 64 : Nat) : Int) + ((1 + j : Nat) : Int)) = ((n % 64 + (1 + j) : Nat) : Int) := by rw [w64z _ (by omega) (by omega)]; omega
  have e3 : IntKind.wrap .i64 (((n % 64 + (1 + j) : Nat) : Int) + 8) = ((n % 64 + (1 + j) + 8 : Nat) : Int) := by rw [w64z _ (by omega) (by omega)]; omega
  have e4 : Int.tmod ((n % 64 + (1 + j) + 8 : Nat) : Int) 64 = (((n % 64 + (1 + j) + 8) % 64 : Nat) : Int) := rfl
  cases r with
  | zero =>
   have : j = padZ n := by omega
   subst this
   refine iter_end ?_
   show ref03PadL0R (n : Int) (128 :: List.replicate (padZ n) 0) = _
   unfold ref03PadL0R
   rw [el, e1, e2, e3, e4]
   have : (n % 64 + (1 + padZ n) + 8) % 64 = 0 := by unfold padZ; omega
   rw [this]
   exact guard_else rfl rfl
  | succ r =>
   refine iter_more (b := ((n : Int), 128 :: List.replicate (j + 1) 0)) ?_ (padR0 hn r (j + 1) fuel (by omega) (by omega))
   show ref03PadL0R (n : Int) (128 :: List.replicate j 0) = _
   unfold ref03PadL0R
   rw [el, e1, e2, e3, e4]
   have : (n % 64 + (1 + j) + 8) % 64 ≠ 0 := by unfold padZ at hj; omega
   refine guard_step (by simp only [bne_iff_ne, ne_eq]; omega) (guard_step (room1 (by simp; omega)) ?_)
   rw [List.replicate_succ']
   rfl
theorem padR1 {m : Nat} : ∀ (r fuel : Nat) (acc : List Int), r ≤ 8 → acc.length + r ≤ 1000000 → r < fuel →
  iter (fun p : Int × Int × List Int => ref03PadL1R p.1 p.2.1 p.2.2) fuel ((m : Int), (r : Int) - 1, acc) = some (acc ++ beN m r)
 | 0, fuel, acc, hr, ha, hf => by
  obtain ⟨fuel, rfl⟩ : ∃ n, fuel = n + 1 := ⟨fuel - 1, by omega⟩
  refine iter_end ?_
  show ref03PadL1R (m : Int) (((0 : Nat) : Int) - 1) acc = _
  unfold ref03PadL1R
  rw [beN, List.append_nil]
  exact guard_else (by decide) rfl
 | r + 1, fuel, acc, hr, ha, hf => by
  obtain ⟨fuel, rfl⟩ : ∃ n, fuel = n + 1 := ⟨fuel - 1, by omega⟩
  have e0 : ((r + 1 : Nat) : Int) - 1 = (r : Int) := by omega
  rw [e0]
  have ih := padR1 (m := m) r fuel (acc ++ [outP m r]) (by omega) (by simp; omega) (by omega)
  refine iter_more (b := ((m : Int), (r : Int) - 1, acc ++ [outP m r])) ?_ (by rw [ih, beN, List.append_assoc]; rfl)
  show ref03PadL1R (m : Int) (r : Int) acc = _
  unfold ref03PadL1R
  have e1 : IntKind.wrap .i64 ((8 : Int) * (r : Int)) = ((8 * r : Nat) : Int) := by rw [w64z _ (by omega) (by omega)]; omega
  have e2 : IntKind.wrap .u64 ((8 * r : Nat) : Int) = ((8 * r : Nat) : Int) := wu64z _ (by omega) (by omega)
  rw [e1, e2]
  refine guard_step (decide_eq_true (by omega)) (guard_else (decide_eq_false (by omega)) (guard_step (room1 (by simp; omega)) ?_))
  rw [w64z _ (by omega) (by omega)]
  rfl
theorem refPad_val {n : Nat} (hn : n ≤ 100000) : ref03Pad (n : Int) = some (0, padS n) := by
 rw [ref03Pad_eq]
 unfold ref03PadB
 have hz : padZ n < 64 := Nat.mod_lt _ (by decide)
 have e1 : IntKind.wrap .u64 (n : Int) = (n : Int) := wu64z _ (by omega) (by omega)
 have e2 : IntKind.wrap .u64 ((n : Int) * 8) = ((n * 8 : Nat) : Int) := by rw [wu64z _ (by omega) (by omega)]; omega
 refine guard_else (decide_eq_false (by omega)) (bind_step ((ref03PadL0_eq _ _).trans (padR0 (by omega) (padZ n) 0 1000 (by omega) (by omega))) ?_)
 show (ref03PadL1 (IntKind.wrap .u64 ((IntKind.wrap .u64 (n : Int)) * 8)) 7 (128 :: List.replicate (padZ n) 0)).bind _ = _
 rw [e1, e2]
 exact bind_step ((ref03PadL1_eq _ _ _).trans (padR1 8 1000 _ (by omega) (by simp; omega) (by omega))) rfl
theorem padL0 {m z : Nat} (hz : z < 64) : ∀ (r s fuel : Nat), s + r = 8 → r < fuel →
  iter (fun p : Int × Int × List Int => shaPadL0R p.1 p.2.1 p.2.2) fuel ((m : Int), (s : Int), 128 :: (List.replicate z 0 ++ (List.replicate r 0 ++ beN m s))) = some (128 :: (List.replicate z 0 ++ beN m 8))
 | 0, s, fuel, hs, hf => by
  obtain ⟨fuel, rfl⟩ : ∃ n, fuel = n + 1 := ⟨fuel - 1, by omega⟩
  have : s = 8 := by omega
  subst this
  refine iter_end ?_
  show shaPadL0R (m : Int) ((8 : Nat) : Int) _ = _
  unfold shaPadL0R
  rw [List.replicate_zero, List.nil_append]
  exact guard_else (by decide) rfl
 | r + 1, s, fuel, hs, hf => by
  obtain ⟨fuel, rfl⟩ : ∃ n, fuel = n + 1 := ⟨fuel - 1, by omega⟩
  refine iter_more (b := ((m : Int), ((s + 1 : Nat) : Int), 128 :: (List.replicate z 0 ++ (List.replicate r 0 ++ beN m (s + 1))))) ?_ (padL0 hz r (s + 1) fuel (by omega) (by omega))
  have esp : (128 : Int) :: (List.replicate z 0 ++ (List.replicate (r + 1) 0 ++ beN m s)) = (128 :: (List.replicate z 0 ++ List.replicate r 0)) ++ 0 :: beN m s := by
   rw [List.replicate_succ']; simp only [List.cons_append, List.append_assoc, List.nil_append]
  have el : ((128 : Int) :: (List.replicate z 0 ++ (List.replicate (r + 1) 0 ++ beN m s))).length = z + 9 := by simp [beN_len]; omega
  show shaPadL0R (m : Int) (s : Int) _ = _
  unfold shaPadL0R
  have e1 : IntKind.wrap .i64 ((8 : Int) * (s : Int)) = ((8 * s : Nat) : Int) := by rw [w64z _ (by omega) (by omega)]; omega
  have e2 : IntKind.wrap .i64 (((z + 9 : Nat) : Int) - 1) = ((z + 8 : Nat) : Int) := by rw [w64z _ (by omega) (by omega)]; omega
  have e3 : IntKind.wrap .i64 (((z + 8 : Nat) : Int) - (s : Int)) = ((z + r + 1 : Nat) : Int) := by rw [w64z _ (by omega) (by omega)]; omega
  have e4 : IntKind.wrap .i64 ((s : Int) + 1) = ((s + 1 : Nat) : Int) := by rw [w64z _ (by omega) (by omega)]; omega
  rw [el, e1, e2, e3, e4]
  simp only [Int.toNat_natCast]
  refine guard_step (decide_eq_true (by omega)) (guard_else (decide_eq_false (by omega)) (guard_step (dn0 _) (guard_step (blt_lt (by omega)) (guard_step (blt_lt (by omega)) ?_))))
  rw [esp, set_mid (by simp)]
  simp only [List.cons_append, List.append_assoc, beN, outP]
theorem shaPad_val {n : Nat} (hn : n ≤ 100000) : shaPad (n : Int) = some (0, padS n) := by
 rw [shaPad_eq]
 unfold shaPadB
 have hz : padZ n < 64 := Nat.mod_lt _ (by decide)
 have e1 : Int.tmod (n : Int) 64 = ((n % 64 : Nat) : Int) := rfl
 have e2 : IntKind.wrap .i64 (((n % 64 : Nat) : Int) + 9) = ((n % 64 + 9 : Nat) : Int) := by rw [w64z _ (by omega) (by omega)]; omega
 have e3 : Int.tmod ((n % 64 + 9 : Nat) : Int) 64 = (((n % 64 + 9) % 64 : Nat) : Int) := rfl
 have e4 : IntKind.wrap .i64 (64 - (((n % 64 + 9) % 64 : Nat) : Int)) = ((64 - (n % 64 + 9) % 64 : Nat) : Int) := by rw [w64z _ (by omega) (by omega)]; omega
 have e5 : Int.tmod ((64 - (n % 64 + 9) % 64 : Nat) : Int) 64 = ((padZ n : Nat) : Int) := rfl
 have e6 : IntKind.wrap .i64 (9 + ((padZ n : Nat) : Int)) = ((9 + padZ n : Nat) : Int) := by rw [w64z _ (by omega) (by omega)]; omega
 have e7 : IntKind.wrap .u64 (n : Int) = (n : Int) := wu64z _ (by omega) (by omega)
 have e8 : IntKind.wrap .u64 ((n : Int) * 8) = ((n * 8 : Nat) : Int) := by rw [wu64z _ (by omega) (by omega)]; omega
 rw [e1, e2, e3, e4, e5, e6, e7, e8]
 simp only [Int.toNat_natCast]
 have e9 : (List.replicate (9 + padZ n) (0 : Int)).set 0 128 = 128 :: (List.replicate (padZ n) 0 ++ (List.replicate 8 0 ++ beN (n * 8) 0)) := by
  rw [show 9 + padZ n = (padZ n + 8) + 1 by omega, List.replicate_succ, List.set_cons_zero, beN, List.append_nil, List.replicate_append_replicate]
 rw [e9]
 have h := padL0 (m := n * 8) hz 8 0 1000 (by omega) (by omega)
 exact guard_else (decide_eq_false (by omega)) (guard_step (dn0 _) (guard_step (decide_eq_true (Int.le_refl _)) (guard_step (room1 (by omega)) (guard_step (blt_lt (by simp; omega)) (guard_step (blt_lt (by simp; omega)) (bind_step ((shaPadL0_eq _ _ _).trans h) rfl))))))
def blocks : Nat → List Int → List Int → List Int
 | 0, s, _ => s
 | n + 1, s, l => blocks n (compS s (l.take 64)) (l.drop 64)
theorem blocks_len : ∀ (n : Nat) {s : List Int} (l : List Int), s.length = 8 → (blocks n s l).length = 8
 | 0, _, _, h => h
 | n + 1, s, l, _ => blocks_len n (l.drop 64) (compS_len s _)
theorem blocks_add : ∀ (a b : Nat) (s l : List Int), blocks (a + b) s l = blocks b (blocks a s l) (l.drop (64 * a))
 | 0, b, s, l => by rw [Nat.zero_add, Nat.mul_zero, List.drop_zero]; rfl
 | a + 1, b, s, l => by
  rw [show a + 1 + b = (a + b) + 1 by omega]
  show blocks (a + b) (compS s (l.take 64)) (l.drop 64) = blocks b (blocks a (compS s (l.take 64)) (l.drop 64)) (l.drop (64 * (a + 1)))
  rw [blocks_add a b, List.drop_drop, show 64 + 64 * a = 64 * (a + 1) by omega]
theorem blocks_app : ∀ (a : Nat) (s l m : List Int), 64 * a ≤ l.length → blocks a s (l ++ m) = blocks a s l
 | 0, s, l, m, h => rfl
 | a + 1, s, l, m, h => by
  show blocks a (compS s ((l ++ m).take 64)) ((l ++ m).drop 64) = blocks a (compS s (l.take 64)) (l.drop 64)
  rw [List.take_append_of_le_length (by omega), List.drop_append_of_le_length (by omega)]
  exact blocks_app a _ _ m (by simp; omega)
def stt (P : List Int) : List Int := blocks (P.length / 64) shaStartT P
def rst (P : List Int) : List Int := P.drop (64 * (P.length / 64))
theorem stt_len (P : List Int) : (stt P).length = 8 := blocks_len _ _ rfl
theorem rst_len (P : List Int) : (rst P).length = P.length % 64 := by simp [rst]; omega
theorem stt_more {P D : List Int} (h : (rst P).length + D.length < 64) : stt (P ++ D) = stt P ∧ rst (P ++ D) = rst P ++ D := by
 rw [rst_len] at h
 have e : (P ++ D).length / 64 = P.length / 64 := by simp; omega
 unfold stt rst
 rw [e, blocks_app _ _ _ _ (by omega), List.drop_append_of_le_length (by omega)]
 exact ⟨rfl, rfl⟩
theorem stt_block {P D : List Int} (h : (rst P).length + D.length = 64) : stt (P ++ D) = compS (stt P) (rst P ++ D) ∧ rst (P ++ D) = [] := by
 rw [rst_len] at h
 have e : (P ++ D).length / 64 = P.length / 64 + 1 := by simp; omega
 unfold stt rst
 rw [e, blocks_add, blocks_app _ _ _ _ (by omega), List.drop_append_of_le_length (by omega)]
 refine ⟨?_, List.drop_eq_nil_of_le (by simp; omega)⟩
 show compS _ (List.take 64 _) = _
 rw [List.take_of_length_le (by simp; omega)]
theorem writeL0 {h1 : List Int} : ∀ (fuel : Nat) (P D : List Int), Bytes P → Bytes D → P.length + D.length ≤ 100000 → D.length < fuel →
  ∃ P' D', P' ++ D' = P ++ D ∧ (rst P').length + D'.length < 64 ∧
   iter (fun p : List Int × (List Int × Unit × Int) × List Int × List Int => shaHasherWriteL0R p.1 p.2.1 p.2.2.1 p.2.2.2) fuel (D, (h1, (), (P.length : Int)), rst P, stt P) = some (D', (h1, (), (P'.length : Int)), stt P', rst P')
 | 0, P, D, hP, hD, hl, hf => by omega
 | fuel + 1, P, D, hP, hD, hl, hf => by
  have hr := rst_len P
  have e1 : IntKind.wrap .i64 (((rst P).length : Int) + (D.length : Int)) = (((rst P).length + D.length : Nat) : Int) := by rw [w64z _ (by omega) (by omega)]; omega
  by_cases h : (rst P).length + D.length < 64
  ·refine ⟨P, D, rfl, h, iter_end ?_⟩
   show shaHasherWriteL0R D (h1, (), (P.length : Int)) (rst P) (stt P) = _
   unfold shaHasherWriteL0R
   rw [e1]
   exact guard_else (decide_eq_false (by omega)) rfl
  ·have hk : ∃ k, k = 64 - (rst P).length := ⟨_, rfl⟩
   obtain ⟨k, hk⟩ := hk
   have hkD : k ≤ D.length := by omega
   have htk : (D.take k).length = k := by simp; omega
   obtain ⟨b1, b2⟩ := stt_block (P := P) (D := D.take k) (by omega)
   obtain ⟨P', D', g1, g2, g3⟩ := writeL0 (h1 := h1) fuel (P ++ D.take k) (D.drop k) (Bytes_app hP (Bytes_take hD k)) (Bytes_drop hD k) (by simp; omega) (by simp; omega)
   refine ⟨P', D', by rw [g1, List.append_assoc, List.take_append_drop], g2, iter_more ?_ g3⟩
   show shaHasherWriteL0R D (h1, (), (P.length : Int)) (rst P) (stt P) = _
   unfold shaHasherWriteL0R
   have e2 : IntKind.wrap .i64 ((64 : Int) - ((rst P).length : Int)) = (k : Int) := by rw [w64z _ (by omega) (by omega)]; omega
   rw [e1, e2]
   simp only [Int.toNat_natCast, Nat.sub_zero, List.drop_zero]
   have hby : Bytes (rst P ++ D.take k) := Bytes_app (Bytes_drop hP _) (Bytes_take hD k)
   refine guard_step (decide_eq_true (by omega)) (guard_step (dn0 _) (guard_step (ble_le hkD) (guard_step (room1 (by omega)) (bind_step (shaBehind_val (stt_len P) hby (by rw [List.length_append]; omega)) (guard_step (ble_le (Nat.zero_le _)) (guard_step (dn0 _) (guard_step (ble_le hkD) ?_)))))))
   have e3 : IntKind.wrap .i64 ((P.length : Int) + (k : Int)) = ((P ++ D.take k).length : Int) := by rw [w64z _ (by omega) (by omega), List.length_append, htk]; omega
   have e4 : List.take (D.length - k) (List.drop k D) = List.drop k D := List.take_of_length_le (by simp)
   rw [b1, b2, e4]
   show some (Sum.inl (_, (h1, (), IntKind.wrap .i64 ((P.length : Int) + (k : Int))), _, _)) = _
   rw [e3]
def hOK (T : List Int) (h : List Int × Unit × Int) : Prop := h.2.2 = (T.length : Int) ∧ (64 ≤ T.length → h.1 = stt T)
theorem now_val {T : List Int} {h : List Int × Unit × Int} (hh : hOK T h) (b : List Int) : shaHasherNow (h.1, (), h.2.2) b = some (stt T, (h.1, (), h.2.2), b) := by
 rw [shaHasherNow_eq]
 unfold shaHasherNowB
 by_cases hl : T.length < 64
 ·refine guard_step (decide_eq_true (by rw [hh.1]; omega)) ?_
  have : T.length / 64 = 0 := by omega
  unfold stt
  rw [this]; rfl
 ·refine guard_else (decide_eq_false (by rw [hh.1]; omega)) ?_
  rw [← hh.2 (by omega)]
theorem write_val {T D : List Int} {h : List Int × Unit × Int} (hh : hOK T h) (hT : Bytes T) (hD : Bytes D) (hl : T.length + D.length ≤ 100000) :
  ∃ h', shaHasherWrite h (rst T) D = some (h', rst (T ++ D)) ∧ hOK (T ++ D) h' := by
 have hbig := bigFuel_eq
 rw [shaHasherWrite_eq]
 unfold shaHasherWriteB
 obtain ⟨P, E, g1, g2, g3⟩ := writeL0 (h1 := h.1) bigFuel T D hT hD hl (by omega)
 obtain ⟨k1, k2⟩ := stt_more g2
 have hlen : P.length + E.length = T.length + D.length := by
  have := congrArg List.length g1
  simpa using this
 refine ⟨(stt (T ++ D), (), ((T ++ D).length : Int)), bind_step (now_val hh _) (bind_step ((shaHasherWriteL0_eq _ _ _ _).trans (by rw [hh.1]; exact g3)) (guard_step (room1 (by have := rst_len P; show (rst P).length + E.length ≤ _; omega)) ?_)), rfl, fun _ => rfl⟩
 show some ((stt P, (), IntKind.wrap .i64 ((P.length : Int) + (E.length : Int))), rst P ++ E) = _
 have e3 : IntKind.wrap .i64 ((P.length : Int) + (E.length : Int)) = ((P ++ E).length : Int) := by rw [w64z _ (by omega) (by omega), List.length_append]; omega
 rw [e3, ← k1, ← k2, g1]
def outB (s : List Int) (i : Nat) : Int := IntKind.wrap .u8 (shrI .u32 (s.getD (i / 4) 0) ((24 - 8 * (i % 4) : Nat) : Int))
def bytesS (s : List Int) : List Int := (List.range 32).map (outB s)
theorem bytesS_len (s : List Int) : (bytesS s).length = 32 := by simp [bytesS]
theorem bytesS_bytes (s : List Int) : Bytes (bytesS s) := Bytes_of fun a ha => by
 obtain ⟨i, _, rfl⟩ := List.mem_map.1 ha
 exact wrapU8 _
def shaS (T : List Int) : List Int := bytesS (blocks ((T ++ padS T.length).length / 64) shaStartT (T ++ padS T.length))
theorem shaS_len (T : List Int) : (shaS T).length = 32 := bytesS_len _
theorem shaS_bytes (T : List Int) : Bytes (shaS T) := bytesS_bytes _
theorem sumL0 {b2 : List Int} : ∀ (m fuel : Nat) (s l : List Int), s.length = 8 → Bytes l → l.length = 64 * m → m < fuel →
  iter (fun p : List Int × List Int × List Int => shaHasherSumL0R p.1 p.2.1 p.2.2) fuel (l, b2, s) = some (b2, blocks m s l)
 | 0, fuel, s, l, hs, hb, hl, hf => by
  obtain ⟨fuel, rfl⟩ : ∃ n, fuel = n + 1 := ⟨fuel - 1, by omega⟩
  refine iter_end ?_
  show shaHasherSumL0R l b2 s = _
  unfold shaHasherSumL0R
  exact guard_else (decide_eq_false (by omega)) rfl
 | m + 1, fuel, s, l, hs, hb, hl, hf => by
  obtain ⟨fuel, rfl⟩ : ∃ n, fuel = n + 1 := ⟨fuel - 1, by omega⟩
  refine iter_more ?_ (sumL0 m fuel (compS s (l.take 64)) (l.drop 64) (compS_len _ _) (Bytes_drop hb 64) (by simp; omega) (by omega))
  show shaHasherSumL0R l b2 s = _
  unfold shaHasherSumL0R
  rw [List.drop_zero]
  refine guard_step (decide_eq_true (by omega)) (guard_step (ble_le (by omega)) (bind_step (shaBehind_val hs (Bytes_take hb 64) (by simp; omega)) (guard_step (ble_le (by omega)) ?_)))
  rw [List.take_of_length_le (by simp)]
theorem sum_val {T : List Int} {h : List Int × Unit × Int} (hh : hOK T h) (hT : Bytes T) (hl : T.length ≤ 90000) : shaHasherSum h (rst T) = some (shaS T) := by
 have hbig := bigFuel_eq
 rw [shaHasherSum_eq]
 unfold shaHasherSumB
 have hr := rst_len T
 have hp := padS_len T.length
 have hz : padZ T.length < 64 := Nat.mod_lt _ (by decide)
 have hm := pad_mod T.length
 have hsum : stt T = blocks (T.length / 64) shaStartT (T ++ padS T.length) := (blocks_app _ _ _ _ (by omega)).symm
 have hrest : rst T ++ padS T.length = (T ++ padS T.length).drop (64 * (T.length / 64)) := by
  unfold rst; rw [List.drop_append_of_le_length (by omega)]
 have hcount : (T ++ padS T.length).length / 64 = T.length / 64 + ((rst T ++ padS T.length).length / 64) := by
  rw [List.length_append, List.length_append]; omega
 have hlm : (rst T ++ padS T.length).length = 64 * ((rst T ++ padS T.length).length / 64) := by
  rw [List.length_append]; omega
 have hL := sumL0 (b2 := List.replicate 32 0) ((rst T ++ padS T.length).length / 64) bigFuel (stt T) (rst T ++ padS T.length) (stt_len T) (Bytes_app (Bytes_drop hT _) (padS_bytes _)) hlm (by rw [List.length_append]; omega)
 have hfin : blocks ((rst T ++ padS T.length).length / 64) (stt T) (rst T ++ padS T.length) = blocks ((T ++ padS T.length).length / 64) shaStartT (T ++ padS T.length) := by
  rw [hcount, blocks_add, hsum, hrest]
 rw [hfin] at hL
 refine bind_step (now_val hh _) (bind_step (by rw [hh.1]; exact shaPad_val (by omega)) (guard_step (room1 (by show (rst T).length ≤ _; omega)) (guard_step (room1 (by show (rst T).length + (padS T.length).length ≤ _; omega)) (bind_step ((shaHasherSumL0_eq _ _ _).trans hL) ?_))))
 unfold shaS
 generalize blocks ((T ++ padS T.length).length / 64) shaStartT (T ++ padS T.length) = q
 kernel_rfl
theorem new_val : shaNew = some ((List.replicate 8 0, (), 0), []) := by rw [shaNew_eq]; rfl
theorem new_ok : hOK [] (List.replicate 8 0, (), 0) := ⟨rfl, fun h => absurd h (by decide)⟩
end Go.Sy
