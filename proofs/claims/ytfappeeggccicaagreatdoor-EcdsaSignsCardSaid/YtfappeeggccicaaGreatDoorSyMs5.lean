/- SHA-256 and HMAC: the two texts answer alike. -/
import Derived.Test.YtfappeeggccicaaGreatDoorSyMs4
set_option linter.unusedVariables false
set_option linter.unusedSimpArgs false
noncomputable section
namespace Go.Sy
open Go
theorem joinL1 {parts : List (List Int)} {i : Nat} (hi : i < parts.length) : ∀ (r j fuel : Nat) (acc : List Int), j + r = (parts.getD i []).length → acc.length + r ≤ 100000 → (parts.getD i []).length ≤ 90000 → r < fuel →
  iter (fun p : List (List Int) × Int × Int × List Int => ref03IJoinedL1R p.1 p.2.1 p.2.2.1 p.2.2.2) fuel (parts, (i : Int), (j : Int), acc) = some (parts, (i : Int), acc ++ (parts.getD i []).drop j)
 | 0, j, fuel, acc, hj, ha, hp, hf => by
  obtain ⟨fuel, rfl⟩ : ∃ n, fuel = n + 1 := ⟨fuel - 1, by omega⟩
  refine iter_end ?_
  show ref03IJoinedL1R parts (i : Int) (j : Int) acc = _
  unfold ref03IJoinedL1R
  simp only [Int.toNat_natCast]
  rw [List.drop_eq_nil_of_le (by omega), List.append_nil]
  exact guard_step (dn0 _) (guard_step (blt_lt hi) (guard_else (decide_eq_false (by omega)) rfl))
 | r + 1, j, fuel, acc, hj, ha, hp, hf => by
  obtain ⟨fuel, rfl⟩ : ∃ n, fuel = n + 1 := ⟨fuel - 1, by omega⟩
  have hd : (parts.getD i []).drop j = (parts.getD i []).getD j 0 :: (parts.getD i []).drop (j + 1) := by
   rw [List.drop_eq_getElem_cons (by omega), List.getD_eq_getElem?_getD (l := parts.getD i []) (i := j), List.getElem?_eq_getElem (by omega)]; rfl
  have ih := joinL1 hi r (j + 1) fuel (acc ++ [(parts.getD i []).getD j 0]) (by omega) (by simp; omega) hp (by omega)
  refine iter_more ?_ (by rw [ih, List.append_assoc, hd]; rfl)
  show ref03IJoinedL1R parts (i : Int) (j : Int) acc = _
  unfold ref03IJoinedL1R
  simp only [Int.toNat_natCast]
  refine guard_step (dn0 _) (guard_step (blt_lt hi) (guard_step (decide_eq_true (by omega)) (guard_step (dn0 _) (guard_step (blt_lt hi) (guard_step (dn0 _) (guard_step (blt_lt (by omega)) (guard_step (room1 (by simp; omega)) ?_)))))))
  rw [w64z _ (by omega) (by omega)]
  rfl
theorem flat_drop {parts : List (List Int)} {i : Nat} (h : i < parts.length) : (parts.drop i).flatten = parts.getD i [] ++ (parts.drop (i + 1)).flatten := by
 rw [List.drop_eq_getElem_cons h, List.flatten_cons, List.getD_eq_getElem?_getD, List.getElem?_eq_getElem h]; rfl
theorem joinL0 {parts : List (List Int)} (hp : ∀ p ∈ parts, p.length ≤ 900) (hn : parts.length ≤ 900) : ∀ (r i fuel : Nat) (acc : List Int), i + r = parts.length → acc.length + (parts.drop i).flatten.length ≤ 90000 → r < fuel →
  iter (fun p : List (List Int) × Int × List Int => ref03IJoinedL0R p.1 p.2.1 p.2.2) fuel (parts, (i : Int), acc) = some (acc ++ (parts.drop i).flatten)
 | 0, i, fuel, acc, hi, ha, hf => by
  obtain ⟨fuel, rfl⟩ : ∃ n, fuel = n + 1 := ⟨fuel - 1, by omega⟩
  refine iter_end ?_
  show ref03IJoinedL0R parts (i : Int) acc = _
  unfold ref03IJoinedL0R
  rw [List.drop_eq_nil_of_le (by omega), List.flatten_nil, List.append_nil]
  exact guard_else (decide_eq_false (by omega)) rfl
 | r + 1, i, fuel, acc, hi, ha, hf => by
  obtain ⟨fuel, rfl⟩ : ∃ n, fuel = n + 1 := ⟨fuel - 1, by omega⟩
  have hil : i < parts.length := by omega
  rw [flat_drop hil, List.length_append] at ha
  have hpl : (parts.getD i []).length ≤ 900 := by
   rw [List.getD_eq_getElem?_getD, List.getElem?_eq_getElem hil]; exact hp _ (List.getElem_mem hil)
  have ih := joinL0 hp hn r (i + 1) fuel (acc ++ parts.getD i []) (by omega) (by rw [List.length_append]; omega) (by omega)
  have h1 := joinL1 hil (parts.getD i []).length 0 1000 acc (by omega) (by omega) (by omega) (by omega)
  rw [List.drop_zero] at h1
  refine iter_more ?_ (by rw [ih, flat_drop hil, List.append_assoc])
  show ref03IJoinedL0R parts (i : Int) acc = _
  unfold ref03IJoinedL0R
  refine guard_step (decide_eq_true (by omega)) (bind_step ((ref03IJoinedL1_eq _ _ _ _).trans h1) ?_)
  show some (Sum.inl (parts, IntKind.wrap .i64 ((i : Int) + 1), _)) = _
  rw [w64z _ (by omega) (by omega)]
  rfl
theorem joined_val {parts : List (List Int)} (hp : ∀ p ∈ parts, p.length ≤ 900) (hn : parts.length ≤ 900) (hl : parts.flatten.length ≤ 90000) : ref03IJoined parts = some parts.flatten := by
 rw [ref03IJoined_eq]
 unfold ref03IJoinedB
 have h := joinL0 hp hn parts.length 0 1000 [] (by omega) (by rw [List.drop_zero]; simpa using hl) (by omega)
 rw [List.drop_zero, List.nil_append] at h
 exact bind_step ((ref03IJoinedL0_eq _ _ _).trans h) rfl
theorem digL0 {b2 T : List Int} (hT : Bytes T) {N : Nat} (hN : T.length = 64 * N) (hN2 : N ≤ 900) : ∀ (r i fuel : Nat) (s : List Int), i + r = N → s.length = 8 → r < fuel →
  iter (fun p : Int × List Int × List Int × List Int × List Int => ref03IDigestL0R p.1 p.2.1 p.2.2.1 p.2.2.2.1 p.2.2.2.2) fuel (((64 * i : Nat) : Int), b2, s, T, shaConstsT) = some (b2, blocks r s (T.drop (64 * i)))
 | 0, i, fuel, s, hi, hs, hf => by
  obtain ⟨fuel, rfl⟩ : ∃ n, fuel = n + 1 := ⟨fuel - 1, by omega⟩
  refine iter_end ?_
  show ref03IDigestL0R ((64 * i : Nat) : Int) b2 s T shaConstsT = _
  unfold ref03IDigestL0R
  exact guard_else (decide_eq_false (by omega)) rfl
 | r + 1, i, fuel, s, hi, hs, hf => by
  obtain ⟨fuel, rfl⟩ : ∃ n, fuel = n + 1 := ⟨fuel - 1, by omega⟩
  have ih := digL0 (b2 := b2) hT hN hN2 r (i + 1) fuel (compS s ((T.drop (64 * i)).take 64)) (by omega) (compS_len _ _) (by omega)
  have e : (T.drop (64 * i)).drop 64 = T.drop (64 * (i + 1)) := by rw [List.drop_drop]; congr 1
  refine iter_more ?_ (by rw [ih]; show _ = some (b2, blocks r (compS s ((T.drop (64 * i)).take 64)) ((T.drop (64 * i)).drop 64)); rw [e])
  show ref03IDigestL0R ((64 * i : Nat) : Int) b2 s T shaConstsT = _
  unfold ref03IDigestL0R
  have e1 : IntKind.wrap .i64 (((64 * i : Nat) : Int) + 64) = ((64 * (i + 1) : Nat) : Int) := by rw [w64z _ (by omega) (by omega)]; omega
  rw [e1]
  simp only [Int.toNat_natCast]
  rw [show 64 * (i + 1) - 64 * i = 64 by omega]
  exact guard_step (decide_eq_true (by omega)) (guard_step (dn0 _) (guard_step (ble_le (by omega)) (guard_step (dn0 _) (guard_step (ble_le (by omega)) (guard_step (ble_le (by omega)) (bind_step (refRounds_val hs (Bytes_take (Bytes_drop hT _) 64) (by simp; omega)) rfl))))))
theorem digL1 {b2 s : List Int} : ∀ (r i fuel : Nat), i + r = 32 → r < fuel →
  iter (fun p : Int × List Int × List Int × List Int => ref03IDigestL1R p.1 p.2.1 p.2.2.1 p.2.2.2) fuel ((i : Int), b2, s, (List.range i).map (outB s) ++ List.replicate r 0) = some (b2, bytesS s)
 | 0, i, fuel, hi, hf => by
  obtain ⟨fuel, rfl⟩ : ∃ n, fuel = n + 1 := ⟨fuel - 1, by omega⟩
  have : i = 32 := by omega
  subst this
  refine iter_end ?_
  show ref03IDigestL1R ((32 : Nat) : Int) b2 s _ = _
  unfold ref03IDigestL1R
  rw [List.replicate_zero, List.append_nil]
  exact guard_else (by decide) rfl
 | r + 1, i, fuel, hi, hf => by
  obtain ⟨fuel, rfl⟩ : ∃ n, fuel = n + 1 := ⟨fuel - 1, by omega⟩
  refine iter_more ?_ (digL1 (b2 := b2) (s := s) r (i + 1) fuel (by omega) (by omega))
  show ref03IDigestL1R (i : Int) b2 s _ = _
  unfold ref03IDigestL1R
  have e1 : Int.tdiv (i : Int) 4 = ((i / 4 : Nat) : Int) := rfl
  have e2 : IntKind.wrap .i64 ((i / 4 : Nat) : Int) = ((i / 4 : Nat) : Int) := w64z _ (by omega) (by omega)
  have e3 : Int.tmod (i : Int) 4 = ((i % 4 : Nat) : Int) := rfl
  have e4 : IntKind.wrap .i64 (8 * ((i % 4 : Nat) : Int)) = ((8 * (i % 4) : Nat) : Int) := by rw [w64z _ (by omega) (by omega)]; omega
  have e5 : IntKind.wrap .i64 (24 - ((8 * (i % 4) : Nat) : Int)) = ((24 - 8 * (i % 4) : Nat) : Int) := by rw [w64z _ (by omega) (by omega)]; omega
  have e6 : IntKind.wrap .u64 ((24 - 8 * (i % 4) : Nat) : Int) = ((24 - 8 * (i % 4) : Nat) : Int) := wu64z _ (by omega) (by omega)
  have e7 : IntKind.wrap .i64 ((i : Int) + 1) = ((i + 1 : Nat) : Int) := by rw [w64z _ (by omega) (by omega)]; omega
  rw [e1, e2, e3, e4, e5, e6, e7]
  simp only [Int.toNat_natCast]
  refine guard_step (decide_eq_true (by omega)) (guard_step (dn0 _) (guard_step (blt_lt (by omega)) (guard_step (blt_lt (by omega)) (guard_else (decide_eq_false (by omega)) (guard_step (dn0 _) (guard_step (blt_lt (by omega)) (guard_step (blt_lt (by omega)) ?_)))))))
  rw [List.replicate_succ, set_mid (by simp), List.range_succ, List.map_append, List.append_assoc]
  rfl
theorem digest_val {T : List Int} (hT : Bytes T) (hl : T.length ≤ 900) : ref03IDigest T = some (shaS T) := by
 rw [ref03IDigest_eq]
 unfold ref03IDigestB
 have hz : padZ T.length < 64 := Nat.mod_lt _ (by decide)
 have hp := padS_len T.length
 have hm := pad_mod T.length
 have hf : [T, padS T.length].flatten = T ++ padS T.length := by simp
 have hj : ref03IJoined [T, padS T.length] = some (T ++ padS T.length) := by
  rw [← hf]
  refine joined_val (fun p hp' => ?_) (by simp) (by rw [hf, List.length_append]; omega)
  rcases List.mem_cons.1 hp' with e | e
  ·rw [e]; omega
  ·rw [List.mem_singleton.1 e]; omega
 have hlen : (T ++ padS T.length).length = 64 * ((T ++ padS T.length).length / 64) := by rw [List.length_append]; omega
 have h0 := digL0 (b2 := List.replicate 32 0) (Bytes_app hT (padS_bytes T.length)) hlen (by rw [List.length_append]; omega) ((T ++ padS T.length).length / 64) 0 1000 shaStartT (by omega) rfl (by rw [List.length_append]; omega)
 rw [Nat.mul_zero, List.drop_zero] at h0
 have h1 := digL1 (b2 := List.replicate 32 0) (s := blocks ((T ++ padS T.length).length / 64) shaStartT (T ++ padS T.length)) 32 0 1000 (by omega) (by omega)
 exact bind_step (refPad_val (by omega)) (bind_step hj (bind_step refRoots3_val (bind_step refStart_val (bind_step ((ref03IDigestL0_eq _ _ _ _ _).trans h0) (bind_step ((ref03IDigestL1_eq _ _ _ _).trans h1) rfl)))))
theorem bytesOfL0 {h : List Int} (hh : h.length = 32) : ∀ (r i fuel : Nat), i + r = 32 → r < fuel →
  iter (fun p : Int × List Int × List Int => ref03IBytesOfL0R p.1 p.2.1 p.2.2) fuel ((i : Int), h, h.take i) = some h
 | 0, i, fuel, hi, hf => by
  obtain ⟨fuel, rfl⟩ : ∃ n, fuel = n + 1 := ⟨fuel - 1, by omega⟩
  have : i = 32 := by omega
  subst this
  refine iter_end ?_
  show ref03IBytesOfL0R ((32 : Nat) : Int) h _ = _
  unfold ref03IBytesOfL0R
  rw [List.take_of_length_le (by omega)]
  exact guard_else (by decide) rfl
 | r + 1, i, fuel, hi, hf => by
  obtain ⟨fuel, rfl⟩ : ∃ n, fuel = n + 1 := ⟨fuel - 1, by omega⟩
  refine iter_more ?_ (bytesOfL0 hh r (i + 1) fuel (by omega) (by omega))
  show ref03IBytesOfL0R (i : Int) h _ = _
  unfold ref03IBytesOfL0R
  simp only [Int.toNat_natCast]
  refine guard_step (decide_eq_true (by omega)) (guard_step (dn0 _) (guard_step (blt_lt (by omega)) (guard_step (blt_lt (by omega)) (guard_step (room1 (by simp; omega)) ?_))))
  have e : h.take (i + 1) = h.take i ++ [h.getD i 0] := by
   rw [List.take_add_one, List.getD_eq_getElem?_getD, List.getElem?_eq_getElem (by omega)]; rfl
  rw [w64z _ (by omega) (by omega), e]
  rfl
theorem bytesOf_val {h : List Int} (hh : h.length = 32) : ref03IBytesOf h = some h := by
 rw [ref03IBytesOf_eq]
 unfold ref03IBytesOfB
 exact bind_step ((ref03IBytesOfL0_eq _ _ _).trans (bytesOfL0 hh 32 0 1000 (by omega) (by omega))) rfl
def xm (c : Int) (l : List Int) : List Int := l.map fun x => xorI .u8 x c
theorem xm_len (c : Int) (l : List Int) : (xm c l).length = l.length := List.length_map _
theorem xm_bytes (c : Int) (l : List Int) : Bytes (xm c l) := Bytes_of fun a ha => by
 obtain ⟨x, _, rfl⟩ := List.mem_map.1 ha
 exact wrapU8 _
def keyS (key : List Int) : List Int := key ++ List.replicate (64 - key.length) 0
theorem keyS_len {key : List Int} (h : key.length ≤ 64) : (keyS key).length = 64 := by simp [keyS]; omega
def hmS (key T : List Int) : List Int := shaS (xm 92 (keyS key) ++ shaS (xm 54 (keyS key) ++ T))
theorem hmS_len (key T : List Int) : (hmS key T).length = 32 := shaS_len _
theorem hmS_bytes (key T : List Int) : Bytes (hmS key T) := shaS_bytes _
theorem refH0 {parts : List (List Int)} {b4 : List Int} : ∀ (r fuel : Nat) (k : List Int), k.length + r = 64 → r < fuel →
  iter (fun p : List (List Int) × List Int × List Int => ref03HMACL0R p.1 p.2.1 p.2.2) fuel (parts, b4, k) = some (parts, b4, k ++ List.replicate r 0)
 | 0, fuel, k, hk, hf => by
  obtain ⟨fuel, rfl⟩ : ∃ n, fuel = n + 1 := ⟨fuel - 1, by omega⟩
  refine iter_end ?_
  show ref03HMACL0R parts b4 k = _
  unfold ref03HMACL0R
  rw [List.replicate_zero, List.append_nil]
  exact guard_else (decide_eq_false (by omega)) rfl
 | r + 1, fuel, k, hk, hf => by
  obtain ⟨fuel, rfl⟩ : ∃ n, fuel = n + 1 := ⟨fuel - 1, by omega⟩
  have ih := refH0 (parts := parts) (b4 := b4) r fuel (k ++ [0]) (by simp; omega) (by omega)
  refine iter_more ?_ (by rw [ih, List.append_assoc, List.replicate_succ]; rfl)
  show ref03HMACL0R parts b4 k = _
  unfold ref03HMACL0R
  exact guard_step (decide_eq_true (by omega)) (guard_step (room1 (by simp; omega)) rfl)
theorem take_one {K : List Int} {i : Nat} (h : i < K.length) : K.take (i + 1) = K.take i ++ [K.getD i 0] := by
 rw [List.take_add_one, List.getD_eq_getElem?_getD, List.getElem?_eq_getElem h]; rfl
theorem drop_one {K : List Int} {i : Nat} (h : i < K.length) : K.drop i = K.getD i 0 :: K.drop (i + 1) := by
 rw [List.drop_eq_getElem_cons h, List.getD_eq_getElem?_getD, List.getElem?_eq_getElem h]; rfl
theorem refH1 {parts : List (List Int)} {b4 K : List Int} (hK : K.length = 64) : ∀ (r i fuel : Nat), i + r = 64 → r < fuel →
  iter (fun p : List (List Int) × Int × List Int × List Int × List Int × List Int => ref03HMACL1R p.1 p.2.1 p.2.2.1 p.2.2.2.1 p.2.2.2.2.1 p.2.2.2.2.2) fuel (parts, (i : Int), b4, K, xm 54 (K.take i), xm 92 (K.take i)) = some (parts, b4, xm 54 K, xm 92 K)
 | 0, i, fuel, hi, hf => by
  obtain ⟨fuel, rfl⟩ : ∃ n, fuel = n + 1 := ⟨fuel - 1, by omega⟩
  have : i = 64 := by omega
  subst this
  refine iter_end ?_
  show ref03HMACL1R parts ((64 : Nat) : Int) b4 K _ _ = _
  unfold ref03HMACL1R
  rw [List.take_of_length_le (by omega)]
  exact guard_else (by decide) rfl
 | r + 1, i, fuel, hi, hf => by
  obtain ⟨fuel, rfl⟩ : ∃ n, fuel = n + 1 := ⟨fuel - 1, by omega⟩
  refine iter_more ?_ (refH1 (parts := parts) (b4 := b4) hK r (i + 1) fuel (by omega) (by omega))
  show ref03HMACL1R parts (i : Int) b4 K _ _ = _
  unfold ref03HMACL1R
  simp only [Int.toNat_natCast]
  refine guard_step (decide_eq_true (by omega)) (guard_step (dn0 _) (guard_step (blt_lt (by omega)) (guard_step (blt_lt (by omega)) (guard_step (room1 (by simp [xm_len]; omega)) (guard_step (dn0 _) (guard_step (blt_lt (by omega)) (guard_step (blt_lt (by omega)) (guard_step (room1 (by simp [xm_len]; omega)) ?_))))))))
  rw [w64z _ (by omega) (by omega), take_one (by omega)]
  unfold xm
  rw [List.map_append, List.map_append]
  rfl
theorem refHMAC_val {key : List Int} {parts : List (List Int)} (hk : key.length ≤ 64) (hkb : Bytes key) (hp : ∀ p ∈ parts, p.length ≤ 900 ∧ Bytes p) (hn : parts.length ≤ 900) (hl : parts.flatten.length ≤ 800) : ref03HMAC key parts = some (hmS key parts.flatten) := by
 rw [ref03HMAC_eq]
 unfold ref03HMACB
 have hf1 : [key].flatten = key := by simp
 have hj1 : ref03IJoined [key] = some key := by
  have := joined_val (parts := [key]) (fun p hp' => by rw [List.mem_singleton.1 hp']; omega) (by simp) (by rw [hf1]; omega)
  rw [hf1] at this; exact this
 have h0 := refH0 (parts := parts) (b4 := List.replicate 32 0) (64 - key.length) 1000 key (by omega) (by omega)
 have hKl := keyS_len hk
 have h1 := refH1 (parts := parts) (b4 := List.replicate 32 0) hKl 64 0 1000 (by omega) (by omega)
 have hj2 := joined_val (parts := parts) (fun p hp' => (hp p hp').1) hn (by omega)
 have hf3 : ∀ a b : List Int, [a, b].flatten = a ++ b := fun a b => by simp
 have hj3 : ∀ a b : List Int, a.length ≤ 64 → b.length ≤ 800 → ref03IJoined [a, b] = some (a ++ b) := fun a b ha hb => by
  have := joined_val (parts := [a, b]) (fun p hp' => by
   rcases List.mem_cons.1 hp' with e | e
   ·rw [e]; omega
   ·rw [List.mem_singleton.1 e]; omega) (by simp) (by rw [hf3, List.length_append]; omega)
  rw [hf3] at this; exact this
 have hpb : Bytes parts.flatten := Bytes_of fun a ha => by
  obtain ⟨p, hp1, hp2⟩ := List.mem_flatten.1 ha
  exact Bytes_mem (hp p hp1).2 a hp2
 have hx1 := xm_len 54 (keyS key)
 have hx2 := xm_len 92 (keyS key)
 have hs := shaS_len (xm 54 (keyS key) ++ parts.flatten)
 have q1 := hj3 (xm 54 (keyS key)) parts.flatten (by omega) hl
 have q2 := digest_val (T := xm 54 (keyS key) ++ parts.flatten) (Bytes_app (xm_bytes _ _) hpb) (by rw [List.length_append]; omega)
 have q3 := bytesOf_val hs
 have q4 := hj3 (xm 92 (keyS key)) (shaS (xm 54 (keyS key) ++ parts.flatten)) (by omega) (by omega)
 have q5 := digest_val (T := xm 92 (keyS key) ++ shaS (xm 54 (keyS key) ++ parts.flatten)) (Bytes_app (xm_bytes _ _) (shaS_bytes _)) (by rw [List.length_append]; omega)
 exact bind_step hj1 (guard_else (decide_eq_false (by omega)) (bind_step ((ref03HMACL0_eq _ _ _).trans h0) (bind_step ((ref03HMACL1_eq _ _ _ _ _ _).trans h1) (bind_step hj2 (bind_step q1 (bind_step q2 (bind_step q3 (bind_step q4 (bind_step q5 rfl)))))))))
theorem sumP0 {b2 : List Int} {parts : List (List Int)} (hp : ∀ p ∈ parts, Bytes p) : ∀ (r i fuel : Nat) (T : List Int) (h : List Int × Unit × Int), i + r = parts.length → hOK T h → Bytes T → T.length + (parts.drop i).flatten.length ≤ 90000 → r < fuel → parts.length ≤ 90000 →
  ∃ h', hOK (T ++ (parts.drop i).flatten) h' ∧ iter (fun p : List (List Int) × Int × Int × List Int × (List Int × Unit × Int) × List Int => shaSumL0R p.1 p.2.1 p.2.2.1 p.2.2.2.1 p.2.2.2.2.1 p.2.2.2.2.2) fuel (parts, (parts.length : Int), (i : Int), b2, h, rst T) = some (b2, h', rst (T ++ (parts.drop i).flatten))
 | 0, i, fuel, T, h, hi, hh, hT, hl, hf, hn => by
  obtain ⟨fuel, rfl⟩ : ∃ n, fuel = n + 1 := ⟨fuel - 1, by omega⟩
  rw [List.drop_eq_nil_of_le (by omega), List.flatten_nil, List.append_nil]
  refine ⟨h, hh, iter_end ?_⟩
  show shaSumL0R parts (parts.length : Int) (i : Int) b2 h (rst T) = _
  unfold shaSumL0R
  exact guard_else (decide_eq_false (by omega)) rfl
 | r + 1, i, fuel, T, h, hi, hh, hT, hl, hf, hn => by
  obtain ⟨fuel, rfl⟩ : ∃ n, fuel = n + 1 := ⟨fuel - 1, by omega⟩
  have hil : i < parts.length := by omega
  rw [flat_drop hil] at hl ⊢
  rw [List.length_append] at hl
  have hpb : Bytes (parts.getD i []) := by
   rw [List.getD_eq_getElem?_getD, List.getElem?_eq_getElem hil]; exact hp _ (List.getElem_mem hil)
  obtain ⟨h', w1, w2⟩ := write_val hh hT hpb (by omega)
  obtain ⟨h2, k1, k2⟩ := sumP0 (b2 := b2) hp r (i + 1) fuel (T ++ parts.getD i []) h' (by omega) w2 (Bytes_app hT hpb) (by rw [List.length_append]; omega) (by omega) hn
  rw [List.append_assoc] at k1 k2
  refine ⟨h2, k1, iter_more ?_ k2⟩
  show shaSumL0R parts (parts.length : Int) (i : Int) b2 h (rst T) = _
  unfold shaSumL0R
  simp only [Int.toNat_natCast]
  refine guard_step (decide_eq_true (by omega)) (guard_step (dn0 _) (guard_step (blt_lt hil) (bind_step (r := some (Sum.inl (parts, (parts.length : Int), ((i + 1 : Nat) : Int), b2, h', rst (T ++ parts.getD i [])))) w1 ?_)))
  show some (Sum.inl (parts, (parts.length : Int), IntKind.wrap .i64 ((i : Int) + 1), _)) = _
  rw [w64z _ (by omega) (by omega)]
  rfl
theorem shaSum_val {parts : List (List Int)} (hp : ∀ p ∈ parts, Bytes p) (hn : parts.length ≤ 900) (hl : parts.flatten.length ≤ 90000) : shaSum parts = some (shaS parts.flatten) := by
 rw [shaSum_eq]
 unfold shaSumB
 have hbig := bigFuel_eq
 obtain ⟨h', k1, k2⟩ := sumP0 (b2 := List.replicate 32 0) hp parts.length 0 bigFuel [] (List.replicate 8 0, (), 0) (by omega) new_ok Bytes_nil (by rw [List.drop_zero]; simpa using hl) (by omega) (by omega)
 rw [List.drop_zero, List.nil_append] at k1 k2
 have hpb : Bytes parts.flatten := Bytes_of fun a ha => by
  obtain ⟨p, hp1, hp2⟩ := List.mem_flatten.1 ha
  exact Bytes_mem (hp p hp1) a hp2
 exact bind_step new_val (bind_step ((shaSumL0_eq _ _ _ _ _ _).trans k2) (bind_step (sum_val k1 hpb (by omega)) rfl))
theorem hmP0 {b4 out : List Int} {parts : List (List Int)} (hp : ∀ p ∈ parts, Bytes p) : ∀ (r i fuel : Nat) (T : List Int) (h : List Int × Unit × Int), i + r = parts.length → hOK T h → Bytes T → T.length + (parts.drop i).flatten.length ≤ 90000 → r < fuel → parts.length ≤ 90000 →
  ∃ h', hOK (T ++ (parts.drop i).flatten) h' ∧ iter (fun p : List (List Int) × Int × Int × List Int × List Int × (List Int × Unit × Int) × List Int => shaHMACL1R p.1 p.2.1 p.2.2.1 p.2.2.2.1 p.2.2.2.2.1 p.2.2.2.2.2.1 p.2.2.2.2.2.2) fuel (parts, (parts.length : Int), (i : Int), b4, out, h, rst T) = some (b4, out, h', rst (T ++ (parts.drop i).flatten))
 | 0, i, fuel, T, h, hi, hh, hT, hl, hf, hn => by
  obtain ⟨fuel, rfl⟩ : ∃ n, fuel = n + 1 := ⟨fuel - 1, by omega⟩
  rw [List.drop_eq_nil_of_le (by omega), List.flatten_nil, List.append_nil]
  refine ⟨h, hh, iter_end ?_⟩
  show shaHMACL1R parts (parts.length : Int) (i : Int) b4 out h (rst T) = _
  unfold shaHMACL1R
  exact guard_else (decide_eq_false (by omega)) rfl
 | r + 1, i, fuel, T, h, hi, hh, hT, hl, hf, hn => by
  obtain ⟨fuel, rfl⟩ : ∃ n, fuel = n + 1 := ⟨fuel - 1, by omega⟩
  have hil : i < parts.length := by omega
  rw [flat_drop hil] at hl ⊢
  rw [List.length_append] at hl
  have hpb : Bytes (parts.getD i []) := by
   rw [List.getD_eq_getElem?_getD, List.getElem?_eq_getElem hil]; exact hp _ (List.getElem_mem hil)
  obtain ⟨h', w1, w2⟩ := write_val hh hT hpb (by omega)
  obtain ⟨h2, k1, k2⟩ := hmP0 (b4 := b4) (out := out) hp r (i + 1) fuel (T ++ parts.getD i []) h' (by omega) w2 (Bytes_app hT hpb) (by rw [List.length_append]; omega) (by omega) hn
  rw [List.append_assoc] at k1 k2
  refine ⟨h2, k1, iter_more ?_ k2⟩
  show shaHMACL1R parts (parts.length : Int) (i : Int) b4 out h (rst T) = _
  unfold shaHMACL1R
  simp only [Int.toNat_natCast]
  refine guard_step (decide_eq_true (by omega)) (guard_step (dn0 _) (guard_step (blt_lt hil) (bind_step (r := some (Sum.inl (parts, (parts.length : Int), ((i + 1 : Nat) : Int), b4, out, h', rst (T ++ parts.getD i [])))) w1 ?_)))
  show some (Sum.inl (parts, (parts.length : Int), IntKind.wrap .i64 ((i : Int) + 1), _)) = _
  rw [w64z _ (by omega) (by omega)]
  rfl
theorem hmL0 {parts : List (List Int)} {b4 K : List Int} (hK : K.length = 64) : ∀ (r i fuel : Nat), i + r = 64 → r < fuel →
  iter (fun p : List (List Int) × Int × List Int × List Int × List Int => shaHMACL0R p.1 p.2.1 p.2.2.1 p.2.2.2.1 p.2.2.2.2) fuel (parts, (i : Int), b4, xm 54 (K.take i) ++ K.drop i, xm 92 (K.take i) ++ K.drop i) = some (parts, b4, xm 54 K, xm 92 K)
 | 0, i, fuel, hi, hf => by
  obtain ⟨fuel, rfl⟩ : ∃ n, fuel = n + 1 := ⟨fuel - 1, by omega⟩
  have : i = 64 := by omega
  subst this
  refine iter_end ?_
  show shaHMACL0R parts ((64 : Nat) : Int) b4 _ _ = _
  unfold shaHMACL0R
  rw [List.take_of_length_le (by omega), List.drop_eq_nil_of_le (by omega), List.append_nil, List.append_nil]
  exact guard_else (by decide) rfl
 | r + 1, i, fuel, hi, hf => by
  obtain ⟨fuel, rfl⟩ : ∃ n, fuel = n + 1 := ⟨fuel - 1, by omega⟩
  refine iter_more ?_ (hmL0 (parts := parts) (b4 := b4) hK r (i + 1) fuel (by omega) (by omega))
  show shaHMACL0R parts (i : Int) b4 _ _ = _
  unfold shaHMACL0R
  have h1 : (xm 54 (K.take i)).length = i := by rw [xm_len]; simp; omega
  have h2 : (xm 92 (K.take i)).length = i := by rw [xm_len]; simp; omega
  simp only [Int.toNat_natCast]
  rw [drop_one (K := K) (i := i) (by omega), getD_mid h1, getD_mid h2, set_mid h1, set_mid h2]
  refine guard_step (decide_eq_true (by omega)) (guard_step (dn0 _) (guard_step (blt_lt (by omega)) (guard_step (blt_lt (by omega)) (guard_step (dn0 _) (guard_step (blt_lt (by omega)) (guard_step (blt_lt (by omega)) (guard_step (dn0 _) (guard_step (blt_lt (by omega)) (guard_step (blt_lt (by omega)) (guard_step (dn0 _) (guard_step (blt_lt (by omega)) (guard_step (blt_lt (by omega)) ?_))))))))))))
  rw [w64z _ (by omega) (by omega), take_one (K := K) (i := i) (by omega)]
  unfold xm
  rw [List.map_append, List.map_append, List.append_assoc, List.append_assoc]
  rfl
theorem spliceKey {key : List Int} (hk : key.length ≤ 64) : spliceL (List.replicate 64 (0 : Int)) 0 (List.take 64 key) = keyS key := by
 rw [List.take_of_length_le hk]
 unfold spliceL keyS
 rw [List.take_zero, List.nil_append, Nat.zero_add, List.drop_replicate]
theorem shaHMAC_val {key : List Int} {parts : List (List Int)} (hk : key.length ≤ 64) (hkb : Bytes key) (hp : ∀ p ∈ parts, Bytes p) (hn : parts.length ≤ 900) (hl : parts.flatten.length ≤ 800) : shaHMAC key parts = some (hmS key parts.flatten) := by
 have hbig := bigFuel_eq
 rw [shaHMAC_eq]
 unfold shaHMACB
 rw [spliceKey hk]
 have hKl := keyS_len hk
 have h0 := hmL0 (parts := parts) (b4 := List.replicate 32 0) hKl 64 0 1000 (by omega) (by omega)
 rw [List.take_zero, List.drop_zero] at h0
 have hx1 := xm_len 54 (keyS key)
 have hx2 := xm_len 92 (keyS key)
 have hb1 := xm_bytes 54 (keyS key)
 have hb2 := xm_bytes 92 (keyS key)
 have t1 : List.take 64 (List.drop 0 (xm 54 (keyS key))) = xm 54 (keyS key) := by rw [List.drop_zero, List.take_of_length_le (by omega)]
 have t2 : List.take 64 (List.drop 0 (xm 92 (keyS key))) = xm 92 (keyS key) := by rw [List.drop_zero, List.take_of_length_le (by omega)]
 obtain ⟨h1, w1, w2⟩ := write_val new_ok Bytes_nil hb1 (by simp only [List.length_nil]; omega)
 rw [List.nil_append] at w1 w2
 obtain ⟨h2, k1, k2⟩ := hmP0 (b4 := List.replicate 32 0) (out := xm 92 (keyS key)) hp parts.length 0 1000 (xm 54 (keyS key)) h1 (by omega) w2 hb1 (by rw [List.drop_zero]; omega) (by omega) (by omega)
 rw [List.drop_zero] at k1 k2
 have hpb : Bytes parts.flatten := Bytes_of fun a ha => by
  obtain ⟨p, hp1, hp2⟩ := List.mem_flatten.1 ha
  exact Bytes_mem (hp p hp1) a hp2
 have hs := sum_val k1 (Bytes_app hb1 hpb) (by rw [List.length_append]; omega)
 have hsl := shaS_len (xm 54 (keyS key) ++ parts.flatten)
 have t3 : List.take 32 (List.drop 0 (shaS (xm 54 (keyS key) ++ parts.flatten))) = shaS (xm 54 (keyS key) ++ parts.flatten) := by rw [List.drop_zero, List.take_of_length_le (by omega)]
 have hf : [xm 92 (keyS key), shaS (xm 54 (keyS key) ++ parts.flatten)].flatten = xm 92 (keyS key) ++ shaS (xm 54 (keyS key) ++ parts.flatten) := by simp
 have hS := shaSum_val (parts := [xm 92 (keyS key), shaS (xm 54 (keyS key) ++ parts.flatten)]) (fun p hp' => by
  rcases List.mem_cons.1 hp' with e | e
  ·rw [e]; exact hb2
  ·rw [List.mem_singleton.1 e]; exact shaS_bytes _) (by simp) (by rw [hf, List.length_append]; omega)
 rw [hf] at hS
 refine guard_else (decide_eq_false (by omega)) (bind_step ((shaHMACL0_eq _ _ _ _ _).trans h0) (bind_step new_val ?_))
 simp only [t1, t2]
 refine bind_step w1 (bind_step ((shaHMACL1_eq _ _ _ _ _ _ _).trans k2) (bind_step hs ?_))
 simp only [t2, t3]
 exact bind_step hS rfl
end Go.Sy
