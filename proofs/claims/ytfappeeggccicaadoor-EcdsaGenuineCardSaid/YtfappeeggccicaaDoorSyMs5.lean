/- SHA-256 and HMAC: the two texts answer alike. -/

import Derived.Test.YtfappeeggccicaaDoorSyMs4

set_option linter.unusedVariables false

set_option linter.unusedSimpArgs false

namespace Go.Sy

open Go

theorem flat_drop {parts : List (List Int)} {i : Nat} (h : i < parts.length) : (parts.drop i).flatten = parts.getD i [] ++ (parts.drop (i + 1)).flatten := by
  rw [List.drop_eq_getElem_cons h, List.flatten_cons, List.getD_eq_getElem?_getD, List.getElem?_eq_getElem h]; rfl

noncomputable def xm (c : Int) (l : List Int) : List Int := l.map fun x => xorI .u8 x c

theorem xm_len (c : Int) (l : List Int) : (xm c l).length = l.length := List.length_map _

theorem xm_bytes (c : Int) (l : List Int) : Bytes (xm c l) := Bytes_of fun a ha => by
  obtain ⟨x, _, rfl⟩ := List.mem_map.1 ha
  exact wrapU8 _

def keyS (key : List Int) : List Int := key ++ List.replicate (64 - key.length) 0

theorem keyS_len {key : List Int} (h : key.length ≤ 64) : (keyS key).length = 64 := by simp [keyS]; omega

/-- The code of a text under a key (of at most 64 bytes). -/
noncomputable def hmS (key T : List Int) : List Int := shaS (xm 92 (keyS key) ++ shaS (xm 54 (keyS key) ++ T))

theorem hmS_len (key T : List Int) : (hmS key T).length = 32 := shaS_len _

theorem hmS_bytes (key T : List Int) : Bytes (hmS key T) := shaS_bytes _

theorem take_one {K : List Int} {i : Nat} (h : i < K.length) : K.take (i + 1) = K.take i ++ [K.getD i 0] := by
  rw [List.take_add_one, List.getD_eq_getElem?_getD, List.getElem?_eq_getElem h]; rfl

theorem drop_one {K : List Int} {i : Nat} (h : i < K.length) : K.drop i = K.getD i 0 :: K.drop (i + 1) := by
  rw [List.drop_eq_getElem_cons h, List.getD_eq_getElem?_getD, List.getElem?_eq_getElem h]; rfl

theorem sumP0 {b2 : List Int} {parts : List (List Int)} (hp : ∀ p ∈ parts, Bytes p) : ∀ (r i fuel : Nat) (T : List Int) (h : List Int × Unit × Int), i + r = parts.length → hOK T h → Bytes T → T.length + (parts.drop i).flatten.length ≤ 90000 → r < fuel → parts.length ≤ 90000 →
    ∃ h', hOK (T ++ (parts.drop i).flatten) h' ∧ iter (fun p : List (List Int) × Int × Int × List Int × (List Int × Unit × Int) × List Int => shaSumL0R p.1 p.2.1 p.2.2.1 p.2.2.2.1 p.2.2.2.2.1 p.2.2.2.2.2) fuel (parts, (parts.length : Int), (i : Int), b2, h, rst T) = some (b2, h', rst (T ++ (parts.drop i).flatten))
  | 0, i, fuel, T, h, hi, hh, hT, hl, hf, hn => by
    obtain ⟨fuel, rfl⟩ : ∃ n, fuel = n + 1 := ⟨fuel - 1, by omega⟩
    rw [List.drop_eq_nil_of_le (by omega), List.flatten_nil, List.append_nil]
    refine ⟨h, hh, iter_end ?_⟩
    show shaSumL0R parts (parts.length : Int) (i : Int) b2 h (rst T) = _
    unfold shaSumL0R
    exact guard_else (decide_eq_false (by omega)) rfl
  | r + 1, i, fuel, T, h, hi, hh, hT, hl, hf, hn => by
    obtain ⟨fuel, rfl⟩ : ∃ n, fuel = n + 1 := ⟨fuel - 1, by omega⟩
    have hil : i < parts.length := by omega
    rw [flat_drop hil] at hl ⊢
    rw [List.length_append] at hl
    have hpb : Bytes (parts.getD i []) := by
      rw [List.getD_eq_getElem?_getD, List.getElem?_eq_getElem hil]; exact hp _ (List.getElem_mem hil)
    obtain ⟨h', w1, w2⟩ := write_val hh hT hpb (by omega)
    obtain ⟨h2, k1, k2⟩ := sumP0 (b2 := b2) hp r (i + 1) fuel (T ++ parts.getD i []) h' (by omega) w2 (Bytes_app hT hpb) (by rw [List.length_append]; omega) (by omega) hn
    rw [List.append_assoc] at k1 k2
    refine ⟨h2, k1, iter_more ?_ k2⟩
    show shaSumL0R parts (parts.length : Int) (i : Int) b2 h (rst T) = _
    unfold shaSumL0R
    simp only [Int.toNat_natCast]
    refine guard_step (decide_eq_true (by omega)) (guard_step (dn0 _) (guard_step (blt_lt hil) (bind_step (r := some (Sum.inl (parts, (parts.length : Int), ((i + 1 : Nat) : Int), b2, h', rst (T ++ parts.getD i [])))) w1 ?_)))
    show some (Sum.inl (parts, (parts.length : Int), IntKind.wrap .i64 ((i : Int) + 1), _)) = _
    rw [w64z _ (by omega) (by omega)]
    rfl

theorem shaSum_val {parts : List (List Int)} (hp : ∀ p ∈ parts, Bytes p) (hn : parts.length ≤ 900) (hl : parts.flatten.length ≤ 90000) : shaSum parts = some (shaS parts.flatten) := by
  rw [shaSum_eq]
  unfold shaSumB
  have hbig := bigFuel_eq
  obtain ⟨h', k1, k2⟩ := sumP0 (b2 := List.replicate 32 0) hp parts.length 0 bigFuel [] (List.replicate 8 0, (), 0) (by omega) new_ok Bytes_nil (by rw [List.drop_zero]; simpa using hl) (by omega) (by omega)
  rw [List.drop_zero, List.nil_append] at k1 k2
  have hpb : Bytes parts.flatten := Bytes_of fun a ha => by
    obtain ⟨p, hp1, hp2⟩ := List.mem_flatten.1 ha
    exact Bytes_mem (hp p hp1) a hp2
  exact bind_step new_val (bind_step ((shaSumL0_eq _ _ _ _ _ _).trans k2) (bind_step (sum_val k1 hpb (by omega)) rfl))

theorem hmP0 {b4 out : List Int} {parts : List (List Int)} (hp : ∀ p ∈ parts, Bytes p) : ∀ (r i fuel : Nat) (T : List Int) (h : List Int × Unit × Int), i + r = parts.length → hOK T h → Bytes T → T.length + (parts.drop i).flatten.length ≤ 90000 → r < fuel → parts.length ≤ 90000 →
    ∃ h', hOK (T ++ (parts.drop i).flatten) h' ∧ iter (fun p : List (List Int) × Int × Int × List Int × List Int × (List Int × Unit × Int) × List Int => shaHMACL1R p.1 p.2.1 p.2.2.1 p.2.2.2.1 p.2.2.2.2.1 p.2.2.2.2.2.1 p.2.2.2.2.2.2) fuel (parts, (parts.length : Int), (i : Int), b4, out, h, rst T) = some (b4, out, h', rst (T ++ (parts.drop i).flatten))
  | 0, i, fuel, T, h, hi, hh, hT, hl, hf, hn => by
    obtain ⟨fuel, rfl⟩ : ∃ n, fuel = n + 1 := ⟨fuel - 1, by omega⟩
    rw [List.drop_eq_nil_of_le (by omega), List.flatten_nil, List.append_nil]
    refine ⟨h, hh, iter_end ?_⟩
    show shaHMACL1R parts (parts.length : Int) (i : Int) b4 out h (rst T) = _
    unfold shaHMACL1R
    exact guard_else (decide_eq_false (by omega)) rfl
  | r + 1, i, fuel, T, h, hi, hh, hT, hl, hf, hn => by
    obtain ⟨fuel, rfl⟩ : ∃ n, fuel = n + 1 := ⟨fuel - 1, by omega⟩
    have hil : i < parts.length := by omega
    rw [flat_drop hil] at hl ⊢
    rw [List.length_append] at hl
    have hpb : Bytes (parts.getD i []) := by
      rw [List.getD_eq_getElem?_getD, List.getElem?_eq_getElem hil]; exact hp _ (List.getElem_mem hil)
    obtain ⟨h', w1, w2⟩ := write_val hh hT hpb (by omega)
    obtain ⟨h2, k1, k2⟩ := hmP0 (b4 := b4) (out := out) hp r (i + 1) fuel (T ++ parts.getD i []) h' (by omega) w2 (Bytes_app hT hpb) (by rw [List.length_append]; omega) (by omega) hn
    rw [List.append_assoc] at k1 k2
    refine ⟨h2, k1, iter_more ?_ k2⟩
    show shaHMACL1R parts (parts.length : Int) (i : Int) b4 out h (rst T) = _
    unfold shaHMACL1R
    simp only [Int.toNat_natCast]
    refine guard_step (decide_eq_true (by omega)) (guard_step (dn0 _) (guard_step (blt_lt hil) (bind_step (r := some (Sum.inl (parts, (parts.length : Int), ((i + 1 : Nat) : Int), b4, out, h', rst (T ++ parts.getD i [])))) w1 ?_)))
    show some (Sum.inl (parts, (parts.length : Int), IntKind.wrap .i64 ((i : Int) + 1), _)) = _
    rw [w64z _ (by omega) (by omega)]
    rfl

theorem hmL0 {parts : List (List Int)} {b4 K : List Int} (hK : K.length = 64) : ∀ (r i fuel : Nat), i + r = 64 → r < fuel →
    iter (fun p : List (List Int) × Int × List Int × List Int × List Int => shaHMACL0R p.1 p.2.1 p.2.2.1 p.2.2.2.1 p.2.2.2.2) fuel (parts, (i : Int), b4, xm 54 (K.take i) ++ K.drop i, xm 92 (K.take i) ++ K.drop i) = some (parts, b4, xm 54 K, xm 92 K)
  | 0, i, fuel, hi, hf => by
    obtain ⟨fuel, rfl⟩ : ∃ n, fuel = n + 1 := ⟨fuel - 1, by omega⟩
    have : i = 64 := by omega
    subst this
    refine iter_end ?_
    show shaHMACL0R parts ((64 : Nat) : Int) b4 _ _ = _
    unfold shaHMACL0R
    rw [List.take_of_length_le (by omega), List.drop_eq_nil_of_le (by omega), List.append_nil, List.append_nil]
    exact guard_else (by decide) rfl
  | r + 1, i, fuel, hi, hf => by
    obtain ⟨fuel, rfl⟩ : ∃ n, fuel = n + 1 := ⟨fuel - 1, by omega⟩
    refine iter_more ?_ (hmL0 (parts := parts) (b4 := b4) hK r (i + 1) fuel (by omega) (by omega))
    show shaHMACL0R parts (i : Int) b4 _ _ = _
    unfold shaHMACL0R
    have h1 : (xm 54 (K.take i)).length = i := by rw [xm_len]; simp; omega
    have h2 : (xm 92 (K.take i)).length = i := by rw [xm_len]; simp; omega
    simp only [Int.toNat_natCast]
    rw [drop_one (K := K) (i := i) (by omega), getD_mid h1, getD_mid h2, set_mid h1, set_mid h2]
    refine guard_step (decide_eq_true (by omega)) (guard_step (dn0 _) (guard_step (blt_lt (by omega)) (guard_step (blt_lt (by omega)) (guard_step (dn0 _) (guard_step (blt_lt (by omega)) (guard_step (blt_lt (by omega)) (guard_step (dn0 _) (guard_step (blt_lt (by omega)) (guard_step (blt_lt (by omega)) (guard_step (dn0 _) (guard_step (blt_lt (by omega)) (guard_step (blt_lt (by omega)) ?_))))))))))))
    rw [w64z _ (by omega) (by omega), take_one (K := K) (i := i) (by omega)]
    unfold xm
    rw [List.map_append, List.map_append, List.append_assoc, List.append_assoc]
    rfl

theorem spliceKey {key : List Int} (hk : key.length ≤ 64) : spliceL (List.replicate 64 (0 : Int)) 0 (List.take 64 key) = keyS key := by
  rw [List.take_of_length_le hk]
  unfold spliceL keyS
  rw [List.take_zero, List.nil_append, Nat.zero_add, List.drop_replicate]

theorem shaHMAC_val {key : List Int} {parts : List (List Int)} (hk : key.length ≤ 64) (hkb : Bytes key) (hp : ∀ p ∈ parts, Bytes p) (hn : parts.length ≤ 900) (hl : parts.flatten.length ≤ 800) : shaHMAC key parts = some (hmS key parts.flatten) := by
  have hbig := bigFuel_eq
  rw [shaHMAC_eq]
  unfold shaHMACB
  rw [spliceKey hk]
  have hKl := keyS_len hk
  have h0 := hmL0 (parts := parts) (b4 := List.replicate 32 0) hKl 64 0 1000 (by omega) (by omega)
  rw [List.take_zero, List.drop_zero] at h0
  have hx1 := xm_len 54 (keyS key)
  have hx2 := xm_len 92 (keyS key)
  have hb1 := xm_bytes 54 (keyS key)
  have hb2 := xm_bytes 92 (keyS key)
  have t1 : List.take 64 (List.drop 0 (xm 54 (keyS key))) = xm 54 (keyS key) := by rw [List.drop_zero, List.take_of_length_le (by omega)]
  have t2 : List.take 64 (List.drop 0 (xm 92 (keyS key))) = xm 92 (keyS key) := by rw [List.drop_zero, List.take_of_length_le (by omega)]
  obtain ⟨h1, w1, w2⟩ := write_val new_ok Bytes_nil hb1 (by simp only [List.length_nil]; omega)
  rw [List.nil_append] at w1 w2
  obtain ⟨h2, k1, k2⟩ := hmP0 (b4 := List.replicate 32 0) (out := xm 92 (keyS key)) hp parts.length 0 1000 (xm 54 (keyS key)) h1 (by omega) w2 hb1 (by rw [List.drop_zero]; omega) (by omega) (by omega)
  rw [List.drop_zero] at k1 k2
  have hpb : Bytes parts.flatten := Bytes_of fun a ha => by
    obtain ⟨p, hp1, hp2⟩ := List.mem_flatten.1 ha
    exact Bytes_mem (hp p hp1) a hp2
  have hs := sum_val k1 (Bytes_app hb1 hpb) (by rw [List.length_append]; omega)
  have hsl := shaS_len (xm 54 (keyS key) ++ parts.flatten)
  have t3 : List.take 32 (List.drop 0 (shaS (xm 54 (keyS key) ++ parts.flatten))) = shaS (xm 54 (keyS key) ++ parts.flatten) := by rw [List.drop_zero, List.take_of_length_le (by omega)]
  have hf : [xm 92 (keyS key), shaS (xm 54 (keyS key) ++ parts.flatten)].flatten = xm 92 (keyS key) ++ shaS (xm 54 (keyS key) ++ parts.flatten) := by simp
  have hS := shaSum_val (parts := [xm 92 (keyS key), shaS (xm 54 (keyS key) ++ parts.flatten)]) (fun p hp' => by
    rcases List.mem_cons.1 hp' with e | e
    · rw [e]; exact hb2
    · rw [List.mem_singleton.1 e]; exact shaS_bytes _) (by simp) (by rw [hf, List.length_append]; omega)
  rw [hf] at hS
  refine guard_else (decide_eq_false (by omega)) (bind_step ((shaHMACL0_eq _ _ _ _ _).trans h0) (bind_step new_val ?_))
  simp only [t1, t2]
  refine bind_step w1 (bind_step ((shaHMACL1_eq _ _ _ _ _ _ _).trans k2) (bind_step hs ?_))
  simp only [t2, t3]
  exact bind_step hS rfl

end Go.Sy
