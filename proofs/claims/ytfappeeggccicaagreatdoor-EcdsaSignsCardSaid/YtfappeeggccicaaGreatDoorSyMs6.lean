/- Nonces: what both texts answer. -/
import Derived.Test.YtfappeeggccicaaGreatDoorSyMs5
import Derived.Test.YtfappeeggccicaaGreatDoorSyEA
import Derived.Test.YtfappeeggccicaaGreatDoorSyVN
set_option linter.unusedVariables false
set_option linter.unusedSimpArgs false
noncomputable section
namespace Go.Sy
open Go
theorem t32 {l : List Int} (h : l.length = 32) : List.take 32 (List.drop 0 l) = l := by rw [List.drop_zero, List.take_of_length_le (by omega)]
theorem Bytes_one (a : Int) (h : 0 ≤ a ∧ a < 256) : Bytes [a] := Bytes_cons h Bytes_nil
def B32 (l : List Int) : Prop := l.length = 32 ∧ Bytes l
theorem B32_hm (key T : List Int) : B32 (hmS key T) := ⟨hmS_len _ _, hmS_bytes _ _⟩
theorem B32_put (x : Nat) : B32 (put32 x) := ⟨put32_length x, put32_bytes x⟩
theorem hm1 {k v : List Int} (hk : B32 k) (hv : B32 v) : shaHMAC k [v] = some (hmS k v) := by
 have h : [v].flatten = v := by simp
 have := shaHMAC_val (key := k) (parts := [v]) (by rw [hk.1]; decide) hk.2 (fun p hp => by rw [List.mem_singleton.1 hp]; exact hv.2) (by simp) (by rw [h, hv.1]; decide)
 rw [h] at this; exact this
theorem hm2 {k v : List Int} {a : Int} (hk : B32 k) (hv : B32 v) (ha : 0 ≤ a ∧ a < 256) : shaHMAC k [v, [a]] = some (hmS k (v ++ [a])) := by
 have h : [v, [a]].flatten = v ++ [a] := by simp
 have := shaHMAC_val (key := k) (parts := [v, [a]]) (by rw [hk.1]; decide) hk.2 (fun p hp => by
  rcases List.mem_cons.1 hp with e | e
  ·rw [e]; exact hv.2
  ·rw [List.mem_singleton.1 e]; exact Bytes_one a ha) (by simp) (by rw [h, List.length_append, hv.1]; simp)
 rw [h] at this; exact this
theorem hm4 {k v x y : List Int} {a : Int} (hk : B32 k) (hv : B32 v) (hx : B32 x) (hy : B32 y) (ha : 0 ≤ a ∧ a < 256) : shaHMAC k [v, [a], x, y] = some (hmS k (v ++ ([a] ++ (x ++ y)))) := by
 have h : [v, [a], x, y].flatten = v ++ ([a] ++ (x ++ y)) := by simp
 have := shaHMAC_val (key := k) (parts := [v, [a], x, y]) (by rw [hk.1]; decide) hk.2 (fun p hp => by
  simp only [List.mem_cons, List.not_mem_nil, or_false] at hp
  rcases hp with e | e | e | e <;> rw [e]
  ·exact hv.2
  ·exact Bytes_one a ha
  ·exact hx.2
  ·exact hy.2) (by simp) (by rw [h]; simp [hv.1, hx.1, hy.1])
 rw [h] at this; exact this
theorem rm1 {k v : List Int} (hk : B32 k) (hv : B32 v) : ref06ICode k [v] = some (hmS k v) := by
 have h : [v].flatten = v := by simp
 have := refHMAC_val (key := k) (parts := [v]) (by rw [hk.1]; decide) hk.2 (fun p hp => by rw [List.mem_singleton.1 hp]; exact ⟨by rw [hv.1]; decide, hv.2⟩) (by simp) (by rw [h, hv.1]; decide)
 rw [h] at this
 rw [ref06ICode_eq]; exact bind_step this rfl
theorem rm2 {k v : List Int} {a : Int} (hk : B32 k) (hv : B32 v) (ha : 0 ≤ a ∧ a < 256) : ref06ICode k [v, [a]] = some (hmS k (v ++ [a])) := by
 have h : [v, [a]].flatten = v ++ [a] := by simp
 have := refHMAC_val (key := k) (parts := [v, [a]]) (by rw [hk.1]; decide) hk.2 (fun p hp => by
  rcases List.mem_cons.1 hp with e | e
  ·rw [e]; exact ⟨by rw [hv.1]; decide, hv.2⟩
  ·rw [List.mem_singleton.1 e]; exact ⟨by simp, Bytes_one a ha⟩) (by simp) (by rw [h, List.length_append, hv.1]; simp)
 rw [h] at this
 rw [ref06ICode_eq]; exact bind_step this rfl
theorem rm4 {k v x y : List Int} {a : Int} (hk : B32 k) (hv : B32 v) (hx : B32 x) (hy : B32 y) (ha : 0 ≤ a ∧ a < 256) : ref06ICode k [v, [a], x, y] = some (hmS k (v ++ ([a] ++ (x ++ y)))) := by
 have h : [v, [a], x, y].flatten = v ++ ([a] ++ (x ++ y)) := by simp
 have := refHMAC_val (key := k) (parts := [v, [a], x, y]) (by rw [hk.1]; decide) hk.2 (fun p hp => by
  simp only [List.mem_cons, List.not_mem_nil, or_false] at hp
  rcases hp with e | e | e | e <;> rw [e]
  ·exact ⟨by rw [hv.1]; decide, hv.2⟩
  ·exact ⟨by simp, Bytes_one a ha⟩
  ·exact ⟨by rw [hx.1]; decide, hx.2⟩
  ·exact ⟨by rw [hy.1]; decide, hy.2⟩) (by simp) (by rw [h]; simp [hv.1, hx.1, hy.1])
 rw [h] at this
 rw [ref06ICode_eq]; exact bind_step this rfl
def ones32 : List Int := List.replicate 32 1
def zero32 : List Int := List.replicate 32 0
theorem B32_ones : B32 ones32 := ⟨rfl, Bytes_of fun a ha => by rw [(List.mem_replicate.1 ha).2]; decide⟩
theorem B32_zero : B32 zero32 := ⟨rfl, Bytes_zero 32⟩
def seedK1 (x : Nat) (d : List Int) : List Int := hmS zero32 (ones32 ++ ([0] ++ (put32 x ++ put32 (numV d))))
def seedV1 (x : Nat) (d : List Int) : List Int := hmS (seedK1 x d) ones32
def seedK (x : Nat) (d : List Int) : List Int := hmS (seedK1 x d) (seedV1 x d ++ ([1] ++ (put32 x ++ put32 (numV d))))
def seedV (x : Nat) (d : List Int) : List Int := hmS (seedK x d) (seedV1 x d)
theorem candL0 {d e k : List Int} : ∀ (r i fuel : Nat), i + r = 32 → r < fuel →
  iter (fun p : Int × List Int × List Int × List Int × List Int => ecdsaICandidatesL0R p.1 p.2.1 p.2.2.1 p.2.2.2.1 p.2.2.2.2) fuel ((i : Int), d, e, List.replicate i 1 ++ List.replicate r 0, k) = some (d, e, ones32, k)
 | 0, i, fuel, hi, hf => by
  obtain ⟨fuel, rfl⟩ : ∃ n, fuel = n + 1 := ⟨fuel - 1, by omega⟩
  have : i = 32 := by omega
  subst this
  refine iter_end ?_
  show ecdsaICandidatesL0R ((32 : Nat) : Int) d e _ k = _
  unfold ecdsaICandidatesL0R
  rw [List.replicate_zero, List.append_nil]
  exact guard_else (by decide) rfl
 | r + 1, i, fuel, hi, hf => by
  obtain ⟨fuel, rfl⟩ : ∃ n, fuel = n + 1 := ⟨fuel - 1, by omega⟩
  refine iter_more ?_ (candL0 (d := d) (e := e) (k := k) r (i + 1) fuel (by omega) (by omega))
  show ecdsaICandidatesL0R (i : Int) d e _ k = _
  unfold ecdsaICandidatesL0R
  simp only [Int.toNat_natCast]
  refine guard_step (decide_eq_true (by omega)) (guard_step (dn0 _) (guard_step (blt_lt (by omega)) (guard_step (blt_lt (by omega)) ?_)))
  rw [w64z _ (by omega) (by omega), List.replicate_succ (n := r), set_mid (by simp), List.replicate_succ' (n := i), List.append_assoc]
  rfl
theorem candidates_val {x : Nat} {d : List Int} (hd : Bytes d) : ecdsaICandidates x d = some (seedV x d, seedK x d, true) := by
 rw [ecdsaICandidates_eq]
 unfold ecdsaICandidatesB
 have h0 := candL0 (d := put32 x) (e := put32 (numV d)) (k := List.replicate 32 0) 32 0 1000 (by omega) (by omega)
 have p1 := B32_put x
 have p2 := B32_put (numV d)
 refine bind_step (u256Put_val x) (bind_step (ecdsaINumber_val hd) (bind_step (u256Put_val _) (bind_step ((ecdsaICandidatesL0_eq _ _ _ _ _).trans h0) ?_)))
 simp only [t32 p1.1, t32 p2.1, t32 B32_ones.1, t32 (show (List.replicate 32 (0 : Int)).length = 32 from rfl)]
 refine bind_step (hm4 B32_zero B32_ones p1 p2 (by decide)) ?_
 simp only [t32 (hmS_len _ _)]
 refine bind_step (hm1 (B32_hm _ _) B32_ones) ?_
 simp only [t32 (hmS_len _ _)]
 refine bind_step (hm4 (B32_hm _ _) (B32_hm _ _) p1 p2 (by decide)) ?_
 simp only [t32 (hmS_len _ _)]
 exact bind_step (hm1 (B32_hm _ _) (B32_hm _ _)) rfl
def kv (x : Nat) (d : List Int) : Nat → List Int × List Int
 | 0 => (seedK x d, hmS (seedK x d) (seedV x d))
 | i + 1 => (hmS (kv x d i).1 ((kv x d i).2 ++ [0]), hmS (hmS (kv x d i).1 ((kv x d i).2 ++ [0])) (hmS (hmS (kv x d i).1 ((kv x d i).2 ++ [0])) (kv x d i).2))
def cnd (x : Nat) (d : List Int) (i : Nat) : Nat := (getV (kv x d i).2).1
theorem kv_32 (x : Nat) (d : List Int) : ∀ i, B32 (kv x d i).1 ∧ B32 (kv x d i).2
 | 0 => ⟨B32_hm _ _, B32_hm _ _⟩
 | i + 1 => ⟨B32_hm _ _, B32_hm _ _⟩
theorem cnd_lt (x : Nat) (d : List Int) (i : Nat) : cnd x d i < M256 := getV_lt (kv_32 x d i).2.2
def ahead (x : Nat) (d : List Int) : Nat → List Int × List Int × Bool
 | 0 => (seedK x d, seedV x d, true)
 | i + 1 => ((kv x d i).1, (kv x d i).2, false)
theorem next_val (x : Nat) (d : List Int) : ∀ i, ecdsaICandidatesC1 (ahead x d i).2.2 (ahead x d i).1 (ahead x d i).2.1 = some (cnd x d i, (ahead x d (i + 1)).2.2, (ahead x d (i + 1)).1, (ahead x d (i + 1)).2.1)
 | 0 => by
  rw [ecdsaICandidatesC1_eq]
  unfold ecdsaICandidatesC1B
  refine guard_else rfl ?_
  have hk : B32 (seedK x d) := B32_hm _ _
  have hv : B32 (seedV x d) := B32_hm _ _
  show (shaHMAC (List.take 32 (List.drop 0 (seedK x d))) [List.take 32 (List.drop 0 (seedV x d))]).bind _ = _
  rw [t32 hk.1, t32 hv.1]
  refine bind_step (hm1 hk hv) ?_
  simp only [t32 (hmS_len _ _)]
  exact bind_step (u256Get_val (hmS_bytes _ _)) rfl
 | i + 1 => by
  rw [ecdsaICandidatesC1_eq]
  unfold ecdsaICandidatesC1B
  refine guard_step rfl ?_
  obtain ⟨hk, hv⟩ := kv_32 x d i
  show (shaHMAC (List.take 32 (List.drop 0 (kv x d i).1)) [List.take 32 (List.drop 0 (kv x d i).2), [0]]).bind _ = _
  rw [t32 hk.1]
  refine bind_step (by rw [t32 hv.1]; exact hm2 hk hv (by decide)) ?_
  show (shaHMAC (List.take 32 (List.drop 0 _)) [List.take 32 (List.drop 0 (kv x d i).2)]).bind _ = _
  simp only [t32 (hmS_len _ _), t32 hv.1]
  refine bind_step (hm1 (B32_hm _ _) hv) ?_
  simp only [t32 (hmS_len _ _)]
  refine bind_step (hm1 (B32_hm _ _) (B32_hm _ _)) ?_
  simp only [t32 (hmS_len _ _)]
  exact bind_step (u256Get_val (hmS_bytes _ _)) rfl
def cnds (x : Nat) (d : List Int) (n : Nat) : List Nat := (List.range n).map (cnd x d)
theorem cnds_len (x : Nat) (d : List Int) (n : Nat) : (cnds x d n).length = n := by simp [cnds]
theorem cnds_succ (x : Nat) (d : List Int) (n : Nat) : cnds x d (n + 1) = cnds x d n ++ [cnd x d n] := by simp [cnds, List.range_succ]
theorem cnds_get (x : Nat) (d : List Int) {n i : Nat} (h : i < n) : (cnds x d n).getD i 0 = cnd x d i := by
 rw [List.getD_eq_getElem?_getD]
 simp [cnds, h]
theorem room32b {n : Nat} (h : n ≤ 100000) : roomB 32 n = true := by
 simp only [roomB, Bool.and_eq_true]
 exact ⟨ble_le (by omega), ble_le (by omega)⟩
theorem refCandL0 {count : Int} {a b : List Int} : ∀ (r i fuel : Nat), i + r = 32 → r < fuel →
  iter (fun p : Int × Int × List Int × List Int × List Int × List Int => ref06CandidatesL0R p.1 p.2.1 p.2.2.1 p.2.2.2.1 p.2.2.2.2.1 p.2.2.2.2.2) fuel (count, (i : Int), a, b, List.replicate i 1, List.replicate i 0) = some (count, ones32, zero32, a, b)
 | 0, i, fuel, hi, hf => by
  obtain ⟨fuel, rfl⟩ : ∃ n, fuel = n + 1 := ⟨fuel - 1, by omega⟩
  have : i = 32 := by omega
  subst this
  refine iter_end ?_
  show ref06CandidatesL0R count ((32 : Nat) : Int) a b _ _ = _
  unfold ref06CandidatesL0R
  exact guard_else (by decide) rfl
 | r + 1, i, fuel, hi, hf => by
  obtain ⟨fuel, rfl⟩ : ∃ n, fuel = n + 1 := ⟨fuel - 1, by omega⟩
  refine iter_more ?_ (refCandL0 (count := count) (a := a) (b := b) r (i + 1) fuel (by omega) (by omega))
  show ref06CandidatesL0R count (i : Int) a b _ _ = _
  unfold ref06CandidatesL0R
  refine guard_step (decide_eq_true (by omega)) (guard_step (room1 (by simp; omega)) (guard_step (room1 (by simp; omega)) ?_))
  rw [w64z _ (by omega) (by omega), List.replicate_succ' (n := i), List.replicate_succ' (n := i)]
  rfl
theorem refCandL1 {x count : Nat} {d : List Int} (hc : count ≤ 256) : ∀ (r i fuel : Nat), i + r = count → r < fuel →
  iter (fun p : Int × Int × List Int × List Int × List Nat => ref06CandidatesL1R p.1 p.2.1 p.2.2.1 p.2.2.2.1 p.2.2.2.2) fuel ((count : Int), (i : Int), (ahead x d i).1, (ahead x d i).2.1, cnds x d i) = some (cnds x d count)
 | 0, i, fuel, hi, hf => by
  obtain ⟨fuel, rfl⟩ : ∃ n, fuel = n + 1 := ⟨fuel - 1, by omega⟩
  have : i = count := by omega
  subst this
  refine iter_end ?_
  show ref06CandidatesL1R (i : Int) (i : Int) _ _ _ = _
  unfold ref06CandidatesL1R
  exact guard_else (decide_eq_false (by omega)) rfl
 | r + 1, i, fuel, hi, hf => by
  obtain ⟨fuel, rfl⟩ : ∃ n, fuel = n + 1 := ⟨fuel - 1, by omega⟩
  refine iter_more ?_ (refCandL1 (x := x) (d := d) hc r (i + 1) fuel (by omega) (by omega))
  show ref06CandidatesL1R (count : Int) (i : Int) _ _ _ = _
  unfold ref06CandidatesL1R
  have hroom : ∀ a : Nat, roomB 32 ((cnds x d i).length + [a].length) = true := fun a => room32b (by rw [cnds_len]; simp; omega)
  refine guard_step (decide_eq_true (by omega)) ?_
  cases i with
  | zero =>
   refine guard_else (by decide) ?_
   have hk : B32 (seedK x d) := B32_hm _ _
   have hv : B32 (seedV x d) := B32_hm _ _
   show (ref06ICode (List.take 32 (List.drop 0 (seedK x d))) [List.take 32 (List.drop 0 (seedV x d))]).bind _ = _
   rw [t32 hk.1, t32 hv.1]
   refine bind_step (rm1 hk hv) ?_
   simp only [t32 (hmS_len _ _)]
   refine bind_step (ref01Get_val (hmS_bytes _ _)) (guard_step (hroom _) ?_)
   rw [cnds_succ]; rfl
  | succ i =>
   refine guard_step (decide_eq_true (by omega)) ?_
   obtain ⟨hk, hv⟩ := kv_32 x d i
   show (ref06ICode (List.take 32 (List.drop 0 (kv x d i).1)) [List.take 32 (List.drop 0 (kv x d i).2), [0]]).bind _ = _
   rw [t32 hk.1]
   refine bind_step (by rw [t32 hv.1]; exact rm2 hk hv (by decide)) ?_
   show (ref06ICode (List.take 32 (List.drop 0 _)) [List.take 32 (List.drop 0 (kv x d i).2)]).bind _ = _
   simp only [t32 (hmS_len _ _), t32 hv.1]
   refine bind_step (rm1 (B32_hm _ _) hv) ?_
   simp only [t32 (hmS_len _ _)]
   refine bind_step (rm1 (B32_hm _ _) (B32_hm _ _)) ?_
   simp only [t32 (hmS_len _ _)]
   refine bind_step (ref01Get_val (hmS_bytes _ _)) (guard_step (hroom _) ?_)
   rw [cnds_succ x d (i + 1), w64z _ (by omega) (by omega)]
   rfl
theorem refBytes32_val (x : Nat) : ref06IBytes32 x = some (put32 x) := by
 rw [ref06IBytes32_eq]
 exact bind_step (ref01Put_val x) rfl
theorem refCandidates_val {x count : Nat} {d : List Int} (hd : Bytes d) (hc : count ≤ 256) : ref06Candidates x d (count : Int) = some (cnds x d count) := by
 rw [ref06Candidates_eq]
 unfold ref06CandidatesB
 have h0 := refCandL0 (count := (count : Int)) (a := put32 x) (b := put32 (numV d)) 32 0 1000 (by omega) (by omega)
 have h1 := refCandL1 (x := x) (d := d) hc count 0 1000 (by omega) (by omega)
 have p1 := B32_put x
 have p2 := B32_put (numV d)
 refine bind_step (refBytes32_val x) (bind_step (ref06Number_val hd) (bind_step (refBytes32_val _) (bind_step ((ref06CandidatesL0_eq _ _ _ _ _ _).trans h0) ?_)))
 simp only [t32 p1.1, t32 p2.1]
 refine bind_step (rm4 B32_zero B32_ones p1 p2 (by decide)) ?_
 simp only [t32 (hmS_len _ _)]
 refine bind_step (rm1 (B32_hm _ _) B32_ones) ?_
 simp only [t32 (hmS_len _ _)]
 refine bind_step (rm4 (B32_hm _ _) (B32_hm _ _) p1 p2 (by decide)) ?_
 simp only [t32 (hmS_len _ _)]
 refine bind_step (rm1 (B32_hm _ _) (B32_hm _ _)) ?_
 exact bind_step ((ref06CandidatesL1_eq _ _ _ _ _).trans h1) rfl
def fnd : List Nat → Nat → Option Nat
 | [], _ => none
 | a :: l, w => if fitV a = true then (match w with
   | 0 => some a
   | w + 1 => fnd l w) else fnd l w
theorem fnd_app : ∀ (l m : List Nat) (w q : Nat), fnd l w = some q → fnd (l ++ m) w = some q
 | [], m, w, q, h => by cases h
 | a :: l, m, w, q, h => by
  simp only [fnd, List.cons_append] at h ⊢
  by_cases hf : fitV a = true
  ·rw [if_pos hf] at h ⊢
   cases w with
   | zero => exact h
   | succ w => exact fnd_app l m w q h
  ·rw [if_neg hf] at h ⊢
   exact fnd_app l m w q h
def tlC (x : Nat) (d : List Int) (s r : Nat) : List Nat := (List.range' s r).map (cnd x d)
theorem tlC_succ (x : Nat) (d : List Int) (s r : Nat) : tlC x d s (r + 1) = cnd x d s :: tlC x d (s + 1) r := by
 unfold tlC; rw [List.range'_succ]; rfl
theorem cnds_tl (x : Nat) (d : List Int) (n : Nat) : cnds x d n = tlC x d 0 n := by
 unfold cnds tlC; rw [List.range_eq_range']
theorem cnds_pre (x : Nat) (d : List Int) {a b : Nat} (h : a ≤ b) : ∃ m, cnds x d b = cnds x d a ++ m := by
 obtain ⟨k, rfl⟩ := Nat.exists_eq_add_of_le h
 refine ⟨tlC x d a k, ?_⟩
 unfold cnds tlC
 have := List.range'_append_1 (s := 0) (m := a) (n := k)
 rw [Nat.zero_add] at this
 rw [← List.map_append, List.range_eq_range', List.range_eq_range', this]
def ansF (b : Nat) : Option Nat → Nat ⊕ Nat
 | some q => .inl q
 | none => .inr b
theorem nonceL0 {x b6 : Nat} {d : List Int} : ∀ (r s fuel w : Nat), s + r = 256 → w ≤ 1000 → r < fuel →
  iter (fun p : Int × Int × Nat × List Int × List Int × Bool => ecdsaNonceL0R p.1 p.2.1 p.2.2.1 p.2.2.2.1 p.2.2.2.2.1 p.2.2.2.2.2) fuel ((w : Int), (s : Int), b6, (ahead x d s).2.1, (ahead x d s).1, (ahead x d s).2.2) = some (ansF b6 (fnd (tlC x d s r) w))
 | 0, s, fuel, w, hs, hw, hf => by
  obtain ⟨fuel, rfl⟩ : ∃ n, fuel = n + 1 := ⟨fuel - 1, by omega⟩
  refine iter_end ?_
  show ecdsaNonceL0R (w : Int) (s : Int) b6 _ _ _ = _
  unfold ecdsaNonceL0R
  exact guard_else (decide_eq_false (by omega)) rfl
 | r + 1, s, fuel, w, hs, hw, hf => by
  obtain ⟨fuel, rfl⟩ : ∃ n, fuel = n + 1 := ⟨fuel - 1, by omega⟩
  have e1 : IntKind.wrap .i64 ((s : Int) + 1) = ((s + 1 : Nat) : Int) := by rw [w64z _ (by omega) (by omega)]; omega
  rw [tlC_succ]
  by_cases hfit : fitV (cnd x d s) = true
  ·simp only [fnd, if_pos hfit]
   cases w with
   | zero =>
    refine iter_end ?_
    show ecdsaNonceL0R ((0 : Nat) : Int) (s : Int) b6 _ _ _ = _
    unfold ecdsaNonceL0R
    exact guard_step (decide_eq_true (by omega)) (bind_step (next_val x d s) (bind_step (ecdsaIFit_val (cnd_lt x d s)) (guard_else (by rw [hfit]; rfl) (guard_step rfl rfl))))
   | succ w =>
    refine iter_more ?_ (nonceL0 (x := x) (b6 := b6) (d := d) r (s + 1) fuel w (by omega) (by omega) (by omega))
    show ecdsaNonceL0R ((w + 1 : Nat) : Int) (s : Int) b6 _ _ _ = _
    unfold ecdsaNonceL0R
    rw [e1]
    refine guard_step (decide_eq_true (by omega)) (bind_step (next_val x d s) (bind_step (ecdsaIFit_val (cnd_lt x d s)) (guard_else (by rw [hfit]; rfl) (guard_else (by simp only [beq_eq_false_iff_ne, ne_eq]; omega) ?_))))
    rw [w64z _ (by omega) (by omega), show ((w + 1 : Nat) : Int) - 1 = (w : Int) by omega]
  ·simp only [fnd, if_neg hfit]
   refine iter_more ?_ (nonceL0 (x := x) (b6 := b6) (d := d) r (s + 1) fuel w (by omega) (by omega) (by omega))
   show ecdsaNonceL0R (w : Int) (s : Int) b6 _ _ _ = _
   unfold ecdsaNonceL0R
   rw [e1]
   exact guard_step (decide_eq_true (by omega)) (bind_step (next_val x d s) (bind_step (ecdsaIFit_val (cnd_lt x d s)) (guard_step (by rw [Bool.eq_false_iff.2 hfit]; rfl) rfl)))
theorem fitOneL0 {l : List Nat} {b4 : Nat} (hl : l.length ≤ 256) (hm : ∀ i, l.getD i 0 < M256) : ∀ (r i fuel w : Nat), i + r = l.length → w ≤ 1000 → r < fuel →
  iter (fun p : List Nat × Int × Int × Nat => ref06IFitOneL0R p.1 p.2.1 p.2.2.1 p.2.2.2) fuel (l, (w : Int), (i : Int), b4) = some (ansF b4 (fnd (l.drop i) w))
 | 0, i, fuel, w, hi, hw, hf => by
  obtain ⟨fuel, rfl⟩ : ∃ n, fuel = n + 1 := ⟨fuel - 1, by omega⟩
  refine iter_end ?_
  show ref06IFitOneL0R l (w : Int) (i : Int) b4 = _
  unfold ref06IFitOneL0R
  rw [List.drop_eq_nil_of_le (by omega)]
  exact guard_else (decide_eq_false (by omega)) rfl
 | r + 1, i, fuel, w, hi, hw, hf => by
  obtain ⟨fuel, rfl⟩ : ∃ n, fuel = n + 1 := ⟨fuel - 1, by omega⟩
  have e1 : IntKind.wrap .i64 ((i : Int) + 1) = ((i + 1 : Nat) : Int) := by rw [w64z _ (by omega) (by omega)]; omega
  have hd : l.drop i = l.getD i 0 :: l.drop (i + 1) := by
   rw [List.drop_eq_getElem_cons (by omega), List.getD_eq_getElem?_getD, List.getElem?_eq_getElem (by omega)]; rfl
  rw [hd]
  by_cases hfit : fitV (l.getD i 0) = true
  ·simp only [fnd, if_pos hfit]
   cases w with
   | zero =>
    refine iter_end ?_
    show ref06IFitOneL0R l ((0 : Nat) : Int) (i : Int) b4 = _
    unfold ref06IFitOneL0R
    simp only [Int.toNat_natCast]
    exact guard_step (decide_eq_true (by omega)) (guard_step (dn0 _) (guard_step (blt_lt (by omega)) (bind_step (ref06Fit_val (hm i)) (guard_step hfit (guard_step rfl (guard_step (dn0 _) (guard_step (blt_lt (by omega)) rfl)))))))
   | succ w =>
    refine iter_more ?_ (fitOneL0 (b4 := b4) hl hm r (i + 1) fuel w (by omega) (by omega) (by omega))
    show ref06IFitOneL0R l ((w + 1 : Nat) : Int) (i : Int) b4 = _
    unfold ref06IFitOneL0R
    rw [e1]
    simp only [Int.toNat_natCast]
    refine guard_step (decide_eq_true (by omega)) (guard_step (dn0 _) (guard_step (blt_lt (by omega)) (bind_step (ref06Fit_val (hm i)) (guard_step hfit (guard_else (by simp only [beq_eq_false_iff_ne, ne_eq]; omega) ?_)))))
    rw [w64z _ (by omega) (by omega), show ((w + 1 : Nat) : Int) - 1 = (w : Int) by omega]
  ·simp only [fnd, if_neg hfit]
   refine iter_more ?_ (fitOneL0 (b4 := b4) hl hm r (i + 1) fuel w (by omega) (by omega) (by omega))
   show ref06IFitOneL0R l (w : Int) (i : Int) b4 = _
   unfold ref06IFitOneL0R
   rw [e1]
   simp only [Int.toNat_natCast]
   exact guard_step (decide_eq_true (by omega)) (guard_step (dn0 _) (guard_step (blt_lt (by omega)) (bind_step (ref06Fit_val (hm i)) (guard_else (Bool.eq_false_iff.2 hfit) rfl))))
theorem fitOne_val {l : List Nat} (hl : l.length ≤ 256) (hm : ∀ i, l.getD i 0 < M256) {w : Nat} (hw : w ≤ 1000) : ref06IFitOne l (w : Int) = some (match fnd l w with
  | some q => (q, true)
  | none => (0, false)) := by
 rw [ref06IFitOne_eq]
 unfold ref06IFitOneB
 have h := fitOneL0 (b4 := 0) hl hm l.length 0 1000 w (by omega) hw (by omega)
 rw [List.drop_zero] at h
 refine bind_step ((ref06IFitOneL0_eq _ _ _ _).trans h) ?_
 cases fnd l w <;> rfl
theorem cnds_lt (x : Nat) (d : List Int) (n i : Nat) : (cnds x d n).getD i 0 < M256 := by
 rcases Nat.lt_or_ge i n with h | h
 ·rw [cnds_get x d h]; exact cnd_lt x d i
 ·rw [List.getD_eq_getElem?_getD, List.getElem?_eq_none (by rw [cnds_len]; exact h)]
  exact (by decide : 0 < M256)
def nonV (x : Nat) (d : List Int) (w : Int) : Nat × Int :=
 if w < 0 ∨ 63 < w then (0, 1) else if fitV x = true then (match fnd (cnds x d 256) w.toNat with
  | some q => (q, 0)
  | none => (0, 65)) else (0, 60)
theorem ecdsaNonce_val {x : Nat} (hx : x < M256) {d : List Int} (hd : Bytes d) (w : Int) : ecdsaNonce x d w = some (nonV x d w) := by
 rw [ecdsaNonce_eq]
 unfold ecdsaNonceB nonV
 by_cases h1 : w < 0
 ·rw [if_pos (.inl h1)]; exact guard_step (decide_eq_true h1) rfl
 ·refine guard_else (decide_eq_false h1) ?_
  by_cases h2 : 63 < w
  ·rw [if_pos (.inr h2)]; exact guard_step (decide_eq_true (by omega)) rfl
  ·rw [if_neg (by omega)]
   refine guard_else (decide_eq_false (by omega)) (bind_step (ecdsaIFit_val hx) ?_)
   by_cases hf : fitV x = true
   ·rw [if_pos hf]
    refine guard_else (by rw [hf]; rfl) (bind_step (candidates_val hd) ?_)
    obtain ⟨n, rfl⟩ := Int.eq_ofNat_of_zero_le (show 0 ≤ w by omega)
    have h := nonceL0 (x := x) (b6 := 0) (d := d) 256 0 1000 n (by omega) (by omega) (by omega)
    rw [Int.toNat_natCast]
    rw [← cnds_tl] at h
    generalize fnd (cnds x d 256) n = F at h ⊢
    refine bind_step ((ecdsaNonceL0_eq _ _ _ _ _ _).trans h) ?_
    cases F <;> rfl
   ·rw [if_neg hf]; exact guard_step (by rw [Bool.eq_false_iff.2 hf]; rfl) rfl
theorem ref06Nonce_val {x : Nat} (hx : x < M256) {d : List Int} (hd : Bytes d) (w : Int) : ref06Nonce x d w = some (nonV x d w) := by
 rw [ref06Nonce_eq]
 unfold ref06NonceB nonV
 by_cases h1 : w < 0
 ·rw [if_pos (.inl h1)]; exact guard_step (decide_eq_true h1) rfl
 ·refine guard_else (decide_eq_false h1) ?_
  by_cases h2 : 63 < w
  ·rw [if_pos (.inr h2)]; exact guard_step (decide_eq_true (by omega)) rfl
  ·rw [if_neg (by omega)]
   refine guard_else (decide_eq_false (by omega)) (bind_step (ref06Fit_val hx) ?_)
   by_cases hf : fitV x = true
   ·rw [if_pos hf]
    obtain ⟨n, rfl⟩ := Int.eq_ofNat_of_zero_le (show 0 ≤ w by omega)
    have e1 : IntKind.wrap .i64 ((n : Int) + 1) = ((n + 1 : Nat) : Int) := by rw [w64z _ (by omega) (by omega)]; omega
    have ha := refCandidates_val (x := x) (count := n + 1) hd (by omega)
    have hb := refCandidates_val (x := x) (count := 256) hd (by omega)
    have f1 := fitOne_val (l := cnds x d (n + 1)) (by rw [cnds_len]; omega) (cnds_lt x d _) (w := n) (by omega)
    have f2 := fitOne_val (l := cnds x d 256) (by rw [cnds_len]; omega) (cnds_lt x d _) (w := n) (by omega)
    obtain ⟨m, hm⟩ := cnds_pre x d (show n + 1 ≤ 256 by omega)
    rw [Int.toNat_natCast, e1]
    generalize cnds x d 256 = A at *
    generalize cnds x d (n + 1) = B at *
    refine guard_else (by rw [hf]; rfl) (bind_step ha (bind_step f1 ?_))
    cases hq : fnd B n with
    | some q =>
     rw [hm, fnd_app _ m _ _ hq]
     exact guard_else rfl (guard_else rfl rfl)
    | none =>
     refine guard_step rfl (bind_step hb (bind_step f2 ?_))
     cases fnd A n with
     | some q => exact guard_else rfl rfl
     | none => exact guard_step rfl rfl
   ·rw [if_neg hf]; exact guard_step (by rw [Bool.eq_false_iff.2 hf]; rfl) rfl
end Go.Sy
