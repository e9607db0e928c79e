/- Primes: Euclid, a test by one great factor, Fermat. No program in sight. -/
import Derived.KernelRfl
namespace Go.Sy
def PrimeN (p : Nat) : Prop := 1 < p ∧ ∀ d, d ∣ p → d = 1 ∨ d = p
theorem PrimeN.euclid {p a b : Nat} (hp : PrimeN p) (h : p ∣ a * b) : p ∣ a ∨ p ∣ b := by
 rcases hp.2 (Nat.gcd p a) (Nat.gcd_dvd_left p a) with g | g
 ·exact .inr (Nat.Coprime.dvd_of_dvd_mul_left (show Nat.Coprime p a from g) h)
 ·exact .inl (g ▸ Nat.gcd_dvd_right p a)
def powM (m : Nat) : Nat → Nat → Nat → Nat
 | 0, _, _ => 1 % m
 | k + 1, a, e => if e = 0 then 1 % m else if e % 2 = 1 then a * powM m k (a * a % m) (e / 2) % m else powM m k (a * a % m) (e / 2)
theorem powM_eq (m : Nat) : ∀ (k a e : Nat), e < 2 ^ k → powM m k a e = a ^ e % m
 | 0, a, e, h => by
  have : e = 0 := by simpa using h
  subst this; simp [powM]
 | k + 1, a, e, h => by
  have hh : e / 2 < 2 ^ k := by rw [Nat.pow_succ] at h; omega
  have ih := powM_eq m k (a * a % m) (e / 2) hh
  simp only [powM]
  by_cases h0 : e = 0
  ·subst h0; simp
  ·rw [if_neg h0]
   have e1 : (a * a % m) ^ (e / 2) % m = a ^ (2 * (e / 2)) % m := by
    rw [← Nat.pow_mod, ← Nat.pow_two, ← Nat.pow_mul]
   rw [ih, e1]
   by_cases h1 : e % 2 = 1
   ·rw [if_pos h1, Nat.mul_mod_mod, ← Nat.pow_succ']
    congr 2; omega
   ·rw [if_neg h1]
    congr 2; omega
theorem pow_one {b r n : Nat} (h : b ^ n % r = 1 % r) (k : Nat) : b ^ (n * k) % r = 1 % r := by
 rw [Nat.pow_mul, Nat.pow_mod, h, ← Nat.pow_mod, Nat.one_pow]
theorem pow_gcd {b r : Nat} (k l : Nat) : b ^ k % r = 1 % r → b ^ l % r = 1 % r → b ^ (Nat.gcd k l) % r = 1 % r := by
 induction k, l using Nat.gcd.induction with
 | H0 n => intro _ h; simpa using h
 | H1 m n hm ih =>
  intro h1 h2
  rw [Nat.gcd_rec]
  refine ih ?_ h1
  have e : b ^ n = b ^ (m * (n / m)) * b ^ (n % m) := by rw [← Nat.pow_add, Nat.div_add_mod]
  rw [e, Nat.mul_mod, pow_one h1, ← Nat.mul_mod, Nat.one_mul] at h2
  exact h2
theorem nodup_len {α : Type} [DecidableEq α] : ∀ {l m : List α}, l.Nodup → (∀ x ∈ l, x ∈ m) → l.length ≤ m.length
 | [], _, _, _ => Nat.zero_le _
 | x :: l, m, h, hs => by
  rw [List.nodup_cons] at h
  have hx := hs x List.mem_cons_self
  have := nodup_len (l := l) (m := m.erase x) h.2 fun y hy => by
   have hne : y ≠ x := fun e => h.1 (e ▸ hy)
   exact (List.mem_erase_of_ne hne).2 (hs y (List.mem_cons_of_mem _ hy))
  rw [List.length_erase_of_mem hx] at this
  have hpos : 0 < m.length := List.length_pos_of_mem hx
  simp only [List.length_cons]; omega
theorem map_nodup {f : Nat → Nat} {q : Nat} (hf : ∀ i j, i < j → j < q → f i ≠ f j) : ((List.range q).map f).Nodup := by
 rw [List.nodup_iff_pairwise_ne, List.pairwise_map]
 refine List.Pairwise.imp_of_mem ?_ List.pairwise_lt_range
 intro i j hi hj hij
 exact hf i j hij (by simpa using hj)
theorem pigeon {f : Nat → Nat} {q r : Nat} (hf : ∀ i j, i < j → j < q → f i ≠ f j) (hr : ∀ i, i < q → f i < r) : q ≤ r := by
 have := nodup_len (l := (List.range q).map f) (m := List.range r) (map_nodup hf) fun x hx => by
  simp only [List.mem_map, List.mem_range] at hx ⊢
  obtain ⟨i, hi, rfl⟩ := hx
  exact hr i hi
 simpa using this
theorem mod_of_dvd {a b r N : Nat} (hr : r ∣ N) (h : a % N = b % N) : a % r = b % r := by
 rw [← Nat.mod_mod_of_dvd a hr, h, Nat.mod_mod_of_dvd b hr]
theorem cancel_pow {b r q : Nat} (hq : b ^ q % r = 1 % r) (h0 : 0 < q) {i j : Nat} (hij : i < j) (h : b ^ i % r = b ^ j % r) : b ^ (j - i) % r = 1 % r := by
 have hle : i ≤ q * i := Nat.le_mul_of_pos_left i h0
 have h1 : b ^ i * b ^ (q * i - i) % r = b ^ j * b ^ (q * i - i) % r := by rw [Nat.mul_mod, h, ← Nat.mul_mod]
 have e1 : b ^ i * b ^ (q * i - i) = b ^ (q * i) := by rw [← Nat.pow_add]; congr 1; omega
 have e2 : b ^ j * b ^ (q * i - i) = b ^ (q * i) * b ^ (j - i) := by rw [← Nat.pow_add, ← Nat.pow_add]; congr 1; omega
 rw [e1, e2, Nat.mul_mod, pow_one hq, ← Nat.mul_mod, Nat.one_mul] at h1
 exact h1.symm
theorem dvd_pred {b r N : Nat} (hr : r ∣ N) (h : b % r = 1 % r) : r ∣ b % N + N - 1 := by
 have h1 : (b % N) % r = 1 % r := by rw [Nat.mod_mod_of_dvd b hr, h]
 have h2 : (b % N + N) % r = 1 % r := by
  rw [Nat.add_mod, Nat.mod_eq_zero_of_dvd hr, Nat.add_zero, Nat.mod_mod, h1]
 have h3 : r ∣ (b % N + N) - 1 := by
  have := Nat.sub_mod_eq_zero_of_mod_eq h2
  exact Nat.dvd_of_mod_eq_zero this
 exact h3
def prodN : List Nat → Nat
 | [] => 1
 | q :: l => q * prodN l
theorem prodN_pos {l : List Nat} (h : ∀ q ∈ l, 0 < q) : 0 < prodN l := by
 induction l with
 | nil => decide
 | cons q l ih => exact Nat.mul_pos (h q List.mem_cons_self) (ih fun x hx => h x (List.mem_cons_of_mem _ hx))
theorem has_prime {h : Nat} (h1 : h ≠ 1) : ∀ {l : List Nat}, (∀ q ∈ l, PrimeN q) → h ∣ prodN l → ∃ q ∈ l, q ∣ h
 | [], _, hd => absurd (Nat.dvd_one.1 hd) h1
 | q :: l, hp, hd => by
  rcases (hp q List.mem_cons_self).2 (Nat.gcd q h) (Nat.gcd_dvd_left q h) with g | g
  ·have hc : Nat.Coprime h q := by rw [Nat.coprime_comm]; exact g
   obtain ⟨q', h2, h3⟩ := has_prime h1 (l := l) (fun x hx => hp x (List.mem_cons_of_mem _ hx)) (hc.dvd_of_dvd_mul_left hd)
   exact ⟨q', List.mem_cons_of_mem _ h2, h3⟩
  ·exact ⟨q, List.mem_cons_self, g ▸ Nat.gcd_dvd_right q h⟩
theorem prime_of_many {N a : Nat} (qs : List Nat) (hq : ∀ q ∈ qs, PrimeN q) (hN : 1 < N) (hqq : N < prodN qs * prodN qs) (hd : (N - 1) / prodN qs * prodN qs = N - 1) (h1 : a ^ (N - 1) % N = 1)
  (h2 : ∀ q ∈ qs, Nat.gcd (a ^ ((N - 1) / q) % N + N - 1) N = 1) : PrimeN N := by
 have hpos : 0 < prodN qs := prodN_pos fun q hq' => by have := (hq q hq').1; omega
 have key : ∀ r, r ∣ N → 1 < r → prodN qs ≤ r := by
  intro r hr h1r
  have hbq : (a ^ ((N - 1) / prodN qs)) ^ prodN qs % r = 1 % r := by
   rw [← Nat.pow_mul, hd]
   exact mod_of_dvd hr (by rw [h1, Nat.mod_eq_of_lt hN])
  refine pigeon (f := fun i => (a ^ ((N - 1) / prodN qs)) ^ i % r) (fun i j hij hj heq => ?_) (fun i _ => Nat.mod_lt _ (by omega))
  have hk := cancel_pow hbq hpos hij heq
  have hg := pow_gcd (j - i) (prodN qs) hk hbq
  obtain ⟨c, hc⟩ := Nat.gcd_dvd_right (j - i) (prodN qs)
  have hgle : Nat.gcd (j - i) (prodN qs) ≤ j - i := Nat.le_of_dvd (by omega) (Nat.gcd_dvd_left _ _)
  have hc1 : c ≠ 1 := fun e => by rw [e, Nat.mul_one] at hc; omega
  obtain ⟨q, hqm, c', hc'⟩ := has_prime hc1 hq ⟨Nat.gcd (j - i) (prodN qs), by rw [Nat.mul_comm]; exact hc⟩
  have hq0 : 0 < q := by have := (hq q hqm).1; omega
  have e1 : (N - 1) / q = (N - 1) / prodN qs * (Nat.gcd (j - i) (prodN qs) * c') := by
   have : N - 1 = q * ((N - 1) / prodN qs * (Nat.gcd (j - i) (prodN qs) * c')) := by
    have e3 : q * ((N - 1) / prodN qs * (Nat.gcd (j - i) (prodN qs) * c')) = (N - 1) / prodN qs * (Nat.gcd (j - i) (prodN qs) * (q * c')) := by
     rw [Nat.mul_left_comm q, Nat.mul_left_comm q]
    rw [e3, ← hc', ← hc, hd]
   exact Nat.div_eq_of_eq_mul_right hq0 this
  have e2 : a ^ ((N - 1) / q) % r = 1 % r := by
   rw [e1, Nat.pow_mul]
   exact pow_one hg c'
  have hdv := dvd_pred hr e2
  have : r ∣ 1 := by rw [← h2 q hqm]; exact Nat.dvd_gcd hdv hr
  have := Nat.le_of_dvd (by decide) this
  omega
 refine ⟨hN, fun d hd' => ?_⟩
 obtain ⟨c, hc⟩ := hd'
 by_cases g1 : d = 1
 ·exact .inl g1
 ·by_cases g2 : c = 1
  ·right; rw [hc, g2, Nat.mul_one]
  ·exfalso
   have hd0 : 0 < d := Nat.pos_of_ne_zero (fun e => by subst e; rw [Nat.zero_mul] at hc; omega)
   have hc0 : 0 < c := Nat.pos_of_ne_zero (fun e => by subst e; rw [Nat.mul_zero] at hc; omega)
   have k1 := key d ⟨c, hc⟩ (by omega)
   have k2 := key c ⟨d, by rw [hc, Nat.mul_comm]⟩ (by omega)
   have := Nat.mul_le_mul k1 k2
   omega
def primeTest (N a : Nat) (qs : List Nat) : Bool :=
 decide (1 < N) && decide (N < prodN qs * prodN qs) && ((N - 1) / prodN qs * prodN qs == N - 1) && decide (N < 2 ^ 260) && (powM N 260 a (N - 1) == 1) && qs.all fun q => Nat.gcd (powM N 260 a ((N - 1) / q) + N - 1) N == 1
theorem prime_test {N : Nat} (a : Nat) (qs : List Nat) (h : primeTest N a qs = true) (hq : ∀ q ∈ qs, PrimeN q) : PrimeN N := by
 simp only [primeTest, Bool.and_eq_true, decide_eq_true_eq, beq_iff_eq, List.all_eq_true] at h
 obtain ⟨⟨⟨⟨⟨h1, h2⟩, h3⟩, h4⟩, h5⟩, h6⟩ := h
 refine prime_of_many (a := a) qs hq h1 h2 h3 ?_ (fun q hqm => ?_)
 ·rw [powM_eq _ _ _ _ (by omega)] at h5; exact h5
 ·have := h6 q hqm
  rw [powM_eq _ _ _ _ (Nat.lt_of_le_of_lt (Nat.div_le_self _ _) (by omega))] at this; exact this
def noDiv (n : Nat) : Nat → Nat → Bool
 | 0, _ => false
 | k + 1, d => if n < d * d then true else if n % d = 0 then false else noDiv n k (d + 1)
theorem noDiv_spec {n : Nat} : ∀ (k d : Nat), noDiv n k d = true → 2 ≤ d → ∀ e, d ≤ e → e ∣ n → n < e * e
 | 0, _, h, _, _, _, _ => by cases h
 | k + 1, d, h, hd, e, he, hen => by
  simp only [noDiv] at h
  split at h
  ·rename_i hlt
   exact Nat.lt_of_lt_of_le hlt (Nat.mul_le_mul he he)
  ·split at h
   ·cases h
   ·rename_i hmod
    rcases Nat.eq_or_lt_of_le he with rfl | hlt
    ·exact absurd (Nat.mod_eq_zero_of_dvd hen) hmod
    ·exact noDiv_spec k (d + 1) h (by omega) e hlt hen
theorem prime_small {n k : Nat} (hn : 1 < n) (h : noDiv n k 2 = true) : PrimeN n := by
 have key := noDiv_spec k 2 h (by omega)
 refine ⟨hn, fun d ⟨c, hc⟩ => ?_⟩
 by_cases g1 : d = 1
 ·exact .inl g1
 ·by_cases g2 : c = 1
  ·right; rw [hc, g2, Nat.mul_one]
  ·exfalso
   have hd0 : 0 < d := Nat.pos_of_ne_zero (fun e => by subst e; rw [Nat.zero_mul] at hc; omega)
   have hc0 : 0 < c := Nat.pos_of_ne_zero (fun e => by subst e; rw [Nat.mul_zero] at hc; omega)
   have k1 := key d (by omega) ⟨c, hc⟩
   have k2 := key c (by omega) ⟨d, by rw [hc, Nat.mul_comm]⟩
   rcases Nat.le_total d c with h | h
   ·have := Nat.mul_le_mul_left d h; rw [← hc] at this; omega
   ·have := Nat.mul_le_mul_right c h; rw [← hc] at this; omega
end Go.Sy
namespace Go.Sy
open Go
theorem pr_107590001 : PrimeN 107590001 := prime_small (k := 11000) (by decide) (by kernel_rfl)
theorem pr_7240687 : PrimeN 7240687 := prime_small (k := 3000) (by decide) (by kernel_rfl)
theorem pr_96557 : PrimeN 96557 := prime_small (k := 400) (by decide) (by kernel_rfl)
theorem pr_41201 : PrimeN 41201 := prime_small (k := 300) (by decide) (by kernel_rfl)
theorem pr_Q : PrimeN 255515944373312847190720520512484175977 := prime_test 2 [107590001, 7240687, 96557, 41201] (by kernel_rfl) (by
 intro q hq
 simp only [List.mem_cons, List.not_mem_nil, or_false] at hq
 rcases hq with rfl | rfl | rfl | rfl
 ·exact pr_107590001
 ·exact pr_7240687
 ·exact pr_96557
 ·exact pr_41201)
theorem pr_P1 : PrimeN 205115282021455665897114700593932402728804164701536103180137503955397371 := prime_test 2 [255515944373312847190720520512484175977] (by kernel_rfl) (by
 intro q hq
 rw [List.mem_singleton.1 hq]; exact pr_Q)
theorem prime_p : PrimeN 115792089237316195423570985008687907853269984665640564039457584007908834671663 := prime_test 2 [205115282021455665897114700593932402728804164701536103180137503955397371] (by kernel_rfl) (by
 intro q hq
 rw [List.mem_singleton.1 hq]; exact pr_P1)
end Go.Sy
namespace Go.Sy
theorem prodN_perm {l m : List Nat} (h : l.Perm m) : prodN l = prodN m := by
 induction h with
 | nil => rfl
 | cons x _ ih => simp only [prodN, ih]
 | swap x y l => simp only [prodN]; rw [Nat.mul_left_comm]
 | trans _ _ ih1 ih2 => exact ih1.trans ih2
theorem perm_of_nodup : ∀ {l m : List Nat}, l.Nodup → (∀ x ∈ l, x ∈ m) → m.length ≤ l.length → l.Perm m
 | [], m, _, _, h => by
  have : m = [] := List.length_eq_zero_iff.1 (by simpa using h)
  rw [this]
 | x :: l, m, hn, hs, h => by
  rw [List.nodup_cons] at hn
  have hx := hs x List.mem_cons_self
  have ih := perm_of_nodup (l := l) (m := m.erase x) hn.2 (fun y hy => by
   have hne : y ≠ x := fun e => hn.1 (e ▸ hy)
   exact (List.mem_erase_of_ne hne).2 (hs y (List.mem_cons_of_mem _ hy))) (by
   rw [List.length_erase_of_mem hx]; simp only [List.length_cons] at h; omega)
  exact (List.Perm.cons x ih).trans (List.perm_cons_erase hx).symm
theorem prod_scaled (x p : Nat) : ∀ l : List Nat, prodN (l.map fun i => x * i % p) % p = x ^ l.length * prodN l % p
 | [] => by simp [prodN]
 | i :: l => by
  simp only [List.map_cons, prodN, List.length_cons]
  rw [Nat.mul_mod, Nat.mod_mod, prod_scaled x p l, ← Nat.mul_mod, Nat.pow_succ]
  congr 1
  rw [Nat.mul_mul_mul_comm, Nat.mul_comm x (x ^ l.length)]
theorem prime_prod {p : Nat} (hp : PrimeN p) : ∀ {l : List Nat}, p ∣ prodN l → ∃ q ∈ l, p ∣ q
 | [], h => by
  have := Nat.le_of_dvd (by decide) (show p ∣ 1 from h)
  have := hp.1
  omega
 | q :: l, h => by
  rcases hp.euclid (show p ∣ q * prodN l from h) with h | h
  ·exact ⟨q, List.mem_cons_self, h⟩
  ·obtain ⟨q', h1, h2⟩ := prime_prod hp h
   exact ⟨q', List.mem_cons_of_mem _ h1, h2⟩
theorem PrimeN.fermat {p x : Nat} (hp : PrimeN p) (hx : ¬ p ∣ x) : x ^ (p - 1) % p = 1 := by
 have h1 := hp.1
 let L := (List.range (p - 1)).map (· + 1)
 have hL : ∀ i, i ∈ L ↔ 0 < i ∧ i < p := fun i => by
  simp only [L, List.mem_map, List.mem_range]
  constructor
  ·rintro ⟨j, hj, rfl⟩; omega
  ·intro h; exact ⟨i - 1, by omega, by omega⟩
 have hLl : L.length = p - 1 := by simp [L]
 have hM : L.map (fun i => x * i % p) = (List.range (p - 1)).map (fun i => x * (i + 1) % p) := by simp [L, List.map_map]
 have hnd : (L.map fun i => x * i % p).Nodup := by
  rw [hM]
  refine map_nodup fun i j hij hj heq => ?_
  have h2 : (x * (j + 1) - x * (i + 1)) % p = 0 := Nat.sub_mod_eq_zero_of_mod_eq heq.symm
  rw [← Nat.mul_sub] at h2
  rcases hp.euclid (Nat.dvd_of_mod_eq_zero h2) with h3 | h3
  ·exact hx h3
  ·have := Nat.le_of_dvd (by omega) h3; omega
 have hperm : (L.map fun i => x * i % p).Perm L := by
  refine perm_of_nodup hnd (fun y hy => ?_) (by simp)
  simp only [List.mem_map] at hy
  obtain ⟨i, hi, rfl⟩ := hy
  have hi' := (hL i).1 hi
  refine (hL _).2 ⟨Nat.pos_of_ne_zero fun h0 => ?_, Nat.mod_lt _ (by omega)⟩
  rcases hp.euclid (Nat.dvd_of_mod_eq_zero h0) with h3 | h3
  ·exact hx h3
  ·have := Nat.le_of_dvd hi'.1 h3; omega
 have hpr := prod_scaled x p L
 rw [prodN_perm hperm, hLl] at hpr
 have hno : ¬ p ∣ prodN L := fun h => by
  obtain ⟨q, hq, hd⟩ := prime_prod hp h
  have := (hL q).1 hq
  have := Nat.le_of_dvd this.1 hd
  omega
 have hpos : 0 < x ^ (p - 1) := Nat.pow_pos (Nat.pos_of_ne_zero fun h => hx (h ▸ Nat.dvd_zero p))
 have h2 : (x ^ (p - 1) * prodN L - 1 * prodN L) % p = 0 := Nat.sub_mod_eq_zero_of_mod_eq (by rw [Nat.one_mul]; exact hpr.symm)
 rw [← Nat.sub_mul] at h2
 rcases hp.euclid (Nat.dvd_of_mod_eq_zero h2) with h3 | h3
 ·obtain ⟨c, hc⟩ := h3
  have : x ^ (p - 1) = 1 + p * c := by omega
  rw [this, Nat.add_mul_mod_self_left, Nat.mod_eq_of_lt h1]
 ·exact absurd h3 hno
end Go.Sy
