/- Fermat's little theorem. No program in sight. -/
import Derived.Test.YtmbcolalfgepiaaDoorSyPa
namespace Go.Sy

theorem prodN_perm {l m : List Nat} (h : l.Perm m) : prodN l = prodN m := by
  induction h with
  | nil => rfl
  | cons x _ ih => simp only [prodN, ih]
  | swap x y l => simp only [prodN]; rw [Nat.mul_left_comm]
  | trans _ _ ih1 ih2 => exact ih1.trans ih2

theorem perm_of_nodup : ∀ {l m : List Nat}, l.Nodup → (∀ x ∈ l, x ∈ m) → m.length ≤ l.length → l.Perm m
  | [], m, _, _, h => by
    have : m = [] := List.length_eq_zero_iff.1 (by simpa using h)
    rw [this]
  | x :: l, m, hn, hs, h => by
    rw [List.nodup_cons] at hn
    have hx := hs x List.mem_cons_self
    have ih := perm_of_nodup (l := l) (m := m.erase x) hn.2 (fun y hy => by
      have hne : y ≠ x := fun e => hn.1 (e ▸ hy)
      exact (List.mem_erase_of_ne hne).2 (hs y (List.mem_cons_of_mem _ hy))) (by
      rw [List.length_erase_of_mem hx]; simp only [List.length_cons] at h; omega)
    exact (List.Perm.cons x ih).trans (List.perm_cons_erase hx).symm

theorem prod_scaled (x p : Nat) : ∀ l : List Nat, prodN (l.map fun i => x * i % p) % p = x ^ l.length * prodN l % p
  | [] => by simp [prodN]
  | i :: l => by
    simp only [List.map_cons, prodN, List.length_cons]
    rw [Nat.mul_mod, Nat.mod_mod, prod_scaled x p l, ← Nat.mul_mod, Nat.pow_succ]
    congr 1
    rw [Nat.mul_mul_mul_comm, Nat.mul_comm x (x ^ l.length)]

theorem prime_prod {p : Nat} (hp : PrimeN p) : ∀ {l : List Nat}, p ∣ prodN l → ∃ q ∈ l, p ∣ q
  | [], h => by
    have := Nat.le_of_dvd (by decide) (show p ∣ 1 from h)
    have := hp.1
    omega
  | q :: l, h => by
    rcases hp.euclid (show p ∣ q * prodN l from h) with h | h
    · exact ⟨q, List.mem_cons_self, h⟩
    · obtain ⟨q', h1, h2⟩ := prime_prod hp h
      exact ⟨q', List.mem_cons_of_mem _ h1, h2⟩

/-- **Fermat.** -/
theorem PrimeN.fermat {p x : Nat} (hp : PrimeN p) (hx : ¬ p ∣ x) : x ^ (p - 1) % p = 1 := by
  have h1 := hp.1
  let L := (List.range (p - 1)).map (· + 1)
  have hL : ∀ i, i ∈ L ↔ 0 < i ∧ i < p := fun i => by
    simp only [L, List.mem_map, List.mem_range]
    constructor
    · rintro ⟨j, hj, rfl⟩; omega
    · intro h; exact ⟨i - 1, by omega, by omega⟩
  have hLl : L.length = p - 1 := by simp [L]
  have hM : L.map (fun i => x * i % p) = (List.range (p - 1)).map (fun i => x * (i + 1) % p) := by simp [L, List.map_map]
  have hnd : (L.map fun i => x * i % p).Nodup := by
    rw [hM]
    refine map_nodup fun i j hij hj heq => ?_
    have h2 : (x * (j + 1) - x * (i + 1)) % p = 0 := Nat.sub_mod_eq_zero_of_mod_eq heq.symm
    rw [← Nat.mul_sub] at h2
    rcases hp.euclid (Nat.dvd_of_mod_eq_zero h2) with h3 | h3
    · exact hx h3
    · have := Nat.le_of_dvd (by omega) h3; omega
  have hperm : (L.map fun i => x * i % p).Perm L := by
    refine perm_of_nodup hnd (fun y hy => ?_) (by simp)
    simp only [List.mem_map] at hy
    obtain ⟨i, hi, rfl⟩ := hy
    have hi' := (hL i).1 hi
    refine (hL _).2 ⟨Nat.pos_of_ne_zero fun h0 => ?_, Nat.mod_lt _ (by omega)⟩
    rcases hp.euclid (Nat.dvd_of_mod_eq_zero h0) with h3 | h3
    · exact hx h3
    · have := Nat.le_of_dvd hi'.1 h3; omega
  have hpr := prod_scaled x p L
  rw [prodN_perm hperm, hLl] at hpr
  have hno : ¬ p ∣ prodN L := fun h => by
    obtain ⟨q, hq, hd⟩ := prime_prod hp h
    have := (hL q).1 hq
    have := Nat.le_of_dvd this.1 hd
    omega
  have hpos : 0 < x ^ (p - 1) := Nat.pow_pos (Nat.pos_of_ne_zero fun h => hx (h ▸ Nat.dvd_zero p))
  have h2 : (x ^ (p - 1) * prodN L - 1 * prodN L) % p = 0 := Nat.sub_mod_eq_zero_of_mod_eq (by rw [Nat.one_mul]; exact hpr.symm)
  rw [← Nat.sub_mul] at h2
  rcases hp.euclid (Nat.dvd_of_mod_eq_zero h2) with h3 | h3
  · obtain ⟨c, hc⟩ := h3
    have : x ^ (p - 1) = 1 + p * c := by omega
    rw [this, Nat.add_mul_mod_self_left, Nat.mod_eq_of_lt h1]
  · exact absurd h3 hno
end Go.Sy
