/- Places inside values: what is read there and written there, in the model's cells. -/
import Derived.Test.YtapnedegcnmhgaaDoorSyC
set_option linter.unusedVariables false
set_option linter.unusedSimpArgs false
namespace Go.Sy
open Go Go.RowKit

theorem RcL.split {E : Emb} {s : Sh} : ∀ {l : List s.T} {xs : List Value} (i : Nat), RcL E s l xs → i < l.length →
    ∃ pre ys post, xs = pre ++ ys ++ post ∧ pre.length = i * s.size ∧ Rc E s (l.getD i s.dflt) ys ∧ RcL E s (l.take i) pre ∧ RcL E s (l.drop (i + 1)) post
  | [], _, _, _, hi => by simp at hi
  | t :: l, xs, 0, ⟨a, b, h1, h2, h3⟩, _ => ⟨[], a, b, by simp [h1], by simp, by simpa using h2, by simp [RcL], by simpa using h3⟩
  | t :: l, xs, i + 1, ⟨a, b, h1, h2, h3⟩, hi => by
    obtain ⟨pre, ys, post, e, hp, hy, ht, hd⟩ := RcL.split i h3 (by simpa using hi)
    refine ⟨a ++ pre, ys, post, by simp [h1, e], ?_, by simpa using hy, ⟨a, pre, rfl, h2, ht⟩, by simpa using hd⟩
    simp [h2.length, hp, Nat.add_mul, Nat.add_comm]

theorem RcL.append {E : Emb} {s : Sh} : ∀ {l l' : List s.T} {xs ys : List Value}, RcL E s l xs → RcL E s l' ys → RcL E s (l ++ l') (xs ++ ys)
  | [], _, _, _, h, h' => by simp only [RcL] at h; subst h; simpa using h'
  | t :: l, _, _, _, ⟨a, b, h1, h2, h3⟩, h' => ⟨a, b ++ _, by simp [h1], h2, RcL.append h3 h'⟩

theorem take_len_add {α : Type} (a b : List α) (n : Nat) : (a ++ b).take (a.length + n) = a ++ b.take n := by
  rw [List.take_append, List.take_of_length_le (by omega)]; simp
theorem drop_len_add {α : Type} (a b : List α) (n : Nat) : (a ++ b).drop (a.length + n) = b.drop n := by
  rw [List.drop_append, List.drop_of_length_le (by omega)]; simp

theorem RcL.take_drop {E : Emb} {s : Sh} {l : List s.T} {xs : List Value} (i : Nat) (h : RcL E s l xs) :
    RcL E s (l.take i) (xs.take (i * s.size)) ∧ RcL E s (l.drop i) (xs.drop (i * s.size)) := by
  induction i generalizing l xs with
  | zero => simpa [RcL] using h
  | succ i ih =>
    cases l with
    | nil => simp only [RcL] at h; subst h; simp [RcL]
    | cons t l =>
      obtain ⟨a, b, rfl, h2, h3⟩ := h
      have hl := h2.length
      have e : (i + 1) * s.size = a.length + i * s.size := by rw [hl, Nat.add_mul, Nat.one_mul, Nat.add_comm]
      obtain ⟨h4, h5⟩ := ih h3
      rw [e, take_len_add, drop_len_add]
      exact ⟨⟨a, _, rfl, h2, h4⟩, h5⟩

theorem RepCs.split {E : Emb} : ∀ {l : List AV} {xs : List Value} (i : Nat) {v : AV}, RepCs E l xs → l[i]? = some v →
    ∃ pre ys post, xs = pre ++ ys ++ post ∧ pre.length = AV.sizes (l.take i) ∧ RepC E v ys ∧
      ∀ u zs, RepC E u zs → RepCs E (l.set i u) (pre ++ zs ++ post)
  | [], _, _, _, _, h => by simp at h
  | w :: l, xs, 0, v, h, hi => by
    simp only [RepCs] at h
    obtain ⟨a, b, h1, h2, h3⟩ := h
    simp at hi; subst hi
    refine ⟨[], a, b, by simp [h1], by simp [AV.sizes], h2, fun u zs hu => ?_⟩
    simp only [List.set, List.nil_append, RepCs]
    exact ⟨zs, b, rfl, hu, h3⟩
  | w :: l, xs, i + 1, v, h, hi => by
    simp only [RepCs] at h
    obtain ⟨a, b, h1, h2, h3⟩ := h
    obtain ⟨pre, ys, post, e, hp, hy, hs⟩ := RepCs.split i h3 (by simpa using hi)
    refine ⟨a ++ pre, ys, post, by simp [h1, e], ?_, hy, fun u zs hu => ?_⟩
    · simp [RepC.length h2, hp, AV.sizes]
    · simp only [List.set, RepCs]
      exact ⟨a, pre ++ zs ++ post, by simp, h2, hs u zs hu⟩

theorem Rc_av {E : Emb} {s : Sh} {t : s.T} {xs : List Value} (h : Rc E s t xs) : RepC E (s.av t) xs := by
  cases s with
  | int k => simpa [Sh.av, RepC, Rc] using h
  | u256 => simpa [Sh.av, RepC, Rc] using h
  | u2 =>
    simp only [Rc] at h; subst h
    simp only [Sh.av, RepC, RepCs]
    exact ⟨_, _, rfl, rfl, _, [], by simp, rfl, rfl⟩
  | pt =>
    simp only [Rc] at h; subst h
    simp only [Sh.av, RepC, RepCs]
    exact ⟨_, _, by rw [List.append_assoc], rfl, _, _, rfl, rfl, _, [], by simp, rfl, rfl⟩
  | jac =>
    simp only [Rc] at h; subst h
    simp only [Sh.av, RepC, RepCs]
    exact ⟨_, _, by rw [List.append_assoc], rfl, _, _, rfl, rfl, _, [], by simp, rfl, rfl⟩
  | bytes =>
    obtain ⟨x, rfl, h⟩ := h
    simp only [Sh.av, RepC]
    refine ⟨x, _, rfl, ?_, h⟩
    generalize (t : List Int) = l at *
    clear h
    induction l with
    | nil => rfl
    | cons a l ih => exact ⟨[_], _, rfl, rfl, ih⟩
  | d i =>
    simp only [Rc] at h
    cases i <;> simpa [Sh.av, DSh.el, RepC, DSh.toD, RcD] using h

theorem RcL_ints {E : Emb} {k : IntKind} : ∀ {l : List Int} {xs : List Value}, RcL E (.int k) l xs ↔ xs = l.map (.int k)
  | [], xs => by simp [RcL]
  | a :: l, xs => by
    simp only [RcL, Rc, List.map_cons]
    constructor
    · rintro ⟨a, b, rfl, rfl, h⟩; rw [RcL_ints.1 h]; rfl
    · rintro rfl; exact ⟨[_], _, rfl, rfl, RcL_ints.2 rfl⟩

theorem Rc_de {E : Emb} {s : Sh} {v : AV} {t : s.T} {xs : List Value} (hd : s.de v = some t) (h : RepC E v xs) : Rc E s t xs := by
  cases s with
  | int k =>
    cases v <;> simp [Sh.de] at hd
    obtain ⟨rfl, rfl⟩ := hd
    simpa [Rc, RepC] using h
  | u256 =>
    cases v <;> simp [Sh.de] at hd
    subst hd
    simpa [Rc, RepC] using h
  | u2 =>
    match v, hd with
    | .st [.u256 x, .u256 y], hd =>
      simp only [Sh.de, Option.some.injEq] at hd
      subst hd
      simp only [RepC, RepCs] at h
      obtain ⟨a, _, rfl, rfl, b, _, rfl, rfl, rfl⟩ := h
      simp [Rc]
  | pt =>
    match v, hd with
    | .st [.u256 x, .u256 y, .bool b], hd =>
      simp only [Sh.de, Option.some.injEq] at hd
      subst hd
      simp only [RepC, RepCs] at h
      obtain ⟨a, _, rfl, rfl, b, _, rfl, rfl, c, _, rfl, rfl, rfl⟩ := h
      simp [Rc]
  | jac =>
    match v, hd with
    | .st [.u256 x, .u256 y, .u256 b], hd =>
      simp only [Sh.de, Option.some.injEq] at hd
      subst hd
      simp only [RepC, RepCs] at h
      obtain ⟨a, _, rfl, rfl, b, _, rfl, rfl, c, _, rfl, rfl, rfl⟩ := h
      simp [Rc]
  | bytes =>
    match v, hd with
    | .isl false (.int .u8) l, hd =>
      simp only [Sh.de, Option.some.injEq] at hd
      subst hd
      simp only [RepC] at h
      obtain ⟨x, ys, rfl, h1, h2⟩ := h
      rw [RcL_ints] at h1
      subst h1
      exact ⟨x, rfl, h2⟩
    | .nsl (.int .u8), hd =>
      simp only [Sh.de, Option.some.injEq] at hd
      subst hd
      simp only [RepC] at h
      subst h
      exact ⟨_, rfl, none, 0, 0, rfl, rfl, Nat.le_refl _, rfl⟩
  | d i =>
    have gen : ∀ {v : AV}, (AV.toDV v).bind i.make = some t → RepC E v xs → RcD E (i.toD t) xs := fun hd h => by
      obtain ⟨d, h1, h2⟩ := Option.bind_eq_some_iff.1 hd
      exact like_rep (DSh.make_toD h2) (AV.toDV_rep h1 h)
    simp only [Rc]
    cases v with
    | el j u =>
      simp only [Sh.de] at hd
      obtain ⟨e, h2⟩ := DSh.cast_eq hd
      subst e; subst h2
      simpa only [RepC] using h
    | _ => simp only [Sh.de] at hd; exact gen hd h

/-! ### Limbs -/

theorem pow64 (i : Nat) : 2 ^ (64 * (i + 1)) = 18446744073709551616 * 2 ^ (64 * i) := by
  rw [show 64 * (i + 1) = 64 + 64 * i by omega, Nat.pow_add]

theorem limb_nat (x i : Nat) : limb x i = ((x / 2 ^ (64 * i) % 18446744073709551616 : Nat) : Int) := rfl

theorem setLimb_limb {x i j : Nat} {v : Int} (h : inU64 v = true) (hi : i < 4) (hj : j < 4) : limb (setLimb x i v) j = if i = j then v else limb x j := by
  simp only [inU64, Bool.and_eq_true, decide_eq_true_eq] at h
  obtain ⟨n, rfl⟩ := Int.eq_ofNat_of_zero_le h.1
  have hn : n < 18446744073709551616 := by omega
  have e : ((n : Int) % 18446744073709551616).toNat = n := by omega
  unfold setLimb limb
  rw [e]
  have h4 : i = 0 ∨ i = 1 ∨ i = 2 ∨ i = 3 := by omega
  have h5 : j = 0 ∨ j = 1 ∨ j = 2 ∨ j = 3 := by omega
  rcases h4 with rfl | rfl | rfl | rfl <;> rcases h5 with rfl | rfl | rfl | rfl <;> simp <;> omega

theorem ucells_get (x : Nat) {i : Nat} (h : i < 4) : ∃ pre post, ucells x = pre ++ [Value.int .u64 (limb x i)] ++ post ∧ pre.length = i ∧
    ∀ v, inU64 v = true → ucells (setLimb x i v) = pre ++ [Value.int .u64 v] ++ post := by
  have h4 : i = 0 ∨ i = 1 ∨ i = 2 ∨ i = 3 := by omega
  rcases h4 with rfl | rfl | rfl | rfl
  · exact ⟨[], [.int .u64 (limb x 1), .int .u64 (limb x 2), .int .u64 (limb x 3)], rfl, rfl, fun v hv => by
      simp [ucells, limbs, setLimb_limb hv]⟩
  · exact ⟨[.int .u64 (limb x 0)], [.int .u64 (limb x 2), .int .u64 (limb x 3)], rfl, rfl, fun v hv => by
      simp [ucells, limbs, setLimb_limb hv]⟩
  · exact ⟨[.int .u64 (limb x 0), .int .u64 (limb x 1)], [.int .u64 (limb x 3)], rfl, rfl, fun v hv => by
      simp [ucells, limbs, setLimb_limb hv]⟩
  · exact ⟨[.int .u64 (limb x 0), .int .u64 (limb x 1), .int .u64 (limb x 2)], [], rfl, rfl, fun v hv => by
      simp [ucells, limbs, setLimb_limb hv]⟩

/-! ### What is read, what is written -/

theorem get_named {ok : Nat → Bool} : ∀ (p : List Step) {v u : AV}, get v p = some u → v.named ok = true → u.named ok = true := by
  intro p
  induction p with
  | nil => intro v u h hn; simp [get, getK] at h; subst h; exact hn
  | cons s p ih =>
    intro v u h hn
    cases s with
    | fld i off =>
      replace hn := AV.open_named hn
      simp only [get, getK] at h
      generalize v.open = v at h hn
      cases v <;> dsimp only at h <;> (try cases h)
      case st l =>
        split at h
        · split at h
          · rename_i w hw
            exact ih h (AV.nameds_get (by simpa [AV.named] using hn) hw)
          · cases h
        · cases h
    | idx i sz =>
      replace hn := AV.open_named hn
      simp only [get, getK] at h
      generalize v.open = v at h hn
      cases v <;> dsimp only at h <;> (try cases h)
      case arr s n l =>
        split at h
        · cases hb : Nat.blt i n
          · rw [hb] at h; cases h
          · rw [hb] at h; exact ih h (Sh.av_named _ _)
        · cases h
      case u256 x =>
        split at h
        · cases hb : Nat.blt i 4
          · rw [hb] at h; cases h
          · rw [hb] at h; exact ih h (by simp [AV.named])
        · cases h
      case st l =>
        split at h
        · split at h
          · rename_i w hw
            exact ih h (AV.nameds_get (by simpa [AV.named] using hn) hw)
          · cases h
        · cases h

theorem get_sound {E : Emb} : ∀ (p : List Step) {v u : AV} {xs : List Value}, get v p = some u → RepC E v xs →
    ∃ pre ys post, xs = pre ++ ys ++ post ∧ pre.length = offs p ∧ RepC E u ys := by
  intro p
  induction p with
  | nil => intro v u xs h hr; simp [get, getK] at h; subst h; exact ⟨[], xs, [], by simp, rfl, hr⟩
  | cons s p ih =>
    intro v u xs h hr
    cases s with
    | fld i off =>
      replace hr := RepC_open.2 hr
      simp only [get, getK] at h
      generalize v.open = v at h hr
      cases v <;> dsimp only at h <;> (try cases h)
      case st l =>
        split at h
        · rename_i hoff
          split at h
          · rename_i w hw
            simp only [RepC] at hr
            obtain ⟨pre, ys, post, e, hp, hy, _⟩ := RepCs.split i hr hw
            obtain ⟨pre', ys', post', e', hp', hy'⟩ := ih h hy
            exact ⟨pre ++ pre', ys', post' ++ post, by simp [e, e'], by simp [hp, hp', hoff, offs], hy'⟩
          · cases h
        · cases h
    | idx i sz =>
      replace hr := RepC_open.2 hr
      simp only [get, getK] at h
      generalize v.open = v at h hr
      cases v <;> dsimp only at h <;> (try cases h)
      case arr s n l =>
        split at h
        · rename_i hsz
          cases hb : Nat.blt i n
          · rw [hb] at h; cases h
          · rw [hb] at h
            simp only [cond_true] at h
            have hi : i < n := by simpa using hb
            simp only [RepC] at hr
            obtain ⟨pre, ys, post, e, hp, hy, _⟩ := RcL.split i hr.2 (by rw [hr.1]; exact hi)
            obtain ⟨pre', ys', post', e', hp', hy'⟩ := ih h (Rc_av hy)
            exact ⟨pre ++ pre', ys', post' ++ post, by simp [e, e'], by simp [hp, hp', hsz, offs], hy'⟩
        · cases h
      case u256 x =>
        split at h
        · rename_i hsz
          cases hb : Nat.blt i 4
          · rw [hb] at h; cases h
          · rw [hb] at h
            simp only [cond_true] at h
            have hi : i < 4 := by simpa using hb
            simp only [RepC] at hr
            obtain ⟨pre, post, e, hp, _⟩ := ucells_get x hi
            obtain ⟨pre', ys', post', e', hp', hy'⟩ := ih (xs := [.int .u64 (limb x i)]) h (by simp [RepC])
            exact ⟨pre ++ pre', ys', post' ++ post, by rw [hr, e, e']; simp, by simp [hp, hp', hsz, offs], hy'⟩
        · cases h
      case st l =>
        split at h
        · rename_i hoff
          split at h
          · rename_i w hw
            simp only [RepC] at hr
            obtain ⟨pre, ys, post, e, hp, hy, _⟩ := RepCs.split i hr hw
            obtain ⟨pre', ys', post', e', hp', hy'⟩ := ih h hy
            exact ⟨pre ++ pre', ys', post' ++ post, by simp [e, e'], by simp [hp, hp', hoff, offs], hy'⟩
          · cases h
        · cases h

theorem set_sound {E : Emb} : ∀ (p : List Step) {v u v' : AV} {xs zs : List Value}, set v p u = some v' → RepC E v xs → RepC E u zs →
    ∃ pre ys post, xs = pre ++ ys ++ post ∧ pre.length = offs p ∧ ys.length = zs.length ∧ RepC E v' (pre ++ zs ++ post) ∧ v'.size = v.size ∧ v'.isAgg = v.isAgg := by
  intro p
  induction p with
  | nil =>
    intro v u v' xs zs h hr hu
    simp only [set, setK] at h
    split at h
    · rename_i hs
      simp at h; subst h
      exact ⟨[], xs, [], by simp, rfl, by rw [hr.length, hu.length, hs.1], by simpa using hu, hs.1.symm, hs.2.symm⟩
    · cases h
  | cons s p ih =>
    intro v u v' xs zs h hr hu
    cases s with
    | fld i off =>
      have hsz0 := AV.open_size v hr
      have hag0 := AV.open_agg v
      replace hr := RepC_open.2 hr
      simp only [set, setK] at h
      rw [← hsz0, ← hag0]
      clear hsz0 hag0
      generalize v.open = v at h hr
      cases v <;> dsimp only at h <;> (try cases h)
      case st l =>
        split at h
        · rename_i hoff
          split at h
          · rename_i w hw
            rw [setK_eq] at h
            cases hs : set w p u with
            | none => rw [hs] at h; cases h
            | some w' =>
              rw [hs] at h
              simp at h; subst h
              simp only [RepC] at hr
              obtain ⟨pre, ys, post, e, hp, hy, hset⟩ := RepCs.split i hr hw
              obtain ⟨pre', ys', post', e', hp', hl', hy', hz', _⟩ := ih hs hy hu
              refine ⟨pre ++ pre', ys', post' ++ post, by simp [e, e'], by simp [hp, hp', hoff, offs], hl', ?_, ?_, rfl⟩
              · have := hset w' _ hy'
                simpa [RepC] using this
              · have hi : i < l.length := by
                  rcases Nat.lt_or_ge i l.length with h | h
                  · exact h
                  · simp [List.getElem?_eq_none h] at hw
                simp only [AV.size]
                have h1 := RepCs.length (hset w' _ hy')
                have h2 := RepCs.length hr
                rw [← h1, ← h2, e, e']
                simp [hl']
          · cases h
        · cases h
    | idx i sz =>
      have hsz0 := AV.open_size v hr
      have hag0 := AV.open_agg v
      replace hr := RepC_open.2 hr
      simp only [set, setK] at h
      rw [← hsz0, ← hag0]
      clear hsz0 hag0
      generalize v.open = v at h hr
      cases v <;> dsimp only at h <;> (try cases h)
      case arr s n l =>
        split at h
        · rename_i hsz
          cases hb : Nat.blt i n
          · rw [hb] at h; cases h
          · rw [hb] at h
            simp only [cond_true] at h
            have hi : i < n := by simpa using hb
            rw [setK_eq] at h
            cases hs : set (s.av (l.getD i s.dflt)) p u with
            | none => rw [hs] at h; cases h
            | some w' =>
              rw [hs] at h
              simp only [Option.bind_some] at h
              cases hd : s.de w' with
              | none => rw [hd] at h; cases h
              | some t =>
                rw [hd] at h
                simp at h; subst h
                simp only [RepC] at hr
                obtain ⟨pre, ys, post, e, hp, hy, ht, hdr⟩ := RcL.split i hr.2 (by rw [hr.1]; exact hi)
                obtain ⟨pre', ys', post', e', hp', hl', hy', hz', _⟩ := ih hs (Rc_av hy) hu
                refine ⟨pre ++ pre', ys', post' ++ post, by simp [e, e'], by simp [hp, hp', hsz, offs], hl', ?_, rfl, rfl⟩
                simp only [RepC]
                refine ⟨by simp [hr.1], ?_⟩
                have : l.set i t = l.take i ++ t :: l.drop (i + 1) := by
                  rw [List.set_eq_take_append_cons_drop, if_pos (by rw [hr.1]; exact hi)]
                rw [this]
                have h3 : RcL E s (t :: l.drop (i + 1)) (pre' ++ zs ++ post' ++ post) := ⟨pre' ++ zs ++ post', post, rfl, Rc_de hd hy', hdr⟩
                simpa using ht.append h3
        · cases h
      case u256 x =>
        split at h
        · rename_i hsz
          cases hb : Nat.blt i 4
          · rw [hb] at h; cases h
          · rw [hb] at h
            simp only [cond_true] at h
            have hi : i < 4 := by simpa using hb
            split at h
            · rename_i w
              cases hw : inU64 w
              · rw [hw] at h; cases h
              · rw [hw] at h
                simp at h; subst h
                simp only [RepC] at hr hu
                obtain ⟨pre, post, e, hp, hset⟩ := ucells_get x hi
                refine ⟨pre, _, post, by rw [hr, e], by simp [hp, hsz, offs], by simp [hu], ?_, rfl, rfl⟩
                simp only [RepC]
                rw [hset w hw, hu]
            · cases h
        · cases h

theorem set_named {ok : Nat → Bool} : ∀ (p : List Step) {v u v' : AV}, set v p u = some v' → v.named ok = true → u.named ok = true → v'.named ok = true := by
  intro p
  induction p with
  | nil =>
    intro v u v' h hn hu
    simp only [set, setK] at h
    split at h
    · simp at h; subst h; exact hu
    · cases h
  | cons s p ih =>
    intro v u v' h hn hu
    cases s with
    | fld i off =>
      replace hn := AV.open_named hn
      simp only [set, setK] at h
      generalize v.open = v at h hn
      cases v <;> dsimp only at h <;> (try cases h)
      case st l =>
        split at h
        · split at h
          · rename_i w hw
            rw [setK_eq] at h
            cases hs : set w p u with
            | none => rw [hs] at h; cases h
            | some w' =>
              rw [hs] at h
              simp at h; subst h
              simp only [AV.named] at hn ⊢
              exact AV.nameds_set hn (ih hs (AV.nameds_get hn hw) hu)
          · cases h
        · cases h
    | idx i sz =>
      replace hn := AV.open_named hn
      simp only [set, setK] at h
      generalize v.open = v at h hn
      cases v <;> dsimp only at h <;> (try cases h)
      case arr s n l =>
        split at h
        · cases hb : Nat.blt i n
          · rw [hb] at h; cases h
          · rw [hb] at h
            simp only [cond_true] at h
            rw [setK_eq] at h
            cases hs : set (s.av (l.getD i s.dflt)) p u with
            | none => rw [hs] at h; cases h
            | some w' =>
              rw [hs] at h
              simp only [Option.bind_some] at h
              cases hd : s.de w' with
              | none => rw [hd] at h; cases h
              | some t => rw [hd] at h; simp at h; subst h; simp [AV.named]
        · cases h
      case u256 x =>
        split at h
        · cases hb : Nat.blt i 4
          · rw [hb] at h; cases h
          · rw [hb] at h
            simp only [cond_true] at h
            split at h
            · rename_i w
              cases hw : inU64 w
              · rw [hw] at h; cases h
              · rw [hw] at h; simp at h; subst h; simp [AV.named]
            · cases h
        · cases h

/-! ### Blocks -/

/-- A block's cells. -/
def RepR (E : Emb) (c : AV) (xs : List Value) : Prop :=
  match c with
  | .row s l => ∃ ys zs, xs = ys ++ zs ∧ RcL E s l ys ∧ ∀ z ∈ zs, z.oneCell' = true
  | c => RepC E c xs

theorem RepR.of {E : Emb} {c : AV} {xs : List Value} (h : RepC E c xs) : RepR E c xs := by
  cases c <;> first | exact h | (simp only [RepC] at h)

theorem RepR.mono {E E' : Emb} {ok : Nat → Bool} (h : E.Le E' ok) {c : AV} {xs : List Value} (hn : c.named ok = true) (hr : RepR E c xs) : RepR E' c xs := by
  cases c
  case row s l => obtain ⟨ys, zs, e, h1, h2⟩ := hr; exact ⟨ys, zs, e, h1.mono h, h2⟩
  all_goals exact RepC.mono h hn hr

theorem gett_named {ok : Nat → Bool} {p : List Step} {v u : AV} (h : gett v p = some u) (hn : v.named ok = true) : u.named ok = true := by
  unfold gett getB at h
  split at h
  · split at h
    · split at h
      · rename_i s l _ i sz q _
        generalize Nat.blt i _ = b at h
        cases b
        · cases h
        · exact get_named q h (Sh.av_named _ _)
      · cases h
    · cases h
  · cases h
  · cases h
  · exact get_named p h hn

theorem gett_sound {E : Emb} {p : List Step} {v u : AV} {xs : List Value} (h : gett v p = some u) (hr : RepR E v xs) :
    ∃ pre ys post, xs = pre ++ ys ++ post ∧ pre.length = offs p ∧ RepC E u ys := by
  unfold gett getB at h
  split at h
  · split at h
    · split at h
      · rename_i s l _ i sz q hsz
        cases hb : Nat.blt i l.length
        · rw [hb] at h; cases h
        · rw [hb] at h
          simp only [cond_true] at h
          obtain ⟨as, zs, e, h1, _⟩ := hr
          have hi : i < l.length := by simpa using hb
          obtain ⟨pre, ys, post, e', hp, hy, _⟩ := RcL.split i h1 hi
          obtain ⟨pre', ys', post', e'', hp', hy'⟩ := get_sound q h (Rc_av hy)
          exact ⟨pre ++ pre', ys', post' ++ post ++ zs, by simp [e, e', e''], by simp [hp, hp', hsz, offs], hy'⟩
      · cases h
    · cases h
  · cases h
  · cases h
  · rename_i hrow _ _
    have : RepC E v xs := by
      cases v <;> first | exact hr | exact absurd rfl (hrow _ _)
    exact get_sound p h this

theorem oneCell_append {a b : List Value} (h : ∀ z ∈ a ++ b, z.oneCell' = true) : (∀ z ∈ a, z.oneCell' = true) ∧ ∀ z ∈ b, z.oneCell' = true :=
  ⟨fun z hz => h z (List.mem_append_left _ hz), fun z hz => h z (List.mem_append_right _ hz)⟩

/-- How many elements of a block are told (if it is a row). -/
def AV.rowLen : AV → Option Nat
  | .row _ l => some l.length
  | _ => none

theorem sett_sound {E : Emb} {p : List Step} {v u v' : AV} {xs zs : List Value} (h : sett v p u = some v') (hr : RepR E v xs) (hu : RepC E u zs) :
    ∃ pre ys post, xs = pre ++ ys ++ post ∧ pre.length = offs p ∧ ys.length = zs.length ∧ RepR E v' (pre ++ zs ++ post) ∧ v'.rowLen = v.rowLen ∧ v'.live = true := by
  unfold sett setB at h
  split at h
  · split at h
    · split at h
      · rename_i s l _ i sz q hsz
        cases hb : Nat.blt i l.length
        · rw [hb] at h; cases h
        · rw [hb] at h
          simp only [cond_true] at h
          obtain ⟨as, bs, e, h1, ho⟩ := hr
          have hi : i < l.length := by simpa using hb
          obtain ⟨pre, ys, post, e', hp, hy, ht, hdr⟩ := RcL.split i h1 hi
          rw [setK_eq] at h
          cases hs : set (s.av (l.getD i s.dflt)) q u with
          | none => rw [hs] at h; cases h
          | some w' =>
            rw [hs] at h
            simp only [Option.bind_some] at h
            cases hd : s.de w' with
            | none => rw [hd] at h; cases h
            | some t =>
              rw [hd] at h
              simp at h; subst h
              obtain ⟨pre', ys', post', e'', hp', hl', hy', hz', _⟩ := set_sound q hs (Rc_av hy) hu
              refine ⟨pre ++ pre', ys', post' ++ post ++ bs, by simp [e, e', e''], by simp [hp, hp', hsz, offs], hl', ?_, by simp [AV.rowLen], rfl⟩
              refine ⟨pre ++ (pre' ++ zs ++ post') ++ post, bs, by simp, ?_, ho⟩
              have : l.set i t = l.take i ++ t :: l.drop (i + 1) := by
                rw [List.set_eq_take_append_cons_drop, if_pos hi]
              rw [this]
              have h3 : RcL E s (t :: l.drop (i + 1)) (pre' ++ zs ++ post' ++ post) := ⟨pre' ++ zs ++ post', post, rfl, Rc_de hd hy', hdr⟩
              simpa using ht.append h3
      · cases h
    · cases h
  · cases h
  · cases h
  · rename_i hrow hund _
    have hv : RepC E v xs := by
      cases v <;> first | exact hr | exact absurd rfl (hrow _ _)
    obtain ⟨pre, ys, post, e1, e2, e3, e4, _, _⟩ := set_sound p h hv hu
    refine ⟨pre, ys, post, e1, e2, e3, RepR.of e4, ?_, ?_⟩
    · have a1 : v.rowLen = none := by cases v <;> first | rfl | exact absurd rfl (hrow _ _)
      have a2 : v'.rowLen = none := by cases v' <;> first | rfl | (simp only [RepC] at e4)
      rw [a1, a2]
    · cases v' <;> first | rfl | (simp only [RepC] at e4)

theorem sett_named {ok : Nat → Bool} {p : List Step} {v u v' : AV} (h : sett v p u = some v') (hn : v.named ok = true) (hu : u.named ok = true) : v'.named ok = true := by
  unfold sett setB at h
  split at h
  · split at h
    · split at h
      · rename_i s l _ i sz q hsz
        generalize Nat.blt i _ = b at h
        cases b
        · cases h
        · simp only [cond_true] at h
          rw [setK_eq] at h
          cases hs : set (s.av (l.getD i s.dflt)) q u with
          | none => rw [hs] at h; cases h
          | some w' =>
            rw [hs] at h
            simp only [Option.bind_some] at h
            cases hd : s.de w' with
            | none => rw [hd] at h; cases h
            | some t => rw [hd] at h; simp at h; subst h; simp [AV.named]
      · cases h
    · cases h
  · cases h
  · cases h
  · exact set_named p h hn hu
end Go.Sy
