/- Plain laws: the document's types as trees: what its functions tell of them. -/
import Derived.Test.YtapnedegcnmhgaaDoorSyN1
import Derived.Lib.ItoaMem
set_option linter.unusedVariables false
set_option linter.unusedSimpArgs false
namespace Go.Sy
open Go

/-! ### Trees -/

inductive RT.WF : RT → Prop
  | num (k n : Int) (hk : k = 1 ∨ k = 2) (h1 : 8 ≤ n) (h2 : n ≤ 256) : RT.WF (.mk k n [])
  | plain (k : Int) (hk : k = 3 ∨ k = 4 ∨ k = 6 ∨ k = 7) : RT.WF (.mk k 0 [])
  | fixed (n : Int) (h1 : 1 ≤ n) (h2 : n ≤ 32) : RT.WF (.mk 5 n [])
  | list (t : RT) (h : RT.WF t) : RT.WF (.mk 8 0 [t])
  | arr (n : Int) (t : RT) (h1 : 1 ≤ n) (h2 : n ≤ 65535) (h : RT.WF t) : RT.WF (.mk 9 n [t])
  | tup (l : List RT) (hne : l ≠ []) (h : ∀ t ∈ l, RT.WF t) : RT.WF (.mk 10 0 l)

mutual
def RT.sz : RT → Nat | .mk _ _ l => RT.szs l + 1
def RT.szs : List RT → Nat
  | [] => 0
  | t :: l => t.sz + RT.szs l
end
mutual
def RT.dyn : RT → Bool | .mk k _ l => k == 6 || k == 7 || k == 8 || RT.dyns l
def RT.dyns : List RT → Bool
  | [] => false
  | t :: l => t.dyn || RT.dyns l
end
mutual
def RT.dp : RT → Nat | .mk _ _ l => if l.isEmpty then 0 else RT.dps l + 1
def RT.dps : List RT → Nat
  | [] => 0
  | t :: l => max t.dp (RT.dps l)
end
mutual
def RT.wd : RT → Nat | .mk k n l => if k = 9 then n.toNat * RT.wds l else if k = 10 then RT.wds l else 1
def RT.wds : List RT → Nat
  | [] => 0
  | t :: l => t.wd + RT.wds l
end
mutual
def RT.nar : RT → Bool | .mk k n l => decide (RT.wd (.mk k n l) ≤ 65536) && RT.nars l
def RT.nars : List RT → Bool
  | [] => true
  | t :: l => t.nar && RT.nars l
end
def RT.hd (t : RT) : Nat := if t.dyn then 1 else t.wd
def RT.hds : List RT → Nat
  | [] => 0
  | t :: l => t.hd + RT.hds l
def decI (n : Int) : List UInt8 := Lib.decDigits n.toNat
mutual
def RT.tx : RT → List UInt8
  | .mk k n l => if k = 1 then strC6 ++ decI n else if k = 2 then strC7 ++ decI n else if k = 3 then strC9 else if k = 4 then strC10
    else if k = 5 then strC8 ++ decI n else if k = 6 then strC8 else if k = 7 then strC11 else if k = 8 then RT.txs l ++ strC3
    else if k = 9 then RT.txs l ++ strC4 ++ decI n ++ strC5 else strC1 ++ RT.txs l ++ strC2
def RT.txs : List RT → List UInt8
  | [] => []
  | t :: l => t.tx ++ RT.txt l
def RT.txt : List RT → List UInt8
  | [] => []
  | t :: l => strC0 ++ t.tx ++ RT.txt l
end
mutual
def RT.kt : RT → KT
  | .mk k n l => KT.mk true (k - 1) n (RT.kts l) (RT.tx (.mk k n l)) (RT.dyn (.mk k n l)) (RT.hd (.mk k n l) : Nat) (RT.wd (.mk k n l) : Nat) (RT.dp (.mk k n l) : Nat)
def RT.kts : List RT → List KT
  | [] => []
  | t :: l => t.kt :: RT.kts l
end

theorem RT.kts_map : ∀ l, RT.kts l = l.map RT.kt
  | [] => rfl
  | t :: l => by simp [RT.kts, RT.kts_map l]
theorem RT.kt_ok (t : RT) : t.kt.ok = true := by cases t; rfl
theorem RT.kt_text (t : RT) : t.kt.text = t.tx := by cases t; rfl
theorem RT.kt_dyn (t : RT) : t.kt.dyn = t.dyn := by cases t; rfl
theorem RT.kt_head (t : RT) : t.kt.head = (t.hd : Int) := by cases t; rfl
theorem RT.kt_width (t : RT) : t.kt.width = (t.wd : Int) := by cases t; rfl
theorem RT.kt_deep (t : RT) : t.kt.deep = (t.dp : Int) := by cases t; rfl
theorem RT.kt_of (t : RT) : t.kt.of = t.ins.map RT.kt := by cases t; simp [RT.kt, KT.of, RT.ins, RT.kts_map]
theorem RT.kt_what (t : RT) : t.kt.what = t.kind - 1 := by cases t; rfl
theorem RT.kt_wide (t : RT) : t.kt.wide = t.n := by cases t; rfl

theorem RT.szs_mem {t : RT} : ∀ {l : List RT}, t ∈ l → t.sz ≤ RT.szs l
  | u :: l, h => by
    rcases List.mem_cons.1 h with e | h
    · subst e; simp only [RT.szs]; omega
    · have := RT.szs_mem h; simp only [RT.szs]; omega
theorem RT.sz_pos (t : RT) : 1 ≤ t.sz := by cases t; simp [RT.sz]
theorem RT.szs_len : ∀ l : List RT, l.length ≤ RT.szs l
  | [] => Nat.le_refl _
  | t :: l => by have := RT.szs_len l; have := t.sz_pos; simp only [RT.szs, List.length_cons]; omega
theorem RT.szs_app : ∀ l m : List RT, RT.szs (l ++ m) = RT.szs l + RT.szs m
  | [], m => by simp [RT.szs]
  | t :: l, m => by simp [RT.szs, RT.szs_app l m]; omega

/-! ### Depth -/

theorem deepL_val {g : ringRef22IDeep} {k n : Int} {l : List RT} (hl : l.length < 1152921504606846976) (hg : ∀ t ∈ l, g.ref22IDeep t = some ((t.dp : Nat) : Int)) : ∀ (f m i a : Nat), l.length - i < m → m ≤ f → i ≤ l.length →
    iter (fun p : Int × Int × RT => ref22IDeepL0R g p.1 p.2.1 p.2.2) f ((a : Int), (i : Int), RT.mk k n l) = some ((max a (RT.dps (l.drop i)) : Nat) : Int)
  | 0, m, i, a, h1, h2, h3 => by omega
  | f + 1, m, i, a, h1, h2, h3 => by
    by_cases h : i < l.length
    · refine iter_more (b := (((max a l[i].dp : Nat) : Int), ((i + 1 : Nat) : Int), RT.mk k n l)) ?_ ?_
      · simp only
        unfold ref22IDeepL0R
        simp only [Int.toNat_natCast, RT.ins]
        refine guard_step (dec_t (by omega)) (guard_step (dec_t (by omega)) (guard_step (blt_t h) (bind_step (hg _ (by rw [getD_some h]; exact List.getElem_mem h)) ?_)))
        rw [getD_some h, wI_one i (by omega)]
        congr 3
        split <;> omega
      · rw [deepL_val hl hg f (m - 1) (i + 1) _ (by omega) (by omega) (by omega), drop_cons h]
        simp only [RT.dps]
        congr 2
        omega
    · rw [List.drop_eq_nil_of_le (by omega)]
      refine iter_end ?_
      simp only
      unfold ref22IDeepL0R
      simp only [RT.ins]
      refine guard_else (dec_f (by omega)) ?_
      simp [RT.dps]

theorem RT.dp_sz : ∀ t : RT, t.dp ≤ t.sz := by
  intro t
  exact RT.rec (motive_1 := fun t => t.dp ≤ t.sz) (motive_2 := fun l => RT.dps l ≤ RT.szs l) (fun k n l ih => by simp only [RT.dp, RT.sz]; split <;> omega) (Nat.le_refl _) (fun t l h1 h2 => by simp only [RT.dps, RT.szs]; omega) t

theorem deep_val {t : RT} (hw : t.WF) : ∀ n, t.sz ≤ n → t.sz < 1000000000000 → (ringRef22IDeepI n).ref22IDeep t = some ((t.dp : Nat) : Int) := by
  have gen : ∀ (k m : Int) (l : List RT), (∀ t ∈ l, ∀ n, t.sz ≤ n → t.sz < 1000000000000 → (ringRef22IDeepI n).ref22IDeep t = some ((t.dp : Nat) : Int)) → ∀ n, (RT.mk k m l).sz ≤ n → (RT.mk k m l).sz < 1000000000000 → (ringRef22IDeepI n).ref22IDeep (.mk k m l) = some (((RT.mk k m l).dp : Nat) : Int) := by
    intro k m l ih n h1 h2
    simp only [RT.sz] at h1 h2
    have hlen := RT.szs_len l
    obtain ⟨n, rfl⟩ : ∃ q, n = q + 1 := ⟨n - 1, by omega⟩
    rw [ref22IDeep_S]
    unfold ref22IDeepB
    simp only [RT.ins, RT.dp]
    cases l with
    | nil => exact guard_step rfl rfl
    | cons t l =>
      refine guard_else (by simp; omega) ?_
      rw [ref22IDeepL0_eq]
      have := deepL_val (g := ringRef22IDeepI n) (k := k) (n := m) (l := t :: l) (by omega) (fun u hu => ih u hu n (by have := RT.szs_mem hu; omega) (by have := RT.szs_mem hu; omega)) bigFuel ((t :: l).length + 1) 0 0 (by omega) (by rw [bigFuel_eq]; omega) (by omega)
      refine bind_step this ?_
      have hd : RT.dps (t :: l) ≤ RT.szs (t :: l) := by
        have := RT.dp_sz (.mk k m (t :: l))
        simp only [RT.dp, RT.sz, List.isEmpty_cons, Bool.false_eq_true, if_false] at this
        omega
      simp only [List.drop_zero, Nat.zero_max, List.isEmpty_cons, Bool.false_eq_true, if_false]
      rw [wI_one _ (by omega)]
  induction hw with
  | num k n hk h1 h2 => exact gen _ _ _ (fun t ht => by cases ht)
  | plain k hk => exact gen _ _ _ (fun t ht => by cases ht)
  | fixed n h1 h2 => exact gen _ _ _ (fun t ht => by cases ht)
  | list t h ih => exact gen _ _ _ (fun u hu => by rw [List.mem_singleton.1 hu]; exact ih)
  | arr n t h1 h2 h ih => exact gen _ _ _ (fun u hu => by rw [List.mem_singleton.1 hu]; exact ih)
  | tup l hne h ih => exact gen _ _ _ ih

/-! ### Width -/

theorem widthsL_val {g : ringRef22IWidth} {l : List RT} (hl : l.length < 1152921504606846976) (hg : ∀ t ∈ l, g.ref22IWidth t = some ((cap t.wd : Nat) : Int)) : ∀ (f m i a : Nat), l.length - i < m → m ≤ f → i ≤ l.length →
    iter (fun p : List RT × Int × Int => ref22IWidthsL0R g p.1 p.2.1 p.2.2) f (l, ((cap a : Nat) : Int), (i : Int)) = some ((cap (a + RT.wds (l.drop i)) : Nat) : Int)
  | 0, m, i, a, h1, h2, h3 => by omega
  | f + 1, m, i, a, h1, h2, h3 => by
    by_cases h : i < l.length
    · refine iter_more (b := (l, ((cap (a + l[i].wd) : Nat) : Int), ((i + 1 : Nat) : Int))) ?_ ?_
      · simp only
        unfold ref22IWidthsL0R
        simp only [Int.toNat_natCast]
        refine guard_step (dec_t (by omega)) (guard_step (dec_t (by omega)) (guard_step (blt_t h) (bind_step (hg _ (by rw [getD_some h]; exact List.getElem_mem h)) ?_)))
        have c1 := cap_le a
        have c2 := cap_le l[i].wd
        rw [getD_some h, wI_one i (by omega), wI_add _ _ (by omega)]
        congr 4
        unfold cap
        split <;> split <;> (try split) <;> (try split) <;> omega
      · rw [widthsL_val hl hg f (m - 1) (i + 1) _ (by omega) (by omega) (by omega), drop_cons h]
        simp only [RT.wds]
        congr 3
        omega
    · rw [List.drop_eq_nil_of_le (by omega)]
      refine iter_end ?_
      simp only
      unfold ref22IWidthsL0R
      exact guard_else (dec_f (by omega)) rfl

theorem widths_val {g : ringRef22IWidth} {l : List RT} (hl : l.length < 1000000000000) (hg : ∀ t ∈ l, g.ref22IWidth t = some ((cap t.wd : Nat) : Int)) : ref22IWidthsB g l = some ((cap (RT.wds l) : Nat) : Int) := by
  unfold ref22IWidthsB
  rw [ref22IWidthsL0_eq]
  have := widthsL_val (by omega) hg bigFuel (l.length + 1) 0 0 (by omega) (by rw [bigFuel_eq]; omega) (by omega)
  simp only [List.drop_zero, Nat.zero_add] at this
  exact bind_step this rfl

theorem capI (n : Nat) : (if (65537 : Int) < (n : Int) then (65537 : Int) else (n : Int)) = ((cap n : Nat) : Int) := by
  unfold cap; split <;> split <;> omega
theorem capI' {z : Int} {n : Nat} (h : z = n) : (if (65537 : Int) < z then (65537 : Int) else z) = ((cap n : Nat) : Int) := by subst h; exact capI n
theorem cap_cap (n : Nat) : cap (cap n) = cap n := by unfold cap; split <;> (try split) <;> omega
theorem cap_mul {n w : Nat} (h : 1 ≤ n) : cap (n * cap w) = cap (n * w) := by
  unfold cap
  by_cases hw : 65537 < w
  · have h1 : n * 65537 ≥ 65537 := Nat.le_mul_of_pos_left _ h
    have h2 : n * w > 65537 := Nat.lt_of_lt_of_le hw (Nat.le_mul_of_pos_left _ h)
    simp only [hw, if_true, h2]
    split <;> omega
  · simp only [hw, if_false]

theorem width_val {t : RT} (hw : t.WF) : ∀ n, 2 * t.sz ≤ n → t.sz < 1000000000000 → (ringRef22IWidthI n).ref22IWidth t = some ((cap t.wd : Nat) : Int) := by
  induction hw with
  | num k n hk h1 h2 =>
    intro f hf _
    simp only [RT.sz, RT.szs] at hf
    obtain ⟨f, rfl⟩ : ∃ q, f = q + 1 := ⟨f - 1, by omega⟩
    rw [ref22IWidth_S]
    unfold ref22IWidthB
    simp only [RT.kind]
    refine guard_else (by simp; omega) (guard_else (by simp; omega) ?_)
    simp only [RT.wd]
    rw [if_neg (by omega), if_neg (by omega)]; rfl
  | plain k hk =>
    intro f hf _
    simp only [RT.sz, RT.szs] at hf
    obtain ⟨f, rfl⟩ : ∃ q, f = q + 1 := ⟨f - 1, by omega⟩
    rw [ref22IWidth_S]
    unfold ref22IWidthB
    simp only [RT.kind]
    refine guard_else (by simp; omega) (guard_else (by simp; omega) ?_)
    simp only [RT.wd]
    rw [if_neg (by omega), if_neg (by omega)]; rfl
  | fixed n h1 h2 =>
    intro f hf _
    simp only [RT.sz, RT.szs] at hf
    obtain ⟨f, rfl⟩ : ∃ q, f = q + 1 := ⟨f - 1, by omega⟩
    rfl
  | list t h ih =>
    intro f hf _
    simp only [RT.sz, RT.szs] at hf
    obtain ⟨f, rfl⟩ : ∃ q, f = q + 1 := ⟨f - 1, by omega⟩
    rfl
  | arr n t h1 h2 h ih =>
    intro f hf hs
    simp only [RT.sz, RT.szs] at hf hs
    obtain ⟨f, rfl⟩ : ∃ q, f = q + 1 := ⟨f - 1, by omega⟩
    rw [ref22IWidth_S]
    unfold ref22IWidthB
    simp only [RT.kind, RT.ins, RT.n]
    refine guard_step rfl (guard_step rfl (bind_step (ih f (by omega) (by omega)) (guard_else rfl ?_)))
    obtain ⟨n, rfl⟩ : ∃ q : Nat, n = q := ⟨n.toNat, by omega⟩
    have c := cap_le t.wd
    have hm : n * cap t.wd ≤ 65535 * 65537 := Nat.mul_le_mul (by omega) c
    refine congrArg some ((capI' (wI_mul n _ (by omega))).trans ?_)
    rw [cap_mul (by omega)]
    simp only [RT.wd, RT.wds, if_true, Int.toNat_natCast, Nat.add_zero]
  | tup l hne h ih =>
    intro f hf hs
    simp only [RT.sz] at hf hs
    have hlen := RT.szs_len l
    have hl1 : 1 ≤ l.length := List.length_pos_iff.2 hne
    obtain ⟨f, rfl⟩ : ∃ q, f = q + 2 := ⟨f - 2, by omega⟩
    rw [ref22IWidth_S]
    unfold ref22IWidthB
    simp only [RT.kind, RT.ins]
    refine guard_else rfl (guard_step rfl (bind_step (a := ((cap (RT.wds l) : Nat) : Int)) ?_ ?_))
    · rw [ref22IWidths_S]
      exact widths_val (by omega) fun u hu => ih u hu f (by have := RT.szs_mem hu; omega) (by have := RT.szs_mem hu; omega)
    · rw [capI, cap_cap]
      simp only [RT.wd, if_true]
      rw [if_neg (by decide)]
theorem width_full {t : RT} (hw : t.WF) (h : t.sz < 1000000000000) : ref22IWidth t = some ((cap t.wd : Nat) : Int) := by
  rw [ref22IWidth_eq]; exact width_val hw _ (by rw [bigFuel_eq]; omega) h
theorem widths_full {l : List RT} (hw : ∀ t ∈ l, t.WF) (h : RT.szs l < 1000000000000) : ref22IWidths l = some ((cap (RT.wds l) : Nat) : Int) := by
  rw [ref22IWidths_eq]
  obtain ⟨n, hn⟩ : ∃ n, bigFuel = n + 1 := big_pos
  have hb := bigFuel_eq
  have hlen := RT.szs_len l
  rw [hn]
  exact widths_val (by omega) fun u hu => width_val (hw u hu) n (by have := RT.szs_mem hu; omega) (by have := RT.szs_mem hu; omega)

/-! ### Narrow -/

theorem narrowL_val {g : ringRef22INarrow} {k n : Int} {l : List RT} (hl : l.length < 1000000000000) (hg : ∀ t ∈ l, g.ref22INarrow t = some t.nar) : ∀ (f m i : Nat), l.length - i < m → m ≤ f → i ≤ l.length →
    iter (fun p : Int × RT => ref22INarrowL0R g p.1 p.2) f ((i : Int), RT.mk k n l) = some (cond (RT.nars (l.drop i)) (.inr ()) (.inl ()))
  | 0, m, i, h1, h2, h3 => by omega
  | f + 1, m, i, h1, h2, h3 => by
    by_cases h : i < l.length
    · have hm := hg _ (List.getElem_mem h)
      rw [drop_cons h]
      simp only [RT.nars]
      rcases Bool.eq_false_or_eq_true l[i].nar with hn | hn
      case inr =>
        rw [hn]
        refine iter_end ?_
        simp only
        unfold ref22INarrowL0R
        simp only [Int.toNat_natCast, RT.ins]
        refine guard_step (dec_t (by omega)) (guard_step (dec_t (by omega)) (guard_step (blt_t h) (bind_step (by rw [getD_some h]; exact hm) ?_)))
        rw [hn]; rfl
      case inl =>
        rw [hn]
        refine iter_more (b := (((i + 1 : Nat) : Int), RT.mk k n l)) ?_ ?_
        · simp only
          unfold ref22INarrowL0R
          simp only [Int.toNat_natCast, RT.ins]
          refine guard_step (dec_t (by omega)) (guard_step (dec_t (by omega)) (guard_step (blt_t h) (bind_step (by rw [getD_some h]; exact hm) ?_)))
          rw [hn, wI_one i (by omega)]; rfl
        · rw [narrowL_val hl hg f (m - 1) (i + 1) (by omega) (by omega) (by omega)]; rfl
    · rw [List.drop_eq_nil_of_le (by omega)]
      refine iter_end ?_
      simp only
      unfold ref22INarrowL0R
      simp only [RT.ins]
      exact guard_else (dec_f (by omega)) rfl

theorem narrow_val {t : RT} (hw : t.WF) : ∀ n, t.sz ≤ n → t.sz < 1000000000000 → (ringRef22INarrowI n).ref22INarrow t = some t.nar := by
  have gen : ∀ (k m : Int) (l : List RT), (RT.mk k m l).WF → (∀ t ∈ l, ∀ n, t.sz ≤ n → t.sz < 1000000000000 → (ringRef22INarrowI n).ref22INarrow t = some t.nar) → ∀ n, (RT.mk k m l).sz ≤ n → (RT.mk k m l).sz < 1000000000000 → (ringRef22INarrowI n).ref22INarrow (.mk k m l) = some (RT.mk k m l).nar := by
    intro k m l hwf ih n h1 h2
    have hwd := width_full hwf h2
    simp only [RT.sz] at h1 h2
    have hlen := RT.szs_len l
    obtain ⟨n, rfl⟩ : ∃ q, n = q + 1 := ⟨n - 1, by omega⟩
    rw [ref22INarrow_S]
    unfold ref22INarrowB
    refine bind_step hwd ?_
    simp only [RT.nar]
    by_cases hn : (RT.mk k m l).wd ≤ 65536
    · have : cap (RT.mk k m l).wd = (RT.mk k m l).wd := by unfold cap; split <;> omega
      rw [this]
      refine guard_else (dec_f (by omega)) ?_
      rw [ref22INarrowL0_eq]
      have := narrowL_val (g := ringRef22INarrowI n) (k := k) (n := m) (l := l) (by omega) (fun u hu => ih u hu n (by have := RT.szs_mem hu; omega) (by have := RT.szs_mem hu; omega)) bigFuel (l.length + 1) 0 (by omega) (by rw [bigFuel_eq]; omega) (by omega)
      refine bind_step this ?_
      simp only [List.drop_zero, dec_t hn, Bool.true_and]
      cases RT.nars l <;> rfl
    · have : 65536 < cap (RT.mk k m l).wd := by unfold cap; split <;> omega
      refine guard_step (dec_t (by omega)) ?_
      simp only [dec_f hn, Bool.false_and]
  have hw0 := hw
  induction hw with
  | num k n hk h1 h2 => exact gen _ _ _ hw0 (fun t ht => by cases ht)
  | plain k hk => exact gen _ _ _ hw0 (fun t ht => by cases ht)
  | fixed n h1 h2 => exact gen _ _ _ hw0 (fun t ht => by cases ht)
  | list t h ih => exact gen _ _ _ hw0 (fun u hu => by rw [List.mem_singleton.1 hu]; exact ih h)
  | arr n t h1 h2 h ih => exact gen _ _ _ hw0 (fun u hu => by rw [List.mem_singleton.1 hu]; exact ih h)
  | tup l hne h ih => exact gen _ _ _ hw0 fun u hu => ih u hu (h u hu)

/-! ### Dynamic, heads -/

theorem dynL_val {g : ringRef22IDynamic} {k n : Int} {l : List RT} (hl : l.length < 1000000000000) (hg : ∀ t ∈ l, g.ref22IDynamic t = some t.dyn) : ∀ (f m i : Nat), l.length - i < m → m ≤ f → i ≤ l.length →
    iter (fun p : Int × RT => ref22IDynamicL0R g p.1 p.2) f ((i : Int), RT.mk k n l) = some (cond (RT.dyns (l.drop i)) (.inl ()) (.inr ()))
  | 0, m, i, h1, h2, h3 => by omega
  | f + 1, m, i, h1, h2, h3 => by
    by_cases h : i < l.length
    · have hm := hg _ (List.getElem_mem h)
      rw [drop_cons h]
      simp only [RT.dyns]
      rcases Bool.eq_false_or_eq_true l[i].dyn with hn | hn
      case inl =>
        rw [hn]
        refine iter_end ?_
        simp only
        unfold ref22IDynamicL0R
        simp only [Int.toNat_natCast, RT.ins]
        refine guard_step (dec_t (by omega)) (guard_step (dec_t (by omega)) (guard_step (blt_t h) (bind_step (by rw [getD_some h]; exact hm) ?_)))
        rw [hn]; rfl
      case inr =>
        rw [hn]
        refine iter_more (b := (((i + 1 : Nat) : Int), RT.mk k n l)) ?_ ?_
        · simp only
          unfold ref22IDynamicL0R
          simp only [Int.toNat_natCast, RT.ins]
          refine guard_step (dec_t (by omega)) (guard_step (dec_t (by omega)) (guard_step (blt_t h) (bind_step (by rw [getD_some h]; exact hm) ?_)))
          rw [hn, wI_one i (by omega)]; rfl
        · rw [dynL_val hl hg f (m - 1) (i + 1) (by omega) (by omega) (by omega)]; rfl
    · rw [List.drop_eq_nil_of_le (by omega)]
      refine iter_end ?_
      simp only
      unfold ref22IDynamicL0R
      simp only [RT.ins]
      exact guard_else (dec_f (by omega)) rfl

theorem dynamic_val {t : RT} (hw : t.WF) : ∀ n, t.sz ≤ n → t.sz < 1000000000000 → (ringRef22IDynamicI n).ref22IDynamic t = some t.dyn := by
  have gen : ∀ (k m : Int) (l : List RT), (∀ t ∈ l, ∀ n, t.sz ≤ n → t.sz < 1000000000000 → (ringRef22IDynamicI n).ref22IDynamic t = some t.dyn) → ∀ n, (RT.mk k m l).sz ≤ n → (RT.mk k m l).sz < 1000000000000 → (ringRef22IDynamicI n).ref22IDynamic (.mk k m l) = some (RT.mk k m l).dyn := by
    intro k m l ih n h1 h2
    simp only [RT.sz] at h1 h2
    have hlen := RT.szs_len l
    obtain ⟨n, rfl⟩ : ∃ q, n = q + 1 := ⟨n - 1, by omega⟩
    rw [ref22IDynamic_S]
    unfold ref22IDynamicB
    simp only [RT.kind, RT.dyn]
    cases h6 : (k == (6 : Int)) with
    | true => rfl
    | false =>
    cases h7 : (k == (7 : Int)) with
    | true => rfl
    | false =>
    cases h8 : (k == (8 : Int)) with
    | true => rfl
    | false =>
    simp only [cond_false, Bool.false_or]
    rw [ref22IDynamicL0_eq]
    have := dynL_val (g := ringRef22IDynamicI n) (k := k) (n := m) (l := l) (by omega) (fun u hu => ih u hu n (by have := RT.szs_mem hu; omega) (by have := RT.szs_mem hu; omega)) bigFuel (l.length + 1) 0 (by omega) (by rw [bigFuel_eq]; omega) (by omega)
    refine bind_step this ?_
    simp only [List.drop_zero]
    cases RT.dyns l <;> rfl
  induction hw with
  | num k n hk h1 h2 => exact gen _ _ _ (fun t ht => by cases ht)
  | plain k hk => exact gen _ _ _ (fun t ht => by cases ht)
  | fixed n h1 h2 => exact gen _ _ _ (fun t ht => by cases ht)
  | list t h ih => exact gen _ _ _ (fun u hu => by rw [List.mem_singleton.1 hu]; exact ih)
  | arr n t h1 h2 h ih => exact gen _ _ _ (fun u hu => by rw [List.mem_singleton.1 hu]; exact ih)
  | tup l hne h ih => exact gen _ _ _ ih
theorem dynamic_full {t : RT} (hw : t.WF) (h : t.sz < 1000000000000) : ref22IDynamic t = some t.dyn := by
  rw [ref22IDynamic_eq]; exact dynamic_val hw _ (by rw [bigFuel_eq]; omega) h

theorem head_val {t : RT} (hw : t.WF) (h : t.sz < 1000000000000) (hn : t.wd ≤ 65536) : ref22IHead t = some ((t.hd : Nat) : Int) := by
  rw [ref22IHead_eq]
  unfold ref22IHeadB
  refine bind_step (dynamic_full hw h) ?_
  unfold RT.hd
  cases t.dyn with
  | true => rfl
  | false =>
    refine bind_step (width_full hw h) ?_
    have : cap t.wd = t.wd := by unfold cap; split <;> omega
    rw [this]; rfl
end Go.Sy
