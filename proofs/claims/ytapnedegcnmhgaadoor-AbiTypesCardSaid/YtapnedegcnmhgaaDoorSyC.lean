/- What the symbolic reading stands for: abstract values against the model's, places inside them. -/
import Derived.Test.YtapnedegcnmhgaaDoorSyB
set_option linter.unusedVariables false
set_option linter.unusedSimpArgs false
namespace Go.Sy
open Go Go.RowKit
noncomputable section

/-- How names stand for blocks; how many cells a block has (none: there is no block), how many elements of a row are known; which cells stay as they are (true: for good, false: during the call). -/
structure Emb where
  ρ : Nat → Nat
  cnt : Nat → Option Nat
  len : Nat → Nat
  im : Bool → Nat → Nat → Option Value

def offs : List Step → Nat
  | [] => 0
  | .fld _ off :: p => off + offs p
  | .idx i sz :: p => i * sz + offs p

def ucells (x : Nat) : List Value := (limbs x).map (.int .u64)

def Lies (E : Emb) (fr : Bool) (ad : Addr) (xs : List Value) : Prop :=
  ad.spot = none ∧ ∀ j v, xs[j]? = some v → E.im fr ad.block (ad.off + j) = some v

def SlOk (E : Emb) (fr : Bool) (n : Nat) (xs : List Value) (x : Value) : Prop :=
  ∃ a len cap, x = .slice a len cap ∧ len = n ∧ len ≤ cap ∧ match a with
    | none => cap = 0
    | some ad => xs = [] ∨ Lies E fr ad xs

/-- A slice of memory that stays: what is known of the memory is no more than its capacity. -/
def SlW (E : Emb) (fr : Bool) (n m : Nat) (xs : List Value) (x : Value) : Prop :=
  ∃ a cap, x = .slice a n cap ∧ n ≤ m ∧ m ≤ cap ∧ match a with
    | none => cap = 0
    | some ad => xs = [] ∨ Lies E fr ad xs

mutual
/-- The cells of a value of memory that stays for good. -/
def RcD (E : Emb) : DT → List Value → Prop
  | .int k n, xs => xs = [.int k n]
  | .bool b, xs => xs = [.bool b]
  | .u256 x, xs => xs = ucells x
  | .str l, xs => xs = [.string ⟨l.toArray⟩]
  | .ints k l n, xs => ∃ x, xs = [x] ∧ SlW E true n l.length (l.map (.int k)) x
  | .sl l n, xs => ∃ x ys, xs = [x] ∧ RcDs E l ys ∧ SlW E true n l.length ys x
  | .ptr ok v, xs => (ok = false ∧ xs = [.pointer none]) ∨ (ok = true ∧ ∃ ad ys, xs = [.pointer (some ad)] ∧ Lies E true ad ys ∧ RcD E v ys)
  | .st l, xs => RcDs E l xs
def RcDs (E : Emb) : List DT → List Value → Prop
  | [], xs => xs = []
  | v :: l, xs => ∃ a b, xs = a ++ b ∧ RcD E v a ∧ RcDs E l b
end

/-- An element's cells. -/
def Rc (E : Emb) : (s : Sh) → s.T → List Value → Prop
  | .int k, n, xs => xs = [.int k n]
  | .u256, x, xs => xs = ucells x
  | .u2, p, xs => xs = ucells p.1 ++ ucells p.2
  | .pt, p, xs => xs = ucells p.1 ++ ucells p.2.1 ++ [.bool p.2.2]
  | .jac, p, xs => xs = ucells p.1 ++ ucells p.2.1 ++ ucells p.2.2
  | .bytes, l, xs => ∃ x, xs = [x] ∧ SlOk E false (l : List Int).length ((l : List Int).map (.int .u8)) x
  | .d i, t, xs => RcD E (i.toD t) xs

def RcL (E : Emb) (s : Sh) : List s.T → List Value → Prop
  | [], xs => xs = []
  | t :: l, xs => ∃ a b, xs = a ++ b ∧ Rc E s t a ∧ RcL E s l b

mutual
def RepC (E : Emb) : AV → List Value → Prop
  | .int k n, xs => xs = [.int k n]
  | .bool b, xs => xs = [.bool b]
  | .u256 x, xs => xs = ucells x
  | .arr s n l, xs => l.length = n ∧ RcL E s l xs
  | .st l, xs => RepCs E l xs
  | .ptr n p, xs => xs = [.pointer (some ⟨E.ρ n, offs p, none⟩)]
  | .pim fr v, xs => ∃ ad ys, xs = [.pointer (some ad)] ∧ Lies E fr ad ys ∧ RepC E v ys
  | .sl n p s i len cap, xs => len ≤ cap ∧ ∃ o, xs = [.slice (some ⟨E.ρ n, o, none⟩) len cap] ∧ (0 < cap → o = offs p + i * s.size)
  | .isl fr s l, xs => ∃ x ys, xs = [x] ∧ RcL E s l ys ∧ SlOk E fr l.length ys x
  | .own n s, xs => ∃ x, xs = [x] ∧ ((E.cnt n = none ∧ E.len n = 0 ∧ x = .slice none 0 0) ∨ ∃ o cap, x = .slice (some ⟨E.ρ n, o, none⟩) (E.len n) cap ∧ E.len n ≤ cap ∧ (0 < cap → o = 0) ∧ E.cnt n = some (cap * s.size))
  | .osl n s i len, xs => ∃ x, xs = [x] ∧ ((E.cnt n = none ∧ len = 0 ∧ x = .slice none 0 0) ∨ ∃ o cap, x = .slice (some ⟨E.ρ n, o, none⟩) len cap ∧ len ≤ cap ∧ (0 < cap → o = i * s.size) ∧ E.cnt n = some ((i + cap) * s.size))
  | .nsl _, xs => xs = [.slice none 0 0]
  | .str l, xs => xs = [.string ⟨l.toArray⟩]
  | .el i t, xs => RcD E (i.toD t) xs
  | .pimq ok v, xs => (ok = false ∧ xs = [.pointer none]) ∨ (ok = true ∧ ∃ ad ys, xs = [.pointer (some ad)] ∧ Lies E true ad ys ∧ RepC E v ys)
  | .isw fr s l n, xs => ∃ x ys, xs = [x] ∧ RcL E s l ys ∧ SlW E fr n l.length ys x
  | .ifc t v, xs => ∃ x, xs = [.iface t x] ∧ RepC E v x.cells.toList ∧ (v.isAgg = true → ∃ ys, x = .agg ys) ∧ (v.isAgg = false → x.cells = #[x])
  | .nili, xs => xs = [.nilIface]
  | .row _ _, _ => False
  | .nilp, xs => xs = [.pointer none]
  | .fn f caps, xs => ∃ vs, xs = [.func (.func f) #[] vs.toArray] ∧ RepCs E caps vs
  | .undef, _ => False
  | .tup _, _ => False
def RepCs (E : Emb) : List AV → List Value → Prop
  | [], xs => xs = []
  | v :: l, xs => ∃ a b, xs = a ++ b ∧ RepC E v a ∧ RepCs E l b
end

/-- A plain value in a temporary. -/
def Rep1 (E : Emb) (v : AV) (x : Value) : Prop := RepC E v x.cells.toList ∧ (v.isAgg = true → ∃ xs, x = .agg xs) ∧ (v.isAgg = false → x.cells = #[x])

def Rep1s (E : Emb) : List AV → List Value → Prop
  | [], xs => xs = []
  | v :: l, xs => ∃ x ys, xs = x :: ys ∧ v.plain = true ∧ Rep1 E v x ∧ Rep1s E l ys

def Rep (E : Emb) (v : AV) (x : Value) : Prop :=
  match v with
  | .undef => True
  | .tup l => ∃ vs, x = .tuple vs.toArray ∧ Rep1s E l vs
  | v => Rep1 E v x

theorem Rep.one {E : Emb} {v : AV} {x : Value} (hp : v.plain = true) : Rep E v x ↔ Rep1 E v x := by
  cases v <;> simp_all [AV.plain, Rep]

/-! ### Sizes -/

theorem limbs_length (x : Nat) : (limbs x).length = 4 := rfl
theorem ucells_length (x : Nat) : (ucells x).length = 4 := rfl

mutual
theorem RcD.length {E : Emb} : ∀ {v : DT} {xs : List Value}, RcD E v xs → xs.length = v.size
  | .int .., _, h | .bool _, _, h | .u256 _, _, h | .str _, _, h => by simp only [RcD] at h; subst h; rfl
  | .ints .., _, h => by simp only [RcD] at h; obtain ⟨_, rfl, _⟩ := h; rfl
  | .sl .., _, h => by simp only [RcD] at h; obtain ⟨_, _, rfl, _⟩ := h; rfl
  | .ptr .., _, h => by simp only [RcD] at h; rcases h with ⟨_, rfl⟩ | ⟨_, _, _, rfl, _⟩ <;> rfl
  | .st l, _, h => by simp only [RcD] at h; rw [RcDs.length h]; rfl
theorem RcDs.length {E : Emb} : ∀ {l : List DT} {xs : List Value}, RcDs E l xs → xs.length = DT.sizes l
  | [], _, h => by simp only [RcDs] at h; subst h; rfl
  | v :: l, xs, h => by
    simp only [RcDs] at h
    obtain ⟨a, b, rfl, ha, hb⟩ := h
    simp [RcD.length ha, RcDs.length hb, DT.sizes]
end

theorem Rc.length {E : Emb} {s : Sh} {t : s.T} {xs : List Value} (h : Rc E s t xs) : xs.length = s.size := by
  cases s
  case bytes => obtain ⟨x, rfl, _⟩ := h; rfl
  case d i => simp only [Rc] at h; rw [h.length, i.toD_size]; rfl
  all_goals (simp only [Rc] at h; subst h; simp [Sh.size, ucells_length])

theorem RcL.length {E : Emb} {s : Sh} : ∀ {l : List s.T} {xs : List Value}, RcL E s l xs → xs.length = l.length * s.size
  | [], xs, h => by simp only [RcL] at h; subst h; simp
  | t :: l, xs, h => by
    obtain ⟨a, b, rfl, ha, hb⟩ := h
    simp [ha.length, RcL.length hb, Nat.add_mul, Nat.add_comm]

mutual
theorem RepC.length {E : Emb} : ∀ {v : AV} {xs : List Value}, RepC E v xs → xs.length = v.size
  | .int .., _, h => by simp only [RepC] at h; subst h; rfl
  | .bool _, _, h => by simp only [RepC] at h; subst h; rfl
  | .u256 _, _, h => by simp only [RepC] at h; subst h; rfl
  | .arr s n l, xs, h => by simp only [RepC] at h; rw [RcL.length h.2, h.1]; rfl
  | .st l, xs, h => by simp only [RepC] at h; rw [RepCs.length h]; rfl
  | .ptr .., _, h => by simp only [RepC] at h; subst h; rfl
  | .pim .., _, h => by simp only [RepC] at h; obtain ⟨_, _, rfl, _⟩ := h; rfl
  | .sl .., _, h => by simp only [RepC] at h; obtain ⟨_, _, rfl, _⟩ := h; rfl
  | .isl .., _, h => by simp only [RepC] at h; obtain ⟨_, _, rfl, _⟩ := h; rfl
  | .own .., _, h => by simp only [RepC] at h; obtain ⟨_, rfl, _⟩ := h; rfl
  | .osl .., _, h => by simp only [RepC] at h; obtain ⟨_, rfl, _⟩ := h; rfl
  | .nsl _, _, h => by simp only [RepC] at h; subst h; rfl
  | .str _, _, h => by simp only [RepC] at h; subst h; rfl
  | .el i t, _, h => by simp only [RepC] at h; rw [h.length, i.toD_size]; rfl
  | .pimq .., _, h => by simp only [RepC] at h; rcases h with ⟨_, rfl⟩ | ⟨_, _, _, rfl, _⟩ <;> rfl
  | .isw .., _, h => by simp only [RepC] at h; obtain ⟨_, _, rfl, _⟩ := h; rfl
  | .ifc .., _, h => by simp only [RepC] at h; obtain ⟨_, rfl, _⟩ := h; rfl
  | .nili, _, h => by simp only [RepC] at h; subst h; rfl
  | .row .., _, h => by simp only [RepC] at h
  | .nilp, _, h => by simp only [RepC] at h; subst h; rfl
  | .fn .., _, h => by simp only [RepC] at h; obtain ⟨_, rfl, _⟩ := h; rfl
  | .undef, _, h => by simp only [RepC] at h
  | .tup _, _, h => by simp only [RepC] at h
theorem RepCs.length {E : Emb} : ∀ {l : List AV} {xs : List Value}, RepCs E l xs → xs.length = AV.sizes l
  | [], _, h => by simp only [RepCs] at h; subst h; rfl
  | v :: l, xs, h => by
    simp only [RepCs] at h
    obtain ⟨a, b, rfl, ha, hb⟩ := h
    simp [RepC.length ha, RepCs.length hb, AV.sizes]
end

/-! ### Growth of what stays as it is -/

structure Emb.Le (E E' : Emb) (ok : Nat → Bool) : Prop where
  ρ : ∀ n, ok n = true → E'.ρ n = E.ρ n
  cnt : ∀ n, ok n = true → E'.cnt n = E.cnt n
  len : ∀ n, ok n = true → E'.len n = E.len n
  im : ∀ f b j v, E.im f b j = some v → E'.im f b j = some v

theorem Lies.mono {E E' : Emb} {ok} (h : E.Le E' ok) {fr : Bool} {ad : Addr} {xs : List Value} (hl : Lies E fr ad xs) : Lies E' fr ad xs :=
  ⟨hl.1, fun j v hv => h.im _ _ _ _ (hl.2 j v hv)⟩

theorem SlOk.mono {E E' : Emb} {ok} (h : E.Le E' ok) {fr : Bool} {n : Nat} {xs : List Value} {x : Value} (hl : SlOk E fr n xs x) : SlOk E' fr n xs x := by
  obtain ⟨a, len, cap, h1, h2, h3, h4⟩ := hl
  refine ⟨a, len, cap, h1, h2, h3, ?_⟩
  cases a with
  | none => exact h4
  | some ad => exact h4.imp id (Lies.mono h)

theorem SlW.monoI {E E' : Emb} {fr : Bool} (h : ∀ b j v, E.im fr b j = some v → E'.im fr b j = some v) {n m : Nat} {xs : List Value} {x : Value} (hl : SlW E fr n m xs x) : SlW E' fr n m xs x := by
  obtain ⟨a, cap, h1, h2, h3, h4⟩ := hl
  refine ⟨a, cap, h1, h2, h3, ?_⟩
  cases a with
  | none => exact h4
  | some ad => exact h4.imp id fun g => ⟨g.1, fun j v hv => h _ _ _ (g.2 j v hv)⟩

mutual
/-- It stands on memory that stays for good alone. -/
theorem RcD.monoI {E E' : Emb} (h : ∀ b j v, E.im true b j = some v → E'.im true b j = some v) : ∀ {v : DT} {xs : List Value}, RcD E v xs → RcD E' v xs
  | .int .., _, hr | .bool _, _, hr | .u256 _, _, hr | .str _, _, hr => by simpa only [RcD] using hr
  | .ints .., _, hr => by
    simp only [RcD] at hr ⊢
    obtain ⟨x, h1, h2⟩ := hr
    exact ⟨x, h1, h2.monoI h⟩
  | .sl .., _, hr => by
    simp only [RcD] at hr ⊢
    obtain ⟨x, ys, h1, h2, h3⟩ := hr
    exact ⟨x, ys, h1, RcDs.monoI h h2, h3.monoI h⟩
  | .ptr .., _, hr => by
    simp only [RcD] at hr ⊢
    rcases hr with h1 | ⟨h0, ad, ys, h1, h2, h3⟩
    · exact .inl h1
    · exact .inr ⟨h0, ad, ys, h1, ⟨h2.1, fun j v hv => h _ _ _ (h2.2 j v hv)⟩, RcD.monoI h h3⟩
  | .st l, _, hr => by simp only [RcD] at hr ⊢; exact RcDs.monoI h hr
theorem RcDs.monoI {E E' : Emb} (h : ∀ b j v, E.im true b j = some v → E'.im true b j = some v) : ∀ {l : List DT} {xs : List Value}, RcDs E l xs → RcDs E' l xs
  | [], _, hr => by simpa only [RcDs] using hr
  | v :: l, xs, hr => by
    simp only [RcDs] at hr ⊢
    obtain ⟨a, b, h1, h2, h3⟩ := hr
    exact ⟨a, b, h1, RcD.monoI h h2, RcDs.monoI h h3⟩
end

theorem Rc.mono {E E' : Emb} {ok} (h : E.Le E' ok) {s : Sh} {t : s.T} {xs : List Value} (hl : Rc E s t xs) : Rc E' s t xs := by
  cases s
  case bytes => obtain ⟨x, h1, h2⟩ := hl; exact ⟨x, h1, h2.mono h⟩
  case d i => exact RcD.monoI (fun b j v => h.im _ b j v) hl
  all_goals exact hl

theorem RcL.mono {E E' : Emb} {ok} (h : E.Le E' ok) {s : Sh} : ∀ {l : List s.T} {xs : List Value}, RcL E s l xs → RcL E' s l xs
  | [], _, hl => hl
  | _ :: _, _, ⟨a, b, h1, h2, h3⟩ => ⟨a, b, h1, h2.mono h, RcL.mono h h3⟩

mutual
theorem RepC.mono {E E' : Emb} {ok : Nat → Bool} (h : E.Le E' ok) : ∀ {v : AV} {xs : List Value}, v.named ok = true → RepC E v xs → RepC E' v xs
  | .int .., _, _, hr => by simpa only [RepC] using hr
  | .bool _, _, _, hr => by simpa only [RepC] using hr
  | .u256 _, _, _, hr => by simpa only [RepC] using hr
  | .arr s n l, xs, _, hr => by simp only [RepC] at hr ⊢; exact ⟨hr.1, hr.2.mono h⟩
  | .st l, xs, hn, hr => by simp only [RepC] at hr ⊢; exact RepCs.mono h (by simpa [AV.named] using hn) hr
  | .ptr n p, _, hn, hr => by simp only [RepC] at hr ⊢; rw [h.ρ n (by simpa [AV.named] using hn)]; exact hr
  | .own n s, _, hn, hr => by
    have hn' : ok n = true := by simpa [AV.named] using hn
    simp only [RepC] at hr ⊢; rw [h.ρ n hn', h.cnt n hn', h.len n hn']; exact hr
  | .osl n s i len, _, hn, hr => by
    have hn' : ok n = true := by simpa [AV.named] using hn
    simp only [RepC] at hr ⊢; rw [h.ρ n hn', h.cnt n hn']; exact hr
  | .nsl _, _, _, hr => by simpa only [RepC] using hr
  | .str _, _, _, hr => by simpa only [RepC] using hr
  | .row .., _, _, hr => by simp only [RepC] at hr
  | .pim fr v, xs, hn, hr => by
    simp only [RepC] at hr ⊢
    obtain ⟨ad, ys, h1, h2, h3⟩ := hr
    exact ⟨ad, ys, h1, h2.mono h, RepC.mono h (by simpa [AV.named] using hn) h3⟩
  | .sl n p s i len cap, _, hn, hr => by simp only [RepC] at hr ⊢; rw [h.ρ n (by simpa [AV.named] using hn)]; exact hr
  | .isl fr s l, _, _, hr => by
    simp only [RepC] at hr ⊢
    obtain ⟨x, ys, h1, h2, h3⟩ := hr
    exact ⟨x, ys, h1, h2.mono h, h3.mono h⟩
  | .nilp, _, _, hr => by simpa only [RepC] using hr
  | .nili, _, _, hr => by simpa only [RepC] using hr
  | .el i t, _, _, hr => by simp only [RepC] at hr ⊢; exact RcD.monoI (fun b j v => h.im _ b j v) hr
  | .pimq ok v, xs, hn, hr => by
    simp only [RepC] at hr ⊢
    rcases hr with h1 | ⟨h0, ad, ys, h1, h2, h3⟩
    · exact .inl h1
    · exact .inr ⟨h0, ad, ys, h1, h2.mono h, RepC.mono h (by simpa [AV.named] using hn) h3⟩
  | .isw fr s l n, _, _, hr => by
    simp only [RepC] at hr ⊢
    obtain ⟨x, ys, h1, h2, h3⟩ := hr
    exact ⟨x, ys, h1, h2.mono h, h3.monoI (fun b j v => h.im _ b j v)⟩
  | .ifc t v, _, hn, hr => by
    simp only [RepC] at hr ⊢
    obtain ⟨x, h1, h2, h3, h4⟩ := hr
    exact ⟨x, h1, RepC.mono h (by simpa [AV.named] using hn) h2, h3, h4⟩
  | .fn f caps, _, hn, hr => by
    simp only [RepC] at hr ⊢
    obtain ⟨vs, h1, h2⟩ := hr
    exact ⟨vs, h1, RepCs.mono h (by simpa [AV.named] using hn) h2⟩
  | .undef, _, _, hr => by simp only [RepC] at hr
  | .tup _, _, _, hr => by simp only [RepC] at hr
theorem RepCs.mono {E E' : Emb} {ok : Nat → Bool} (h : E.Le E' ok) : ∀ {l : List AV} {xs : List Value}, AV.nameds ok l = true → RepCs E l xs → RepCs E' l xs
  | [], _, _, hr => by simpa only [RepCs] using hr
  | v :: l, xs, hn, hr => by
    simp only [RepCs] at hr ⊢
    simp only [AV.nameds, Bool.and_eq_true] at hn
    obtain ⟨a, b, h1, h2, h3⟩ := hr
    exact ⟨a, b, h1, RepC.mono h hn.1 h2, RepCs.mono h hn.2 h3⟩
end

theorem Rep1.mono {E E' : Emb} {ok : Nat → Bool} (h : E.Le E' ok) {v : AV} {x : Value} (hn : v.named ok = true) (hr : Rep1 E v x) : Rep1 E' v x :=
  ⟨hr.1.mono h hn, hr.2⟩

theorem Rep1s.mono {E E' : Emb} {ok : Nat → Bool} (h : E.Le E' ok) : ∀ {l : List AV} {xs : List Value}, AV.nameds ok l = true → Rep1s E l xs → Rep1s E' l xs
  | [], _, _, hr => hr
  | v :: l, xs, hn, hr => by
    simp only [AV.nameds, Bool.and_eq_true] at hn
    obtain ⟨x, ys, h1, h2, h3, h4⟩ := hr
    exact ⟨x, ys, h1, h2, h3.mono h hn.1, Rep1s.mono h hn.2 h4⟩

theorem Rep.mono {E E' : Emb} {ok : Nat → Bool} (h : E.Le E' ok) {v : AV} {x : Value} (hn : v.named ok = true) (hr : Rep E v x) : Rep E' v x := by
  cases v
  case undef => trivial
  case tup l => obtain ⟨vs, h1, h2⟩ := hr; exact ⟨vs, h1, h2.mono h (by simpa [AV.named] using hn)⟩
  all_goals exact Rep1.mono h hn hr

mutual
theorem AV.named_mono {ok ok' : Nat → Bool} (h : ∀ n, ok n = true → ok' n = true) : ∀ {v : AV}, v.named ok = true → v.named ok' = true
  | .st l, hn => by simp only [AV.named] at hn ⊢; exact AV.nameds_mono h hn
  | .tup l, hn => by simp only [AV.named] at hn ⊢; exact AV.nameds_mono h hn
  | .fn _ l, hn => by simp only [AV.named] at hn ⊢; exact AV.nameds_mono h hn
  | .ptr .., hn => by simp only [AV.named] at hn ⊢; exact h _ hn
  | .sl .., hn => by simp only [AV.named] at hn ⊢; exact h _ hn
  | .own .., hn => by simp only [AV.named] at hn ⊢; exact h _ hn
  | .osl .., hn => by simp only [AV.named] at hn ⊢; exact h _ hn
  | .pim _ v, hn => by simp only [AV.named] at hn ⊢; exact AV.named_mono h hn
  | .pimq _ v, hn => by simp only [AV.named] at hn ⊢; exact AV.named_mono h hn
  | .ifc _ v, hn => by simp only [AV.named] at hn ⊢; exact AV.named_mono h hn
  | .int .., _ | .bool _, _ | .u256 _, _ | .arr .., _ | .isl .., _ | .nsl _, _ | .row .., _ | .str _, _ | .nilp, _ | .undef, _ | .el .., _ | .isw .., _ | .nili, _ => by simp [AV.named]
theorem AV.nameds_mono {ok ok' : Nat → Bool} (h : ∀ n, ok n = true → ok' n = true) : ∀ {l : List AV}, AV.nameds ok l = true → AV.nameds ok' l = true
  | [], _ => rfl
  | v :: l, hn => by
    simp only [AV.nameds, Bool.and_eq_true] at hn ⊢
    exact ⟨AV.named_mono h hn.1, AV.nameds_mono h hn.2⟩
end

theorem AV.nameds_get {ok : Nat → Bool} : ∀ {l : List AV} {i : Nat} {v : AV}, AV.nameds ok l = true → l[i]? = some v → v.named ok = true
  | [], _, _, _, h => by simp at h
  | u :: l, 0, v, hn, h => by simp at h; subst h; simp only [AV.nameds, Bool.and_eq_true] at hn; exact hn.1
  | u :: l, i + 1, v, hn, h => by simp only [AV.nameds, Bool.and_eq_true] at hn; exact AV.nameds_get hn.2 (by simpa using h)

theorem AV.nameds_set {ok : Nat → Bool} : ∀ {l : List AV} {i : Nat} {v : AV}, AV.nameds ok l = true → v.named ok = true → AV.nameds ok (l.set i v) = true
  | [], _, _, _, _ => rfl
  | u :: l, 0, v, hn, h => by simp only [AV.nameds, Bool.and_eq_true, List.set] at hn ⊢; exact ⟨h, hn.2⟩
  | u :: l, i + 1, v, hn, h => by simp only [AV.nameds, Bool.and_eq_true, List.set] at hn ⊢; exact ⟨hn.1, AV.nameds_set hn.2 h⟩

theorem DSh.el_named {ok : Nat → Bool} (i : DSh) (t : i.T) : (i.el t).named ok = true := by
  cases i <;> simp [DSh.el, AV.named]
theorem Sh.av_named {ok : Nat → Bool} (s : Sh) (t : s.T) : (s.av t).named ok = true := by
  cases s with
  | d i => exact i.el_named t
  | _ => simp [Sh.av, AV.named, AV.nameds]

theorem Sh.av_size (s : Sh) (t : s.T) : (s.av t).size = s.size := by
  cases s with
  | d i => cases i <;> rfl
  | _ => rfl

mutual
theorem DV.av_named {ok : Nat → Bool} : ∀ v : DV, v.av.named ok = true
  | .int .. | .bool _ | .u256 _ | .str _ | .ints .. | .wints .. | .sl .. | .wsl .. => by simp [DV.av, AV.named]
  | .ptr _ v => by simp only [DV.av, AV.named]; exact DV.av_named v
  | .st l => by simp only [DV.av, AV.named]; exact DV.avs_named l
theorem DV.avs_named {ok : Nat → Bool} : ∀ l : List DV, AV.nameds ok (DV.avs l) = true
  | [] => rfl
  | v :: l => by simp only [DV.avs, AV.nameds, Bool.and_eq_true]; exact ⟨DV.av_named v, DV.avs_named l⟩
end
theorem AV.open_named {ok : Nat → Bool} {v : AV} (h : v.named ok = true) : v.open.named ok = true := by
  cases v <;> first | exact h | exact DV.av_named _

/-! ### Such values laid open -/

theorem RcDs_map {E : Emb} {i : DSh} : ∀ {l : List i.T} {xs : List Value}, RcDs E (l.map i.toD) xs ↔ RcL E (.d i) l xs
  | [], xs => by simp [RcDs, RcL]
  | t :: l, xs => by
    simp only [List.map_cons, RcDs, RcL, Rc]
    constructor
    · rintro ⟨a, b, h1, h2, h3⟩; exact ⟨a, b, h1, h2, RcDs_map.1 h3⟩
    · rintro ⟨a, b, h1, h2, h3⟩; exact ⟨a, b, h1, h2, RcDs_map.2 h3⟩

theorem RcL_ints' {E : Emb} {k : IntKind} : ∀ {l : List Int} {xs : List Value}, RcL E (.int k) l xs ↔ xs = l.map (.int k)
  | [], xs => by simp [RcL]
  | a :: l, xs => by
    simp only [RcL, Rc, List.map_cons]
    constructor
    · rintro ⟨a, b, rfl, rfl, h⟩; rw [RcL_ints'.1 h]; rfl
    · rintro rfl; exact ⟨[_], _, rfl, rfl, RcL_ints'.2 rfl⟩

theorem SlW_ok {E : Emb} {fr : Bool} {n : Nat} {xs : List Value} {x : Value} : SlW E fr n n xs x ↔ SlOk E fr n xs x := by
  constructor
  · rintro ⟨a, cap, h1, h2, h3, h4⟩; exact ⟨a, n, cap, h1, rfl, h3, h4⟩
  · rintro ⟨a, len, cap, h1, h2, h3, h4⟩; subst h2; exact ⟨a, cap, h1, Nat.le_refl _, h3, h4⟩

mutual
theorem DV.av_rep {E : Emb} : ∀ {v : DV} {xs : List Value}, RepC E v.av xs ↔ RcD E v.toD xs
  | .int .., xs | .bool _, xs | .u256 _, xs | .str _, xs => by simp [DV.av, DV.toD, RepC, RcD]
  | .ints k l, xs => by
    simp only [DV.av, DV.toD, RepC, RcD]
    constructor
    · rintro ⟨x, ys, h1, h2, h3⟩; rw [RcL_ints'] at h2; subst h2; exact ⟨x, h1, SlW_ok.2 h3⟩
    · rintro ⟨x, h1, h3⟩; exact ⟨x, _, h1, RcL_ints'.2 rfl, SlW_ok.1 h3⟩
  | .wints k l n, xs => by
    simp only [DV.av, DV.toD, RepC, RcD]
    constructor
    · rintro ⟨x, ys, h1, h2, h3⟩; rw [RcL_ints'] at h2; subst h2; exact ⟨x, h1, h3⟩
    · rintro ⟨x, h1, h3⟩; exact ⟨x, _, h1, RcL_ints'.2 rfl, h3⟩
  | .sl i l, xs => by
    simp only [DV.av, DV.toD, RepC, RcD, List.length_map]
    constructor
    · rintro ⟨x, ys, h1, h2, h3⟩; exact ⟨x, ys, h1, RcDs_map.2 h2, SlW_ok.2 h3⟩
    · rintro ⟨x, ys, h1, h2, h3⟩; exact ⟨x, ys, h1, RcDs_map.1 h2, SlW_ok.1 h3⟩
  | .wsl i l n, xs => by
    simp only [DV.av, DV.toD, RepC, RcD, List.length_map]
    constructor
    · rintro ⟨x, ys, h1, h2, h3⟩; exact ⟨x, ys, h1, RcDs_map.2 h2, h3⟩
    · rintro ⟨x, ys, h1, h2, h3⟩; exact ⟨x, ys, h1, RcDs_map.1 h2, h3⟩
  | .ptr ok v, xs => by
    simp only [DV.av, DV.toD, RepC, RcD]
    constructor
    · rintro (h | ⟨h0, ad, ys, h1, h2, h3⟩)
      · exact .inl h
      · exact .inr ⟨h0, ad, ys, h1, h2, DV.av_rep.1 h3⟩
    · rintro (h | ⟨h0, ad, ys, h1, h2, h3⟩)
      · exact .inl h
      · exact .inr ⟨h0, ad, ys, h1, h2, DV.av_rep.2 h3⟩
  | .st l, xs => by simp only [DV.av, DV.toD, RepC, RcD]; exact DV.avs_rep
theorem DV.avs_rep {E : Emb} : ∀ {l : List DV} {xs : List Value}, RepCs E (DV.avs l) xs ↔ RcDs E (DV.toDs l) xs
  | [], xs => by simp [DV.avs, DV.toDs, RepCs, RcDs]
  | v :: l, xs => by
    simp only [DV.avs, DV.toDs, RepCs, RcDs]
    constructor
    · rintro ⟨a, b, h1, h2, h3⟩; exact ⟨a, b, h1, DV.av_rep.1 h2, DV.avs_rep.1 h3⟩
    · rintro ⟨a, b, h1, h2, h3⟩; exact ⟨a, b, h1, DV.av_rep.2 h2, DV.avs_rep.2 h3⟩
end

theorem RepC_open {E : Emb} {v : AV} {xs : List Value} : RepC E v.open xs ↔ RepC E v xs := by
  cases v <;> first
    | exact Iff.rfl
    | (rename_i i t; simp only [AV.open]; rw [DV.av_rep, i.view_toD]; simp only [RepC])

theorem AV.open_size (v : AV) : ∀ {E : Emb} {xs : List Value}, RepC E v xs → v.open.size = v.size := fun h => by
  rw [← RepC.length h, ← RepC.length (RepC_open.2 h)]

theorem AV.open_agg (v : AV) : v.open.isAgg = v.isAgg := by
  cases v with
  | el i t => cases i <;> rfl
  | _ => rfl

theorem like_rep {E : Emb} {a b : DT} (h : a.like b) {xs : List Value} (hr : RcD E b xs) : RcD E a xs := by
  unfold DT.like at h
  split at h
  · simp only [RcD] at hr ⊢
    rcases hr with hr | hr
    · exact .inl hr
    · exact absurd hr.1 (by decide)
  · subst h; exact hr

mutual
theorem AV.toDV_rep {E : Emb} : ∀ {v : AV} {d : DV} {xs : List Value}, v.toDV = some d → RepC E v xs → RcD E d.toD xs
  | .int .., d, xs, h, hr | .bool _, d, xs, h, hr | .u256 _, d, xs, h, hr | .str _, d, xs, h, hr => by
    simp only [AV.toDV, Option.some.injEq] at h; subst h; simpa [DV.toD, RcD, RepC] using hr
  | .el i t, d, xs, h, hr => by
    simp only [AV.toDV, Option.some.injEq] at h; subst h; rw [i.view_toD]; simpa only [RepC] using hr
  | .isl true (.int k) l, d, xs, h, hr => by
    simp only [AV.toDV, Option.some.injEq] at h; subst h; exact DV.av_rep.1 hr
  | .isl true (.d i) l, d, xs, h, hr => by
    simp only [AV.toDV, Option.some.injEq] at h; subst h; exact DV.av_rep.1 hr
  | .isw true (.int k) l n, d, xs, h, hr => by
    simp only [AV.toDV, Option.some.injEq] at h; subst h; exact DV.av_rep.1 hr
  | .isw true (.d i) l n, d, xs, h, hr => by
    simp only [AV.toDV, Option.some.injEq] at h; subst h; exact DV.av_rep.1 hr
  | .nsl (.int k), d, xs, h, hr => by
    simp only [AV.toDV, Option.some.injEq] at h; subst h
    simp only [RepC] at hr; subst hr
    exact ⟨_, rfl, none, 0, rfl, Nat.le_refl _, Nat.le_refl _, rfl⟩
  | .nsl (.d i), d, xs, h, hr => by
    simp only [AV.toDV, Option.some.injEq] at h; subst h
    simp only [RepC] at hr; subst hr
    exact ⟨_, [], rfl, rfl, none, 0, rfl, Nat.le_refl _, Nat.le_refl _, rfl⟩
  | .pimq ok v, d, xs, h, hr => by
    simp only [AV.toDV] at h
    obtain ⟨u, h1, h2⟩ := Option.bind_eq_some_iff.1 h
    cases h2
    simp only [RepC] at hr
    simp only [DV.toD, RcD]
    rcases hr with hr | ⟨h0, ad, ys, g1, g2, g3⟩
    · exact .inl hr
    · exact .inr ⟨h0, ad, ys, g1, g2, AV.toDV_rep h1 g3⟩
  | .pim true v, d, xs, h, hr => by
    simp only [AV.toDV] at h
    obtain ⟨u, h1, h2⟩ := Option.bind_eq_some_iff.1 h
    cases h2
    simp only [RepC] at hr
    simp only [DV.toD, RcD]
    obtain ⟨ad, ys, g1, g2, g3⟩ := hr
    exact .inr ⟨trivial, ad, ys, g1, g2, AV.toDV_rep h1 g3⟩
  | .nilp, d, xs, h, hr => by
    simp only [AV.toDV, Option.some.injEq] at h; subst h
    simp only [RepC] at hr; subst hr
    exact .inl ⟨rfl, rfl⟩
  | .st l, d, xs, h, hr => by
    simp only [AV.toDV] at h
    obtain ⟨u, h1, h2⟩ := Option.bind_eq_some_iff.1 h
    cases h2
    simp only [RepC] at hr
    simp only [DV.toD, RcD]
    exact AV.toDVs_rep h1 hr
  | .isl true .u256 _, _, _, h, _ | .isl true .u2 _, _, _, h, _ | .isl true .pt _, _, _, h, _ | .isl true .jac _, _, _, h, _ | .isl true .bytes _, _, _, h, _ | .isl false _ _, _, _, h, _ => by simp [AV.toDV] at h
  | .isw true .u256 _ _, _, _, h, _ | .isw true .u2 _ _, _, _, h, _ | .isw true .pt _ _, _, _, h, _ | .isw true .jac _ _, _, _, h, _ | .isw true .bytes _ _, _, _, h, _ | .isw false _ _ _, _, _, h, _ => by simp [AV.toDV] at h
  | .nsl .u256, _, _, h, _ | .nsl .u2, _, _, h, _ | .nsl .pt, _, _, h, _ | .nsl .jac, _, _, h, _ | .nsl .bytes, _, _, h, _ => by simp [AV.toDV] at h
  | .pim false _, _, _, h, _ | .undef, _, _, h, _ | .tup _, _, _, h, _ | .ptr .., _, _, h, _ | .sl .., _, _, h, _ | .own .., _, _, h, _ | .osl .., _, _, h, _ | .row .., _, _, h, _ | .fn .., _, _, h, _ | .ifc .., _, _, h, _ | .nili, _, _, h, _ | .arr .., _, _, h, _ => by simp [AV.toDV] at h
theorem AV.toDVs_rep {E : Emb} : ∀ {l : List AV} {d : List DV} {xs : List Value}, AV.toDVs l = some d → RepCs E l xs → RcDs E (DV.toDs d) xs
  | [], d, xs, h, hr => by simp only [AV.toDVs, Option.some.injEq] at h; subst h; simpa [DV.toDs, RcDs, RepCs] using hr
  | v :: l, d, xs, h, hr => by
    simp only [AV.toDVs] at h
    obtain ⟨u, h1, h2⟩ := Option.bind_eq_some_iff.1 h
    obtain ⟨us, h3, h4⟩ := Option.bind_eq_some_iff.1 h2
    cases h4
    simp only [RepCs] at hr
    obtain ⟨a, b, g1, g2, g3⟩ := hr
    simp only [DV.toDs, RcDs]
    exact ⟨a, b, g1, AV.toDV_rep h1 g2, AV.toDVs_rep h3 g3⟩
end

/-! ### Places inside -/

def get (v : AV) (p : List Step) : Option AV := getK v p some
def set (v : AV) (p : List Step) (u : AV) : Option AV := setK v p u some

theorem getK_eq : ∀ (p : List Step) {β : Type} (v : AV) (k : AV → Option β), getK v p k = (get v p).bind k := by
  intro p
  induction p with
  | nil => intro β v k; simp [get, getK]
  | cons s p ih =>
    intro β v k
    cases s with
    | fld i off =>
      simp only [get, getK]
      generalize v.open = v
      cases v <;> simp only [Option.bind_none]
      case st l =>
        split
        · split
          · rw [ih, ih _ some]; simp
          · rfl
        · rfl
    | idx i sz =>
      simp only [get, getK]
      generalize v.open = v
      cases v <;> simp only [Option.bind_none]
      case arr s n l =>
        split
        · cases Nat.blt i n
          · rfl
          · simp only [cond_true]; rw [ih, ih _ some]; simp
        · rfl
      case u256 x =>
        split
        · cases Nat.blt i 4
          · rfl
          · simp only [cond_true]; rw [ih, ih _ some]; simp
        · rfl
      case st l =>
        split
        · split
          · rw [ih, ih _ some]; simp
          · rfl
        · rfl

theorem setK_eq : ∀ (p : List Step) {β : Type} (v u : AV) (k : AV → Option β), setK v p u k = (set v p u).bind k := by
  intro p
  induction p with
  | nil => intro β v u k; simp only [set, setK]; split <;> simp
  | cons s p ih =>
    intro β v u k
    cases s with
    | fld i off =>
      simp only [set, setK]
      generalize v.open = v
      cases v <;> simp only [Option.bind_none]
      case st l =>
        split
        · split
          · rename_i w _
            rw [ih w u, ih w u (fun w' => some (AV.st (l.set i w')))]
            cases set w p u <;> simp
          · rfl
        · rfl
    | idx i sz =>
      simp only [set, setK]
      generalize v.open = v
      cases v <;> simp only [Option.bind_none]
      case arr s n l =>
        split
        · cases Nat.blt i n
          · rfl
          · simp only [cond_true]
            conv => lhs; rw [ih (s.av (l.getD i s.dflt)) u]
            conv => rhs; rw [ih (s.av (l.getD i s.dflt)) u]
            cases set (s.av (l.getD i s.dflt)) p u with
            | none => rfl
            | some w => simp only [Option.bind_some]; cases s.de w <;> rfl
        · rfl
      case u256 x =>
        split
        · cases Nat.blt i 4
          · rfl
          · simp only [cond_true]
            split
            · rename_i w
              cases inU64 w <;> simp
            · rfl
        · rfl

def gett (c : AV) (p : List Step) : Option AV := getB c p some
def sett (c : AV) (p : List Step) (u : AV) : Option AV := setB c p u some

theorem getB_eq {β : Type} (c : AV) (p : List Step) (k : AV → Option β) : getB c p k = (gett c p).bind k := by
  unfold gett getB
  split
  · split
    · split
      · cases Nat.blt _ _
        · rfl
        · simp only [cond_true]; rw [getK_eq, getK_eq _ _ some]; simp
      · rfl
    · rfl
  · rfl
  · rfl
  · rw [getK_eq, getK_eq _ _ some]; simp

theorem setB_eq {β : Type} (c : AV) (p : List Step) (u : AV) (k : AV → Option β) : setB c p u k = (sett c p u).bind k := by
  unfold sett setB
  split
  · split
    · split
      · cases Nat.blt _ _
        · rfl
        · simp only [cond_true]
          conv => lhs; rw [setK_eq]
          conv => rhs; rw [setK_eq]
          cases set _ _ u with
          | none => rfl
          | some w => simp only [Option.bind_some]; split <;> rfl
      · rfl
    · rfl
  · rfl
  · rfl
  · rw [setK_eq, setK_eq _ _ _ some]; simp

end
end Go.Sy
