/- What the symbolic reading stands for: abstract values against the model's, places inside them. -/
import Derived.Test.YtmbcolalfgepiaaDoorSyB
set_option linter.unusedVariables false
set_option linter.unusedSimpArgs false
namespace Go.Sy
open Go Go.RowKit

/-- How names stand for blocks; how many cells a block has (none: there is no block), how many elements of a row are known; which cells stay as they are (true: for good, false: during the call). -/
structure Emb where
  ρ : Nat → Nat
  cnt : Nat → Option Nat
  len : Nat → Nat
  im : Bool → Nat → Nat → Option Value

def offs : List Step → Nat
  | [] => 0
  | .fld _ off :: p => off + offs p
  | .idx i sz :: p => i * sz + offs p

def ucells (x : Nat) : List Value := (limbs x).map (.int .u64)

def Lies (E : Emb) (fr : Bool) (ad : Addr) (xs : List Value) : Prop :=
  ad.spot = none ∧ ∀ j v, xs[j]? = some v → E.im fr ad.block (ad.off + j) = some v

def SlOk (E : Emb) (fr : Bool) (n : Nat) (xs : List Value) (x : Value) : Prop :=
  ∃ a len cap, x = .slice a len cap ∧ len = n ∧ len ≤ cap ∧ match a with
    | none => cap = 0
    | some ad => xs = [] ∨ Lies E fr ad xs

/-- An element's cells. -/
def Rc (E : Emb) : (s : Sh) → s.T → List Value → Prop
  | .int k, n, xs => xs = [.int k n]
  | .u256, x, xs => xs = ucells x
  | .u2, p, xs => xs = ucells p.1 ++ ucells p.2
  | .pt, p, xs => xs = ucells p.1 ++ ucells p.2.1 ++ [.bool p.2.2]
  | .jac, p, xs => xs = ucells p.1 ++ ucells p.2.1 ++ ucells p.2.2
  | .bytes, l, xs => ∃ x, xs = [x] ∧ SlOk E false (l : List Int).length ((l : List Int).map (.int .u8)) x

def RcL (E : Emb) (s : Sh) : List s.T → List Value → Prop
  | [], xs => xs = []
  | t :: l, xs => ∃ a b, xs = a ++ b ∧ Rc E s t a ∧ RcL E s l b

mutual
def RepC (E : Emb) : AV → List Value → Prop
  | .int k n, xs => xs = [.int k n]
  | .bool b, xs => xs = [.bool b]
  | .u256 x, xs => xs = ucells x
  | .arr s n l, xs => l.length = n ∧ RcL E s l xs
  | .st l, xs => RepCs E l xs
  | .ptr n p, xs => xs = [.pointer (some ⟨E.ρ n, offs p, none⟩)]
  | .pim fr v, xs => ∃ ad ys, xs = [.pointer (some ad)] ∧ Lies E fr ad ys ∧ RepC E v ys
  | .sl n p s i len cap, xs => len ≤ cap ∧ ∃ o, xs = [.slice (some ⟨E.ρ n, o, none⟩) len cap] ∧ (0 < cap → o = offs p + i * s.size)
  | .isl fr s l, xs => ∃ x ys, xs = [x] ∧ RcL E s l ys ∧ SlOk E fr l.length ys x
  | .own n s, xs => ∃ x, xs = [x] ∧ ((E.cnt n = none ∧ E.len n = 0 ∧ x = .slice none 0 0) ∨ ∃ o cap, x = .slice (some ⟨E.ρ n, o, none⟩) (E.len n) cap ∧ E.len n ≤ cap ∧ (0 < cap → o = 0) ∧ E.cnt n = some (cap * s.size))
  | .osl n s i len, xs => ∃ x, xs = [x] ∧ ((E.cnt n = none ∧ len = 0 ∧ x = .slice none 0 0) ∨ ∃ o cap, x = .slice (some ⟨E.ρ n, o, none⟩) len cap ∧ len ≤ cap ∧ (0 < cap → o = i * s.size) ∧ E.cnt n = some ((i + cap) * s.size))
  | .nsl _, xs => xs = [.slice none 0 0]
  | .str l, xs => xs = [.string ⟨l.toArray⟩]
  | .row _ _, _ => False
  | .nilp, xs => xs = [.pointer none]
  | .fn f caps, xs => ∃ vs, xs = [.func (.func f) #[] vs.toArray] ∧ RepCs E caps vs
  | .undef, _ => False
  | .tup _, _ => False
def RepCs (E : Emb) : List AV → List Value → Prop
  | [], xs => xs = []
  | v :: l, xs => ∃ a b, xs = a ++ b ∧ RepC E v a ∧ RepCs E l b
end

/-- A plain value in a temporary. -/
def Rep1 (E : Emb) (v : AV) (x : Value) : Prop := RepC E v x.cells.toList ∧ (v.isAgg = true → ∃ xs, x = .agg xs) ∧ (v.isAgg = false → x.cells = #[x])

def Rep1s (E : Emb) : List AV → List Value → Prop
  | [], xs => xs = []
  | v :: l, xs => ∃ x ys, xs = x :: ys ∧ v.plain = true ∧ Rep1 E v x ∧ Rep1s E l ys

def Rep (E : Emb) (v : AV) (x : Value) : Prop :=
  match v with
  | .undef => True
  | .tup l => ∃ vs, x = .tuple vs.toArray ∧ Rep1s E l vs
  | v => Rep1 E v x

theorem Rep.one {E : Emb} {v : AV} {x : Value} (hp : v.plain = true) : Rep E v x ↔ Rep1 E v x := by
  cases v <;> simp_all [AV.plain, Rep]

/-! ### Sizes -/

theorem limbs_length (x : Nat) : (limbs x).length = 4 := rfl
theorem ucells_length (x : Nat) : (ucells x).length = 4 := rfl

theorem Rc.length {E : Emb} {s : Sh} {t : s.T} {xs : List Value} (h : Rc E s t xs) : xs.length = s.size := by
  cases s
  case bytes => obtain ⟨x, rfl, _⟩ := h; rfl
  all_goals (simp only [Rc] at h; subst h; simp [Sh.size, ucells_length])

theorem RcL.length {E : Emb} {s : Sh} : ∀ {l : List s.T} {xs : List Value}, RcL E s l xs → xs.length = l.length * s.size
  | [], xs, h => by simp only [RcL] at h; subst h; simp
  | t :: l, xs, h => by
    obtain ⟨a, b, rfl, ha, hb⟩ := h
    simp [ha.length, RcL.length hb, Nat.add_mul, Nat.add_comm]

mutual
theorem RepC.length {E : Emb} : ∀ {v : AV} {xs : List Value}, RepC E v xs → xs.length = v.size
  | .int .., _, h => by simp only [RepC] at h; subst h; rfl
  | .bool _, _, h => by simp only [RepC] at h; subst h; rfl
  | .u256 _, _, h => by simp only [RepC] at h; subst h; rfl
  | .arr s n l, xs, h => by simp only [RepC] at h; rw [RcL.length h.2, h.1]; rfl
  | .st l, xs, h => by simp only [RepC] at h; rw [RepCs.length h]; rfl
  | .ptr .., _, h => by simp only [RepC] at h; subst h; rfl
  | .pim .., _, h => by simp only [RepC] at h; obtain ⟨_, _, rfl, _⟩ := h; rfl
  | .sl .., _, h => by simp only [RepC] at h; obtain ⟨_, _, rfl, _⟩ := h; rfl
  | .isl .., _, h => by simp only [RepC] at h; obtain ⟨_, _, rfl, _⟩ := h; rfl
  | .own .., _, h => by simp only [RepC] at h; obtain ⟨_, rfl, _⟩ := h; rfl
  | .osl .., _, h => by simp only [RepC] at h; obtain ⟨_, rfl, _⟩ := h; rfl
  | .nsl _, _, h => by simp only [RepC] at h; subst h; rfl
  | .str _, _, h => by simp only [RepC] at h; subst h; rfl
  | .row .., _, h => by simp only [RepC] at h
  | .nilp, _, h => by simp only [RepC] at h; subst h; rfl
  | .fn .., _, h => by simp only [RepC] at h; obtain ⟨_, rfl, _⟩ := h; rfl
  | .undef, _, h => by simp only [RepC] at h
  | .tup _, _, h => by simp only [RepC] at h
theorem RepCs.length {E : Emb} : ∀ {l : List AV} {xs : List Value}, RepCs E l xs → xs.length = AV.sizes l
  | [], _, h => by simp only [RepCs] at h; subst h; rfl
  | v :: l, xs, h => by
    simp only [RepCs] at h
    obtain ⟨a, b, rfl, ha, hb⟩ := h
    simp [RepC.length ha, RepCs.length hb, AV.sizes]
end

/-! ### Growth of what stays as it is -/

structure Emb.Le (E E' : Emb) (ok : Nat → Bool) : Prop where
  ρ : ∀ n, ok n = true → E'.ρ n = E.ρ n
  cnt : ∀ n, ok n = true → E'.cnt n = E.cnt n
  len : ∀ n, ok n = true → E'.len n = E.len n
  im : ∀ f b j v, E.im f b j = some v → E'.im f b j = some v

theorem Lies.mono {E E' : Emb} {ok} (h : E.Le E' ok) {fr : Bool} {ad : Addr} {xs : List Value} (hl : Lies E fr ad xs) : Lies E' fr ad xs :=
  ⟨hl.1, fun j v hv => h.im _ _ _ _ (hl.2 j v hv)⟩

theorem SlOk.mono {E E' : Emb} {ok} (h : E.Le E' ok) {fr : Bool} {n : Nat} {xs : List Value} {x : Value} (hl : SlOk E fr n xs x) : SlOk E' fr n xs x := by
  obtain ⟨a, len, cap, h1, h2, h3, h4⟩ := hl
  refine ⟨a, len, cap, h1, h2, h3, ?_⟩
  cases a with
  | none => exact h4
  | some ad => exact h4.imp id (Lies.mono h)

theorem Rc.mono {E E' : Emb} {ok} (h : E.Le E' ok) {s : Sh} {t : s.T} {xs : List Value} (hl : Rc E s t xs) : Rc E' s t xs := by
  cases s
  case bytes => obtain ⟨x, h1, h2⟩ := hl; exact ⟨x, h1, h2.mono h⟩
  all_goals exact hl

theorem RcL.mono {E E' : Emb} {ok} (h : E.Le E' ok) {s : Sh} : ∀ {l : List s.T} {xs : List Value}, RcL E s l xs → RcL E' s l xs
  | [], _, hl => hl
  | _ :: _, _, ⟨a, b, h1, h2, h3⟩ => ⟨a, b, h1, h2.mono h, RcL.mono h h3⟩

mutual
theorem RepC.mono {E E' : Emb} {ok : Nat → Bool} (h : E.Le E' ok) : ∀ {v : AV} {xs : List Value}, v.named ok = true → RepC E v xs → RepC E' v xs
  | .int .., _, _, hr => by simpa only [RepC] using hr
  | .bool _, _, _, hr => by simpa only [RepC] using hr
  | .u256 _, _, _, hr => by simpa only [RepC] using hr
  | .arr s n l, xs, _, hr => by simp only [RepC] at hr ⊢; exact ⟨hr.1, hr.2.mono h⟩
  | .st l, xs, hn, hr => by simp only [RepC] at hr ⊢; exact RepCs.mono h (by simpa [AV.named] using hn) hr
  | .ptr n p, _, hn, hr => by simp only [RepC] at hr ⊢; rw [h.ρ n (by simpa [AV.named] using hn)]; exact hr
  | .own n s, _, hn, hr => by
    have hn' : ok n = true := by simpa [AV.named] using hn
    simp only [RepC] at hr ⊢; rw [h.ρ n hn', h.cnt n hn', h.len n hn']; exact hr
  | .osl n s i len, _, hn, hr => by
    have hn' : ok n = true := by simpa [AV.named] using hn
    simp only [RepC] at hr ⊢; rw [h.ρ n hn', h.cnt n hn']; exact hr
  | .nsl _, _, _, hr => by simpa only [RepC] using hr
  | .str _, _, _, hr => by simpa only [RepC] using hr
  | .row .., _, _, hr => by simp only [RepC] at hr
  | .pim fr v, xs, hn, hr => by
    simp only [RepC] at hr ⊢
    obtain ⟨ad, ys, h1, h2, h3⟩ := hr
    exact ⟨ad, ys, h1, h2.mono h, RepC.mono h (by simpa [AV.named] using hn) h3⟩
  | .sl n p s i len cap, _, hn, hr => by simp only [RepC] at hr ⊢; rw [h.ρ n (by simpa [AV.named] using hn)]; exact hr
  | .isl fr s l, _, _, hr => by
    simp only [RepC] at hr ⊢
    obtain ⟨x, ys, h1, h2, h3⟩ := hr
    exact ⟨x, ys, h1, h2.mono h, h3.mono h⟩
  | .nilp, _, _, hr => by simpa only [RepC] using hr
  | .fn f caps, _, hn, hr => by
    simp only [RepC] at hr ⊢
    obtain ⟨vs, h1, h2⟩ := hr
    exact ⟨vs, h1, RepCs.mono h (by simpa [AV.named] using hn) h2⟩
  | .undef, _, _, hr => by simp only [RepC] at hr
  | .tup _, _, _, hr => by simp only [RepC] at hr
theorem RepCs.mono {E E' : Emb} {ok : Nat → Bool} (h : E.Le E' ok) : ∀ {l : List AV} {xs : List Value}, AV.nameds ok l = true → RepCs E l xs → RepCs E' l xs
  | [], _, _, hr => by simpa only [RepCs] using hr
  | v :: l, xs, hn, hr => by
    simp only [RepCs] at hr ⊢
    simp only [AV.nameds, Bool.and_eq_true] at hn
    obtain ⟨a, b, h1, h2, h3⟩ := hr
    exact ⟨a, b, h1, RepC.mono h hn.1 h2, RepCs.mono h hn.2 h3⟩
end

theorem Rep1.mono {E E' : Emb} {ok : Nat → Bool} (h : E.Le E' ok) {v : AV} {x : Value} (hn : v.named ok = true) (hr : Rep1 E v x) : Rep1 E' v x :=
  ⟨hr.1.mono h hn, hr.2⟩

theorem Rep1s.mono {E E' : Emb} {ok : Nat → Bool} (h : E.Le E' ok) : ∀ {l : List AV} {xs : List Value}, AV.nameds ok l = true → Rep1s E l xs → Rep1s E' l xs
  | [], _, _, hr => hr
  | v :: l, xs, hn, hr => by
    simp only [AV.nameds, Bool.and_eq_true] at hn
    obtain ⟨x, ys, h1, h2, h3, h4⟩ := hr
    exact ⟨x, ys, h1, h2, h3.mono h hn.1, Rep1s.mono h hn.2 h4⟩

theorem Rep.mono {E E' : Emb} {ok : Nat → Bool} (h : E.Le E' ok) {v : AV} {x : Value} (hn : v.named ok = true) (hr : Rep E v x) : Rep E' v x := by
  cases v
  case undef => trivial
  case tup l => obtain ⟨vs, h1, h2⟩ := hr; exact ⟨vs, h1, h2.mono h (by simpa [AV.named] using hn)⟩
  all_goals exact Rep1.mono h hn hr

mutual
theorem AV.named_mono {ok ok' : Nat → Bool} (h : ∀ n, ok n = true → ok' n = true) : ∀ {v : AV}, v.named ok = true → v.named ok' = true
  | .st l, hn => by simp only [AV.named] at hn ⊢; exact AV.nameds_mono h hn
  | .tup l, hn => by simp only [AV.named] at hn ⊢; exact AV.nameds_mono h hn
  | .fn _ l, hn => by simp only [AV.named] at hn ⊢; exact AV.nameds_mono h hn
  | .ptr .., hn => by simp only [AV.named] at hn ⊢; exact h _ hn
  | .sl .., hn => by simp only [AV.named] at hn ⊢; exact h _ hn
  | .own .., hn => by simp only [AV.named] at hn ⊢; exact h _ hn
  | .osl .., hn => by simp only [AV.named] at hn ⊢; exact h _ hn
  | .pim _ v, hn => by simp only [AV.named] at hn ⊢; exact AV.named_mono h hn
  | .int .., _ | .bool _, _ | .u256 _, _ | .arr .., _ | .isl .., _ | .nsl _, _ | .row .., _ | .str _, _ | .nilp, _ | .undef, _ => by simp [AV.named]
theorem AV.nameds_mono {ok ok' : Nat → Bool} (h : ∀ n, ok n = true → ok' n = true) : ∀ {l : List AV}, AV.nameds ok l = true → AV.nameds ok' l = true
  | [], _ => rfl
  | v :: l, hn => by
    simp only [AV.nameds, Bool.and_eq_true] at hn ⊢
    exact ⟨AV.named_mono h hn.1, AV.nameds_mono h hn.2⟩
end

theorem AV.nameds_get {ok : Nat → Bool} : ∀ {l : List AV} {i : Nat} {v : AV}, AV.nameds ok l = true → l[i]? = some v → v.named ok = true
  | [], _, _, _, h => by simp at h
  | u :: l, 0, v, hn, h => by simp at h; subst h; simp only [AV.nameds, Bool.and_eq_true] at hn; exact hn.1
  | u :: l, i + 1, v, hn, h => by simp only [AV.nameds, Bool.and_eq_true] at hn; exact AV.nameds_get hn.2 (by simpa using h)

theorem AV.nameds_set {ok : Nat → Bool} : ∀ {l : List AV} {i : Nat} {v : AV}, AV.nameds ok l = true → v.named ok = true → AV.nameds ok (l.set i v) = true
  | [], _, _, _, _ => rfl
  | u :: l, 0, v, hn, h => by simp only [AV.nameds, Bool.and_eq_true, List.set] at hn ⊢; exact ⟨h, hn.2⟩
  | u :: l, i + 1, v, hn, h => by simp only [AV.nameds, Bool.and_eq_true, List.set] at hn ⊢; exact ⟨hn.1, AV.nameds_set hn.2 h⟩

theorem Sh.av_named {ok : Nat → Bool} (s : Sh) (t : s.T) : (s.av t).named ok = true := by
  cases s <;> simp [Sh.av, AV.named, AV.nameds]

theorem Sh.av_size (s : Sh) (t : s.T) : (s.av t).size = s.size := by cases s <;> rfl

/-! ### Places inside -/

def get (v : AV) (p : List Step) : Option AV := getK v p some
def set (v : AV) (p : List Step) (u : AV) : Option AV := setK v p u some

theorem getK_eq : ∀ (p : List Step) {β : Type} (v : AV) (k : AV → Option β), getK v p k = (get v p).bind k := by
  intro p
  induction p with
  | nil => intro β v k; simp [get, getK]
  | cons s p ih =>
    intro β v k
    cases s with
    | fld i off =>
      cases v <;> simp only [get, getK, Option.bind_none]
      case st l =>
        split
        · split
          · rw [ih, ih _ some]; simp
          · rfl
        · rfl
    | idx i sz =>
      cases v <;> simp only [get, getK, Option.bind_none]
      case arr s n l =>
        split
        · cases Nat.blt i n
          · rfl
          · simp only [cond_true]; rw [ih, ih _ some]; simp
        · rfl
      case u256 x =>
        split
        · cases Nat.blt i 4
          · rfl
          · simp only [cond_true]; rw [ih, ih _ some]; simp
        · rfl
      case st l =>
        split
        · split
          · rw [ih, ih _ some]; simp
          · rfl
        · rfl

theorem setK_eq : ∀ (p : List Step) {β : Type} (v u : AV) (k : AV → Option β), setK v p u k = (set v p u).bind k := by
  intro p
  induction p with
  | nil => intro β v u k; simp only [set, setK]; split <;> simp
  | cons s p ih =>
    intro β v u k
    cases s with
    | fld i off =>
      cases v <;> simp only [set, setK, Option.bind_none]
      case st l =>
        split
        · split
          · rename_i w _
            rw [ih w u, ih w u (fun w' => some (AV.st (l.set i w')))]
            cases set w p u <;> simp
          · rfl
        · rfl
    | idx i sz =>
      cases v <;> simp only [set, setK, Option.bind_none]
      case arr s n l =>
        split
        · cases Nat.blt i n
          · rfl
          · simp only [cond_true]
            conv => lhs; rw [ih (s.av (l.getD i s.dflt)) u]
            conv => rhs; rw [ih (s.av (l.getD i s.dflt)) u]
            cases set (s.av (l.getD i s.dflt)) p u with
            | none => rfl
            | some w => simp only [Option.bind_some]; cases s.de w <;> rfl
        · rfl
      case u256 x =>
        split
        · cases Nat.blt i 4
          · rfl
          · simp only [cond_true]
            split
            · rename_i w
              cases inU64 w <;> simp
            · rfl
        · rfl

def gett (c : AV) (p : List Step) : Option AV := getB c p some
def sett (c : AV) (p : List Step) (u : AV) : Option AV := setB c p u some

theorem getB_eq {β : Type} (c : AV) (p : List Step) (k : AV → Option β) : getB c p k = (gett c p).bind k := by
  unfold gett getB
  split
  · split
    · split
      · cases Nat.blt _ _
        · rfl
        · simp only [cond_true]; rw [getK_eq, getK_eq _ _ some]; simp
      · rfl
    · rfl
  · rfl
  · rw [getK_eq, getK_eq _ _ some]; simp

theorem setB_eq {β : Type} (c : AV) (p : List Step) (u : AV) (k : AV → Option β) : setB c p u k = (sett c p u).bind k := by
  unfold sett setB
  split
  · split
    · split
      · cases Nat.blt _ _
        · rfl
        · simp only [cond_true]
          conv => lhs; rw [setK_eq]
          conv => rhs; rw [setK_eq]
          cases set _ _ u with
          | none => rfl
          | some w => simp only [Option.bind_some]; split <;> rfl
      · rfl
    · rfl
  · rfl
  · rw [setK_eq, setK_eq _ _ _ some]; simp

end Go.Sy
