/- Other names for the blocks. -/
import Derived.Test.YtapnedegcnmhgaaDoorSyLa
set_option linter.unusedVariables false
set_option linter.unusedSimpArgs false
namespace Go.Sy
open Go Go.RowKit
noncomputable section

/-- The names m of F stand for what E's names n stand for. -/
def Names (σ : Nat → Option Nat) (E F : Emb) : Prop := ∀ n m, σ n = some m → F.ρ m = E.ρ n ∧ F.cnt m = E.cnt n ∧ F.len m = E.len n

/-- The cells of the kind stay in F, too. -/
def Stays (f : Bool) (E F : Emb) : Prop := ∀ g j v, E.im f g j = some v → F.im f g j = some v

theorem Lies.stays {E F : Emb} {f : Bool} (h : Stays f E F) {ad : Addr} {xs : List Value} (hl : Lies E f ad xs) : Lies F f ad xs := ⟨hl.1, fun j v hv => h _ _ _ (hl.2 j v hv)⟩

theorem SlOk.stays {E F : Emb} {f : Bool} (h : Stays f E F) {n : Nat} {xs : List Value} {x : Value} (hl : SlOk E f n xs x) : SlOk F f n xs x := by
  obtain ⟨a, len, cap, h1, h2, h3, h4⟩ := hl
  refine ⟨a, len, cap, h1, h2, h3, ?_⟩
  cases a with
  | none => exact h4
  | some ad => exact h4.imp id (Lies.stays h)

theorem SlW.stays {E F : Emb} {f : Bool} (h : Stays f E F) {n m : Nat} {xs : List Value} {x : Value} (hl : SlW E f n m xs x) : SlW F f n m xs x := hl.monoI h

theorem RcL.stays {E F : Emb} (hT : Stays true E F) {s : Sh} (h : s.flat = true ∨ Stays false E F) : ∀ {l : List s.T} {xs : List Value}, RcL E s l xs → RcL F s l xs
  | [], _, hl => hl
  | t :: l, _, ⟨a, b, h1, h2, h3⟩ => ⟨a, b, h1, by
      rcases h with h | h
      · exact h2.flat hT h
      · cases s
        case bytes => obtain ⟨x, e, g⟩ := h2; exact ⟨x, e, g.stays h⟩
        case d i => exact RcD.monoI hT h2
        all_goals exact h2, RcL.stays hT h h3⟩

theorem ren_agg0 {σ : Nat → Option Nat} {v v' : AV} (h : v.ren σ = some v') : v'.isAgg = v.isAgg := by
  cases v <;> simp only [AV.ren, Option.bind_eq_some_iff, Option.some.injEq] at h
  all_goals first
    | (subst h; rfl)
    | (obtain ⟨_, _, rfl⟩ := h; rfl)

mutual
theorem RepC.ren {E F : Emb} {σ : Nat → Option Nat} (hσ : Names σ E F) (hT : Stays true E F) : ∀ {v v' : AV} {xs : List Value}, (v.pers = true ∨ Stays false E F) → v.ren σ = some v' → RepC E v xs → RepC F v' xs
  | .int .., v', xs, _, h, hr => by simp only [AV.ren, Option.some.injEq] at h; subst h; simpa only [RepC] using hr
  | .bool _, v', xs, _, h, hr => by simp only [AV.ren, Option.some.injEq] at h; subst h; simpa only [RepC] using hr
  | .u256 _, v', xs, _, h, hr => by simp only [AV.ren, Option.some.injEq] at h; subst h; simpa only [RepC] using hr
  | .arr s n l, v', xs, hp, h, hr => by
    simp only [AV.ren, Option.some.injEq] at h; subst h
    simp only [RepC] at hr ⊢
    exact ⟨hr.1, hr.2.stays hT (hp.imp (fun h => by simpa [AV.pers] using h) id)⟩
  | .st l, v', xs, hp, h, hr => by
    simp only [AV.ren, Option.bind_eq_some_iff] at h
    obtain ⟨l', h1, h2⟩ := h
    simp at h2; subst h2
    simp only [RepC] at hr ⊢
    exact RepCs.ren hσ hT (hp.imp (fun h => by simpa [AV.pers] using h) id) h1 hr
  | .tup l, v', xs, _, h, hr => by simp only [RepC] at hr
  | .undef, v', xs, _, h, hr => by simp only [RepC] at hr
  | .row .., v', xs, _, h, hr => by simp only [RepC] at hr
  | .fn f l, v', xs, hp, h, hr => by
    simp only [AV.ren, Option.bind_eq_some_iff] at h
    obtain ⟨l', h1, h2⟩ := h
    simp at h2; subst h2
    simp only [RepC] at hr ⊢
    obtain ⟨vs, e, hvs⟩ := hr
    exact ⟨vs, e, RepCs.ren hσ hT (hp.imp (fun h => by simpa [AV.pers] using h) id) h1 hvs⟩
  | .ptr n p, v', xs, _, h, hr => by
    simp only [AV.ren, Option.bind_eq_some_iff] at h
    obtain ⟨m, h1, h2⟩ := h
    simp at h2; subst h2
    simp only [RepC] at hr ⊢
    rw [(hσ n m h1).1]; exact hr
  | .sl n p s i len cap, v', xs, _, h, hr => by
    simp only [AV.ren, Option.bind_eq_some_iff] at h
    obtain ⟨m, h1, h2⟩ := h
    simp at h2; subst h2
    simp only [RepC] at hr ⊢
    rw [(hσ n m h1).1]; exact hr
  | .own n s, v', xs, _, h, hr => by
    simp only [AV.ren, Option.bind_eq_some_iff] at h
    obtain ⟨m, h1, h2⟩ := h
    simp at h2; subst h2
    simp only [RepC] at hr ⊢
    rw [(hσ n m h1).1, (hσ n m h1).2.1, (hσ n m h1).2.2]; exact hr
  | .osl n s i len, v', xs, _, h, hr => by
    simp only [AV.ren, Option.bind_eq_some_iff] at h
    obtain ⟨m, h1, h2⟩ := h
    simp at h2; subst h2
    simp only [RepC] at hr ⊢
    rw [(hσ n m h1).1, (hσ n m h1).2.1]; exact hr
  | .isl fr s l, v', xs, hp, h, hr => by
    simp only [AV.ren, Option.some.injEq] at h; subst h
    simp only [RepC] at hr ⊢
    obtain ⟨x, ys, e, h1, h2⟩ := hr
    have hfr : fr = true ∨ Stays false E F := hp.imp (fun h => by simp only [AV.pers, Bool.and_eq_true] at h; exact h.1) id
    have hs : Stays fr E F := by
      cases fr with
      | true => exact hT
      | false => exact hfr.resolve_left (by simp)
    exact ⟨x, ys, e, h1.stays hT (hp.imp (fun h => by simp only [AV.pers, Bool.and_eq_true] at h; exact h.2) id), h2.stays hs⟩
  | .nsl _, v', xs, _, h, hr => by simp only [AV.ren, Option.some.injEq] at h; subst h; simpa only [RepC] using hr
  | .str _, v', xs, _, h, hr => by simp only [AV.ren, Option.some.injEq] at h; subst h; simpa only [RepC] using hr
  | .nilp, v', xs, _, h, hr => by simp only [AV.ren, Option.some.injEq] at h; subst h; simpa only [RepC] using hr
  | .nili, v', xs, _, h, hr => by simp only [AV.ren, Option.some.injEq] at h; subst h; simpa only [RepC] using hr
  | .el i t, v', xs, _, h, hr => by simp only [AV.ren, Option.some.injEq] at h; subst h; simp only [RepC] at hr ⊢; exact RcD.monoI hT hr
  | .isw fr s l n, v', xs, hp, h, hr => by
    simp only [AV.ren, Option.some.injEq] at h; subst h
    simp only [RepC] at hr ⊢
    obtain ⟨x, ys, e, h1, h2⟩ := hr
    have hfr : fr = true ∨ Stays false E F := hp.imp (fun h => by simp only [AV.pers, Bool.and_eq_true] at h; exact h.1) id
    have hs : Stays fr E F := by
      cases fr with
      | true => exact hT
      | false => exact hfr.resolve_left (by simp)
    exact ⟨x, ys, e, h1.stays hT (hp.imp (fun h => by simp only [AV.pers, Bool.and_eq_true] at h; exact h.2) id), h2.stays hs⟩
  | .pimq ok v, v', xs, hp, h, hr => by
    simp only [AV.ren, Option.bind_eq_some_iff] at h
    obtain ⟨u, h1, h2⟩ := h
    simp at h2; subst h2
    simp only [RepC] at hr ⊢
    rcases hr with hr | ⟨h0, ad, ys, e, hl, hv⟩
    · exact .inl hr
    · exact .inr ⟨h0, ad, ys, e, hl.stays hT, RepC.ren hσ hT (hp.imp (fun h => by simpa [AV.pers] using h) id) h1 hv⟩
  | .ifc t v, v', xs, hp, h, hr => by
    simp only [AV.ren, Option.bind_eq_some_iff] at h
    obtain ⟨u, h1, h2⟩ := h
    simp at h2; subst h2
    simp only [RepC] at hr ⊢
    obtain ⟨x, e, hv, g1, g2⟩ := hr
    have ha := ren_agg0 h1
    exact ⟨x, e, RepC.ren hσ hT (hp.imp (fun h => by simpa [AV.pers] using h) id) h1 hv, fun h => g1 (by rw [← ha]; exact h), fun h => g2 (by rw [← ha]; exact h)⟩
  | .pim fr v, v', xs, hp, h, hr => by
    simp only [AV.ren, Option.bind_eq_some_iff] at h
    obtain ⟨u, h1, h2⟩ := h
    simp at h2; subst h2
    simp only [RepC] at hr ⊢
    obtain ⟨ad, ys, e, hl, hv⟩ := hr
    have hfr : fr = true ∨ Stays false E F := hp.imp (fun h => by simp only [AV.pers, Bool.and_eq_true] at h; exact h.1) id
    have hs : Stays fr E F := by
      cases fr with
      | true => exact hT
      | false => exact hfr.resolve_left (by simp)
    exact ⟨ad, ys, e, hl.stays hs, RepC.ren hσ hT (hp.imp (fun h => by simp only [AV.pers, Bool.and_eq_true] at h; exact h.2) id) h1 hv⟩
theorem RepCs.ren {E F : Emb} {σ : Nat → Option Nat} (hσ : Names σ E F) (hT : Stays true E F) : ∀ {l l' : List AV} {xs : List Value}, (AV.perss l = true ∨ Stays false E F) → AV.rens σ l = some l' → RepCs E l xs → RepCs F l' xs
  | [], l', xs, _, h, hr => by simp only [AV.rens, Option.some.injEq] at h; subst h; simpa only [RepCs] using hr
  | v :: l, l', xs, hp, h, hr => by
    simp only [AV.rens, Option.bind_eq_some_iff] at h
    obtain ⟨u, h1, us, h2, h3⟩ := h
    simp at h3; subst h3
    simp only [RepCs] at hr ⊢
    obtain ⟨a, b, e, r1, r2⟩ := hr
    exact ⟨a, b, e, RepC.ren hσ hT (hp.imp (fun h => by simp only [AV.perss, Bool.and_eq_true] at h; exact h.1) id) h1 r1,
      RepCs.ren hσ hT (hp.imp (fun h => by simp only [AV.perss, Bool.and_eq_true] at h; exact h.2) id) h2 r2⟩
end

theorem ren_agg {σ : Nat → Option Nat} {v v' : AV} (h : v.ren σ = some v') : v'.isAgg = v.isAgg ∧ v'.plain = v.plain ∧ v'.live = v.live ∧ v'.rowLen = v.rowLen := by
  cases v <;> simp only [AV.ren, Option.bind_eq_some_iff, Option.some.injEq] at h
  all_goals first
    | (subst h; exact ⟨rfl, rfl, rfl, rfl⟩)
    | (obtain ⟨_, _, rfl⟩ := h; exact ⟨rfl, rfl, rfl, rfl⟩)

theorem Rep1.ren {E F : Emb} {σ : Nat → Option Nat} (hσ : Names σ E F) (hT : Stays true E F) {v v' : AV} {x : Value} (hp : v.pers = true ∨ Stays false E F) (h : v.ren σ = some v') (hr : Rep1 E v x) : Rep1 F v' x :=
  ⟨hr.1.ren hσ hT hp h, fun ha => hr.2.1 (by rw [← (ren_agg h).1]; exact ha), fun ha => hr.2.2 (by rw [← (ren_agg h).1]; exact ha)⟩

theorem Rep1s.ren {E F : Emb} {σ : Nat → Option Nat} (hσ : Names σ E F) (hT : Stays true E F) : ∀ {l l' : List AV} {xs : List Value}, (AV.perss l = true ∨ Stays false E F) → AV.rens σ l = some l' → Rep1s E l xs → Rep1s F l' xs
  | [], l', xs, _, h, hr => by simp only [AV.rens, Option.some.injEq] at h; subst h; exact hr
  | v :: l, l', xs, hp, h, ⟨x, ys, e, p, r1, r2⟩ => by
    simp only [AV.rens, Option.bind_eq_some_iff] at h
    obtain ⟨u, h1, us, h2, h3⟩ := h
    simp at h3; subst h3
    exact ⟨x, ys, e, by rw [(ren_agg h1).2.1]; exact p, r1.ren hσ hT (hp.imp (fun h => by simp only [AV.perss, Bool.and_eq_true] at h; exact h.1) id) h1,
      Rep1s.ren hσ hT (hp.imp (fun h => by simp only [AV.perss, Bool.and_eq_true] at h; exact h.2) id) h2 r2⟩

theorem RepR.ren {E F : Emb} {σ : Nat → Option Nat} (hσ : Names σ E F) (hT : Stays true E F) {v v' : AV} {xs : List Value} (hp : v.pers = true ∨ Stays false E F) (h : v.ren σ = some v') (hr : RepR E v xs) : RepR F v' xs := by
  cases v
  case row s l =>
    simp only [AV.ren, Option.some.injEq] at h; subst h
    obtain ⟨ys, zs, e, h1, h2⟩ := hr
    exact ⟨ys, zs, e, h1.stays hT (hp.imp (fun h => by simpa [AV.pers] using h) id), h2⟩
  all_goals exact RepR.of (RepC.ren hσ hT hp h hr)

/-! ### Names that are told -/

mutual
theorem ren_named {σ : Nat → Option Nat} {ok ok' : Nat → Bool} (h : ∀ n m, σ n = some m → ok n = true → ok' m = true) : ∀ {v v' : AV}, v.ren σ = some v' → v.named ok = true → v'.named ok' = true
  | .int .., v', hv, _ | .bool _, v', hv, _ | .u256 _, v', hv, _ | .arr .., v', hv, _ | .isl .., v', hv, _ | .nsl _, v', hv, _ | .str _, v', hv, _ | .nilp, v', hv, _ | .undef, v', hv, _ | .row .., v', hv, _ | .el .., v', hv, _ | .isw .., v', hv, _ | .nili, v', hv, _ => by
    simp only [AV.ren, Option.some.injEq] at hv; subst hv; simp [AV.named]
  | .pimq _ v, v', hv, hn => by
    simp only [AV.ren, Option.bind_eq_some_iff] at hv
    obtain ⟨u, h1, h2⟩ := hv
    simp at h2; subst h2
    simp only [AV.named] at hn ⊢
    exact ren_named h h1 hn
  | .ifc _ v, v', hv, hn => by
    simp only [AV.ren, Option.bind_eq_some_iff] at hv
    obtain ⟨u, h1, h2⟩ := hv
    simp at h2; subst h2
    simp only [AV.named] at hn ⊢
    exact ren_named h h1 hn
  | .st l, v', hv, hn => by
    simp only [AV.ren, Option.bind_eq_some_iff] at hv
    obtain ⟨l', h1, h2⟩ := hv
    simp at h2; subst h2
    simp only [AV.named] at hn ⊢
    exact rens_named h h1 hn
  | .tup l, v', hv, hn => by
    simp only [AV.ren, Option.bind_eq_some_iff] at hv
    obtain ⟨l', h1, h2⟩ := hv
    simp at h2; subst h2
    simp only [AV.named] at hn ⊢
    exact rens_named h h1 hn
  | .fn f l, v', hv, hn => by
    simp only [AV.ren, Option.bind_eq_some_iff] at hv
    obtain ⟨l', h1, h2⟩ := hv
    simp at h2; subst h2
    simp only [AV.named] at hn ⊢
    exact rens_named h h1 hn
  | .ptr n p, v', hv, hn => by
    simp only [AV.ren, Option.bind_eq_some_iff] at hv
    obtain ⟨m, h1, h2⟩ := hv
    simp at h2; subst h2
    exact h n m h1 hn
  | .sl n p s i len cap, v', hv, hn => by
    simp only [AV.ren, Option.bind_eq_some_iff] at hv
    obtain ⟨m, h1, h2⟩ := hv
    simp at h2; subst h2
    exact h n m h1 hn
  | .own n s, v', hv, hn => by
    simp only [AV.ren, Option.bind_eq_some_iff] at hv
    obtain ⟨m, h1, h2⟩ := hv
    simp at h2; subst h2
    exact h n m h1 hn
  | .osl n s i len, v', hv, hn => by
    simp only [AV.ren, Option.bind_eq_some_iff] at hv
    obtain ⟨m, h1, h2⟩ := hv
    simp at h2; subst h2
    exact h n m h1 hn
  | .pim fr v, v', hv, hn => by
    simp only [AV.ren, Option.bind_eq_some_iff] at hv
    obtain ⟨u, h1, h2⟩ := hv
    simp at h2; subst h2
    simp only [AV.named] at hn ⊢
    exact ren_named h h1 hn
theorem rens_named {σ : Nat → Option Nat} {ok ok' : Nat → Bool} (h : ∀ n m, σ n = some m → ok n = true → ok' m = true) : ∀ {l l' : List AV}, AV.rens σ l = some l' → AV.nameds ok l = true → AV.nameds ok' l' = true
  | [], l', hv, _ => by simp only [AV.rens, Option.some.injEq] at hv; subst hv; rfl
  | v :: l, l', hv, hn => by
    simp only [AV.rens, Option.bind_eq_some_iff] at hv
    obtain ⟨u, h1, us, h2, h3⟩ := hv
    simp at h3; subst h3
    simp only [AV.nameds, Bool.and_eq_true] at hn ⊢
    exact ⟨ren_named h h1 hn.1, rens_named h h2 hn.2⟩
end

mutual
/-- Only the names that are told count. -/
theorem ren_on {τ : Nat → Option Nat} {ok : Nat → Bool} : ∀ {v v' : AV}, v.named ok = true → v.ren τ = some v' → v.ren (fun q => if ok q = true then τ q else none) = some v'
  | .int .., v', _, hv | .bool _, v', _, hv | .u256 _, v', _, hv | .arr .., v', _, hv | .isl .., v', _, hv | .nsl _, v', _, hv | .str _, v', _, hv | .nilp, v', _, hv | .undef, v', _, hv | .row .., v', _, hv | .el .., v', _, hv | .isw .., v', _, hv | .nili, v', _, hv => by
    simpa only [AV.ren] using hv
  | .pimq _ v, v', hn, hv => by
    simp only [AV.named] at hn
    simp only [AV.ren, Option.bind_eq_some_iff] at hv ⊢
    obtain ⟨l', h1, h2⟩ := hv
    exact ⟨l', ren_on hn h1, h2⟩
  | .ifc _ v, v', hn, hv => by
    simp only [AV.named] at hn
    simp only [AV.ren, Option.bind_eq_some_iff] at hv ⊢
    obtain ⟨l', h1, h2⟩ := hv
    exact ⟨l', ren_on hn h1, h2⟩
  | .st l, v', hn, hv => by
    simp only [AV.named] at hn
    simp only [AV.ren, Option.bind_eq_some_iff] at hv ⊢
    obtain ⟨l', h1, h2⟩ := hv
    exact ⟨l', rens_on hn h1, h2⟩
  | .tup l, v', hn, hv => by
    simp only [AV.named] at hn
    simp only [AV.ren, Option.bind_eq_some_iff] at hv ⊢
    obtain ⟨l', h1, h2⟩ := hv
    exact ⟨l', rens_on hn h1, h2⟩
  | .fn f l, v', hn, hv => by
    simp only [AV.named] at hn
    simp only [AV.ren, Option.bind_eq_some_iff] at hv ⊢
    obtain ⟨l', h1, h2⟩ := hv
    exact ⟨l', rens_on hn h1, h2⟩
  | .pim fr v, v', hn, hv => by
    simp only [AV.named] at hn
    simp only [AV.ren, Option.bind_eq_some_iff] at hv ⊢
    obtain ⟨l', h1, h2⟩ := hv
    exact ⟨l', ren_on hn h1, h2⟩
  | .ptr n p, v', hn, hv => by simp only [AV.named] at hn; simp only [AV.ren, if_pos hn] at hv ⊢; exact hv
  | .sl n p s i len cap, v', hn, hv => by simp only [AV.named] at hn; simp only [AV.ren, if_pos hn] at hv ⊢; exact hv
  | .own n s, v', hn, hv => by simp only [AV.named] at hn; simp only [AV.ren, if_pos hn] at hv ⊢; exact hv
  | .osl n s i len, v', hn, hv => by simp only [AV.named] at hn; simp only [AV.ren, if_pos hn] at hv ⊢; exact hv
theorem rens_on {τ : Nat → Option Nat} {ok : Nat → Bool} : ∀ {l l' : List AV}, AV.nameds ok l = true → AV.rens τ l = some l' → AV.rens (fun q => if ok q = true then τ q else none) l = some l'
  | [], l', _, hv => by simpa only [AV.rens] using hv
  | v :: l, l', hn, hv => by
    simp only [AV.nameds, Bool.and_eq_true] at hn
    simp only [AV.rens, Option.bind_eq_some_iff] at hv ⊢
    obtain ⟨v', h1, l'', h2, h3⟩ := hv
    exact ⟨v', ren_on hn.1 h1, l'', rens_on hn.2 h2, h3⟩
end

theorem Rep.ren {E F : Emb} {σ : Nat → Option Nat} (hσ : Names σ E F) (hT : Stays true E F) {v v' : AV} {x : Value} (hp : v.pers = true ∨ Stays false E F) (h : v.ren σ = some v') (hr : Rep E v x) : Rep F v' x := by
  cases v
  case undef => simp only [AV.ren, Option.some.injEq] at h; subst h; trivial
  case tup l =>
    simp only [AV.ren, Option.bind_eq_some_iff] at h
    obtain ⟨l', h1, h2⟩ := h
    simp at h2; subst h2
    obtain ⟨vs, e, hvs⟩ := hr
    exact ⟨vs, e, hvs.ren hσ hT (hp.imp (fun h => by simpa [AV.pers] using h) id) h1⟩
  case row s l => exact (Rep1.ren (E := E) (v := .row s l) hσ hT hp h hr) |> fun hh => by simp only [AV.ren, Option.some.injEq] at h; subst h; exact hh
  all_goals
    have hpl := (ren_agg h).2.1
    exact (Rep.one (by rw [hpl]; rfl)).2 (Rep1.ren hσ hT hp h hr)

theorem one_ren {τ : Nat → Option Nat} {l l' : List AV} (h : AV.rens τ l = some l') : (one l).ren τ = some (one l') := by
  match l with
  | [] => simp only [AV.rens, Option.some.injEq] at h; subst h; rfl
  | [v] =>
    simp only [AV.rens, Option.bind_eq_some_iff] at h
    obtain ⟨v', h1, l'', h2, h3⟩ := h
    simp at h2; subst h2
    simp at h3; subst h3
    exact h1
  | v :: u :: l =>
    have h0 := h
    simp only [AV.rens, Option.bind_eq_some_iff] at h
    obtain ⟨v', h1, l'', ⟨u', h2, l3, h3, h4⟩, h5⟩ := h
    simp at h4; subst h4
    simp at h5; subst h5
    simp only [one, AV.ren, h0, Option.bind_some]

theorem one_pers {l : List AV} (h : AV.perss l = true) : (one l).pers = true := by
  match l with
  | [] => rfl
  | [v] => simpa [AV.perss, one] using h
  | v :: u :: l => exact h

mutual
theorem named_true : ∀ (v : AV), v.named (fun _ => true) = true
  | .int .. | .bool _ | .u256 _ | .arr .. | .isl .. | .nsl _ | .str _ | .nilp | .undef | .row .. | .ptr .. | .sl .. | .own .. | .osl .. | .el .. | .isw .. | .nili => by simp [AV.named]
  | .pimq _ v | .ifc _ v => by simp only [AV.named]; exact named_true v
  | .st l | .tup l | .fn _ l => by simp only [AV.named]; exact nameds_true l
  | .pim _ v => by simp only [AV.named]; exact named_true v
theorem nameds_true : ∀ (l : List AV), AV.nameds (fun _ => true) l = true
  | [] => rfl
  | v :: l => by simp only [AV.nameds, Bool.and_eq_true]; exact ⟨named_true v, nameds_true l⟩
end

theorem rens_map {σ : Nat → Option Nat} : ∀ {l l' : List AV}, AV.rens σ l = some l' → l'.length = l.length ∧ ∀ (i : Nat) (v' : AV), l'[i]? = some v' → ∃ v : AV, l[i]? = some v ∧ v.ren σ = some v'
  | [], l', h => by simp only [AV.rens, Option.some.injEq] at h; subst h; exact ⟨rfl, fun i v' hv => by simp at hv⟩
  | v :: l, l', h => by
    simp only [AV.rens, Option.bind_eq_some_iff] at h
    obtain ⟨u, h1, us, h2, h3⟩ := h
    simp at h3; subst h3
    obtain ⟨g1, g2⟩ := rens_map h2
    refine ⟨by simp [g1], fun i v' hv => ?_⟩
    cases i with
    | zero => simp at hv; subst hv; exact ⟨v, rfl, h1⟩
    | succ i => simpa using g2 i v' (by simpa using hv)

mutual
/-- A value that names nothing keeps itself. -/
theorem ren_self {σ : Nat → Option Nat} : ∀ {v : AV}, v.named (fun _ => false) = true → v.ren σ = some v
  | .int .., _ | .bool _, _ | .u256 _, _ | .arr .., _ | .isl .., _ | .nsl _, _ | .str _, _ | .nilp, _ | .undef, _ | .row .., _ | .el .., _ | .isw .., _ | .nili, _ => rfl
  | .pimq _ v, h => by simp only [AV.named] at h; simp only [AV.ren, ren_self h, Option.bind_some]
  | .ifc _ v, h => by simp only [AV.named] at h; simp only [AV.ren, ren_self h, Option.bind_some]
  | .st l, h => by simp only [AV.named] at h; simp only [AV.ren, rens_self h, Option.bind_some]
  | .tup l, h => by simp only [AV.named] at h; simp only [AV.ren, rens_self h, Option.bind_some]
  | .fn _ l, h => by simp only [AV.named] at h; simp only [AV.ren, rens_self h, Option.bind_some]
  | .pim _ v, h => by simp only [AV.named] at h; simp only [AV.ren, ren_self h, Option.bind_some]
  | .ptr .., h | .sl .., h | .own .., h | .osl .., h => by simp [AV.named] at h
theorem rens_self {σ : Nat → Option Nat} : ∀ {l : List AV}, AV.nameds (fun _ => false) l = true → AV.rens σ l = some l
  | [], _ => rfl
  | v :: l, h => by
    simp only [AV.nameds, Bool.and_eq_true] at h
    simp only [AV.rens, ren_self h.1, rens_self h.2, Option.bind_some]
end

/-! ### Lists of names -/

theorem memN_iff {n : Nat} : ∀ {l : List Nat}, memN n l = true ↔ n ∈ l
  | [] => by simp [memN]
  | m :: l => by simp only [memN, Bool.or_eq_true, List.mem_cons, memN_iff, Nat.beq_eq]

theorem placeN_some {n j : Nat} : ∀ {l : List Nat}, placeN n l = some j → l[j]? = some n
  | [], h => by simp [placeN] at h
  | m :: l, h => by
    simp only [placeN] at h
    cases hb : Nat.beq n m
    · rw [hb] at h
      simp only [cond_false, Option.bind_eq_some_iff] at h
      obtain ⟨i, h1, h2⟩ := h
      simp at h2; subst h2
      simpa using placeN_some h1
    · rw [hb] at h
      simp at h; subst h
      simp [Nat.eq_of_beq_eq_true hb]

theorem placeN_mem {n : Nat} : ∀ {l : List Nat}, n ∈ l → ∃ j, placeN n l = some j
  | [], h => by cases h
  | m :: l, h => by
    simp only [placeN]
    cases hb : Nat.beq n m
    · rcases List.mem_cons.1 h with e | h
      · subst e; simp at hb
      · obtain ⟨j, hj⟩ := placeN_mem h
        exact ⟨j + 1, by rw [hj]; rfl⟩
    · exact ⟨0, rfl⟩

theorem nodupN_inj : ∀ {l : List Nat}, nodupN l = true → ∀ (i j n : Nat), l[i]? = some n → l[j]? = some n → i = j
  | [], _, i, j, n, h, _ => by simp at h
  | m :: l, hd, i, j, n, hi, hj => by
    simp only [nodupN, Bool.and_eq_true, Bool.not_eq_true'] at hd
    have hm : n ∈ l → n ≠ m := fun hn e => by subst e; have := memN_iff.2 hn; rw [this] at hd; exact absurd hd.1 (by simp)
    cases i with
    | zero =>
      simp at hi; subst hi
      cases j with
      | zero => rfl
      | succ j =>
        simp at hj
        exact absurd rfl (hm (List.mem_of_getElem? hj))
    | succ i =>
      simp at hi
      cases j with
      | zero =>
        simp at hj; subst hj
        exact absurd rfl (hm (List.mem_of_getElem? hi))
      | succ j =>
        simp at hj
        rw [nodupN_inj hd.2 i j n hi hj]

theorem lk_lost {n : Nat} : ∀ {l : List Nat}, lk n (lostN l) = cond (memN n l) (some .undef) none
  | [] => rfl
  | m :: l => by
    simp only [lostN, lk, memN, lk_lost (l := l)]
    cases Nat.beq n m <;> cases memN n l <;> rfl

theorem lk_append {n : Nat} : ∀ {l l' : List (Nat × AV)}, lk n (l ++ l') = match lk n l with | some c => some c | none => lk n l'
  | [], l' => rfl
  | (m, c) :: l, l' => by
    simp only [List.cons_append, lk]
    cases Nat.beq n m
    · simp [lk_append]
    · rfl

theorem lk_mem' {n : Nat} {c : AV} : ∀ {l : List (Nat × AV)}, lk n l = some c → (n, c) ∈ l
  | [], h => by cases h
  | (m, u) :: l, h => by
    simp only [lk] at h
    cases hb : Nat.beq n m
    · rw [hb] at h; exact List.mem_cons_of_mem _ (lk_mem' h)
    · rw [hb] at h
      have := Nat.eq_of_beq_eq_true hb
      simp at h; subst h; subst this
      exact List.mem_cons_self

theorem keysN_mem {n : Nat} {c : AV} : ∀ {l : List (Nat × AV)}, (n, c) ∈ l → n ∈ keysN l
  | (m, u) :: l, h => by
    rcases List.mem_cons.1 h with e | h
    · cases e; exact List.mem_cons_self
    · exact List.mem_cons_of_mem _ (keysN_mem h)

theorem lk_nodup {n : Nat} {c : AV} : ∀ {l : List (Nat × AV)}, nodupN (keysN l) = true → (n, c) ∈ l → lk n l = some c
  | (m, u) :: l, hd, h => by
    simp only [keysN, nodupN, Bool.and_eq_true, Bool.not_eq_true'] at hd
    simp only [lk]
    rcases List.mem_cons.1 h with e | h
    · cases e; simp
    · have hne : n ≠ m := fun e => by
        subst e
        rename_i hin
        have := memN_iff.2 (keysN_mem hin)
        rw [this] at hd
        exact absurd hd.1 (by simp)
      rw [beq_no hne]
      exact lk_nodup hd.2 h
end
end Go.Sy
