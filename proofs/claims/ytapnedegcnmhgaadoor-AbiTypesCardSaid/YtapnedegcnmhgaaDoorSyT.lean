/- Layouts: how typed values lie in arguments, results and loop states; contracts made of them. -/
import Derived.Test.YtapnedegcnmhgaaDoorSyS
import GoSem.Extern.MathBitsCarry
set_option linter.unusedVariables false
set_option linter.unusedSimpArgs false
namespace Go.Sy
open Go Go.RowKit
noncomputable section

/-- The shape of a value. -/
inductive Pat where
  | int (k : IntKind) | bool | u256 | arr (s : Sh) (n : Nat) | st (l : List Pat) | isl (fr : Bool) (s : Sh) | pim (fr : Bool) (p : Pat) | nilp
  | sl (n : Nat) (p : List Step) (s : Sh) | own (n : Nat) (s : Sh) | osl (n : Nat) (s : Sh) | nsl (s : Sh) | row (s : Sh) | str | ptr (n : Nat) (p : List Step)
  | el (i : DSh) | isw (fr : Bool) (s : Sh) | nili | ifc (t : TypeId) (p : Pat)

mutual
@[reducible] def Pat.T : Pat → Type
  | .int _ => Int
  | .bool => Bool
  | .u256 => Nat
  | .arr s _ => List s.T
  | .isl _ s => List s.T
  | .pim _ p => p.T
  | .ifc _ p => p.T
  | .st l => Pat.Ts l
  | .nilp => Unit
  | .sl .. => Nat × Nat × Nat
  | .own .. => Unit
  | .osl .. => Nat × Nat
  | .nsl _ => Unit
  | .row s => List s.T
  | .str => List UInt8
  | .ptr .. => Unit
  | .el i => i.T
  | .isw _ s => List s.T × Nat
  | .nili => Unit
@[reducible] def Pat.Ts : List Pat → Type
  | [] => Unit
  | p :: l => match l with
    | [] => p.T
    | _ :: _ => p.T × Pat.Ts l
end

mutual
def Pat.enc : (p : Pat) → p.T → AV
  | .int k, n => .int k n
  | .bool, b => .bool b
  | .u256, x => .u256 x
  | .arr s n, l => .arr s n l
  | .isl fr s, l => .isl fr s l
  | .pim fr p, x => .pim fr (p.enc x)
  | .ifc t p, x => .ifc t (p.enc x)
  | .st l, x => .st (Pat.encs l x)
  | .nilp, _ => .nilp
  | .sl n p s, x => .sl n p s x.1 x.2.1 x.2.2
  | .own n s, _ => .own n s
  | .osl n s, x => .osl n s x.1 x.2
  | .nsl s, _ => .nsl s
  | .row s, l => .row s l
  | .str, l => .str l
  | .ptr n p, _ => .ptr n p
  | .el i, t => .el i t
  | .isw fr s, x => .isw fr s x.1 x.2
  | .nili, _ => .nili
def Pat.encs : (l : List Pat) → Pat.Ts l → List AV
  | [], _ => []
  | [p], x => [p.enc x]
  | p :: q :: l, x => p.enc x.1 :: Pat.encs (q :: l) x.2
end

def stepEq : Step → Step → Bool
  | .fld i o, .fld i' o' => Nat.beq i i' && Nat.beq o o'
  | .idx i o, .idx i' o' => Nat.beq i i' && Nat.beq o o'
  | _, _ => false
def pathEq : List Step → List Step → Bool
  | [], [] => true
  | a :: l, b :: m => stepEq a b && pathEq l m
  | _, _ => false
theorem stepEq_eq {a b : Step} (h : stepEq a b = true) : a = b := by
  cases a <;> cases b <;> simp [stepEq] at h <;> obtain ⟨h1, h2⟩ := h <;> rw [h1, h2]
theorem pathEq_eq : ∀ {a b : List Step}, pathEq a b = true → a = b
  | [], [], _ => rfl
  | [], _ :: _, h => by cases h
  | _ :: _, [], h => by cases h
  | a :: l, b :: m, h => by
    simp only [pathEq, Bool.and_eq_true] at h
    rw [stepEq_eq h.1, pathEq_eq h.2]
theorem shEq_eq {a b : Sh} (h : shEq a b = true) : a = b := shEq_eq' h

mutual
def Pat.dec : (p : Pat) → AV → Option p.T
  | .int k, .int k' n => if k = k' then some n else none
  | .bool, .bool b => some b
  | .u256, .u256 x => some x
  | .arr s n, .arr s' n' l => cond (Nat.beq n n') (castL s s' l) none
  | .isl fr s, .isl fr' s' l => cond (fr == fr') (castL s s' l) none
  | .pim fr p, .pim fr' v => cond (fr == fr') (p.dec v) none
  | .ifc t p, .ifc t' v => cond (Nat.beq t t') (p.dec v) none
  | .st l, .st vs => Pat.decs l vs
  | .nilp, .nilp => some ()
  | .sl n p s, .sl n' p' s' i len cap => cond (Nat.beq n n' && pathEq p p' && shEq s s') (some (i, len, cap)) none
  | .own n s, .own n' s' => cond (Nat.beq n n' && shEq s s') (some ()) none
  | .osl n s, .osl n' s' i len => cond (Nat.beq n n' && shEq s s') (some (i, len)) none
  | .nsl s, .nsl s' => cond (shEq s s') (some ()) none
  | .row s, .row s' l => castL s s' l
  | .str, .str l => some l
  | .el i, .el j t => j.cast i t
  | .isw fr s, .isw fr' s' l n => cond (fr == fr') ((castL s s' l).bind fun l => some (l, n)) none
  | .nili, .nili => some ()
  | .ptr n p, .ptr n' p' => cond (Nat.beq n n' && pathEq p p') (some ()) none
  | _, _ => none
def Pat.decs : (l : List Pat) → List AV → Option (Pat.Ts l)
  | [], [] => some ()
  | [p], [v] => p.dec v
  | p :: q :: l, v :: vs => (p.dec v).bind fun x => (Pat.decs (q :: l) vs).bind fun y => some (x, y)
  | _, _ => none
end

mutual
theorem Pat.dec_enc : ∀ (p : Pat) (v : AV) (x : p.T), p.dec v = some x → v = p.enc x
  | .int k, v, x, h => by
    cases v <;> simp [Pat.dec] at h
    obtain ⟨rfl, rfl⟩ := h; rfl
  | .bool, v, x, h => by
    cases v <;> simp [Pat.dec] at h
    subst h; rfl
  | .u256, v, x, h => by
    cases v <;> simp [Pat.dec] at h
    subst h; rfl
  | .arr s n, v, x, h => by
    cases v <;> simp only [Pat.dec, reduceCtorEq] at h
    rename_i s' n' l
    obtain ⟨hb, h'⟩ := cond_some h
    clear h
    have hb := Nat.eq_of_beq_eq_true hb
    subst hb
    obtain ⟨e, h⟩ := castL_eq h'
    subst e
    subst h; rfl
  | .isl fr s, v, x, h => by
    cases v <;> simp only [Pat.dec, reduceCtorEq] at h
    rename_i fr' s' l
    obtain ⟨hb, h'⟩ := cond_some h
    clear h
    have hb := eq_of_beq hb
    subst hb
    obtain ⟨e, h⟩ := castL_eq h'
    subst e
    subst h; rfl
  | .pim fr p, v, x, h => by
    cases v <;> simp only [Pat.dec, reduceCtorEq] at h
    rename_i fr' v
    obtain ⟨hb, h'⟩ := cond_some h
    have hb := eq_of_beq hb
    subst hb
    rw [Pat.dec_enc p _ _ h']; rfl
  | .ifc t p, v, x, h => by
    cases v <;> simp only [Pat.dec, reduceCtorEq] at h
    rename_i t' v
    obtain ⟨hb, h'⟩ := cond_some h
    have hb := Nat.eq_of_beq_eq_true hb
    subst hb
    rw [Pat.dec_enc p _ _ h']; rfl
  | .own n s, v, x, h => by
    cases v <;> simp only [Pat.dec, reduceCtorEq] at h
    obtain ⟨hb, _⟩ := cond_some h
    simp only [Bool.and_eq_true] at hb
    have h1 := Nat.eq_of_beq_eq_true hb.1
    have h2 := shEq_eq hb.2
    subst h1; subst h2; rfl
  | .osl n s, v, x, h => by
    cases v <;> simp only [Pat.dec, reduceCtorEq] at h
    obtain ⟨hb, h'⟩ := cond_some h
    simp only [Bool.and_eq_true] at hb
    have h1 := Nat.eq_of_beq_eq_true hb.1
    have h2 := shEq_eq hb.2
    subst h1; subst h2
    simp at h'; subst h'; rfl
  | .nsl s, v, x, h => by
    cases v <;> simp only [Pat.dec, reduceCtorEq] at h
    obtain ⟨hb, _⟩ := cond_some h
    have h2 := shEq_eq hb
    subst h2; rfl
  | .row s, v, x, h => by
    cases v <;> simp only [Pat.dec, reduceCtorEq] at h
    obtain ⟨e, h⟩ := castL_eq h
    subst e
    subst h; rfl
  | .str, v, x, h => by
    cases v <;> simp [Pat.dec] at h
    subst h; rfl
  | .nili, v, x, h => by
    cases v <;> simp [Pat.dec] at h
    rfl
  | .el i, v, x, h => by
    cases v <;> simp only [Pat.dec, reduceCtorEq] at h
    obtain ⟨e, h2⟩ := DSh.cast_eq h
    subst e; subst h2; rfl
  | .isw fr s, v, x, h => by
    cases v <;> simp only [Pat.dec, reduceCtorEq] at h
    rename_i fr' s' l n
    obtain ⟨hb, h'⟩ := cond_some h
    clear h
    have hb := eq_of_beq hb
    subst hb
    obtain ⟨l2, h1, h2⟩ := Option.bind_eq_some_iff.1 h'
    obtain ⟨e, h⟩ := castL_eq h1
    subst e
    subst h
    simp at h2; subst h2; rfl
  | .ptr n p, v, x, h => by
    cases v <;> simp only [Pat.dec, reduceCtorEq] at h
    obtain ⟨hb, _⟩ := cond_some h
    simp only [Bool.and_eq_true] at hb
    have h1 := Nat.eq_of_beq_eq_true hb.1
    have h2 := pathEq_eq hb.2
    subst h1; subst h2; rfl
  | .st l, v, x, h => by
    cases v <;> simp [Pat.dec] at h
    rw [Pat.decs_encs l _ _ h]; rfl
  | .nilp, v, x, h => by
    cases v <;> simp [Pat.dec] at h
    rfl
  | .sl n p s, v, x, h => by
    cases v <;> simp only [Pat.dec, reduceCtorEq] at h
    rename_i n' p' s' i len cap
    obtain ⟨hb, h'⟩ := cond_some h
    clear h
    simp only [Bool.and_eq_true] at hb
    obtain ⟨⟨h1, h2⟩, h3⟩ := hb
    have h1 := Nat.eq_of_beq_eq_true h1
    have h2 := pathEq_eq h2
    have h3 := shEq_eq h3
    subst h1; subst h2; subst h3
    simp at h'; subst h'; rfl
theorem Pat.decs_encs : ∀ (l : List Pat) (vs : List AV) (x : Pat.Ts l), Pat.decs l vs = some x → vs = Pat.encs l x
  | [], [], x, _ => rfl
  | [], _ :: _, x, h => by simp [Pat.decs] at h
  | [p], [v], x, h => by
    simp only [Pat.decs] at h
    rw [Pat.dec_enc p _ _ h]; rfl
  | [p], [], x, h => by simp [Pat.decs] at h
  | [p], _ :: _ :: _, x, h => by simp [Pat.decs] at h
  | p :: q :: l, [], x, h => by simp [Pat.decs] at h
  | p :: q :: l, v :: vs, x, h => by
    simp only [Pat.decs, Option.bind_eq_some_iff] at h
    obtain ⟨a, ha, b, hb, h⟩ := h
    simp at h; subst h
    rw [Pat.dec_enc p _ _ ha, Pat.decs_encs (q :: l) _ _ hb]
    rfl
end

theorem castL_self (s : Sh) (l : List s.T) : castL s s l = some l := by
  cases s with
  | d i => cases i <;> rfl
  | _ => simp [castL]
theorem stepEq_self (a : Step) : stepEq a a = true := by cases a <;> simp [stepEq]
theorem pathEq_self : ∀ p : List Step, pathEq p p = true
  | [] => rfl
  | a :: l => by simp [pathEq, stepEq_self, pathEq_self l]
theorem shEq_self (a : Sh) : shEq a a = true := by
  cases a with
  | d i => cases i <;> rfl
  | _ => simp [shEq]
theorem DSh.cast_self (i : DSh) (t : i.T) : i.cast i t = some t := by cases i <;> rfl

mutual
theorem Pat.dec_of_enc : ∀ (p : Pat) (x : p.T), p.dec (p.enc x) = some x
  | .int k, x => by simp [Pat.enc, Pat.dec]
  | .bool, x => rfl
  | .u256, x => rfl
  | .arr s n, x => by simp [Pat.enc, Pat.dec, castL_self]
  | .isl fr s, x => by simp [Pat.enc, Pat.dec, castL_self]
  | .pim fr p, x => by simp only [Pat.enc, Pat.dec, beq_self_eq_true, cond_true]; exact Pat.dec_of_enc p x
  | .ifc t p, x => by simp only [Pat.enc, Pat.dec, Nat.beq_refl, cond_true]; exact Pat.dec_of_enc p x
  | .own n s, x => by simp [Pat.enc, Pat.dec, shEq_self]
  | .osl n s, x => by simp [Pat.enc, Pat.dec, shEq_self]
  | .nsl s, x => by simp [Pat.enc, Pat.dec, shEq_self]
  | .row s, x => by simp [Pat.enc, Pat.dec, castL_self]
  | .str, x => rfl
  | .nili, x => rfl
  | .el i, x => by simp [Pat.enc, Pat.dec, DSh.cast_self]
  | .isw fr s, x => by simp [Pat.enc, Pat.dec, castL_self]
  | .ptr n p, x => by simp [Pat.enc, Pat.dec, pathEq_self]
  | .st l, x => by simp only [Pat.enc, Pat.dec]; exact Pat.decs_of_encs l x
  | .nilp, x => rfl
  | .sl n p s, x => by simp [Pat.enc, Pat.dec, pathEq_self, shEq_self]
theorem Pat.decs_of_encs : ∀ (l : List Pat) (x : Pat.Ts l), Pat.decs l (Pat.encs l x) = some x
  | [], x => rfl
  | [p], x => by simp only [Pat.encs, Pat.decs]; exact Pat.dec_of_enc p x
  | p :: q :: l, x => by
    simp only [Pat.encs, Pat.decs]
    rw [Pat.dec_of_enc p x.1, Pat.decs_of_encs (q :: l) x.2]
    rfl
end

mutual
def Pat.named (ok : Nat → Bool) : Pat → Bool
  | .st l => Pat.nameds ok l
  | .pim _ p => p.named ok
  | .ifc _ p => p.named ok
  | .sl n .. | .own n _ | .osl n _ | .ptr n _ => ok n
  | _ => true
def Pat.nameds (ok : Nat → Bool) : List Pat → Bool
  | [] => true
  | p :: l => p.named ok && Pat.nameds ok l
end

mutual
theorem Pat.enc_named {ok : Nat → Bool} : ∀ (p : Pat) (x : p.T), p.named ok = true → (p.enc x).named ok = true
  | .int k, x, _ => rfl
  | .bool, x, _ => rfl
  | .u256, x, _ => rfl
  | .arr s n, x, _ => rfl
  | .isl fr s, x, _ => rfl
  | .nilp, x, _ => rfl
  | .pim fr p, x, h => by simp only [Pat.named] at h; simp only [Pat.enc, AV.named]; exact Pat.enc_named p x h
  | .ifc t p, x, h => by simp only [Pat.named] at h; simp only [Pat.enc, AV.named]; exact Pat.enc_named p x h
  | .own n s, x, h => h
  | .osl n s, x, h => h
  | .ptr n p, x, h => h
  | .nsl s, x, _ => rfl
  | .row s, x, _ => rfl
  | .str, x, _ => rfl
  | .nili, x, _ => rfl
  | .el i, x, _ => rfl
  | .isw fr s, x, _ => rfl
  | .st l, x, h => by simp only [Pat.named] at h; simp only [Pat.enc, AV.named]; exact Pat.encs_named l x h
  | .sl n p s, x, h => h
theorem Pat.encs_named {ok : Nat → Bool} : ∀ (l : List Pat) (x : Pat.Ts l), Pat.nameds ok l = true → AV.nameds ok (Pat.encs l x) = true
  | [], x, _ => rfl
  | [p], x, h => by
    simp only [Pat.nameds, Bool.and_eq_true] at h
    simp only [Pat.encs, AV.nameds, Bool.and_eq_true]
    exact ⟨Pat.enc_named p x h.1, trivial⟩
  | p :: q :: l, x, h => by
    simp only [Pat.nameds, Bool.and_eq_true] at h
    simp only [Pat.encs, AV.nameds, Bool.and_eq_true]
    refine ⟨Pat.enc_named p x.1 h.1, Pat.encs_named (q :: l) x.2 ?_⟩
    simp only [Pat.nameds, Bool.and_eq_true]; exact h.2
end

theorem Pat.encs_length : ∀ (l : List Pat) (x : Pat.Ts l), (Pat.encs l x).length = l.length
  | [], x => rfl
  | [p], x => rfl
  | p :: q :: l, x => by simp only [Pat.encs, List.length_cons]; rw [Pat.encs_length (q :: l) x.2]; rfl

/-! ### Functions that lend nothing -/

def mkE (ps rs : List Pat) (F : Pat.Ts ps → Option (Pat.Ts rs)) : Entry := { α := Pat.Ts ps, ρ := Pat.Ts rs, nb := 0, quiet := true, modes := [], dec := fun args _ => Pat.decs ps args, F := F, enc := Pat.encs rs, out := fun _ => [] }

def seconds : List (Nat × AV) → List AV
  | [] => []
  | (_, v) :: l => v :: seconds l

theorem seconds_zip : ∀ (l : List AV) (m : Nat), seconds ((List.range' m l.length).zip l) = l
  | [], _ => rfl
  | v :: l, m => by simp only [List.length_cons, List.range'_succ, List.zip_cons_cons, seconds]; rw [seconds_zip l]

theorem seconds_res (S : St) (l : List AV) : seconds (S.res l).env = l := by
  simp only [St.res, List.range_eq_range']; exact seconds_zip l 0

def noView : View := ⟨[], []⟩

theorem atV_no {S : St} {n : Nat} {v : AV} (h : S.e n = some v) (hn : v.named (fun _ => false) = true) : S.atV noView false n = some v := by
  simp [St.atV, St.at0, h, ren_self hn, noView, nilsOf]

mutual
def Pat.plain : Pat → Bool
  | .row _ => false
  | _ => true
def Pat.plains : List Pat → Bool
  | [] => true
  | p :: l => p.plain && Pat.plains l
end

theorem Pat.enc_plain : ∀ (p : Pat) (x : p.T), p.plain = true → (p.enc x).plain = true
  | .int k, x, _ | .bool, x, _ | .u256, x, _ | .arr s n, x, _ | .isl fr s, x, _ | .nilp, x, _ | .pim fr p, x, _ | .ifc t p, x, _ | .st l, x, _ | .sl n p s, x, _ | .own n s, x, _ | .osl n s, x, _ | .ptr n p, x, _ | .nsl s, x, _ | .str, x, _ | .nili, x, _ | .el i, x, _ | .isw fr s, x, _ => rfl
  | .row s, x, h => by cases h
theorem Pat.encs_plain : ∀ (l : List Pat) (x : Pat.Ts l), Pat.plains l = true → ∀ v ∈ Pat.encs l x, v.plain = true
  | [], x, _, v, hv => by cases hv
  | [p], x, h, v, hv => by
    simp only [Pat.plains, Bool.and_eq_true] at h
    simp only [Pat.encs, List.mem_singleton] at hv
    subst hv; exact Pat.enc_plain p x h.1
  | p :: q :: l, x, h, v, hv => by
    rw [Pat.plains, Bool.and_eq_true] at h
    simp only [Pat.encs] at hv
    rcases List.mem_cons.1 hv with e | hv
    · subst e; exact Pat.enc_plain p x.1 h.1
    · exact Pat.encs_plain (q :: l) x.2 h.2 v hv

theorem fun_ok {cx : Cx} {G : Ini → Prop} (hc : CxOk cx G) {f : Nat} {fn : Func} (hfn : cx.P.funcs[f]? = some fn) (hb : fn.body.isSome = true) (hN : fn.ntmps = cx.N) (hcall : ∀ args w, (callFunc f args).run cx.P w = .ok (.enter f args) w)
    (ps rs : List Pat) (F : Pat.Ts ps → Option (Pat.Ts rs)) (hnamed : Pat.nameds (fun _ => false) ps = true) (hrs : (Pat.nameds (fun _ => false) rs && Pat.plains rs && Nat.beq rs.length fn.results.size) = true) (hlen : Nat.ble ps.length cx.N = true)
    (hl : ∀ w0, G w0 → ∀ b ∈ loopsOf (bodyOf fn), ∀ le, cx.loops (firstReg b) = some le → LoopOk cx w0 b le)
    (link : ∀ x, codeK cx (bodyOf fn) (start (Pat.encs ps x)) (finK cx fn.results.toList (fun S => Pat.decs rs (seconds S.env)) fun _ => none) = F x) : CallOk cx.P G f (mkE ps rs F) := by
  simp only [Bool.and_eq_true] at hrs
  have hno : noView.ok = true := rfl
  refine fun_sound hc hfn hb hN hcall (mkE ps rs F) (fun _ => ⟨rfl, fun _ => rfl⟩) (Nat.zero_le _) (fun x => start (Pat.encs ps x)) (fun args bs x hbs hx => ?_) (fun S => Pat.decs rs (seconds S.env)) (fun _ => none) (fun S l r hr => ⟨rfl, ?_⟩) (fun _ _ _ h => by cases h) (fun r => ?_) (fun r => Pat.encs_plain rs r hrs.1.2) hl link
  · have hx : Pat.decs ps args = some x := hx
    have := Pat.decs_encs ps args x hx
    subst this
    have hn := Pat.encs_named ps x hnamed
    refine ⟨Nat.le_trans (Nat.le_of_eq (Pat.encs_length ps x)) (Nat.le_of_ble_eq_true hlen), noView, hno, ⟨fun n u hu => ?_, fun n u hu => by simp [start, St.h, lk] at hu⟩, ?_⟩
    · have hu' : (Pat.encs ps x)[n]? = some u := by rw [← hu]; exact lk_range.symm
      exact atV_no hu (AV.nameds_get hn hu')
    · unfold St.inScope
      simp only [Bool.and_eq_true, List.all_eq_true]
      refine ⟨fun p hp => ?_, fun p hp => by cases hp⟩
      obtain ⟨_, h2⟩ := List.of_mem_zip hp
      obtain ⟨i, hi, e⟩ := List.getElem_of_mem h2
      exact nameds_none (AV.nameds_get hn (List.getElem?_eq_getElem hi ▸ congrArg some e))
  · rw [seconds_res] at hr
    have := Pat.decs_encs rs l r hr
    subst this
    have hn := Pat.encs_named rs r hrs.1.1
    refine ⟨noView, hno, ⟨fun n u hu => ?_, fun n u hu => by simp [outS, mkE, St.h, lk] at hu⟩, ?_⟩
    · have hu' : (Pat.encs rs r)[n]? = some u := by rw [← hu]; exact lk_range.symm
      refine atV_no ?_ (AV.nameds_get hn hu')
      rw [← hu']; exact lk_range
    · unfold St.inScope
      simp only [Bool.and_eq_true, List.all_eq_true]
      refine ⟨fun p hp => ?_, fun p hp => by cases hp⟩
      obtain ⟨_, h2⟩ := List.of_mem_zip hp
      obtain ⟨i, hi, e⟩ := List.getElem_of_mem h2
      exact nameds_none (AV.nameds_get hn (List.getElem?_eq_getElem hi ▸ congrArg some e))
  · exact (Pat.encs_length rs r).trans (Nat.eq_of_beq_eq_true hrs.2)

/-! ### Loop states -/

/-- Constants and variables: true: a block, false: a temporary. -/
structure Lay where
  fix : List (Bool × Nat × AV)
  var : List (Bool × Nat × Pat)
  views : List View

@[reducible] def Lay.T (l : Lay) : Type := Pat.Ts (l.var.map (·.2.2))

def capsEq : List AV → List AV → Bool
  | [], [] => true
  | .ptr n p :: l, .ptr n' p' :: l' => Nat.beq n n' && pathEq p p' && capsEq l l'
  | _, _ => false
theorem capsEq_eq : ∀ {a b : List AV}, capsEq a b = true → a = b
  | [], [], _ => rfl
  | [], _ :: _, h => by simp [capsEq] at h
  | v :: l, b, h => by
    unfold capsEq at h
    split at h
    · rename_i h2; cases h2
    · rename_i h1
      cases h1
      simp only [Bool.and_eq_true] at h
      rw [Nat.eq_of_beq_eq_true h.1.1, pathEq_eq h.1.2, capsEq_eq h.2]
    · cases h

def sameAV : AV → AV → Bool
  | .int k n, .int k' n' => if k = k' then n == n' else false
  | .bool b, .bool b' => b == b'
  | .ptr n p, .ptr n' p' => Nat.beq n n' && pathEq p p'
  | .sl n p s i len cap, .sl n' p' s' i' len' cap' => Nat.beq n n' && pathEq p p' && shEq s s' && Nat.beq i i' && Nat.beq len len' && Nat.beq cap cap'
  | .fn f l, .fn f' l' => Nat.beq f f' && capsEq l l'
  | .nilp, .nilp => true
  | .nili, .nili => true
  | .own n s, .own n' s' => Nat.beq n n' && shEq s s'
  | .nsl s, .nsl s' => shEq s s'
  | _, _ => false

theorem sameAV_eq {a b : AV} (h : sameAV a b = true) : a = b := by
  unfold sameAV at h
  split at h
  · split at h
    · rename_i e; subst e; simp at h; rw [h]
    · cases h
  · simp at h; rw [h]
  · simp only [Bool.and_eq_true] at h
    rw [Nat.eq_of_beq_eq_true h.1, pathEq_eq h.2]
  · simp only [Bool.and_eq_true] at h
    obtain ⟨⟨⟨⟨⟨h1, h2⟩, h3⟩, h4⟩, h5⟩, h6⟩ := h
    rw [Nat.eq_of_beq_eq_true h1, pathEq_eq h2, shEq_eq h3, Nat.eq_of_beq_eq_true h4, Nat.eq_of_beq_eq_true h5, Nat.eq_of_beq_eq_true h6]
  · simp only [Bool.and_eq_true] at h
    rw [Nat.eq_of_beq_eq_true h.1, capsEq_eq h.2]
  · rfl
  · rfl
  · simp only [Bool.and_eq_true] at h
    rw [Nat.eq_of_beq_eq_true h.1, shEq_eq h.2]
  · rw [shEq_eq h]
  · cases h

section
variable (w : View)
def checkL (S : St) : List (Bool × Nat × AV) → Bool
  | [] => true
  | (b, n, v) :: l => match S.atV w b n with
    | some u => cond (sameAV u v) (checkL S l) false
    | none => false

def readL {α : Type} (S : St) : List (Bool × Nat × α) → Option (List AV)
  | [] => some []
  | (b, n, _) :: l => match S.atV w b n with
    | some u => match readL S l with
      | some us => some (u :: us)
      | none => none
    | none => none

end

def putL {α : Type} : List (Bool × Nat × α) → List AV → St → St
  | (b, n, _) :: l, v :: vs, S => putL l vs (cond b ⟨S.env, (n, v) :: S.heap⟩ ⟨(n, v) :: S.env, S.heap⟩)
  | _, _, S => S

def putF : List (Bool × Nat × AV) → St → St
  | (b, n, v) :: l, S => putF l (cond b ⟨S.env, (n, v) :: S.heap⟩ ⟨(n, v) :: S.env, S.heap⟩)
  | _, S => S

def Lay.enc (l : Lay) (x : l.T) : St := putL l.var (Pat.encs (l.var.map (·.2.2)) x) (putF l.fix ⟨[], []⟩)

def Lay.decV (l : Lay) (w : View) (S : St) : Option l.T :=
  cond (checkL w S l.fix) (match readL w S l.var with
    | some vs => Pat.decs _ vs
    | none => none) none

def Lay.decs (l : Lay) (S : St) : List View → Option l.T
  | [] => none
  | w :: ws => match l.decV w S with
    | some x => some x
    | none => l.decs S ws

def Lay.dec (l : Lay) (S : St) : Option l.T := l.decs S l.views

/-- All that T holds lies in S, in the view. -/
def St.In (T S : St) (w : View) : Prop := (∀ n v, (n, v) ∈ T.env → S.atV w false n = some v) ∧ (∀ n v, (n, v) ∈ T.heap → S.atV w true n = some v)

theorem St.In.sub {T S : St} {w : View} (h : T.In S w) : T.SubV S w := ⟨fun n v hv => h.1 n v (lk_mem hv), fun n v hv => h.2 n v (lk_mem hv)⟩

theorem St.In.put {T S : St} {w : View} (h : T.In S w) {b : Bool} {n : Nat} {v : AV} (hv : S.atV w b n = some v) : (cond b (⟨T.env, (n, v) :: T.heap⟩ : St) ⟨(n, v) :: T.env, T.heap⟩).In S w := by
  cases b with
  | true =>
    refine ⟨h.1, fun m u hm => ?_⟩
    rcases List.mem_cons.1 hm with e | hm
    · cases e; exact hv
    · exact h.2 m u hm
  | false =>
    refine ⟨fun m u hm => ?_, h.2⟩
    rcases List.mem_cons.1 hm with e | hm
    · cases e; exact hv
    · exact h.1 m u hm

theorem putF_in {S : St} {w : View} : ∀ (l : List (Bool × Nat × AV)) {T : St}, T.In S w → checkL w S l = true → (putF l T).In S w
  | [], T, h, _ => h
  | (b, n, v) :: l, T, h, hc => by
    simp only [checkL] at hc
    split at hc
    · rename_i u hu
      cases hs : sameAV u v with
      | false => rw [hs] at hc; cases hc
      | true =>
        rw [hs] at hc
        have := sameAV_eq hs
        subst this
        exact putF_in l (h.put hu) hc
    · cases hc

theorem putL_in {α : Type} {S : St} {w : View} : ∀ (l : List (Bool × Nat × α)) {vs : List AV} {T : St}, T.In S w → readL w S l = some vs → (putL l vs T).In S w
  | [], vs, T, h, hr => by simp [readL] at hr; subst hr; exact h
  | (b, n, a) :: l, vs, T, h, hr => by
    simp only [readL] at hr
    split at hr
    · rename_i u hu
      split at hr
      · rename_i us hus
        simp at hr; subst hr
        exact putL_in l (h.put hu) hus
      · cases hr
    · cases hr

theorem Lay.decV_sub {l : Lay} {S : St} {w : View} {x : l.T} (h : l.decV w S = some x) : (l.enc x).SubV S w := by
  unfold Lay.decV at h
  cases hc : checkL w S l.fix with
  | false => rw [hc] at h; cases h
  | true =>
    rw [hc] at h
    simp only [cond_true] at h
    split at h
    · rename_i vs hvs
      have := Pat.decs_encs _ _ _ h
      subst this
      exact (putL_in l.var (putF_in l.fix (T := ⟨[], []⟩) ⟨fun _ _ h => (by cases h), fun _ _ h => (by cases h)⟩ hc) hvs).sub
    · cases h

theorem Lay.decs_sub {l : Lay} {S : St} {x : l.T} : ∀ {ws : List View}, l.decs S ws = some x → ∃ w ∈ ws, (l.enc x).SubV S w
  | [], h => by cases h
  | w :: ws, h => by
    simp only [Lay.decs] at h
    split at h
    · rename_i y hy
      simp at h; subst h
      exact ⟨w, List.mem_cons_self, Lay.decV_sub hy⟩
    · obtain ⟨w', h1, h2⟩ := Lay.decs_sub h
      exact ⟨w', List.mem_cons_of_mem _ h1, h2⟩

/-! Are the blocks there? -/

def Lay.dom (l : Lay) (n : Nat) : Bool := l.fix.any (fun p => p.1 && Nat.beq n p.2.1) || l.var.any (fun p => p.1 && Nat.beq n p.2.1)
def Lay.ok (l : Lay) : Bool := l.views.all View.ok && (l.fix.all (fun p => p.2.2.named l.dom) && l.var.all (fun p => p.2.2.named l.dom))

theorem Lay.dec_sub {l : Lay} (h : l.ok = true) {S : St} {x : l.T} (hx : l.dec S = some x) : ∃ w : View, w.ok = true ∧ (l.enc x).SubV S w := by
  obtain ⟨w, h1, h2⟩ := Lay.decs_sub hx
  simp only [Lay.ok, Bool.and_eq_true, List.all_eq_true] at h
  exact ⟨w, h.1 w h1, h2⟩

theorem lk_of_mem {n : Nat} {v : AV} : ∀ {l : List (Nat × AV)}, (n, v) ∈ l → (lk n l).isSome = true
  | [], h => by cases h
  | (m, u) :: l, h => by
    simp only [lk]
    cases hb : Nat.beq n m
    · rcases List.mem_cons.1 h with e | h
      · cases e; simp at hb
      · exact lk_of_mem h
    · rfl

/-- The keys and values that are put. -/
theorem putF_mem : ∀ (l : List (Bool × Nat × AV)) (T : St), (∀ n v, (n, v) ∈ (putF l T).env → (n, v) ∈ T.env ∨ (false, n, v) ∈ l) ∧ (∀ n v, (n, v) ∈ (putF l T).heap → (n, v) ∈ T.heap ∨ (true, n, v) ∈ l) ∧
    (∀ n v, ((n, v) ∈ T.heap ∨ (true, n, v) ∈ l) → (n, v) ∈ (putF l T).heap)
  | [], T => ⟨fun _ _ h => .inl h, fun _ _ h => .inl h, fun _ _ h => h.elim id (fun h => by cases h)⟩
  | (b, m, u) :: l, T => by
    obtain ⟨h1, h2, h3⟩ := putF_mem l (cond b ⟨T.env, (m, u) :: T.heap⟩ ⟨(m, u) :: T.env, T.heap⟩)
    cases b with
    | true =>
      refine ⟨fun n v h => ?_, fun n v h => ?_, fun n v h => ?_⟩
      · rcases h1 n v h with h | h
        · exact .inl h
        · exact .inr (List.mem_cons_of_mem _ h)
      · rcases h2 n v h with h | h
        · rcases List.mem_cons.1 h with e | h
          · cases e; exact .inr List.mem_cons_self
          · exact .inl h
        · exact .inr (List.mem_cons_of_mem _ h)
      · refine h3 n v ?_
        rcases h with h | h
        · exact .inl (List.mem_cons_of_mem _ h)
        · rcases List.mem_cons.1 h with e | h
          · cases e; exact .inl List.mem_cons_self
          · exact .inr h
    | false =>
      refine ⟨fun n v h => ?_, fun n v h => ?_, fun n v h => ?_⟩
      · rcases h1 n v h with h | h
        · rcases List.mem_cons.1 h with e | h
          · cases e; exact .inr List.mem_cons_self
          · exact .inl h
        · exact .inr (List.mem_cons_of_mem _ h)
      · rcases h2 n v h with h | h
        · exact .inl h
        · exact .inr (List.mem_cons_of_mem _ h)
      · refine h3 n v ?_
        rcases h with h | h
        · exact .inl h
        · rcases List.mem_cons.1 h with e | h
          · cases e
          · exact .inr h

theorem putL_mem : ∀ (l : List (Bool × Nat × Pat)) (x : Pat.Ts (l.map (·.2.2))) (T : St),
    (∀ n v, (n, v) ∈ (putL l (Pat.encs _ x) T).env → (n, v) ∈ T.env ∨ ∃ p, (false, n, p) ∈ l ∧ ∃ y, v = Pat.enc p y) ∧
    (∀ n v, (n, v) ∈ (putL l (Pat.encs _ x) T).heap → (n, v) ∈ T.heap ∨ ∃ b p, (b, n, p) ∈ l ∧ ∃ y, v = Pat.enc p y) ∧
    (∀ n v, (n, v) ∈ T.heap → (n, v) ∈ (putL l (Pat.encs _ x) T).heap) ∧ (∀ n p, (true, n, p) ∈ l → ∃ v, (n, v) ∈ (putL l (Pat.encs _ x) T).heap)
  | [], x, T => ⟨fun _ _ h => .inl h, fun _ _ h => .inl h, fun _ _ h => h, fun _ _ h => by cases h⟩
  | [(b, m, p)], x, T => by
    have hx : Pat.encs (([(b, m, p)] : List (Bool × Nat × Pat)).map (·.2.2)) x = [Pat.enc p x] := rfl
    rw [hx]
    simp only [putL]
    cases b with
    | true =>
      simp only [cond_true]
      refine ⟨fun n v h => .inl h, fun n v h => ?_, fun n v h => List.mem_cons_of_mem _ h, fun n q h => ?_⟩
      · rcases List.mem_cons.1 h with e | h
        · cases e; exact .inr ⟨true, p, List.mem_cons_self, x, rfl⟩
        · exact .inl h
      · rcases List.mem_cons.1 h with e | h
        · cases e; exact ⟨_, List.mem_cons_self⟩
        · cases h
    | false =>
      simp only [cond_false]
      refine ⟨fun n v h => ?_, fun n v h => .inl h, fun n v h => h, fun n q h => ?_⟩
      · rcases List.mem_cons.1 h with e | h
        · cases e; exact .inr ⟨p, List.mem_cons_self, x, rfl⟩
        · exact .inl h
      · rcases List.mem_cons.1 h with e | h
        · cases e
        · cases h
  | (b, m, p) :: q :: l, x, T => by
    have hx : Pat.encs (((b, m, p) :: q :: l : List (Bool × Nat × Pat)).map (·.2.2)) x = Pat.enc p x.1 :: Pat.encs ((q :: l).map (·.2.2)) x.2 := rfl
    rw [hx]
    simp only [putL]
    obtain ⟨h1, h2, h3, h4⟩ := putL_mem (q :: l) x.2 (cond b ⟨T.env, (m, p.enc x.1) :: T.heap⟩ ⟨(m, p.enc x.1) :: T.env, T.heap⟩)
    simp only [putL] at h1 h2 h3 h4
    cases b with
    | true =>
      simp only [cond_true] at h1 h2 h3 h4 ⊢
      refine ⟨fun n v h => ?_, fun n v h => ?_, fun n v h => h3 n v (List.mem_cons_of_mem _ h), fun n r h => ?_⟩
      · rcases h1 n v h with h | ⟨p', h, y⟩
        · exact .inl h
        · exact .inr ⟨p', List.mem_cons_of_mem _ h, y⟩
      · rcases h2 n v h with h | ⟨b', p', h, y⟩
        · rcases List.mem_cons.1 h with e | h
          · cases e; exact .inr ⟨true, p, List.mem_cons_self, x.1, rfl⟩
          · exact .inl h
        · exact .inr ⟨b', p', List.mem_cons_of_mem _ h, y⟩
      · rcases List.mem_cons.1 h with e | h
        · cases e; exact ⟨_, h3 _ _ List.mem_cons_self⟩
        · exact h4 n r h
    | false =>
      simp only [cond_false] at h1 h2 h3 h4 ⊢
      refine ⟨fun n v h => ?_, fun n v h => ?_, fun n v h => h3 n v h, fun n r h => ?_⟩
      · rcases h1 n v h with h | ⟨p', h, y⟩
        · rcases List.mem_cons.1 h with e | h
          · cases e; exact .inr ⟨p, List.mem_cons_self, x.1, rfl⟩
          · exact .inl h
        · exact .inr ⟨p', List.mem_cons_of_mem _ h, y⟩
      · rcases h2 n v h with h | ⟨b', p', h, y⟩
        · exact .inl h
        · exact .inr ⟨b', p', List.mem_cons_of_mem _ h, y⟩
      · rcases List.mem_cons.1 h with e | h
        · cases e
        · exact h4 n r h

theorem Lay.inScope {l : Lay} (h : l.ok = true) (x : l.T) : (l.enc x).inScope = true := by
  obtain ⟨f1, f2, f3⟩ := putF_mem l.fix ⟨[], []⟩
  obtain ⟨h1, h2, h3, h4⟩ := putL_mem l.var x (putF l.fix ⟨[], []⟩)
  simp only [Lay.ok, Bool.and_eq_true, List.all_eq_true] at h
  have hd : ∀ n, l.dom n = true → inDom (l.enc x).heap n = true := by
    intro n hn
    simp only [Lay.dom, Bool.or_eq_true, List.any_eq_true, Bool.and_eq_true] at hn
    rcases hn with ⟨⟨b, m, v⟩, hm, hb, he⟩ | ⟨⟨b, m, p⟩, hm, hb, he⟩
    · simp only at hb he
      subst hb
      have := Nat.eq_of_beq_eq_true he
      subst this
      exact lk_of_mem (h3 _ _ (f3 _ _ (.inr hm)))
    · simp only at hb he
      subst hb
      have := Nat.eq_of_beq_eq_true he
      subst this
      obtain ⟨v, hv⟩ := h4 _ _ hm
      exact lk_of_mem hv
  have fin : ∀ b n v, (b, n, v) ∈ l.fix → v.named (inDom (l.enc x).heap) = true := fun b n v hv => AV.named_mono hd (h.2.1 _ hv)
  have vin : ∀ b n p, (b, n, p) ∈ l.var → ∀ y, (Pat.enc p y).named (inDom (l.enc x).heap) = true := fun b n p hv y => AV.named_mono hd (Pat.enc_named p y (h.2.2 _ hv))
  unfold St.inScope
  simp only [Bool.and_eq_true, List.all_eq_true]
  refine ⟨fun ⟨n, v⟩ hv => ?_, fun ⟨n, v⟩ hv => ?_⟩
  · rcases h1 n v hv with hv | ⟨p, hp, y, rfl⟩
    · rcases f1 n v hv with hv | hv
      · cases hv
      · exact fin _ _ _ hv
    · exact vin _ _ _ hp y
  · rcases h2 n v hv with hv | ⟨b, p, hp, y, rfl⟩
    · rcases f2 n v hv with hv | hv
      · cases hv
      · exact fin _ _ _ hv
    · exact vin _ _ _ hp y

/-! ### Exits -/

@[reducible] def exT : List (Ex × Lay) → Type
  | [] => Empty
  | p :: l => match l with
    | [] => p.2.T
    | _ :: _ => Sum p.2.T (exT l)

def exEnc : (l : List (Ex × Lay)) → exT l → Ex × St
  | [], r => nomatch r
  | [p], r => (p.1, p.2.enc r)
  | p :: q :: l, r => match r with
    | .inl a => (p.1, p.2.enc a)
    | .inr b => exEnc (q :: l) b

def exElim {β : Type} : (l : List (Ex × Lay)) → exT l → (Ex → St → Option β) → Option β
  | [], r, _ => nomatch r
  | [p], r, k => k p.1 (p.2.enc r)
  | p :: q :: l, r, k => sumK r (fun a => k p.1 (p.2.enc a)) (fun b => exElim (q :: l) b k)

theorem exElim_eq {β : Type} : ∀ (l : List (Ex × Lay)) (r : exT l) (k : Ex → St → Option β), exElim l r k = k (exEnc l r).1 (exEnc l r).2
  | [], r, _ => nomatch r
  | [p], r, k => rfl
  | p :: q :: l, .inl a, k => rfl
  | p :: q :: l, .inr b, k => exElim_eq (q :: l) b k

def sameEx : Ex → Ex → Bool
  | .normal, .normal => true
  | .ret, .ret => true
  | .panic, .panic => true
  | .exit a, .exit b => Nat.beq a b
  | _, _ => false

theorem sameEx_eq {a b : Ex} (h : sameEx a b = true) : a = b := by
  cases a <;> cases b <;> first | rfl | cases h | (rw [Nat.eq_of_beq_eq_true h])

def exDec : (l : List (Ex × Lay)) → Ex → St → Option (exT l)
  | [], _, _ => none
  | [p], e, S => cond (sameEx e p.1) (p.2.dec S) none
  | p :: q :: l, e, S => cond (sameEx e p.1) ((p.2.dec S).bind fun x => some (.inl x)) ((exDec (q :: l) e S).bind fun x => some (.inr x))

def exOk : List (Ex × Lay) → Bool
  | [] => true
  | p :: l => p.2.ok && exOk l

theorem exDec_spec : ∀ (l : List (Ex × Lay)) (e : Ex) (S : St) (r : exT l), exOk l = true → exDec l e S = some r → (exEnc l r).1 = e ∧ ∃ w : View, w.ok = true ∧ (exEnc l r).2.SubV S w
  | [], _, _, r, _, _ => nomatch r
  | [p], e, S, r, hk, h => by
    simp only [exOk, Bool.and_eq_true] at hk
    simp only [exDec] at h
    cases hs : sameEx e p.1 with
    | false => rw [hs] at h; cases h
    | true =>
      rw [hs] at h
      exact ⟨(sameEx_eq hs).symm, Lay.dec_sub hk.1 h⟩
  | p :: q :: l, e, S, r, hk, h => by
    rw [exOk, Bool.and_eq_true] at hk
    simp only [exDec] at h
    cases hs : sameEx e p.1 with
    | false =>
      rw [hs] at h
      simp only [cond_false, Option.bind_eq_some_iff] at h
      obtain ⟨x, hx, h⟩ := h
      simp at h; subst h
      exact exDec_spec (q :: l) e S x hk.2 hx
    | true =>
      rw [hs] at h
      simp only [cond_true, Option.bind_eq_some_iff] at h
      obtain ⟨x, hx, h⟩ := h
      simp at h; subst h
      exact ⟨(sameEx_eq hs).symm, Lay.dec_sub hk.1 hx⟩

theorem exEnc_inScope : ∀ (l : List (Ex × Lay)) (r : exT l), exOk l = true → (exEnc l r).2.inScope = true
  | [], r, _ => nomatch r
  | [p], r, h => by
    simp only [exOk, Bool.and_eq_true] at h
    exact Lay.inScope h.1 r
  | p :: q :: l, .inl a, h => by
    simp only [exOk, Bool.and_eq_true] at h
    exact Lay.inScope h.1 a
  | p :: q :: l, .inr b, h => by
    rw [exOk, Bool.and_eq_true] at h
    exact exEnc_inScope (q :: l) b h.2

def mkL (lay : Lay) (exs : List (Ex × Lay)) (F : lay.T → Option (exT exs)) : LEntry :=
  { α := lay.T, ρ := exT exs, dec := lay.dec, F := F, enc := fun _ r => exEnc exs r, run := fun x k => (F x).bind fun r => exElim exs r k, run_eq := fun _ x k => by cases F x <;> simp [exElim_eq] }

/-- A loop that is read in two ways. -/
def orL (a b : LEntry) : LEntry where
    α := a.α ⊕ b.α
    ρ := a.ρ ⊕ b.ρ
    dec := fun S => match a.dec S with
      | some x => some (.inl x)
      | none => match b.dec S with
        | some y => some (.inr y)
        | none => none
    F := fun z => match z with
      | .inl x => (a.F x).bind fun r => some (.inl r)
      | .inr y => (b.F y).bind fun r => some (.inr r)
    enc := fun z q => match z, q with
      | .inl x, .inl r => a.enc x r
      | .inr y, .inr r => b.enc y r
      | _, _ => (.normal, ⟨[], []⟩)
    run := fun z k => match z with
      | .inl x => a.run x k
      | .inr y => b.run y k
    run_eq := fun β z k => by
      cases z with
      | inl x => simp only [a.run_eq]; cases a.F x <;> rfl
      | inr y => simp only [b.run_eq]; cases b.F y <;> rfl

theorem loop_or {cx : Cx} {w0 : Ini} {body : Code} {a b : LEntry} (ha : LoopOk cx w0 body a) (hb : LoopOk cx w0 body b) : LoopOk cx w0 body (orL a b) := by
  intro S z q act w hdec hF hr Q hQ
  simp only [orL] at hdec hF hQ z q
  cases hx : a.dec S with
  | some x =>
    rw [hx] at hdec
    simp at hdec; subst hdec
    simp only [Option.bind_eq_some_iff, Option.some.injEq] at hF
    obtain ⟨r, h1, rfl⟩ := hF
    exact ha S x r act w hx h1 hr Q hQ
  | none =>
    rw [hx] at hdec
    cases hy : b.dec S with
    | none => rw [hy] at hdec; cases hdec
    | some y =>
      rw [hy] at hdec
      simp at hdec; subst hdec
      simp only [Option.bind_eq_some_iff, Option.some.injEq] at hF
      obtain ⟨r, h1, rfl⟩ := hF
      exact hb S y r act w hy h1 hr Q hQ

def roundK (lay : Lay) (exs : List (Ex × Lay)) (e : Ex) (S : St) : Option (Sum lay.T (exT exs)) :=
  match e with
  | .normal => (lay.dec S).bind fun x => some (.inl x)
  | e => (exDec exs e S).bind fun x => some (.inr x)

theorem loop_ok {cx : Cx} {G : Ini → Prop} {w0 : Ini} (hc : CxOk cx G) (hG : G w0) (body : Code) (hl : ∀ b ∈ loopsOf body, ∀ le, cx.loops (firstReg b) = some le → LoopOk cx w0 b le)
    (lay : Lay) (exs : List (Ex × Lay)) (hok : (lay.ok && exOk exs) = true) (f : lay.T → Option (Sum lay.T (exT exs))) (n : lay.T → Nat)
    (link : ∀ x, codeK cx body (lay.enc x) (roundK lay exs) = f x) :
    LoopOk cx w0 body (mkL lay exs fun x => iter f (n x) x) := by
  simp only [Bool.and_eq_true] at hok
  intro S x r a w hdec hF hr Q hQ
  simp only [mkL] at hdec hF hQ x r
  refine wp_loop_rounds (n x) ?_
  have hr' : RelF w0 cx.N (lay.enc x).fs a w := by
    obtain ⟨v, hv, hs⟩ := Lay.dec_sub hok.1 hdec
    exact hr.view hv hs (Lay.inScope hok.1 x)
  clear hr hdec
  generalize n x = m at *
  induction m generalizing x a w with
  | zero => cases hF
  | succ m ih =>
    rw [rounds_succ]
    simp only [iter] at hF
    cases hf : f x with
    | none => rw [hf] at hF; cases hF
    | some q =>
      rw [hf] at hF
      simp only [Option.bind_some] at hF
      have h := link x
      rw [hf] at h
      refine codeK_sound hc hG body hl (lay.enc x) _ q a w h hr' _ fun e S' z a' w' h1 h2 => ?_
      have fin : ∀ e', exitR w0 cx.N e' S' z a' w' → (exDec exs e' S').bind (fun x => some (Sum.inr (α := lay.T) x)) = some q → Q z a' w' := by
        intro e' h2 h1
        simp only [Option.bind_eq_some_iff] at h1
        obtain ⟨r', hq, h1⟩ := h1
        simp at h1; subst h1
        simp at hF; subst hF
        obtain ⟨g1, v, hv, g2⟩ := exDec_spec exs e' S' r' hok.2 hq
        refine hQ z a' w' ?_
        rw [g1]
        exact h2.view hv g2 (exEnc_inScope exs r' hok.2)
      cases e with
      | normal =>
        obtain ⟨rfl, h2⟩ := h2
        simp only [roundK, Option.bind_eq_some_iff] at h1
        obtain ⟨y, hq, h1⟩ := h1
        simp at h1; subst h1
        obtain ⟨v, hv, hs⟩ := Lay.dec_sub hok.1 hq
        exact ih _ a' w' (h2.view hv hs (Lay.inScope hok.1 y)) hF
      | exit id => have h3 := h2; obtain ⟨rfl, _⟩ := h2; exact fin (.exit id) h3 h1
      | ret => have h3 := h2; obtain ⟨rfl, _⟩ := h2; exact fin .ret h3 h1
      | panic => have h3 := h2; obtain ⟨_, rfl, _⟩ := h2; exact fin .panic h3 h1

/-! ### All loops of a text -/

def LAll (cx : Cx) (w0 : Ini) (l : List Code) : Prop := ∀ b ∈ l, ∀ le, cx.loops (firstReg b) = some le → LoopOk cx w0 b le

theorem lall_nil {cx : Cx} {w0 : Ini} : LAll cx w0 [] := fun _ h => by cases h

theorem lall_cut {cx : Cx} {w0 : Ini} {b : Code} {le : LEntry} {l : List Code} (h : LoopOk cx w0 b le) (he : cx.loops (firstReg b) = some le) (ht : LAll cx w0 l) : LAll cx w0 (b :: l) := by
  intro c hc le' hle
  rcases List.mem_cons.1 hc with rfl | hc
  · rw [he] at hle; cases hle; exact h
  · exact ht c hc le' hle

theorem lall_free {cx : Cx} {w0 : Ini} {b : Code} {l : List Code} (he : cx.loops (firstReg b) = none) (ht : LAll cx w0 l) : LAll cx w0 (b :: l) := by
  intro c hc le' hle
  rcases List.mem_cons.1 hc with rfl | hc
  · rw [he] at hle; cases hle
  · exact ht c hc le' hle

theorem lall_of {cx : Cx} {w0 : Ini} {l l' : List Code} (h : LAll cx w0 l') (e : l = l') : ∀ b ∈ l, ∀ le, cx.loops (firstReg b) = some le → LoopOk cx w0 b le := by
  subst e; exact h

theorem loop_okH {cx : Cx} {G : Ini → Prop} {w0 : Ini} (hc : CxOk cx G) (hG : G w0) (body : Code) (hl : ∀ b ∈ loopsOf body, ∀ le, cx.loops (firstReg b) = some le → LoopOk cx w0 b le)
    (lay : Lay) (exs : List (Ex × Lay)) (hok : (lay.ok && exOk exs) = true) (f : lay.T → Option (Sum lay.T (exT exs))) (n : lay.T → Nat)
    (link : ∀ x, codeK cx body (lay.enc x) (roundK lay exs) = f x) (F : lay.T → Option (exT exs)) (hF : ∀ x, F x = iter f (n x) x) :
    LoopOk cx w0 body (mkL lay exs F) := by
  have : F = fun x => iter f (n x) x := funext hF
  subst this
  exact loop_ok hc hG body hl lay exs hok f n link

/-! ### Contexts -/

def tabE : List (Nat × Entry) → Nat → Option Entry
  | [], _ => none
  | (g, e) :: l, f => cond (Nat.beq f g) (some e) (tabE l f)
def tabL : List (Nat × LEntry) → Nat → Option LEntry
  | [], _ => none
  | (g, e) :: l, f => cond (Nat.beq f g) (some e) (tabL l f)
def tabK : List (Nat × List Nat × List Nat) → Nat → Option (List Nat × List Nat)
  | [], _ => none
  | (g, e) :: l, f => cond (Nat.beq f g) (some e) (tabK l f)

def tabG : List (Nat × List Ghost) → Nat → List Ghost
  | [], _ => []
  | (m, g) :: l, n => cond (Nat.beq n m) g (tabG l n)

def mkCx (P : Program) (N : Nat) (globs : List (Nat × AV)) (calls : List (Nat × Entry)) (loops : List (Nat × LEntry)) (keep : List (Nat × List Nat × List Nat)) (gh : List (Nat × List Ghost) := []) : Cx :=
  { P := P, N := N, calls := tabE calls, loops := tabL loops, keep := tabK keep, globs := fun g => lk g globs, ghost := tabG gh }

def AllOk (P : Program) (G : Ini → Prop) : List (Nat × Entry) → Prop
  | [] => True
  | (f, e) :: l => CallOk P G f e ∧ AllOk P G l

theorem tabE_ok {P : Program} {G : Ini → Prop} : ∀ {l : List (Nat × Entry)}, AllOk P G l → ∀ f e, tabE l f = some e → CallOk P G f e
  | [], _, f, e, h => by cases h
  | (g, d) :: l, ⟨h1, h2⟩, f, e, h => by
    simp only [tabE] at h
    cases hb : Nat.beq f g
    · rw [hb] at h; exact tabE_ok h2 f e h
    · rw [hb] at h
      have := Nat.eq_of_beq_eq_true hb
      simp at h; subst h; subst this; exact h1

/-- The given variables lie in memory, and they are not lent. -/
def Glob (globs : List (Nat × AV)) (b : Ini) : Prop := ∀ g v, (g, v) ∈ globs → ¬ b.L g ∧ ∃ c T fz, b.w.heap[g]? = some (.cells c T fz) ∧ v.litCells = some c.toList ∧ 0 < c.size

theorem Glob.keep {globs : List (Nat × AV)} {b : Ini} {E : Emb} {hp : Nat → Option AV} {w : World} (h : Glob globs b) (hm : Mem b E hp w) {L : Nat → Prop} {I : Nat → Nat → Option Value} {fx : Nat → Option (Nat × Option Nat × Nat)}
    (hL : ∀ g, L g → ∃ n c, hp n = some c ∧ c.live = true ∧ (E.cnt n).isSome = true ∧ E.ρ n = g ∧ froN n = false) : Glob globs ⟨w, L, I, fx, []⟩ := by
  intro g v hg
  obtain ⟨h0, c, T, fz, h1, h2, h3⟩ := h g v hg
  refine ⟨fun hl => ?_, c, T, fz, ?_, h2, h3⟩
  · obtain ⟨n, c', k1, k2, k3, k4, k5⟩ := hL g hl
    obtain ⟨_, ⟨q, _⟩ | ⟨xs, T', q1, q2, q3, q4, q5⟩⟩ := hm.rheap n c' k1 k2
    · rw [q] at k3; cases k3
    · have := hm.imm0 g c T fz h0 h1 0 _ (Array.getElem?_eq_getElem h3)
      rw [← k4, q4 false 0 (fun hf => by rw [k5] at hf; cases hf)] at this; cases this
  · show w.heap[g]? = _
    rw [hm.below.block g ?_ h0]
    · exact h1
    · rcases Nat.lt_or_ge g b.w.heap.size with h' | h'
      · exact h'
      · rw [Array.getElem?_eq_none h'] at h1; cases h1

theorem cx_ok {P : Program} {N : Nat} {globs : List (Nat × AV)} {calls : List (Nat × Entry)} {loops : List (Nat × LEntry)} {keep : List (Nat × List Nat × List Nat)} {gh : List (Nat × List Ghost)} (hm : P.follows .mixedOrders = true)
    (hg : (globs.all fun p => p.2.litCells.isSome) = true) (h : AllOk P (Glob globs) calls) : CxOk (mkCx P N globs calls loops keep gh) (Glob globs) where
  keep := fun b E hp w L I fx h hm hL => h.keep hm hL
  defs := fun b D fx h => h
  glob := fun g v hv => by
    have hmem : (g, v) ∈ globs := lk_mem hv
    simp only [List.all_eq_true] at hg
    obtain ⟨xs, hxs⟩ := Option.isSome_iff_exists.1 (hg _ hmem)
    refine ⟨lit_named hxs, lit_plain hxs, fun b hb => ?_⟩
    obtain ⟨h0, c, T, fz, h1, h2, _⟩ := hb g v hmem
    exact ⟨h0, c, T, fz, h1, fun E => litCells_rep E h2⟩
  calls := fun f e he => tabE_ok h f e he
  mixed := hm

/-! ### Functions that are lent blocks, or make some -/

def resL (n : Nat) (S : St) : List AV := (List.range n).map fun i => (S.e i).getD .undef

def Lay.hasE (l : Lay) (n : Nat) : Bool := l.fix.any (fun p => !p.1 && Nat.beq n p.2.1) || l.var.any (fun p => !p.1 && Nat.beq n p.2.1)

theorem putF_env : ∀ (l : List (Bool × Nat × AV)) (T : St) (n : Nat), ((∃ v, (n, v) ∈ T.env) ∨ ∃ v, (false, n, v) ∈ l) → ∃ v, (n, v) ∈ (putF l T).env
  | [], T, n, h => h.elim id (fun ⟨_, h⟩ => by cases h)
  | (b, m, u) :: l, T, n, h => by
    simp only [putF]
    refine putF_env l _ n ?_
    rcases h with ⟨v, h⟩ | ⟨v, h⟩
    · left; refine ⟨v, ?_⟩
      cases b
      · exact List.mem_cons_of_mem _ h
      · exact h
    · rcases List.mem_cons.1 h with e | h
      · cases e; left; exact ⟨_, List.mem_cons_self⟩
      · exact .inr ⟨v, h⟩

theorem putL_env : ∀ (l : List (Bool × Nat × Pat)) (x : Pat.Ts (l.map (·.2.2))) (T : St) (n : Nat), ((∃ v, (n, v) ∈ T.env) ∨ ∃ p, (false, n, p) ∈ l) → ∃ v, (n, v) ∈ (putL l (Pat.encs _ x) T).env
  | [], x, T, n, h => h.elim id (fun ⟨_, h⟩ => by cases h)
  | [(b, m, p)], x, T, n, h => by
    have hx : Pat.encs (([(b, m, p)] : List (Bool × Nat × Pat)).map (·.2.2)) x = [Pat.enc p x] := rfl
    rw [hx]
    simp only [putL]
    rcases h with ⟨v, h⟩ | ⟨q, h⟩
    · refine ⟨v, ?_⟩
      cases b
      · exact List.mem_cons_of_mem _ h
      · exact h
    · rcases List.mem_cons.1 h with e | h
      · cases e; exact ⟨_, List.mem_cons_self⟩
      · cases h
  | (b, m, p) :: q :: l, x, T, n, h => by
    have hx : Pat.encs (((b, m, p) :: q :: l : List (Bool × Nat × Pat)).map (·.2.2)) x = Pat.enc p x.1 :: Pat.encs ((q :: l).map (·.2.2)) x.2 := rfl
    rw [hx]
    simp only [putL]
    refine putL_env (q :: l) x.2 _ n ?_
    rcases h with ⟨v, h⟩ | ⟨r, h⟩
    · left; refine ⟨v, ?_⟩
      cases b
      · exact List.mem_cons_of_mem _ h
      · exact h
    · rcases List.mem_cons.1 h with e | h
      · cases e; left; exact ⟨_, List.mem_cons_self⟩
      · exact .inr ⟨r, h⟩

/-- Are all results there? -/
def outOk (nr : Nat) (out : Lay) : Bool :=
  out.ok && (out.fix.all (fun p => p.1 || p.2.2.plain) && (out.var.all (fun p => p.1 || p.2.2.plain) && (List.range nr).all out.hasE))

theorem resL_plain {nr : Nat} {out : Lay} (h : outOk nr out = true) (x : out.T) : ∀ v ∈ resL nr (out.enc x), v.plain = true ∧ ∃ i, i < nr ∧ (out.enc x).e i = some v := by
  simp only [outOk, Bool.and_eq_true, List.all_eq_true] at h
  obtain ⟨h0, h1, h2, h3⟩ := h
  intro v hv
  simp only [resL, List.mem_map, List.mem_range] at hv
  obtain ⟨i, hi, rfl⟩ := hv
  have hh := h3 i (by simpa using hi)
  simp only [Lay.hasE, Bool.or_eq_true, List.any_eq_true, Bool.and_eq_true, Bool.not_eq_true'] at hh
  obtain ⟨u, hu⟩ : ∃ v, (i, v) ∈ (out.enc x).env := by
    refine putL_env _ _ _ _ ?_
    rcases hh with ⟨⟨b, m, v⟩, hm, hb, he⟩ | ⟨⟨b, m, p⟩, hm, hb, he⟩
    · simp only at hb he
      subst hb
      have := Nat.eq_of_beq_eq_true he
      subst this
      exact .inl (putF_env _ _ _ (.inr ⟨v, hm⟩))
    · simp only at hb he
      subst hb
      have := Nat.eq_of_beq_eq_true he
      subst this
      exact .inr ⟨p, hm⟩
  obtain ⟨w, hw⟩ := Option.isSome_iff_exists.1 (lk_of_mem hu)
  have hwm := lk_mem hw
  have he : (out.enc x).e i = some w := hw
  refine ⟨?_, i, hi, by rw [he]; rfl⟩
  rw [he]
  simp only [Option.getD_some]
  obtain ⟨g1, _⟩ := putL_mem out.var x (putF out.fix ⟨[], []⟩)
  rcases g1 i w hwm with g | ⟨p, hp, y, rfl⟩
  · rcases (putF_mem out.fix ⟨[], []⟩).1 i w g with g | g
    · cases g
    · simpa using h1 _ g
  · exact Pat.enc_plain p y (by simpa using h2 _ hp)

/-- na: how many arguments; nr: how many results. -/
def mkB (na nr nb : Nat) (modes : List Bool) (inn out : Lay) (F : inn.T → Option out.T) : Entry :=
  { α := inn.T, ρ := out.T, nb := nb, quiet := false, modes := modes,
    dec := fun args bs => cond (Nat.beq args.length na) (inn.dec (start2 args bs)) none,
    F := F, enc := fun r => resL nr (out.enc r), out := fun r => (out.enc r).heap }

theorem resL_get {nr i : Nat} {S : St} {v : AV} (h : (resL nr S)[i]? = some v) : i < nr ∧ v = (S.e i).getD .undef := by
  simp only [resL, List.getElem?_map] at h
  rcases Nat.lt_or_ge i nr with hi | hi
  · rw [List.getElem?_range hi] at h
    simp at h; exact ⟨hi, h.symm⟩
  · rw [List.getElem?_eq_none (by simpa using hi)] at h; cases h

theorem fun_okB {cx : Cx} {G : Ini → Prop} (hc : CxOk cx G) {f : Nat} {fn : Func} (hfn : cx.P.funcs[f]? = some fn) (hb : fn.body.isSome = true) (hN : fn.ntmps = cx.N) (hcall : ∀ args w, (callFunc f args).run cx.P w = .ok (.enter f args) w)
    (na nr nb : Nat) (modes : List Bool) (inn out : Lay) (F : inn.T → Option out.T) (hnum : (Nat.ble na cx.N && Nat.ble nb 1000 && Nat.beq nr fn.results.size) = true) (hin : inn.ok = true) (hout : outOk nr out = true)
    (hl : ∀ w0, G w0 → ∀ b ∈ loopsOf (bodyOf fn), ∀ le, cx.loops (firstReg b) = some le → LoopOk cx w0 b le)
    (link : ∀ x, codeK cx (bodyOf fn) (inn.enc x) (finK cx fn.results.toList out.dec fun _ => none) = F x) : CallOk cx.P G f (mkB na nr nb modes inn out F) := by
  simp only [Bool.and_eq_true] at hnum
  have hok : out.ok = true := by simp only [outOk, Bool.and_eq_true] at hout; exact hout.1
  refine fun_sound hc hfn hb hN hcall (mkB na nr nb modes inn out F) (fun h => by cases h) (Nat.le_of_ble_eq_true hnum.1.2) inn.enc (fun args bs x hbs hx => ?_) out.dec (fun _ => none) (fun S l r hr => ⟨rfl, ?_⟩) (fun _ _ _ h => by cases h) (fun r => ?_) (fun r v hv => (resL_plain hout r v hv).1) hl link
  · have hx : cond (Nat.beq args.length na) (inn.dec (start2 args bs)) none = some x := hx
    obtain ⟨h1, h2⟩ := cond_some hx
    have h1 := Nat.eq_of_beq_eq_true h1
    obtain ⟨v, hv, hs⟩ := Lay.dec_sub hin h2
    exact ⟨by rw [h1]; exact Nat.le_of_ble_eq_true hnum.1.1, v, hv, hs, Lay.inScope hin x⟩
  · obtain ⟨v, hv, hs⟩ := Lay.dec_sub hok hr
    have hsc := Lay.inScope hok r
    have key : ∀ n u, (outS (mkB na nr nb modes inn out F) r).e n = some u → (out.enc r).e n = some u := fun n u hu => by
      have hu' : (resL nr (out.enc r))[n]? = some u := by rw [← hu]; exact lk_range.symm
      obtain ⟨hn, he⟩ := resL_get hu'
      obtain ⟨hp, i, _, hi⟩ := resL_plain hout r u (List.mem_of_getElem? hu')
      cases hq : (out.enc r).e n with
      | none => rw [hq] at he; simp at he; subst he; cases hp
      | some u' => rw [hq] at he; simp at he; rw [he]
    refine ⟨v, hv, ⟨fun n u hu => hs.1 n u (key n u hu), fun n u hu => hs.2 n u hu⟩, ?_⟩
    unfold St.inScope at hsc ⊢
    simp only [Bool.and_eq_true, List.all_eq_true] at hsc ⊢
    refine ⟨fun ⟨n, u⟩ hp => ?_, hsc.2⟩
    obtain ⟨_, h2⟩ := List.of_mem_zip hp
    obtain ⟨_, i, _, hi⟩ := resL_plain hout r u h2
    exact hsc.1 (i, u) (lk_mem (show lk i (out.enc r).env = some u from hi))
  · show (resL nr (out.enc r)).length = _
    simp only [resL, List.length_map, List.length_range]
    exact Nat.eq_of_beq_eq_true hnum.2

/-- The same where the call may panic: outP tells what lies there then. -/
def mkP (na nr nb : Nat) (modes : List Bool) (inn out outP : Lay) (F : inn.T → Option (Sum out.T outP.T)) : Entry :=
  { α := inn.T, ρ := Sum out.T outP.T, nb := nb, quiet := false, modes := modes,
    dec := fun args bs => cond (Nat.beq args.length na) (inn.dec (start2 args bs)) none,
    F := F, enc := fun r => sumK r (fun r => resL nr (out.enc r)) (fun r => resL 1 (outP.enc r)), out := fun r => sumK r (fun r => (out.enc r).heap) (fun r => (outP.enc r).heap),
    pans := true, pan := fun r => sumK r (fun _ => false) (fun _ => true),
    elim := fun r k => sumK r (fun x => k (.inl x)) (fun y => k (.inr y)), elim_eq := fun r k => by cases r <;> rfl }

theorem resL_out {nr : Nat} {out : Lay} (hout : outOk nr out = true) {S : St} {l : List AV} {r : out.T} (hr : out.dec (S.res l) = some r) :
    ∃ v : View, v.ok = true ∧ (⟨(List.range (resL nr (out.enc r)).length).zip (resL nr (out.enc r)), (out.enc r).heap⟩ : St).SubV (S.res l) v ∧ (⟨(List.range (resL nr (out.enc r)).length).zip (resL nr (out.enc r)), (out.enc r).heap⟩ : St).inScope = true := by
  have hok : out.ok = true := by simp only [outOk, Bool.and_eq_true] at hout; exact hout.1
  obtain ⟨v, hv, hs⟩ := Lay.dec_sub hok hr
  have hsc := Lay.inScope hok r
  have key : ∀ n u, (⟨(List.range (resL nr (out.enc r)).length).zip (resL nr (out.enc r)), (out.enc r).heap⟩ : St).e n = some u → (out.enc r).e n = some u := fun n u hu => by
    have hu' : (resL nr (out.enc r))[n]? = some u := by rw [← hu]; exact lk_range.symm
    obtain ⟨hn, he⟩ := resL_get hu'
    obtain ⟨hp, i, _, hi⟩ := resL_plain hout r u (List.mem_of_getElem? hu')
    cases hq : (out.enc r).e n with
    | none => rw [hq] at he; simp at he; subst he; cases hp
    | some u' => rw [hq] at he; simp at he; rw [he]
  refine ⟨v, hv, ⟨fun n u hu => hs.1 n u (key n u hu), fun n u hu => hs.2 n u hu⟩, ?_⟩
  unfold St.inScope at hsc ⊢
  simp only [Bool.and_eq_true, List.all_eq_true] at hsc ⊢
  refine ⟨fun ⟨n, u⟩ hp => ?_, hsc.2⟩
  obtain ⟨_, h2⟩ := List.of_mem_zip hp
  obtain ⟨_, i, _, hi⟩ := resL_plain hout r u h2
  exact hsc.1 (i, u) (lk_mem (show lk i (out.enc r).env = some u from hi))

theorem fun_okP {cx : Cx} {G : Ini → Prop} (hc : CxOk cx G) {f : Nat} {fn : Func} (hfn : cx.P.funcs[f]? = some fn) (hb : fn.body.isSome = true) (hN : fn.ntmps = cx.N) (hcall : ∀ args w, (callFunc f args).run cx.P w = .ok (.enter f args) w)
    (na nr nb : Nat) (modes : List Bool) (inn out outP : Lay) (F : inn.T → Option (Sum out.T outP.T)) (hnum : (Nat.ble na cx.N && Nat.ble nb 1000 && Nat.beq nr fn.results.size) = true) (hin : inn.ok = true) (hout : outOk nr out = true) (houtP : outOk 1 outP = true)
    (hl : ∀ w0, G w0 → ∀ b ∈ loopsOf (bodyOf fn), ∀ le, cx.loops (firstReg b) = some le → LoopOk cx w0 b le)
    (link : ∀ x, codeK cx (bodyOf fn) (inn.enc x) (finK cx fn.results.toList (fun S => (out.dec S).bind fun x => some (.inl x)) fun S => (outP.dec S).bind fun x => some (.inr x)) = F x) : CallOk cx.P G f (mkP na nr nb modes inn out outP F) := by
  simp only [Bool.and_eq_true] at hnum
  refine fun_sound hc hfn hb hN hcall (mkP na nr nb modes inn out outP F) (fun h => by cases h) (Nat.le_of_ble_eq_true hnum.1.2) inn.enc (fun args bs x hbs hx => ?_) (fun S => (out.dec S).bind fun x => some (.inl x)) (fun S => (outP.dec S).bind fun x => some (.inr x)) (fun S l r hr => ?_) (fun S l r hr => ?_) (fun r => ?_) (fun r v hv => ?_) hl link
  · have hx : cond (Nat.beq args.length na) (inn.dec (start2 args bs)) none = some x := hx
    obtain ⟨h1, h2⟩ := cond_some hx
    have h1 := Nat.eq_of_beq_eq_true h1
    obtain ⟨v, hv, hs⟩ := Lay.dec_sub hin h2
    exact ⟨by rw [h1]; exact Nat.le_of_ble_eq_true hnum.1.1, v, hv, hs, Lay.inScope hin x⟩
  · obtain ⟨y, h1, h2⟩ := Option.bind_eq_some_iff.1 hr
    obtain rfl := Option.some.inj h2
    exact ⟨rfl, resL_out hout h1⟩
  · obtain ⟨y, h1, h2⟩ := Option.bind_eq_some_iff.1 hr
    obtain rfl := Option.some.inj h2
    exact ⟨rfl, resL_out houtP h1⟩
  · cases r with
    | inl r =>
      show (resL nr (out.enc r)).length = _
      simp only [resL, List.length_map, List.length_range]
      exact Nat.eq_of_beq_eq_true hnum.2
    | inr r => rfl
  · cases r with
    | inl r => exact (resL_plain hout r v hv).1
    | inr r => exact (resL_plain houtP r v hv).1
end
end Go.Sy
