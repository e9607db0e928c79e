/- Math/bits' carries, the field's table: typed, and their contracts. -/
import Derived.Test.YtapnedegcnmhgaaDoorSyT
import Derived.Laws.Externs
namespace Go.Sy
open Go Go.RowKit

noncomputable def bitsAdd64E : Entry := mkE [.int .u64, .int .u64, .int .u64] [.int .u64, .int .u64] fun p => bitsAdd64 p.1 p.2.1 p.2.2
noncomputable def bitsSub64E : Entry := mkE [.int .u64, .int .u64, .int .u64] [.int .u64, .int .u64] fun p => bitsSub64 p.1 p.2.1 p.2.2

/-- What the model does at math/bits.Sub64. -/
def sub64Run : Array Value → Sem Value := fun args => do
  let (x, y, b) ← Extern.MathBitsCarry.three "Sub64" args
  pure (Extern.MathBitsCarry.pair ((x + Extern.MathBitsCarry.m64 - y - b) % Extern.MathBitsCarry.m64) (if x < y + b then 1 else 0))

theorem three_args {k1 k2 k3 : IntKind} {E : Emb} {args : List AV} {vals : Array Value} {p : Pat.Ts [.int k1, .int k2, .int k3]} (hd : Pat.decs [.int k1, .int k2, .int k3] args = some p) (h : Rep1s E args vals.toList) :
    vals = #[.int k1 p.1, .int k2 p.2.1, .int k3 p.2.2] := by
  have ha := Pat.decs_encs _ _ _ hd
  subst ha
  obtain ⟨x, _, e1, _, h1, y, _, e2, _, h2, z, _, e3, _, h3, e4⟩ := h
  have e4 : _ = [] := e4
  subst e4; subst e3; subst e2
  have h1 := Rep1.int.1 h1
  have h2 := Rep1.int.1 h2
  have h3 := Rep1.int.1 h3
  subst h1; subst h2; subst h3
  apply Array.ext'
  simpa using e1

theorem pair_rep {E : Emb} {k1 k2 : IntKind} {a b : Int} : Rep E (one (Pat.encs [.int k1, .int k2] (a, b))) (.tuple #[.int k1 a, .int k2 b]) := by
  refine ⟨_, rfl, _, _, rfl, rfl, Rep1.int.2 rfl, _, _, rfl, rfl, Rep1.int.2 rfl, rfl⟩

theorem ext_ok {P : Program} {G : Ini → Prop} {f : Nat} {fn : Func} {e : Array Value → Sem Value} (hf : P.funcs[f]? = some fn) (hname : (fn.name == "runtime.NumGoroutine") = false) (hb : fn.body.isNone = true) (hn : Extern.findNext fn = none) (he : Extern.find fn = some e)
    {ps rs : List Pat} {F : Pat.Ts ps → Option (Pat.Ts rs)} (h : ∀ (w : World) (E : Emb) (a : Pat.Ts ps) (r : Pat.Ts rs) (args : List AV) (vals : Array Value), Pat.decs ps args = some a → F a = some r → Rep1s E args vals.toList →
      ∃ v, (e vals).run P w = .ok v w ∧ Rep E (one (Pat.encs rs r)) v ∧ (one (Pat.encs rs r)).named (fun _ => false) = true) : CallOk P G f (mkE ps rs F) := by
  refine ⟨fun _ => ⟨rfl, fun _ => rfl⟩, fun w E a r args bs vals hG hM hbl hlive hd hF hr hnam => ?_⟩
  obtain ⟨v, h1, h2, h3⟩ := h w E a r args vals hd hF hr
  have hbs : bs = [] := List.length_eq_zero_iff.1 hbl
  subst hbs
  refine .inr ⟨rfl, v, w, ?_, E, hM, fun j hj => absurd hj (Nat.not_lt_zero j), h2, nameds_none h3⟩
  rw [run_callFunc_extern hf hname hb hn he, h1]
  rfl

theorem run_add64c {P : Program} (x y c : Int) (h : c.toNat ≤ 1) (w : World) : (add64Entry #[.int .u64 x, .int .u64 y, .int .u64 c]).run P w =
    .ok (.tuple #[.int .u64 (((x.toNat + y.toNat + c.toNat) % 18446744073709551616 : Nat) : Int), .int .u64 (((x.toNat + y.toNat + c.toNat) / 18446744073709551616 : Nat) : Int)]) w := by
  cases c with
  | ofNat n =>
    have : n = 0 ∨ n = 1 := by simp at h; omega
    rcases this with rfl | rfl <;> rfl
  | negSucc n => rfl

theorem run_sub64c {P : Program} (x y c : Int) (h : c.toNat ≤ 1) (w : World) : (sub64Run #[.int .u64 x, .int .u64 y, .int .u64 c]).run P w =
    .ok (.tuple #[.int .u64 (((x.toNat + 18446744073709551616 - y.toNat - c.toNat) % 18446744073709551616 : Nat) : Int), .int .u64 ((if x.toNat < y.toNat + c.toNat then 1 else 0 : Nat) : Int)]) w := by
  cases c with
  | ofNat n =>
    have : n = 0 ∨ n = 1 := by simp at h; omega
    rcases this with rfl | rfl <;> rfl
  | negSucc n => rfl

theorem bitsAdd64_ok {P : Program} {G : Ini → Prop} {f : Nat} {fn : Func} (hf : P.funcs[f]? = some fn) (hname : (fn.name == "runtime.NumGoroutine") = false) (hb : fn.body.isNone = true) (hn : Extern.findNext fn = none) (he : Extern.find fn = some add64Entry) : CallOk P G f bitsAdd64E := by
  refine ext_ok hf hname hb hn he fun w E a r args vals hd hF hr => ?_
  obtain ⟨x, y, c⟩ := a
  have hv := three_args hd hr
  subst hv
  simp only [bitsAdd64, hide_eq] at hF
  obtain ⟨h1, hF⟩ := cond_some hF
  have hF := Option.some.inj hF
  subst hF
  exact ⟨_, run_add64c x y c (by simpa using h1) w, pair_rep, rfl⟩

theorem bitsSub64_ok {P : Program} {G : Ini → Prop} {f : Nat} {fn : Func} (hf : P.funcs[f]? = some fn) (hname : (fn.name == "runtime.NumGoroutine") = false) (hb : fn.body.isNone = true) (hn : Extern.findNext fn = none) (he : Extern.find fn = some sub64Run) : CallOk P G f bitsSub64E := by
  refine ext_ok hf hname hb hn he fun w E a r args vals hd hF hr => ?_
  obtain ⟨x, y, c⟩ := a
  have hv := three_args hd hr
  subst hv
  simp only [bitsSub64, hide_eq] at hF
  obtain ⟨h1, hF⟩ := cond_some hF
  have hF := Option.some.inj hF
  subst hF
  exact ⟨_, run_sub64c x y c (by simpa using h1) w, pair_rep, rfl⟩

/-- With more laid variables than it needs. -/
theorem CallOk.up {P : Program} {l m : List (Nat × AV)} {f : Nat} {e : Entry} (h : CallOk P (Glob l) f e) (hs : ∀ x ∈ l, x ∈ m) : CallOk P (Glob m) f e :=
  ⟨h.1, fun w E a r args bs vals hG => h.2 w E a r args bs vals fun g v hg => hG g v (hs _ hg)⟩
end Go.Sy
