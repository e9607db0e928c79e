/- Go's library by its contracts. -/
import Derived.Test.YtapnedegcnmhgaaDoorSyVlib
import Derived.Test.YtapnedegcnmhgaaDoorSyKf
import Derived.Test.YtapnedegcnmhgaaDoorSyWshelf
set_option linter.unusedVariables false
namespace Go.Sy
open Go Go.RowKit Go.Proofs
theorem below_mem {E : Emb} {w w' : World} (h : Mem (iniOf E 0 w) E (hpOf []) w) (hb : Below w.heap.size w w') : Mem (iniOf E 0 w) E (fun n => lk n []) w' where
 rheap := fun n c h => by simp [lk] at h
 inj := fun n m c c' h => by simp [lk] at h
 imm := fun f g j v hv => by
  obtain ⟨c, T, fz, h1, h2⟩ := h.imm f g j v hv
  exact ⟨c, T, fz, by rw [hb.block g (h.imlt hv)]; exact h1, h2⟩
 imle := h.imle
 pers := h.pers
 new := h.new
 imm0 := h.imm0
 below := ⟨hb.os, hb.tape, hb.output, hb.size, fun k hk _ => hb.block k hk⟩
 shp := fun n c h => by simp [lk] at h
 fixed := h.fixed
 gone := fun n k h => by simp [lk] at h
 newn := fun n c h => by simp [lk] at h
theorem lib_ok {P : Program} {G : Ini → Prop} {f : Nat} {ps rs : List Pat} {F : Pat.Ts ps → Option (Pat.Ts rs)} (hent : ∀ args w, (callFunc f args).run P w = .ok (.enter f args) w)
  (h : ∀ (w : World) (E : Emb) (a : Pat.Ts ps) (r : Pat.Ts rs) (vals : Array Value), G (iniOf E 0 w) → Mem (iniOf E 0 w) E (hpOf []) w → F a = some r → Rep1s E (Pat.encs ps a) vals.toList →
   ∃ v, Calls P f vals w (fun e w' => e = .returned v ∧ Below w.heap.size w w') ∧ Rep E (one (Pat.encs rs r)) v ∧ (one (Pat.encs rs r)).named (fun _ => false) = true) : CallOk P G f (mkE ps rs F) := by
 refine ⟨fun _ => ⟨rfl, fun _ => rfl⟩, fun w E a r args bs vals hG hM hbl hlive hd hF hr hnam => ?_⟩
 have hbs : bs = [] := List.length_eq_zero_iff.1 hbl
 subst hbs
 have ha : args = Pat.encs ps a := Pat.decs_encs _ _ _ hd
 subst ha
 obtain ⟨v, h1, h2, h3⟩ := h w E a r vals hG hM hF hr
 refine .inl ⟨hent vals w, h1.mono fun e w' ⟨he, hb⟩ => ⟨v, he, E, below_mem hM hb, fun j hj => absurd hj (Nat.not_lt_zero j), h2, nameds_none h3⟩⟩
theorem RcL_str {E : Emb} : ∀ {l : List (List UInt8)} {ys : List Value}, RcL E (.d .str) l ys → ys = l.map fun x => Value.string ⟨x.toArray⟩
 | [], ys, h => h
 | x :: l, ys, ⟨a, b, e, h1, h2⟩ => by
  simp only [Rc, DSh.toD, RcD] at h1
  subst h1
  rw [e, RcL_str h2]; rfl
theorem strs_back (l : List (List UInt8)) : (l.map fun x => (⟨x.toArray⟩ : ByteArray)).map (·.data.toList) = l := by
 rw [List.map_map]
 have : ((fun x : ByteArray => x.data.toList) ∘ fun x : List UInt8 => (⟨x.toArray⟩ : ByteArray)) = id := by funext x; simp
 rw [this, List.map_id]
noncomputable def goJoinE : Entry := mkE [.isl false (.d .str), .str] [.str] fun p => goJoin p.1 p.2
noncomputable def goItoaE : Entry := mkE [.int .i64] [.str] fun p => goItoa p
theorem goJoinK : CallOk Tryd.prog (Glob []) 56 goJoinE := by
 refine lib_ok (P := Tryd.prog) Tryd.call56 fun w E a r vals hG hM hF hr => ?_
 obtain ⟨l, sep⟩ := a
 obtain ⟨x, ys, e1, _, h1, y, zs, e2, _, h2, e3⟩ := hr
 have e3 : zs = [] := e3
 subst e3; subst e2
 simp only [Pat.enc] at h1 h2
 have h2c := h2.2.2 rfl
 have h2s := h2.1
 rw [h2c] at h2s
 simp only [RepC, List.cons.injEq, and_true] at h2s
 have h1c := h1.2.2 rfl
 have h1s := h1.1
 rw [h1c] at h1s
 simp only [RepC] at h1s
 obtain ⟨x', ys', e4, hl, a, len, cap, e5, e6, e7, e8⟩ := h1s
 have e4 : x = x' := by simpa using e4
 subst e4; subst e5; subst e6
 have hys := RcL_str hl
 subst hys
 simp only [goJoin_eq] at hF
 obtain ⟨hb, hF⟩ := cond_some hF
 have hF := Option.some.inj hF
 simp only [Bool.and_eq_true] at hb
 have hb1 := Nat.le_of_ble_eq_true hb.1
 have hb2 := Nat.le_of_ble_eq_true hb.2
 have hv : vals = #[.slice a l.length cap, .string ⟨sep.toArray⟩] := by
  apply Array.ext'
  rw [e1, h2s]
 subst hv
 refine ⟨.string ⟨r.toArray⟩, ?_, (Rep.one rfl).2 ⟨rfl, (fun h => by cases h), fun _ => rfl⟩, rfl⟩
 subst hF
 match l, a, e8, hl with
 | [], a, _, _ => exact (Tryd.strings_Join_none a cap ⟨sep.toArray⟩ w).mono fun e w' ⟨he, hw⟩ => ⟨he, hw ▸ Below.refl _ _⟩
 | x :: l, none, e8, _ =>
  have e8 : cap = 0 := e8
  simp at e7; omega
 | x :: l, some ad, e8, _ =>
  have e8 := e8.resolve_left (by simp)
  obtain ⟨bk, o, sp⟩ := ad
  have hsp : sp = none := e8.1
  subst hsp
  have h0 := e8.2 0 _ rfl
  have hlt : bk < w.heap.size := hM.imlt h0
  have := Tryd.strings_Join bk o cap ((x :: l).map fun x => (⟨x.toArray⟩ : ByteArray)) ⟨sep.toArray⟩ w (fun j z hz => ?_) hlt (by simpa using hb1) (by simpa using e7) (by rw [strs_back]; exact hb2)
  ·rw [strs_back, List.length_map] at this
   exact this
  ·have hz' : ((x :: l).map fun x => Value.string ⟨x.toArray⟩)[j]? = some (.string z) := by
    rw [List.getElem?_map] at hz ⊢
    cases hq : (x :: l)[j]? with
    | none => rw [hq] at hz; cases hz
    | some q =>
     rw [hq] at hz
     simp only [Option.map_some, Option.some.injEq] at hz ⊢
     rw [hz]
   have := e8.2 j _ hz'
   obtain ⟨c, T, fz, g1, g2⟩ := hM.imm _ _ _ _ this
   unfold World.cell?
   simp only [g1, g2]
   rfl
theorem goItoaK : CallOk Tryd.prog (Glob [(5, .arr (.int .u64) 20 pow10T)]) 135 goItoaE := by
 refine lib_ok (P := Tryd.prog) Tryd.call135 fun w E a r vals hG hM hF hr => ?_
 obtain ⟨x, ys, e1, _, h1, e3⟩ := hr
 have e3 : ys = [] := e3
 subst e3
 simp only [Pat.enc] at h1
 have h1 := Rep1.int.1 h1
 subst h1
 simp only [goItoa_eq] at hF
 obtain ⟨hb, hF⟩ := cond_some hF
 have hF := Option.some.inj hF
 simp only [Bool.and_eq_true, decide_eq_true_eq] at hb
 have hv : vals = #[.int .i64 a] := Array.ext' e1
 subst hv
 refine ⟨.string ⟨r.toArray⟩, ?_, (Rep.one rfl).2 ⟨rfl, (fun h => by cases h), fun _ => rfl⟩, rfl⟩
 subst hF
 refine (Tryd.strconv_Itoa a hb.1 hb.2 w ?_).mono fun e w' ⟨he, k, os, hw⟩ => ⟨he, ?_⟩
 ·obtain ⟨_, c, T, fz, g1, g2, _⟩ := hG 5 _ (List.mem_singleton.2 rfl)
  have hg : Tryd.prog.globalNamed "internal/strconv.uint64pow10" = some 5 := by kernel_rfl
  have g1 : w.heap[5]? = some (.cells c T fz) := g1
  unfold Lib.TabIs World.var?
  rw [hg]
  simp only [Option.bind_some, g1, Option.some.injEq]
  have g3 : c.toList = pow10T.map (.int .u64) := by
   simp only [AV.litCells] at g2
   rw [if_pos (by decide)] at g2
   exact (Option.some.inj g2).symm
  have g4 : Lib.pow10Tab = pow10T := by decide
  rw [g4, ← g3]
 ·subst hw
  refine ⟨rfl, rfl, rfl, ?_, fun i hi => ?_⟩
  ·show w.heap.size ≤ ((w.drewN k).heap ++ os).size
   rw [Array.size_append]; exact Nat.le_add_right _ _
  ·show ((w.drewN k).heap ++ os)[i]? = _
   rw [Array.getElem?_append_left (show i < (w.drewN k).heap.size from hi)]
   rfl
end Go.Sy
