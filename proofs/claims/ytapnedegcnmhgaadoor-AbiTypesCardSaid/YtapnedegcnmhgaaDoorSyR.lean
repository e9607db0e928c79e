/- Control, loops, functions: what a call answers is what the symbolic reading says. -/
import Derived.Test.YtapnedegcnmhgaaDoorSyQa
set_option linter.unusedVariables false
set_option linter.unusedSimpArgs false
namespace Go.Sy
open Go Go.RowKit
noncomputable section


theorem put_fs (S : St) (d : Option Nat) (v : AV) (δ : List (Nat × AV)) : (S.put d v δ).fs = S.fs.put d v δ := by
  refine FS.ext' ?_ ?_
  · funext n
    cases d <;> rfl
  · funext n
    simp only [St.fs, St.put, St.h, FS.put, updH]
    rw [lk_append]
    cases lk n δ <;> rfl

theorem lit_fs {S : St} {d : Nat} {b : Bool} (h : S.e d = some (.bool b)) : (S.lit d b).fs = S.fs := by
  refine FS.ext' ?_ rfl
  funext n
  simp only [St.fs, St.lit, St.e, lk]
  cases hn : Nat.beq n d
  · rfl
  · have := Nat.eq_of_beq_eq_true hn
    subst this
    exact h.symm

def Ex.to : Ex → Exit
  | .normal => .normal
  | .exit id => .exit id
  | .ret => .ret
  | .panic => .normal

/-- How a piece of code is left, in the model and in the reading. -/
def exitR (w0 : Ini) (N : Nat) (e : Ex) (S : St) (x : Exit) (a : Act) (w : World) : Prop :=
  match e with
  | .panic => ∃ y, x = .panic [{ v := y, recovered := false }] ∧ RelF w0 (N + 1) S.fs { a with tmps := a.tmps.push y } w
  | e => x = e.to ∧ RelF w0 N S.fs a w

section
variable {cx : Cx} {G : Ini → Prop} {w0 : Ini} {N : Nat} {all : Array Oper} {gd : Option (Nat → Option AV)}

theorem opsK_run {β : Type} (hgd : gd.isNone = false) : ∀ (l : List Oper) (S : St) (k kp : St → Option β) (r : β), opsK cx gd all l S k kp = some r → ∃ S', k S' = some r ∧ runF cx gd all l S.fs = some S'.fs
  | [], S, k, kp, r, h => ⟨S, h, rfl⟩
  | o :: l, S, k, kp, r, h => by
    simp only [opsK, hgd, Bool.false_and, Bool.false_eq_true, if_false] at h
    split at h
    · rename_i hd
      have run : ∀ T : St, T.fs = S.fs → guardOf all S.e o = some true → (opK cx o T.e T.h fun v δ => if callC cx all gd o T.e δ then opsK cx gd all l (T.put o.dst v δ) k kp else none) = some r →
          ∃ S', k S' = some r ∧ runF cx gd all (o :: l) S.fs = some S'.fs := by
        intro T hT hg h
        rw [opK_eq] at h
        cases hf : opF cx o T.e T.h with
        | none => rw [hf] at h; cases h
        | some p =>
          rw [hf] at h
          simp only [Option.bind_some] at h
          split at h
          case isFalse => cases h
          rename_i hcc
          obtain ⟨S', h1, h2⟩ := opsK_run hgd l _ k kp r h
          refine ⟨S', h1, ?_⟩
          have hg' : guardOf all S.fs.e o = some true := hg
          rw [← hT] at hg' ⊢
          have hf' : opF cx o T.fs.e T.fs.h = some p := hf
          have hcc' : callC cx all gd o T.fs.e p.2 = true := hcc
          simp only [runF, stepF, hd, if_true, hg', hf', Option.bind_some, hcc']
          rw [← put_fs]; exact h2
      have skip : ∀ T : St, T.fs = S.fs → guardOf all S.e o = some false → opsK cx gd all l (T.put o.dst (.tup []) []) k kp = some r →
          ∃ S', k S' = some r ∧ runF cx gd all (o :: l) S.fs = some S'.fs := by
        intro T hT hg h
        obtain ⟨S', h1, h2⟩ := opsK_run hgd l _ k kp r h
        refine ⟨S', h1, ?_⟩
        have hg' : guardOf all S.fs.e o = some false := hg
        rw [← hT] at hg' ⊢
        simp only [runF, stepF, hd, if_true, hg', Option.bind_some]
        rw [← put_fs]; exact h2
      split at h
      · rename_i hn
        exact run S rfl (by simp [guardOf, hn]) h
      · rename_i gd d want hgd hat
        split at h
        · rename_i b hb
          have hj : (all[gd.1]?).bind (·.dst) = some d := by
            unfold guardAt at hat
            rw [hgd] at hat
            simp only at hat
            split at hat
            · rename_i hd'
              simp at hat
              rw [← hat.1]; exact hd'
            · cases hat
          have hw : gd.2 = want := by
            unfold guardAt at hat
            rw [hgd] at hat
            simp only at hat
            split at hat
            · simp at hat; exact hat.2
            · cases hat
          have hgo : guardOf all S.e o = some (b == want) := by
            unfold guardOf
            rw [hgd]
            simp only
            rw [hj]
            simp only [Option.bind_some]
            rw [hb, hw]
          cases b with
          | true =>
            simp only [cond_true] at h
            cases want with
            | true => rw [if_pos rfl] at h; exact run _ (lit_fs hb) hgo h
            | false => rw [if_neg (by decide)] at h; exact skip _ (lit_fs hb) hgo h
          | false =>
            simp only [cond_false] at h
            cases want with
            | true => rw [if_pos rfl] at h; exact skip _ (lit_fs hb) hgo h
            | false => rw [if_neg (by decide)] at h; exact run _ (lit_fs hb) hgo h
        · rename_i hb
          have hj : (all[gd.1]?).bind (·.dst) = some d := by
            unfold guardAt at hat
            rw [hgd] at hat
            simp only at hat
            split at hat
            · rename_i hd'
              simp at hat
              rw [← hat.1]; exact hd'
            · cases hat
          have hgo : guardOf all S.e o = some false := by
            unfold guardOf
            rw [hgd]
            simp only
            rw [hj]
            simp only [Option.bind_some]
            rw [hb]
          exact skip S rfl hgo h
        · cases h
      · cases h
    · cases h

theorem Rel.panics {E : Emb} {S : St} {a : Act} {w : World} {v : AV} {x : Value} {δ : List (Nat × AV)} (h : Rel w0 E N S.e (updH S.h δ) a w) (hv : Rep E v x) (hn : v.named (fun n => (updH S.h δ n).isSome) = true) :
    Rel w0 E (N + 1) (⟨(N, v) :: S.env, δ ++ S.heap⟩ : St).e (⟨(N, v) :: S.env, δ ++ S.heap⟩ : St).h { a with tmps := a.tmps.push x } w := by
  have hh : (⟨(N, v) :: S.env, δ ++ S.heap⟩ : St).h = updH S.h δ := by
    funext n
    simp only [St.h, updH]
    rw [lk_append]
    cases lk n δ <;> rfl
  rw [hh]
  have he : ∀ n, n ≠ N → (⟨(N, v) :: S.env, δ ++ S.heap⟩ : St).e n = S.e n := fun n hn => by simp only [St.e, lk, beq_no hn, cond_false]
  have hN : (⟨(N, v) :: S.env, δ ++ S.heap⟩ : St).e N = some v := by simp only [St.e, lk, Nat.beq_refl, cond_true]
  refine { h.toMem with size := by simp [h.size], defers := h.defers, renv := fun s u hs => ?_, senv := fun s u hs => ?_ }
  · by_cases hsn : s = N
    · subst hsn
      rw [hN] at hs; cases hs
      exact ⟨x, by simp [← h.size], hv⟩
    · rw [he s hsn] at hs
      obtain ⟨y, h1, h2⟩ := h.renv s u hs
      refine ⟨y, ?_, h2⟩
      simp only [Array.getElem?_push, h.size, if_neg hsn]
      exact h1
  · by_cases hsn : s = N
    · subst hsn
      rw [hN] at hs; cases hs
      exact hn
    · rw [he s hsn] at hs
      exact h.senv s u hs

theorem opP_sound {β : Type} (hc : CxOk cx G) (hG : G w0) {E : Emb} {env hp : Nat → Option AV} {a : Act} {w : World} {o : Oper} (h : Rel w0 E N env hp a w) {k kp : AV → List (Nat × AV) → Option β} {r : β} (hf : opP cx o env hp k kp = some r) :
    ∃ b v δ, GoodB cx.P o w0 N env hp b v δ a w ∧ cond b (kp v δ) (k v δ) = some r := by
  unfold opP at hf
  split at hf
  · rename_i x hop
    split at hf
    · rename_i t v hv
      obtain ⟨h1, h2⟩ := ev_plain hc hG h hv rfl
      refine ⟨true, .ifc t v, [], fun next Q K => ?_, hf⟩
      have h3 := h1.cells1 rfl
      simp only [RepC] at h3
      obtain ⟨y, e, _⟩ := h3
      simp at e
      have hrun : (execOp a.eval o).run cx.P w = .halt (.panic (a.eval x)) w := by
        rw [e]
        simp [execOp, hop, e, Instr.panic, goPanic]
      unfold Oper.wp
      rw [hrun, Oper.upon_panic]
      exact K E (a.eval x) w (by rw [updH_nil]; exact h) ((Rep.one rfl).2 h1) (by rw [updH_nil]; exact h2)
    · cases hf
  · rename_i c hop
    split at hf
    · rename_i g hcal
      rw [callG_eq] at hf
      cases hq : callF cx hp o.dst g (c.args.toList.zipIdx.map fun p => ev cx env (c.argTypes.getD p.2 0) p.1) with
      | none => rw [hq] at hf; cases hf
      | some p =>
        rw [hq] at hf
        obtain ⟨b, v, δ⟩ := p
        exact ⟨b, v, δ, good_callB hc hG h hop hcal (caps := []) (cv := #[]) rfl rfl rfl (by rw [List.append_nil]; exact hq), hf⟩
    · cases hf
  · cases hf

/-- Operations in the text's order. -/
theorem ops_sound {β : Type} (hc : CxOk cx G) (hG : G w0) : ∀ (l : List Oper) (i : Nat) (S : St) (k kp : St → Option β) (r : β) (a : Act) (w : World), (∀ j : Nat, l[j]? = all[i + j]?) → opsK cx none all l S k kp = some r → RelF w0 cx.N S.fs a w →
    ∀ Q : Exit → Act → World → Prop, (∀ S' a' w', k S' = some r → RelF w0 cx.N S'.fs a' w' → Q .normal a' w') → (∀ S' x a' w', kp S' = some r → exitR w0 cx.N .panic S' x a' w' → Q x a' w') →
      wpOps cx.P all Q (List.range' i l.length) a w
  | [], i, S, k, kp, r, a, w, hl, h, hr, Q, h1, h2 => by
    simpa [wpOps] using h1 S a w h hr
  | o :: l, i, S, k, kp, r, a, w, hl, h, hr, Q, hQ, hP => by
    have h0 : all[i]? = some o := by simpa using (hl 0).symm
    have hl' : ∀ j : Nat, l[j]? = all[i + 1 + j]? := fun j => by have := hl (j + 1); simpa [Nat.add_assoc, Nat.add_comm 1 j] using this
    simp only [List.length_cons, List.range'_succ]
    rw [wpOps_cons]
    simp only [opsK] at h
    split at h
    · rename_i hd
      have run : ∀ T : St, T.fs = S.fs → guardOf all S.e o = some true → (opK cx o T.e T.h fun v δ => if callC cx all none o T.e δ then opsK cx none all l (T.put o.dst v δ) k kp else none) = some r →
          wpOp cx.P all Q i (wpOps cx.P all Q (List.range' (i + 1) l.length)) a w := by
        intro T hT hg h
        rw [opK_eq] at h
        cases hf : opF cx o T.e T.h with
        | none => rw [hf] at h; cases h
        | some p =>
          rw [hf] at h
          simp only [Option.bind_some] at h
          split at h
          case isFalse => cases h
          rename_i hcc
          refine step_wpOp hc hG h0 (S := S.fs) (S' := (T.put o.dst p.1 p.2).fs) (gd := none) ?_ hr fun a' w' hr' => ops_sound hc hG l (i + 1) _ k kp r a' w' hl' h hr' Q hQ hP
          have hg' : guardOf all S.fs.e o = some true := hg
          rw [← hT] at hg' ⊢
          have hf' : opF cx o T.fs.e T.fs.h = some p := hf
          have hcc' : callC cx all none o T.fs.e p.2 = true := hcc
          simp only [stepF, hd, if_true, hg', hf', Option.bind_some, hcc']
          rw [← put_fs]
      have skip : ∀ T : St, T.fs = S.fs → guardOf all S.e o = some false → opsK cx none all l (T.put o.dst (.tup []) []) k kp = some r →
          wpOp cx.P all Q i (wpOps cx.P all Q (List.range' (i + 1) l.length)) a w := by
        intro T hT hg h
        refine step_wpOp hc hG h0 (S := S.fs) (S' := (T.put o.dst (.tup []) []).fs) (gd := none) ?_ hr fun a' w' hr' => ops_sound hc hG l (i + 1) _ k kp r a' w' hl' h hr' Q hQ hP
        have hg' : guardOf all S.fs.e o = some false := hg
        rw [← hT] at hg' ⊢
        simp only [stepF, hd, if_true, hg']
        rw [← put_fs]
      split at h
      · rename_i hn
        split at h
        · have hg : guardOf all S.e o = some true := by simp [guardOf, hn]
          obtain ⟨E, hr⟩ := hr
          obtain ⟨b, v, δ, hgood, h⟩ := opP_sound hc hG hr h
          unfold wpOp
          rw [h0]
          simp only
          rw [if_pos (by rw [guard_sound hr hg])]
          refine .inl (hgood _ _ fun E' x w' g1 g2 g3 => ?_)
          cases b with
          | true =>
            simp only [cond_true] at h ⊢
            exact hP _ _ a w' h ⟨x, rfl, E', g1.panics g2 g3⟩
          | false =>
            simp only [cond_false] at h ⊢
            refine ops_sound hc hG l (i + 1) _ k kp r _ w' hl' h ?_ Q hQ hP
            rw [put_fs]
            exact ⟨E', g1.put hd g2 g3⟩
        · exact run S rfl (by simp [guardOf, hn]) h
      · rename_i gd d want hgd hat
        split at h
        · rename_i b hb
          have hj : (all[gd.1]?).bind (·.dst) = some d := by
            unfold guardAt at hat
            rw [hgd] at hat
            simp only at hat
            split at hat
            · rename_i hd'
              simp at hat
              rw [← hat.1]; exact hd'
            · cases hat
          have hw : gd.2 = want := by
            unfold guardAt at hat
            rw [hgd] at hat
            simp only at hat
            split at hat
            · simp at hat; exact hat.2
            · cases hat
          have hgo : guardOf all S.e o = some (b == want) := by
            unfold guardOf
            rw [hgd]
            simp only
            rw [hj]
            simp only [Option.bind_some]
            rw [hb, hw]
          cases b with
          | true =>
            simp only [cond_true] at h
            cases want with
            | true => rw [if_pos rfl] at h; exact run _ (lit_fs hb) hgo h
            | false => rw [if_neg (by decide)] at h; exact skip _ (lit_fs hb) hgo h
          | false =>
            simp only [cond_false] at h
            cases want with
            | true => rw [if_pos rfl] at h; exact skip _ (lit_fs hb) hgo h
            | false => rw [if_neg (by decide)] at h; exact run _ (lit_fs hb) hgo h
        · rename_i hb
          have hj : (all[gd.1]?).bind (·.dst) = some d := by
            unfold guardAt at hat
            rw [hgd] at hat
            simp only at hat
            split at hat
            · rename_i hd'
              simp at hat
              rw [← hat.1]; exact hd'
            · cases hat
          have hgo : guardOf all S.e o = some false := by
            unfold guardOf
            rw [hgd]
            simp only
            rw [hj]
            simp only [Option.bind_some]
            rw [hb]
          exact skip S rfl hgo h
        · cases h
      · cases h
    · cases h

/-- A loop keeps its contract. -/
def LoopOk (cx : Cx) (w0 : Ini) (body : Code) (le : LEntry) : Prop :=
  ∀ (S : St) (x : le.α) (r : le.ρ) (a : Act) (w : World), le.dec S = some x → le.F x = some r → RelF w0 cx.N S.fs a w →
    ∀ Q : Exit → Act → World → Prop, (∀ y a' w', exitR w0 cx.N (le.enc x r).1 (le.enc x r).2 y a' w' → Q y a' w') → (Code.loop body).wp cx.P Q a w

/-! ### What is forgotten -/

theorem lk_mem {n : Nat} {v : AV} : ∀ {l : List (Nat × AV)}, lk n l = some v → (n, v) ∈ l
  | [], h => by cases h
  | (m, u) :: l, h => by
    simp only [lk] at h
    cases hb : Nat.beq n m
    · rw [hb] at h; exact List.mem_cons_of_mem _ (lk_mem h)
    · rw [hb] at h
      have := Nat.eq_of_beq_eq_true hb
      simp at h; subst h; subst this
      exact List.mem_cons_self

theorem inScope_spec {S : St} (h : S.inScope = true) : (∀ n v, S.e n = some v → v.named (fun n => (S.h n).isSome) = true) ∧ (∀ n v, S.h n = some v → v.named (fun n => (S.h n).isSome) = true) := by
  unfold St.inScope at h
  simp only [Bool.and_eq_true, List.all_eq_true] at h
  exact ⟨fun n v hv => h.1 _ (lk_mem hv), fun n v hv => h.2 _ (lk_mem hv)⟩

/-- Less is known. -/
theorem Rel.sub {E : Emb} {env hp env' hp' : Nat → Option AV} {a : Act} {w : World} (h : Rel w0 E N env hp a w) (he : ∀ n v, env' n = some v → env n = some v) (hh : ∀ n v, hp' n = some v → hp n = some v)
    (h1 : ∀ n v, env' n = some v → v.named (fun n => (hp' n).isSome) = true) (h2 : ∀ n v, hp' n = some v → v.named (fun n => (hp' n).isSome) = true) : Rel w0 E N env' hp' a w :=
  { h with renv := fun s v hv => h.renv s v (he s v hv), rheap := fun n c hc => h.rheap n c (hh n c hc), inj := fun n m c c' hn hm => h.inj n m c c' (hh n c hn) (hh m c' hm), senv := h1, shp := h2, gone := fun n k hk => h.gone n k (hh n _ hk), newn := fun n c hc => h.newn n c (hh n c hc) }

/-- S knows all that T knows. -/
def St.Sub (T S : St) : Prop := (∀ n v, T.e n = some v → S.e n = some v) ∧ (∀ n v, T.h n = some v → S.h n = some v)

theorem RelF.sub {S T : St} {a : Act} {w : World} (h : RelF w0 N S.fs a w) (hs : T.Sub S) (hc : T.inScope = true) : RelF w0 N T.fs a w := by
  obtain ⟨E, h⟩ := h
  exact ⟨E, h.sub hs.1 hs.2 (inScope_spec hc).1 (inScope_spec hc).2⟩

theorem lk_keep {l : List (Nat × AV)} {n : Nat} {v : AV} : ∀ (ks : List Nat), lk n (ks.filterMap fun n => (lk n l).map fun v => (n, v)) = some v → lk n l = some v
  | [], h => by cases h
  | m :: ks, h => by
    simp only [List.filterMap_cons] at h
    cases hm : lk m l with
    | none => rw [hm] at h; exact lk_keep ks h
    | some u =>
      rw [hm] at h
      simp only [Option.map_some, lk] at h
      cases hb : Nat.beq n m
      · rw [hb] at h; exact lk_keep ks h
      · rw [hb] at h
        have := Nat.eq_of_beq_eq_true hb
        subst this
        rw [hm]; exact h

theorem keep_sub (S : St) (ks hs : List Nat) : (S.keep ks hs).Sub S := ⟨fun n v h => lk_keep ks h, fun n v h => lk_keep hs h⟩

theorem trim_sound {S S' : St} {id : Nat} {a : Act} {w : World} (ht : trimOf cx id S = some S') (h : RelF w0 N S.fs a w) : RelF w0 N S'.fs a w := by
  unfold trimOf at ht
  split at ht
  · simp at ht; subst ht; exact h
  · split at ht
    · rename_i hc
      simp at ht; subst ht
      exact h.sub (keep_sub _ _ _) hc
    · cases ht

/-! ### Views -/

theorem to_mem {n m : Nat} : ∀ {l : List (Nat × Nat)}, View.to.go n l = some m → (m, n) ∈ l
  | [], h => by cases h
  | (q, a) :: l, h => by
    simp only [View.to.go] at h
    cases hb : Nat.beq n a
    · rw [hb] at h; exact List.mem_cons_of_mem _ (to_mem h)
    · rw [hb] at h
      have := Nat.eq_of_beq_eq_true hb
      simp at h; subst h; subst this
      exact List.mem_cons_self

theorem of_mem {n m : Nat} : ∀ {l : List (Nat × Nat)}, View.of.go m l = some n → (m, n) ∈ l
  | [], h => by cases h
  | (q, a) :: l, h => by
    simp only [View.of.go] at h
    cases hb : Nat.beq m q
    · rw [hb] at h; exact List.mem_cons_of_mem _ (of_mem h)
    · rw [hb] at h
      have := Nat.eq_of_beq_eq_true hb
      simp at h; subst h; subst this
      exact List.mem_cons_self

theorem mem_of {n m : Nat} : ∀ {l : List (Nat × Nat)}, nodupN (l.map (·.1)) = true → (m, n) ∈ l → View.of.go m l = some n
  | [], _, h => by cases h
  | (q, a) :: l, hd, h => by
    simp only [List.map_cons, nodupN, Bool.and_eq_true, Bool.not_eq_true'] at hd
    simp only [View.of.go]
    rcases List.mem_cons.1 h with e | h
    · cases e; simp
    · cases hb : Nat.beq m q
      · exact mem_of hd.2 h
      · have := Nat.eq_of_beq_eq_true hb
        subst this
        have h' : memN m (l.map (·.1)) = true := memN_iff.2 (List.mem_map.2 ⟨(m, n), ‹(m, n) ∈ l›, rfl⟩)
        rw [hd.1] at h'; cases h'

theorem View.ok_spec {v : View} (h : v.ok = true) : nodupN (v.names.map (·.1)) = true ∧ nodupN (v.names.map (·.2)) = true ∧ (∀ m n, (m, n) ∈ v.names → m < 1000 → m = n) ∧ ∀ q ∈ v.nils, v.of q.2.2.2 = none ∧ 1000 ≤ q.2.2.2 := by
  simp only [View.ok, Bool.and_eq_true, List.all_eq_true] at h
  refine ⟨h.1.1.1, h.1.1.2, fun m n hm hl => ?_, fun q hq => ⟨by simpa using (h.2 q hq).1, Nat.le_of_ble_eq_true (h.2 q hq).2⟩⟩
  have := (h.1.2 _ hm).1
  simp only [Bool.or_eq_true] at this
  rcases this with this | this
  · have := Nat.le_of_ble_eq_true this; omega
  · exact Nat.eq_of_beq_eq_true this

theorem rowSz_none {c : AV} (h : c.rowLen = none) : c.rowSz = 0 := by
  cases c <;> first | rfl | (simp [AV.rowLen] at h)

theorem View.ok_fro {v : View} (h : v.ok = true) {n m : Nat} (hm : v.of m = some n) (hn : froN n = true) : froN m = true := by
  simp only [View.ok, Bool.and_eq_true, List.all_eq_true] at h
  have := (h.1.2 _ (of_mem hm)).2.2
  simp only [Bool.or_eq_true, Bool.not_eq_true'] at this
  rcases this with h | h
  · rw [hn] at h; cases h
  · exact h

theorem View.ok_cls {v : View} (h : v.ok = true) {n m : Nat} (hm : v.of m = some n) (hn : newN m = true) : newN n = true := by
  simp only [View.ok, Bool.and_eq_true, List.all_eq_true] at h
  have := (h.1.2 _ (of_mem hm)).2.1
  simp only [Bool.or_eq_true, Bool.not_eq_true'] at this
  rcases this with h | h
  · rw [hn] at h; cases h
  · exact h

theorem View.ok_of {v : View} (h : v.ok = true) {n m : Nat} (ht : v.to n = some m) : v.of m = some n := by
  exact mem_of (View.ok_spec h).1 (to_mem ht)

theorem pair_inj {l : List (Nat × Nat)} (hd : nodupN (l.map (·.2)) = true) {n m m' : Nat} (h1 : (m, n) ∈ l) (h2 : (m', n) ∈ l) : m = m' := by
  obtain ⟨i, hi, e1⟩ := List.getElem_of_mem h1
  obtain ⟨j, hj, e2⟩ := List.getElem_of_mem h2
  have := nodupN_inj hd i j n (by simp [List.getElem?_eq_getElem hi, e1]) (by simp [List.getElem?_eq_getElem hj, e2])
  subst this
  rw [e1] at e2; cases e2; rfl

theorem View.of_inj {v : View} (h : v.ok = true) {n m m' : Nat} (h1 : v.of m = some n) (h2 : v.of m' = some n) : m = m' := by
  exact pair_inj (View.ok_spec h).2.1 (of_mem h1) (of_mem h2)

theorem View.nil_of {v : View} (h : v.ok = true) {q : Bool × Nat × List Step × Nat} (hq : q ∈ v.nils) : v.of q.2.2.2 = none ∧ 1000 ≤ q.2.2.2 := (View.ok_spec h).2.2.2 q hq

/-- The names of a view. -/
def Emb.view (E : Emb) (v : View) : Emb :=
  { E with ρ := fun m => if m < 1000 then E.ρ m else match v.of m with | some n => E.ρ n | none => 0,
           cnt := fun m => if m < 1000 then E.cnt m else match v.of m with | some n => E.cnt n | none => none,
           len := fun m => if m < 1000 then E.len m else match v.of m with | some n => E.len n | none => 0 }

theorem view_of {E : Emb} {v : View} (h : v.ok = true) {n m : Nat} (hm : v.of m = some n) : (E.view v).ρ m = E.ρ n ∧ (E.view v).cnt m = E.cnt n ∧ (E.view v).len m = E.len n := by
  by_cases hl : m < 1000
  · have := (View.ok_spec h).2.2.1 m n (of_mem hm) hl
    subst this
    simp [Emb.view, hl]
  · simp [Emb.view, hl, hm]

theorem view_nil {E : Emb} {v : View} {m : Nat} (hl : 1000 ≤ m) (hm : v.of m = none) : (E.view v).cnt m = none ∧ (E.view v).len m = 0 := by
  have : ¬ m < 1000 := by omega
  simp [Emb.view, this, hm]

theorem view_names {E : Emb} {v : View} (h : v.ok = true) : Names v.to E (E.view v) := fun n m hm => by
  exact view_of h (View.ok_of h hm)

theorem nsAt_spec {u : AV} {p : List Step} {s : Sh} (h : nsAt u p = some s) : getB u p some = some (.nsl s) ∧ ∀ s' l, u ≠ .row s' l := by
  unfold nsAt at h
  split at h
  · cases h
  · rename_i hr
    split at h
    · rename_i s' hg
      simp at h; subst h
      exact ⟨hg, fun s' l e => hr _ _ e⟩
    · cases h

theorem nilsOf_row (b : Bool) (n : Nat) {s : Sh} {l0 : List s.T} : ∀ l, nilsOf b n l (.row s l0) = .row s l0
  | [] => rfl
  | (b', n', p, m) :: l => by
    simp only [nilsOf]
    cases (b == b') && Nat.beq n n'
    · exact nilsOf_row b n l
    · simp only [cond_true, nsAt]
      exact nilsOf_row b n l

theorem nilsOf_undef (b : Bool) (n : Nat) : ∀ l, nilsOf b n l .undef = .undef
  | [] => rfl
  | (b', n', p, m) :: l => by
    simp only [nilsOf]
    cases (b == b') && Nat.beq n n'
    · exact nilsOf_undef b n l
    · simp only [cond_true, nsAt, getB]
      exact nilsOf_undef b n l

theorem getB_tup {x : List AV} {p : List Step} {s : Sh} : getB (.tup x) p some ≠ some (.nsl s) := by
  intro h
  cases p with
  | nil => simp [getB, getK] at h
  | cons st q => cases st <;> simp [getB, getK] at h
theorem nilsOf_tup (b : Bool) (n : Nat) {x : List AV} : ∀ l, nilsOf b n l (.tup x) = .tup x
  | [] => rfl
  | (b', n', p, m) :: l => by
    simp only [nilsOf]
    cases (b == b') && Nat.beq n n'
    · exact nilsOf_tup b n l
    · simp only [cond_true]
      split
      · rename_i s h
        exact absurd (nsAt_spec h).1 getB_tup
      · exact nilsOf_tup b n l

theorem nils_put {F : Emb} {u u' : AV} {p : List Step} {s : Sh} {m : Nat} {xs : List Value} (hm : F.cnt m = none ∧ F.len m = 0) (hg : gett u p = some (.nsl s)) (hs : sett u p (.own m s) = some u') (hr : RepR F u xs) :
    RepR F u' xs ∧ u'.rowLen = u.rowLen ∧ u'.live = true := by
  obtain ⟨pre, ys, post, e, hp, h1⟩ := gett_sound hg hr
  simp only [RepC] at h1
  subst h1
  obtain ⟨pre', ys', post', e', hp', hl, h2, h3, h4⟩ := sett_sound (zs := [.slice none 0 0]) hs hr (by
    simp only [RepC]; exact ⟨_, rfl, .inl ⟨hm.1, hm.2, rfl⟩⟩)
  have hx : xs = pre' ++ [.slice none 0 0] ++ post' := by
    have h5 : pre = pre' := by
      have := congrArg (List.take (offs p)) (e.symm.trans e')
      rw [← hp, List.append_assoc, List.take_left, hp, ← hp', List.append_assoc, List.take_left] at this
      exact this
    subst h5
    have h6 := e.symm.trans e'
    rw [List.append_assoc, List.append_assoc] at h6
    have h7 := List.append_cancel_left h6
    match ys', hl with
    | [y], _ =>
      simp only [List.cons_append, List.nil_append, List.cons.injEq] at h7
      rw [e, h7.2]
  rw [hx]
  exact ⟨h2, h3, h4⟩

theorem nilsOf_rep {F : Emb} (b : Bool) (n : Nat) : ∀ (l : List (Bool × Nat × List Step × Nat)) {u : AV} {xs : List Value}, (∀ q ∈ l, F.cnt q.2.2.2 = none ∧ F.len q.2.2.2 = 0) → RepR F u xs →
    RepR F (nilsOf b n l u) xs ∧ (nilsOf b n l u).rowLen = u.rowLen ∧ (u.live = true → (nilsOf b n l u).live = true)
  | [], u, xs, _, h => ⟨h, rfl, id⟩
  | (b', n', p, m) :: l, u, xs, hq, h => by
    have hl : ∀ q ∈ l, F.cnt q.2.2.2 = none ∧ F.len q.2.2.2 = 0 := fun q hq' => hq q (List.mem_cons_of_mem _ hq')
    simp only [nilsOf]
    cases (b == b') && Nat.beq n n'
    · exact nilsOf_rep b n l hl h
    · simp only [cond_true]
      split
      · rename_i s hg
        have hg := (nsAt_spec hg).1
        split
        · rename_i u' hs
          obtain ⟨h1, h2, h3⟩ := nils_put (hq _ List.mem_cons_self) hg hs h
          obtain ⟨g1, g2, g3⟩ := nilsOf_rep b n l hl h1
          exact ⟨g1, g2.trans h2, fun _ => g3 h3⟩
        · exact nilsOf_rep b n l hl h
      · exact nilsOf_rep b n l hl h

theorem nilsOf_rep1 {F : Emb} (b : Bool) (n : Nat) : ∀ (l : List (Bool × Nat × List Step × Nat)) {u : AV} {x : Value}, (∀ q ∈ l, F.cnt q.2.2.2 = none ∧ F.len q.2.2.2 = 0) → Rep F u x → Rep F (nilsOf b n l u) x
  | [], u, x, _, h => h
  | (b', n', p, m) :: l, u, x, hq, h => by
    have hl : ∀ q ∈ l, F.cnt q.2.2.2 = none ∧ F.len q.2.2.2 = 0 := fun q hq' => hq q (List.mem_cons_of_mem _ hq')
    simp only [nilsOf]
    cases (b == b') && Nat.beq n n'
    · exact nilsOf_rep1 b n l hl h
    · simp only [cond_true]
      split
      · rename_i s hg
        obtain ⟨hg, hnr⟩ := nsAt_spec hg
        split
        · rename_i u' hs
          refine nilsOf_rep1 b n l hl ?_
          have hpl : u.plain = true := by
            cases u <;> first | rfl | exact absurd rfl (hnr _ _) | (simp only [getB, reduceCtorEq] at hg)
          have h1 := (Rep.one hpl).1 h
          obtain ⟨h2, _, _⟩ := nils_put (hq _ List.mem_cons_self) hg hs (RepR.of h1.1)
          have hpl' : u'.plain = true ∧ u'.isAgg = u.isAgg ∧ RepC F u' x.cells.toList := by
            have hset : set u p (.own m s) = some u' := by
              unfold set
              have : setB u p (.own m s) some = some u' := hs
              unfold setB at this
              cases u <;> first | exact this | (simp [AV.plain] at hpl)
            obtain ⟨_, ys, _, _, _, _, _, _, ha⟩ := set_sound p hset h1.1 (zs := [.slice none 0 0]) (by simp only [RepC]; exact ⟨_, rfl, .inl ⟨(hq _ List.mem_cons_self).1, (hq _ List.mem_cons_self).2, rfl⟩⟩)
            have hpl' : u'.plain = true := by
              cases p with
              | nil => simp only [set, setK] at hset; split at hset <;> simp at hset; subst hset; rfl
              | cons a p =>
                have := hset
                simp only [set] at this
                clear hset hs hg hq
                cases a with
                | fld i off =>
                  simp only [setK] at this
                  generalize u.open = uu at this
                  cases uu <;> dsimp only at this <;> (try cases this)
                  split at this
                  · split at this
                    · rw [setK_eq] at this
                      simp only [Option.bind_eq_some_iff] at this
                      obtain ⟨_, _, e⟩ := this
                      simp at e; subst e; rfl
                    · cases this
                  · cases this
                | idx i sz =>
                  simp only [setK] at this
                  generalize u.open = uu at this
                  cases uu <;> dsimp only at this <;> (try cases this)
                  case u256 x =>
                    split at this
                    · generalize Nat.blt _ _ = bb at this
                      cases bb
                      · cases this
                      · cases this
                    · cases this
                  case arr s' n' l' =>
                    split at this
                    · generalize Nat.blt _ _ = bb at this
                      cases bb
                      · cases this
                      · simp only [cond_true] at this
                        rw [setK_eq] at this
                        simp only [Option.bind_eq_some_iff] at this
                        obtain ⟨_, _, e⟩ := this
                        split at e
                        · simp at e; subst e; rfl
                        · cases e
                    · cases this
            refine ⟨hpl', ha, ?_⟩
            cases u' <;> first | exact h2 | (simp [AV.plain] at hpl')
          refine (Rep.one hpl'.1).2 ⟨hpl'.2.2, fun h => h1.2.1 (by rw [← hpl'.2.1]; exact h), fun h => h1.2.2 (by rw [← hpl'.2.1]; exact h)⟩
        · exact nilsOf_rep1 b n l hl h
      · exact nilsOf_rep1 b n l hl h

theorem nilRow_spec {S : St} {v : View} {m : Nat} {c : AV} : ∀ {l : List (Bool × Nat × List Step × Nat)}, S.nilRow v m l = some c → (∃ q ∈ l, q.2.2.2 = m) ∧ ∃ s, c = .row s []
  | [], h => by cases h
  | (b, n, p, m') :: l, h => by
    simp only [St.nilRow] at h
    cases hb : Nat.beq m m'
    · rw [hb] at h
      obtain ⟨⟨q, h1, h2⟩, h3⟩ := nilRow_spec (l := l) h
      exact ⟨⟨q, List.mem_cons_of_mem _ h1, h2⟩, h3⟩
    · rw [hb] at h
      have := Nat.eq_of_beq_eq_true hb
      subst this
      simp only [cond_true] at h
      split at h
      · simp at h; exact ⟨⟨_, List.mem_cons_self, rfl⟩, _, h.symm⟩
      · cases h

theorem cond_none {α : Type} {b : Bool} {x : Option α} {y : α} (h : cond b none x = some y) : b = false ∧ x = some y := by
  cases b
  · exact ⟨rfl, h⟩
  · cases h
theorem atV_tup {S : St} {v : View} {m : Nat} {c : AV} (h : S.atV v true m = some c) (l : List AV) : c ≠ .tup l := fun e => by
  subst e
  unfold St.atV at h
  split at h
  · obtain ⟨h1, h2⟩ := cond_none h
    simp only [Option.some.injEq] at h2
    rw [h2] at h1
    cases h1
  · simp only [cond_true] at h
    obtain ⟨_, _, h2⟩ := nilRow_spec h
    cases h2

theorem atV_true {S : St} {v : View} (hv : v.ok = true) {m : Nat} {c : AV} (h : S.atV v true m = some c) :
    (∃ n c0 c1, v.of m = some n ∧ S.h n = some c0 ∧ c0.ren v.to = some c1 ∧ c = nilsOf true m v.nils c1) ∨ (v.of m = none ∧ 1000 ≤ m ∧ ∃ s, c = .row s []) := by
  unfold St.atV at h
  split at h
  · rename_i u hu
    have h := (cond_none h).2
    simp at h; subst h
    simp only [St.at0, Option.bind_eq_some_iff] at hu
    obtain ⟨n, h1, c0, h2, h3⟩ := hu
    exact .inl ⟨n, c0, u, h1, h2, h3, rfl⟩
  · simp only [cond_true] at h
    obtain ⟨⟨q, h1, h2⟩, h3⟩ := nilRow_spec h
    exact .inr ⟨by rw [← h2]; exact (View.nil_of hv h1).1, by rw [← h2]; exact (View.nil_of hv h1).2, h3⟩

/-- What T tells is what S tells in the view. -/
def St.SubV (T S : St) (v : View) : Prop := (∀ n u, T.e n = some u → S.atV v false n = some u) ∧ (∀ n u, T.h n = some u → S.atV v true n = some u)

theorem Rel.view {E : Emb} {S : St} {a : Act} {w : World} (h : Rel w0 E N S.e S.h a w) {v : View} (hv : v.ok = true) {T : St} (hs : T.SubV S v) (hsc : T.inScope = true) : Rel w0 (E.view v) N T.e T.h a w := by
  have hN := view_names (E := E) hv
  have hT : Stays true E (E.view v) := fun _ _ _ h => h
  have hF : Stays false E (E.view v) := fun _ _ _ h => h
  have hnil : ∀ q ∈ v.nils, (E.view v).cnt q.2.2.2 = none ∧ (E.view v).len q.2.2.2 = 0 := fun q hq => by
    exact view_nil (View.nil_of hv hq).2 (View.nil_of hv hq).1
  have hat : ∀ m c, T.h m = some c → c.live = true → ((E.view v).cnt m).isSome = true → ∃ n c0, v.of m = some n ∧ S.h n = some c0 ∧ c0.live = true ∧ E.cnt n = (E.view v).cnt m ∧ E.ρ n = (E.view v).ρ m := fun m c hc hl hk => by
    rcases atV_true hv (hs.2 m c hc) with ⟨n, c0, c1, h1, h2, h3, h4⟩ | ⟨h1, hbig, s, h2⟩
    · refine ⟨n, c0, h1, h2, ?_, (view_of hv h1).2.1.symm, (view_of hv h1).1.symm⟩
      rw [← (ren_agg h3).2.2.1]
      cases c1 <;> first | rfl | (rw [h4, nilsOf_undef] at hl; cases hl) | (rw [h4, nilsOf_tup] at hl; cases hl)
    · rw [(view_nil hbig h1).1] at hk; cases hk
  refine { h with rheap := ?_, inj := ?_, imm := h.imm, imle := h.imle, pers := h.pers, new := h.new, imm0 := h.imm0, shp := (inScope_spec hsc).2, fixed := fun j q hj hl => (by simpa [Emb.view, hl] using h.fixed j q hj hl), gone := fun n k hk => absurd rfl (atV_tup (hs.2 n _ hk) _), newn := ?_, renv := ?_, senv := (inScope_spec hsc).1 }
  rotate_left 2
  · intro m c hm hl hnm hk
    obtain ⟨n, c0, a1, a2, a3, a4, a5⟩ := hat m c hm hl hk
    rw [← a5]
    exact h.newn n c0 a2 a3 (View.ok_cls hv a1 hnm) (by rw [a4]; exact hk)
  rotate_left 1
  · intro m c hc hl
    rcases atV_true hv (hs.2 m c hc) with ⟨n, c0, c1, h1, h2, h3, h4⟩ | ⟨h1, hbig, s, h2⟩
    · have hl1 : c1.live = true := by
        cases c1 <;> first | rfl | (rw [h4, nilsOf_undef] at hl; cases hl) | (rw [h4, nilsOf_tup] at hl; cases hl)
      have hl0 : c0.live = true := by rw [← (ren_agg h3).2.2.1]; exact hl1
      obtain ⟨g1, g2⟩ := h.rheap n c0 h2 hl0
      obtain ⟨hρ, hcnt, hlen⟩ := view_of (E := E) hv h1
      rcases g2 with ⟨k1, s, rfl⟩ | ⟨xs, T', k1, k2, k3, k4, k5⟩
      · have hr : RepR (E.view v) c1 [] := by
          simp only [AV.ren, Option.some.injEq] at h3
          subst h3
          exact ⟨[], [], rfl, rfl, fun _ h => by cases h⟩
        have hc1 : c1 = .row s [] := by simp only [AV.ren, Option.some.injEq] at h3; exact h3.symm
        rw [h4, hc1, nilsOf_row]
        refine ⟨fun k hk => ?_, .inl ⟨by rw [hcnt, k1], s, rfl⟩⟩
        rw [hlen]; exact g1 k hk
      · have hr := k3.ren hN hT (.inr hF) h3
        have hc' : c.rowSz = c0.rowSz := by
          rw [h4]
          have hr2 := (nilsOf_rep true m v.nils hnil hr).2.1
          cases c0 <;> simp only [AV.ren, Option.some.injEq, Option.bind_eq_some_iff] at h3 <;> first
            | (subst h3; rw [nilsOf_row])
            | (rw [rowSz_none (by rw [hr2]; first | (obtain ⟨_, _, e⟩ := h3; subst e; rfl) | (subst h3; rfl))]; rfl)
        obtain ⟨r1, r2, r3⟩ := nilsOf_rep true m v.nils hnil hr
        rw [← h4] at r1 r2
        refine ⟨fun k hk => ?_, .inr ⟨xs, T', by rw [hcnt, k1], by rw [hρ]; exact k2, r1, fun f j hj => by
          rw [hρ]
          refine k4 f j fun hfn => ?_
          have := hj (View.ok_fro hv h1 hfn)
          rw [hc'] at this; exact this, by rw [hρ]; exact k5⟩⟩
        rw [hlen]
        exact g1 k (by rw [← (ren_agg h3).2.2.2, ← r2]; exact hk)
    · subst h2
      refine ⟨fun k hk => ?_, .inl ⟨(view_nil hbig h1).1, s, rfl⟩⟩
      simp only [AV.rowLen, List.length_nil, Option.some.injEq] at hk
      subst hk; exact (view_nil hbig h1).2.symm
  · intro m m' c c' hm hm' l1 l2 k1 k2 e
    obtain ⟨n, c0, a1, a2, a3, a4, a5⟩ := hat m c hm l1 k1
    obtain ⟨n', c0', b1, b2, b3, b4, b5⟩ := hat m' c' hm' l2 k2
    have := h.inj n n' c0 c0' a2 b2 a3 b3 (by rw [a4]; exact k1) (by rw [b4]; exact k2) (by rw [a5, b5, e])
    subst this
    exact View.of_inj hv a1 b1
  · intro s u hu
    have := hs.1 s u hu
    unfold St.atV at this
    split at this
    · rename_i u1 hu1
      simp at this; subst this
      simp only [St.at0, Option.bind_eq_some_iff] at hu1
      obtain ⟨u0, h1, h2⟩ := hu1
      obtain ⟨x, hx, hr⟩ := h.renv s u0 h1
      exact ⟨x, hx, nilsOf_rep1 false s v.nils hnil (hr.ren hN hT (.inr hF) h2)⟩
    · cases this

theorem RelF.view {S T : St} {a : Act} {w : World} (h : RelF w0 N S.fs a w) {v : View} (hv : v.ok = true) (hs : T.SubV S v) (hsc : T.inScope = true) : RelF w0 N T.fs a w := by
  obtain ⟨E, h⟩ := h
  exact ⟨E.view v, h.view hv hs hsc⟩

theorem exitR.view {S T : St} {a : Act} {w : World} {e : Ex} {x : Exit} (h : exitR w0 N e S x a w) {v : View} (hv : v.ok = true) (hs : T.SubV S v) (hsc : T.inScope = true) : exitR w0 N e T x a w := by
  cases e with
  | panic =>
    obtain ⟨y, h1, h2⟩ := h
    exact ⟨y, h1, h2.view hv hs hsc⟩
  | normal => exact ⟨h.1, h.2.view hv hs hsc⟩
  | ret => exact ⟨h.1, h.2.view hv hs hsc⟩
  | exit i => exact ⟨h.1, h.2.view hv hs hsc⟩

/-! ### Code -/

theorem codeK_sound (hc : CxOk cx G) (hG : G w0) : ∀ (c : Code), (∀ body ∈ loopsOf c, ∀ le, cx.loops (firstReg body) = some le → LoopOk cx w0 body le) →
    ∀ {β : Type} (S : St) (k : Ex → St → Option β) (r : β) (a : Act) (w : World), codeK cx c S k = some r → RelF w0 cx.N S.fs a w →
      ∀ Q : Exit → Act → World → Prop, (∀ e S' x a' w', k e S' = some r → exitR w0 cx.N e S' x a' w' → Q x a' w') → c.wp cx.P Q a w
  | .skip, _, β, S, k, r, a, w, h, hr, Q, hQ => wp_skip (hQ .normal S _ a w h ⟨rfl, hr⟩)
  | .label _, _, β, S, k, r, a, w, h, hr, Q, hQ => wp_label (hQ .normal S _ a w h ⟨rfl, hr⟩)
  | .region id ops draw, _, β, S, k, r, a, w, h, hr, Q, hQ => by
    simp only [codeK] at h
    split at h
    · rename_i S0 hgh
      have hr := ghosts_sound hr hgh
      split at h
      · rename_i hd
        cases draw with
        | true =>
          obtain ⟨S', h1, h2⟩ := opsK_run rfl _ _ _ _ _ h
          exact region_sound hc hG (draw := true) (fun hdraw => (show drawOK cx S0.e ops = true by simpa using hd)) hr h2 fun a' w' hr' => hQ .normal S' _ a' w' h1 ⟨rfl, hr'⟩
        | false =>
          refine wp_region ?_
          have := ops_sound hc hG (all := ops) ops.toList 0 S0 _ _ r a w (by simp) h hr Q (fun S' a' w' h1 h2 => hQ .normal S' _ a' w' h1 ⟨rfl, h2⟩) (fun S' x a' w' h1 h2 => hQ .panic S' x a' w' h1 h2)
          simpa [List.range_eq_range'] using this
      · cases h
    · cases h
  | .seq x y, hl, β, S, k, r, a, w, h, hr, Q, hQ => by
    simp only [codeK] at h
    refine wp_seq (codeK_sound hc hG x (fun b hb => hl b (by simp [loopsOf, hb])) S _ r a w h hr _ fun e S' z a' w' h1 h2 => ?_)
    cases e with
    | normal =>
      obtain ⟨rfl, h2⟩ := h2
      exact codeK_sound hc hG y (fun b hb => hl b (by simp [loopsOf, hb])) S' k r a' w' h1 h2 Q hQ
    | exit id =>
      obtain ⟨rfl, h2⟩ := h2
      exact hQ (.exit id) S' _ a' w' h1 ⟨rfl, h2⟩
    | ret =>
      obtain ⟨rfl, h2⟩ := h2
      exact hQ .ret S' _ a' w' h1 ⟨rfl, h2⟩
    | panic =>
      have h3 := h2
      obtain ⟨u, rfl, _⟩ := h2
      exact hQ .panic S' _ a' w' h1 h3
  | .cond c x y, hl, β, S, k, r, a, w, h, hr, Q, hQ => by
    simp only [codeK] at h
    split at h
    · rename_i t ht
      obtain ⟨E, hr'⟩ := hr
      have he : a.eval c = .bool t := by
        have := (ev_sound hc hG hr' 0 c).1
        have ht' : ev cx S.fs.e 0 c = .bool t := ht
        rw [ht'] at this
        exact Rep1.bool.1 this
      refine wp_cond he ?_
      cases t with
      | true => exact codeK_sound hc hG x (fun b hb => hl b (by simp [loopsOf, hb])) S k r a w h ⟨E, hr'⟩ Q hQ
      | false => exact codeK_sound hc hG y (fun b hb => hl b (by simp [loopsOf, hb])) S k r a w h ⟨E, hr'⟩ Q hQ
    · cases h
  | .block id x, hl, β, S, k, r, a, w, h, hr, Q, hQ => by
    simp only [codeK] at h
    refine wp_block (codeK_sound hc hG x (fun b hb => hl b (by simpa [loopsOf] using hb)) S _ r a w h hr _ fun e S' z a' w' h1 h2 => ?_)
    cases e with
    | normal =>
      obtain ⟨rfl, h2⟩ := h2
      exact hQ .normal S' _ a' w' h1 ⟨rfl, h2⟩
    | exit i =>
      obtain ⟨rfl, h2⟩ := h2
      simp only [Ex.to, Exit.inBlock]
      simp only at h1
      split at h1
      · rename_i hi; subst hi; rw [if_pos rfl]; exact hQ .normal S' _ a' w' h1 ⟨rfl, h2⟩
      · rename_i hi; rw [if_neg hi]; exact hQ (.exit i) S' _ a' w' h1 ⟨rfl, h2⟩
    | ret =>
      obtain ⟨rfl, h2⟩ := h2
      exact hQ .ret S' _ a' w' h1 ⟨rfl, h2⟩
    | panic =>
      have h3 := h2
      obtain ⟨u, rfl, _⟩ := h2
      exact hQ .panic S' _ a' w' h1 h3
  | .loop x, hl, β, S, k, r, a, w, h, hr, Q, hQ => by
    simp only [codeK] at h
    split at h
    rotate_left
    · cases h
    rename_i S0 hgh
    have hr := ghosts_sound hr hgh
    clear hgh
    revert h hr
    generalize S0 = S
    intro h hr
    split at h
    · rename_i le hle
      split at h
      · rename_i y hy
        rw [le.run_eq] at h
        cases hF : le.F y with
        | none => rw [hF] at h; cases h
        | some q =>
          rw [hF] at h
          simp only [Option.bind_some] at h
          exact hl x (by simp [loopsOf]) le hle S y q a w hy hF hr Q fun z a' w' hr' => hQ _ _ z a' w' h hr'
      · cases h
    · have ih := fun {γ : Type} => codeK_sound hc hG x (fun b hb => hl b (by simp [loopsOf, hb])) (β := γ)
      refine wp_loop_rounds 600 ?_
      revert h
      generalize 600 = n
      intro h
      have key : ∀ (n : Nat) (S : St) (a : Act) (w : World), loopK (codeK cx x) (trimOf cx (firstReg x)) n S k = some r → RelF w0 cx.N S.fs a w → Code.rounds cx.P x Q n a w := by
        intro n
        induction n with
        | zero => intro S a w h _; cases h
        | succ n ihn =>
          intro S a w h hr
          simp only [loopK] at h
          split at h
          · rename_i S' ht
            rw [rounds_succ]
            refine ih S' _ r a w h (trim_sound ht hr) _ fun e S'' z a' w' h1 h2 => ?_
            cases e with
            | normal =>
              obtain ⟨rfl, h2⟩ := h2
              exact ihn S'' a' w' h1 h2
            | exit id =>
              obtain ⟨rfl, h2⟩ := h2
              exact hQ (.exit id) S'' _ a' w' h1 ⟨rfl, h2⟩
            | ret =>
              obtain ⟨rfl, h2⟩ := h2
              exact hQ .ret S'' _ a' w' h1 ⟨rfl, h2⟩
            | panic =>
              have h3 := h2
              obtain ⟨u, rfl, _⟩ := h2
              exact hQ .panic S'' _ a' w' h1 h3
          · cases h
      exact key n S a w h hr
  | .exit id, _, β, S, k, r, a, w, h, hr, Q, hQ => wp_exit (hQ (.exit id) S _ a w h ⟨rfl, hr⟩)
  | .ret, _, β, S, k, r, a, w, h, hr, Q, hQ => wp_ret (hQ .ret S _ a w h ⟨rfl, hr⟩)
  | .rangeFunc .., _, β, S, k, r, a, w, h, hr, Q, hQ => by simp [codeK] at h
  | .scope _, _, β, S, k, r, a, w, h, hr, Q, hQ => by simp [codeK] at h
  | .goto _, _, β, S, k, r, a, w, h, hr, Q, hQ => by simp [codeK] at h
  | .refuse _, _, β, S, k, r, a, w, h, hr, Q, hQ => by simp [codeK] at h

end
end
end Go.Sy
