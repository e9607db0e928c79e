/- Continuations: each reading gives its answer to what follows, and does nothing else. -/
import Derived.Test.YtmbcolalfgepiaaDoorSyE
set_option linter.unusedVariables false
set_option linter.unusedSimpArgs false
namespace Go.Sy
open Go Go.RowKit

theorem cond_bind {α β : Type} (b : Bool) (x y : Option α) (k : α → Option β) : (cond b x y).bind k = cond b (x.bind k) (y.bind k) := by cases b <;> rfl
theorem ite_bind {α β : Type} (c : Prop) [Decidable c] (x y : Option α) (k : α → Option β) : (if c then x else y).bind k = if c then x.bind k else y.bind k := by split <;> rfl

theorem binK_eq {β : Type} (P : Program) (op : BinOp) (t : TypeId) (a b : AV) (k : AV → Option β) : binK P op t a b k = (binK P op t a b some).bind k := by
  unfold binK
  split
  · cases op <;> simp only [cond_bind, ite_bind, Option.bind_some, Option.bind_none]
  · split
    · rfl
    · split <;> simp_all

theorem unK_eq {β : Type} (op : UnOp) (a : AV) (k : AV → Option β) : unK op a k = (unK op a some).bind k := by
  unfold unK; split <;> simp_all

theorem immK_eq {β : Type} (hp : Nat → Option AV) (v : AV) (k : AV → Option β) : immK hp v k = (immK hp v some).bind k := by
  unfold immK
  split
  · rfl
  · split
    · conv => lhs; rw [getK_eq]
      conv => rhs; rw [getK_eq]
      cases get _ _ with
      | none => rfl
      | some u =>
        simp only [Option.bind_some]
        split
        · split <;> simp [ite_bind, cond_bind]
        · split <;> simp [cond_bind]
        · split <;> simp [cond_bind]
        · rfl
    · rfl
  · simp [ite_bind]
  · split
    · conv => lhs; rw [getK_eq]
      conv => rhs; rw [getK_eq]
      cases get _ _ <;> simp [ite_bind]
    · rfl
  · simp [ite_bind]

theorem immsK_eq {β : Type} (hp : Nat → Option AV) : ∀ (l : List AV) (k : List AV → Option β), immsK hp l k = (immsK hp l some).bind k
  | [], k => rfl
  | v :: l, k => by
    simp only [immsK]
    rw [immK_eq, immK_eq hp v (fun v' => immsK hp l fun l' => some (v' :: l'))]
    cases immK hp v some with
    | none => rfl
    | some u =>
      simp only [Option.bind_some]
      rw [immsK_eq hp l, immsK_eq hp l (fun l' => some (u :: l'))]
      cases immsK hp l some <;> rfl

theorem asNat_eq {β : Type} (v : AV) (k : Nat → Option β) : asNat v k = (asNat v some).bind k := by
  unfold asNat; split <;> simp [cond_bind]

theorem boundK_eq {β : Type} (cx : Cx) (env : Nat → Option AV) (o : Option Operand) (d m : Nat) (k : Nat → Option β) : boundK cx env o d m k = (boundK cx env o d m some).bind k := by
  unfold boundK
  split
  · rfl
  · rw [asNat_eq, asNat_eq _ (fun n => cond (Nat.ble n m) (some n) none)]
    cases asNat (ev cx env 0 _) some <;> simp [cond_bind]

theorem partsK_eq {β : Type} (P : Program) (t : TypeId) : ∀ (l : List (Nat × AV)) (v : AV) (k : AV → Option β), partsK P t v l k = (partsK P t v l some).bind k
  | [], v, k => rfl
  | (i, u) :: rest, v, k => by
    simp only [partsK]
    split
    · split
      · split
        · rw [setK_eq, setK_eq _ _ _ (fun v' => partsK P t v' rest some)]
          cases set v _ u with
          | none => rfl
          | some w => simp only [Option.bind_some]; exact partsK_eq P t rest w k
        · rfl
      · rfl
    · split
      · split
        · rw [setK_eq, setK_eq _ _ _ (fun v' => partsK P t v' rest some)]
          cases set v _ u with
          | none => rfl
          | some w => simp only [Option.bind_some]; exact partsK_eq P t rest w k
        · rfl
      · rfl
    · rfl

theorem srcInts_eq {β : Type} (hp : Nat → Option AV) (v : AV) (k : IntKind → List Int → Option β) : srcInts hp v k = (srcInts hp v fun a b => some (a, b)).bind fun p => k p.1 p.2 := by
  unfold srcInts
  split
  · rfl
  · split
    · conv => lhs; rw [getK_eq]
      conv => rhs; rw [getK_eq]
      cases get _ _ with
      | none => rfl
      | some a =>
        simp only [Option.bind_some]
        split <;> simp [ite_bind, cond_bind]
    · rfl
  · rfl

def P2 (v : AV) (δ : Option (Nat × AV)) : Option (AV × Option (Nat × AV)) := some (v, δ)

theorem copyK_eq {β : Type} (hp : Nat → Option AV) (d s : AV) (k : AV → Option (Nat × AV) → Option β) : copyK hp d s k = (copyK hp d s P2).bind fun p => k p.1 p.2 := by
  unfold copyK
  split
  · rw [srcInts_eq, srcInts_eq _ _ (β := AV × Option (Nat × AV))]
    cases srcInts hp s fun a b => some (a, b) with
    | none => rfl
    | some q =>
      simp only [Option.bind_some]
      split
      · split
        · conv => lhs; rw [getK_eq]
          conv => rhs; rw [getK_eq]
          cases get _ _ with
          | none => rfl
          | some a =>
            simp only [Option.bind_some]
            split
            · split
              · rw [cond_bind]
                congr 1
                conv => lhs; rw [setK_eq]
                conv => rhs; rw [setK_eq]
                cases set _ _ _ <;> simp [P2]
              · rfl
            · rfl
        · rfl
      · rfl
  · rfl

theorem callK_eq {β : Type} (cx : Cx) (hp : Nat → Option AV) (f : Nat) (args : List AV) (k : AV → Option (Nat × AV) → Option β) : callK cx hp f args k = (callK cx hp f args P2).bind fun p => k p.1 p.2 := by
  unfold callK
  split
  · conv => lhs; rw [immsK_eq]
    conv => rhs; rw [immsK_eq]
    cases immsK hp args some with
    | none => rfl
    | some l =>
      simp only [Option.bind_some]
      split
      · rename_i e _ _ a _
        cases e.F a <;> simp [P2]
      · rfl
  · rfl

def opF (cx : Cx) (o : Oper) (env hp : Nat → Option AV) : Option (AV × Option (Nat × AV)) := opK cx o env hp P2

theorem opK_eq {β : Type} (cx : Cx) (o : Oper) (env hp : Nat → Option AV) (k : AV → Option (Nat × AV) → Option β) : opK cx o env hp k = (opF cx o env hp).bind fun p => k p.1 p.2 := by
  unfold opF opK
  split
  case h_1 => rfl
  case h_2 => rfl
  case h_3 => split <;> simp [cond_bind, P2]
  case h_4 => split <;> simp [ite_bind, P2]
  case h_5 => split <;> simp [ite_bind, P2]
  case h_6 =>
    split
    · simp only [ite_bind, Option.bind_none]
      split
      · conv => lhs; rw [partsK_eq]
        conv => rhs; rw [partsK_eq]
        cases partsK _ _ _ _ some <;> simp [P2]
      · rfl
    · rfl
  case h_7 =>
    split
    · split
      · conv => lhs; rw [getK_eq]
        conv => rhs; rw [getK_eq]
        cases get _ _ <;> simp [P2, ite_bind]
      · rfl
    · simp [P2, ite_bind]
    · rfl
  case h_8 =>
    split
    · split
      · simp only [ite_bind, Option.bind_none]
        split
        · conv => lhs; rw [setK_eq]
          conv => rhs; rw [setK_eq]
          cases set _ _ _ <;> simp [P2]
        · rfl
      · rfl
    · rfl
  case h_9 => split <;> simp [P2]
  case h_10 =>
    conv => lhs; rw [binK_eq]
    conv => rhs; rw [binK_eq]
    cases binK _ _ _ _ _ some <;> simp [P2]
  case h_11 =>
    conv => lhs; rw [unK_eq]
    conv => rhs; rw [unK_eq]
    cases unK _ _ some <;> simp [P2]
  case h_12 => split <;> simp [P2]
  case h_13 =>
    split
    · split
      · simp [P2, ite_bind]
      · split
        · rfl
        · conv => lhs; rw [getK_eq]
          conv => rhs; rw [getK_eq]
          cases get _ _ <;> simp [P2]
      · rfl
    · rfl
  case h_14 =>
    split
    · split
      · conv => lhs; rw [getK_eq]
        conv => rhs; rw [getK_eq]
        cases get _ _ <;> simp [P2, ite_bind]
      · rfl
    · rfl
  case h_15 =>
    split
    · rw [cond_bind]
      congr 1
      split
      · rw [cond_bind]
        congr 1
        split
        · split
          · simp [P2]
          · conv => lhs; rw [getK_eq]
            conv => rhs; rw [getK_eq]
            cases get _ _ <;> simp [P2]
          · rfl
        · rfl
      · split
        · split <;> simp [P2, ite_bind, cond_bind]
        · rfl
      · rfl
    · rfl
  case h_16 =>
    split
    · rw [cond_bind]
      congr 1
      split
      · rw [cond_bind]
        congr 1
        split
        · conv => lhs; rw [getK_eq]
          conv => rhs; rw [getK_eq]
          cases get _ _ <;> simp [P2, ite_bind]
        · rfl
      · rfl
    · rfl
  case h_17 =>
    split
    · split <;> simp [P2]
    · rfl
  case h_18 =>
    split
    · split
      · split
        · conv => lhs; rw [boundK_eq]
          conv => rhs; rw [boundK_eq]
          cases boundK cx env _ _ _ some with
          | none => rfl
          | some h =>
            simp only [Option.bind_some]
            conv => lhs; rw [boundK_eq]
            conv => rhs; rw [boundK_eq]
            cases boundK cx env _ _ _ some <;> simp [P2]
        · rfl
      · rfl
    · split
      · split
        · conv => lhs; rw [boundK_eq]
          conv => rhs; rw [boundK_eq]
          cases boundK cx env _ _ _ some with
          | none => rfl
          | some h =>
            simp only [Option.bind_some]
            conv => lhs; rw [boundK_eq]
            conv => rhs; rw [boundK_eq]
            cases boundK cx env _ _ _ some <;> simp [P2]
        · rfl
      · split
        · conv => lhs; rw [boundK_eq]
          conv => rhs; rw [boundK_eq]
          cases boundK cx env _ _ _ some with
          | none => rfl
          | some h =>
            simp only [Option.bind_some]
            conv => lhs; rw [boundK_eq]
            conv => rhs; rw [boundK_eq]
            cases boundK cx env _ _ _ some <;> simp [P2]
        · rfl
      · rfl
    · rfl
  case h_19 =>
    split
    · split
      · exact callK_eq _ _ _ _ _
      · rfl
    · split
      · simp [P2]
      · simp [P2]
      · split <;> simp [P2]
      · rfl
    · split
      · split
        · rw [ite_bind, Option.bind_none]; congr 1; exact copyK_eq _ _ _ _
        · rfl
      · rfl
    · split <;> simp [P2, ite_bind]
    · rfl
  case h_20 => rfl
end Go.Sy
