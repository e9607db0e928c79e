/- Continuations: each reading gives its answer to what follows, and does nothing else. -/
import Derived.Test.YtapnedegcnmhgaaDoorSyE
set_option linter.unusedVariables false
set_option linter.unusedSimpArgs false
namespace Go.Sy
open Go Go.RowKit
noncomputable section

theorem cond_bind {α β : Type} (b : Bool) (x y : Option α) (k : α → Option β) : (cond b x y).bind k = cond b (x.bind k) (y.bind k) := by cases b <;> rfl
theorem ite_bind {α β : Type} (c : Prop) [Decidable c] (x y : Option α) (k : α → Option β) : (if c then x else y).bind k = if c then x.bind k else y.bind k := by split <;> rfl

theorem binK_eq {β : Type} (P : Program) (op : BinOp) (t : TypeId) (a b : AV) (k : AV → Option β) : binK P op t a b k = (binK P op t a b some).bind k := by
  unfold binK
  split
  · cases op <;> simp only [cond_bind, ite_bind, Option.bind_some, Option.bind_none]
  · cases op <;> simp only [cond_bind, Option.bind_some, Option.bind_none]
  · split
    · rfl
    · split <;> simp_all

theorem unK_eq {β : Type} (op : UnOp) (a : AV) (k : AV → Option β) : unK op a k = (unK op a some).bind k := by
  unfold unK; split <;> simp_all

/-- A list of elements of a shape. -/
structure SL where
  s : Sh
  l : List s.T

def listF0 (hp : Nat → Option AV) (v : AV) : Option SL := listK0 hp v fun s l => some ⟨s, l⟩
def listF (hp : Nat → Option AV) (v : AV) : Option SL := listK hp v fun s l => some ⟨s, l⟩

theorem listK0_eq {β : Type} (hp : Nat → Option AV) (v : AV) (k : (s : Sh) → List s.T → Option β) : listK0 hp v k = (listF0 hp v).bind fun p => k p.s p.l := by
  unfold listF0 listK0
  split
  · rfl
  · rfl
  · rfl
  · split
    · simp [ite_bind]
    · rfl
  · split
    · simp [ite_bind, cond_bind]
    · rfl
  · split
    · conv => lhs; rw [getB_eq]
      conv => rhs; rw [getB_eq]
      cases gett _ _ with
      | none => rfl
      | some u =>
        simp only [Option.bind_some]
        split <;> simp [ite_bind, cond_bind]
    · rfl
  · rfl

theorem textsK_eq {β : Type} (hp : Nat → Option AV) : ∀ (l : List AV) (k : List (List Int) → Option β), textsK hp l k = (textsK hp l some).bind k
  | [], k => rfl
  | v :: l, k => by
    simp only [textsK]
    rw [listK0_eq, listK0_eq hp v (β := List (List Int))]
    cases listF0 hp v with
    | none => rfl
    | some p =>
      simp only [Option.bind_some]
      split
      · conv => lhs; rw [textsK_eq hp l]
        conv => rhs; rw [textsK_eq hp l]
        cases textsK hp l some <;> rfl
      · rfl

theorem listK_eq {β : Type} (hp : Nat → Option AV) (v : AV) (k : (s : Sh) → List s.T → Option β) : listK hp v k = (listF hp v).bind fun p => k p.s p.l := by
  unfold listF listK
  split
  · split
    · rw [cond_bind, textsK_eq, textsK_eq _ _ (fun r => some (⟨Sh.bytes, r⟩ : SL))]
      cases textsK hp _ some <;> rfl
    · exact listK0_eq _ _ _
  · exact listK0_eq _ _ _

theorem immK_eq {β : Type} (hp : Nat → Option AV) (v : AV) (k : AV → Option β) : immK hp v k = (immK hp v some).bind k := by
  unfold immK
  split
  case h_7 => simp [ite_bind]
  case h_8 =>
    split
    · conv => lhs; rw [getB_eq]
      conv => rhs; rw [getB_eq]
      cases gett _ _ <;> simp [ite_bind]
    · rfl
  case h_9 => simp [ite_bind]
  all_goals
    rw [listK_eq, listK_eq _ _ (β := AV)]
    cases listF hp _ <;> rfl

theorem argsK_eq {β : Type} (hp : Nat → Option AV) (σ : Nat → Option Nat) : ∀ (ms : List Bool) (l : List AV) (k : List AV → Option β), argsK hp σ ms l k = (argsK hp σ ms l some).bind k
  | ms, [], k => by unfold argsK; rfl
  | true :: ms, v :: l, k => by
    simp only [argsK]
    split
    · cases v.ren σ with
      | none => rfl
      | some u =>
        simp only [Option.bind_some]
        rw [argsK_eq hp σ ms l, argsK_eq hp σ ms l (fun l' => some (u :: l'))]
        cases argsK hp σ ms l some <;> rfl
    · rfl
  | false :: ms, v :: l, k => by
    simp only [argsK]
    rw [immK_eq, immK_eq (maskN σ hp) v (fun v' => argsK hp σ _ l fun l' => some (v' :: l'))]
    cases immK (maskN σ hp) v some with
    | none => rfl
    | some u =>
      simp only [Option.bind_some]
      rw [argsK_eq hp σ _ l, argsK_eq hp σ _ l (fun l' => some (u :: l'))]
      cases argsK hp σ _ l some <;> rfl
  | [], v :: l, k => by
    simp only [argsK]
    rw [immK_eq, immK_eq (maskN σ hp) v (fun v' => argsK hp σ _ l fun l' => some (v' :: l'))]
    cases immK (maskN σ hp) v some with
    | none => rfl
    | some u =>
      simp only [Option.bind_some]
      rw [argsK_eq hp σ _ l, argsK_eq hp σ _ l (fun l' => some (u :: l'))]
      cases argsK hp σ _ l some <;> rfl

theorem lentK_eq {β : Type} (hp : Nat → Option AV) (σ : Nat → Option Nat) : ∀ (ns : List Nat) (k : List AV → Option β), lentK hp σ ns k = (lentK hp σ ns some).bind k
  | [], k => rfl
  | n :: ns, k => by
    simp only [lentK]
    split
    · split
      · rename_i c _ _
        cases c.ren σ with
        | none => rfl
        | some u =>
          simp only [Option.bind_some]
          rw [lentK_eq hp σ ns, lentK_eq hp σ ns (fun l => some (u :: l))]
          cases lentK hp σ ns some <;> rfl
      · rfl
    · rfl

theorem asNat_eq {β : Type} (v : AV) (k : Nat → Option β) : asNat v k = (asNat v some).bind k := by
  unfold asNat; split <;> simp [cond_bind]

theorem boundK_eq {β : Type} (cx : Cx) (env : Nat → Option AV) (o : Option Operand) (d m : Nat) (k : Nat → Option β) : boundK cx env o d m k = (boundK cx env o d m some).bind k := by
  unfold boundK
  split
  · rfl
  · rw [asNat_eq, asNat_eq _ (fun n => cond (Nat.ble n m) (some n) none)]
    cases asNat (ev cx env 0 _) some <;> simp [cond_bind]

theorem partsK_eq {β : Type} (P : Program) (t : TypeId) : ∀ (l : List (Nat × AV)) (v : AV) (k : AV → Option β), partsK P t v l k = (partsK P t v l some).bind k
  | [], v, k => rfl
  | (i, u) :: rest, v, k => by
    simp only [partsK]
    split
    · split
      · split
        · rw [setK_eq, setK_eq _ _ _ (fun v' => partsK P t v' rest some)]
          cases set v _ u with
          | none => rfl
          | some w => simp only [Option.bind_some]; exact partsK_eq P t rest w k
        · rfl
      · rfl
    · split
      · split
        · rw [setK_eq, setK_eq _ _ _ (fun v' => partsK P t v' rest some)]
          cases set v _ u with
          | none => rfl
          | some w => simp only [Option.bind_some]; exact partsK_eq P t rest w k
        · rfl
      · rfl
    · rfl

def P2 (v : AV) (δ : List (Nat × AV)) : Option (AV × List (Nat × AV)) := some (v, δ)

theorem bind_bind' {α β γ : Type} (x : Option α) (f : α → Option β) (g : β → Option γ) : (x.bind f).bind g = x.bind fun a => (f a).bind g := by cases x <;> rfl

theorem copyK_eq {β : Type} (hp : Nat → Option AV) (d s : AV) (k : AV → List (Nat × AV) → Option β) : copyK hp d s k = (copyK hp d s P2).bind fun p => k p.1 p.2 := by
  unfold copyK
  split
  · rw [listK0_eq, listK0_eq _ _ (β := AV × List (Nat × AV)), bind_bind']
    cases listF0 hp s with
    | none => rfl
    | some q =>
      simp only [Option.bind_some]
      split
      · rw [ite_bind, bind_bind']; rfl
      · rfl
  · rw [listK0_eq, listK0_eq _ _ (β := AV × List (Nat × AV)), bind_bind']
    cases listF0 hp s with
    | none => rfl
    | some q =>
      simp only [Option.bind_some]
      split
      · rw [ite_bind, bind_bind']
        congr 1
        cases castL _ _ _ <;> simp [cond_bind, P2]
      · rfl
  · rw [listK0_eq, listK0_eq _ _ (β := AV × List (Nat × AV)), bind_bind']
    cases listF0 hp s with
    | none => rfl
    | some q =>
      simp only [Option.bind_some]
      split
      · split
        · split
          · conv => lhs; rw [getB_eq]
            conv => rhs; rw [getB_eq]
            cases gett _ _ with
            | none => rfl
            | some a =>
              simp only [Option.bind_some]
              split
              · split
                · rw [cond_bind]
                  congr 1
                  conv => lhs; rw [setB_eq]
                  conv => rhs; rw [setB_eq]
                  cases sett _ _ _ <;> simp [P2]
                · rfl
              · rfl
          · rfl
        · rfl
      · rfl
  · rfl

theorem appendK_eq {β : Type} (hp : Nat → Option AV) (dd b : Nat) (d s : AV) (k : AV → List (Nat × AV) → Option β) : appendK hp dd b d s k = (appendK hp dd b d s P2).bind fun p => k p.1 p.2 := by
  unfold appendK
  split
  · rw [listK0_eq, listK0_eq _ _ (β := AV × List (Nat × AV)), bind_bind']
    cases listF0 hp s with
    | none => rfl
    | some q =>
      simp only [Option.bind_some]
      cases castL _ _ _ <;> simp [cond_bind, P2]
  · rw [listK0_eq, listK0_eq _ _ (β := AV × List (Nat × AV)), bind_bind']
    cases listF0 hp s with
    | none => rfl
    | some q =>
      simp only [Option.bind_some]
      split
      · rw [ite_bind, bind_bind']
        congr 1
        cases castL _ _ _ <;> simp [cond_bind, P2]
      · rfl
  · rw [listK0_eq, listK0_eq _ _ (β := AV × List (Nat × AV)), bind_bind']
    cases listF0 hp s with
    | none => rfl
    | some q =>
      simp only [Option.bind_some]
      split
      · rw [ite_bind, bind_bind']
        congr 1
        cases castL _ _ _ <;> simp [cond_bind, P2]
      · rfl
  · rename_i n p s0 i len cap
    rw [listK0_eq, listK0_eq _ _ (β := AV × List (Nat × AV)), bind_bind']
    cases listF0 hp s with
    | none => rfl
    | some q =>
      simp only [Option.bind_some]
      rw [listK0_eq, listK0_eq _ (.sl n p s0 i len cap) (β := AV × List (Nat × AV)), bind_bind']
      cases listF0 hp (.sl n p s0 i len cap) with
      | none => rfl
      | some q' =>
        simp only [Option.bind_some]
        cases castL _ _ _ with
        | none => rfl
        | some ys =>
          simp only [Option.bind_some]
          split
          · rw [ite_bind, cond_bind]; rfl
          · rfl
  · rfl

/-- What a call answers: is it a panic, the value, the blocks. -/
abbrev PB : Bool → AV → List (Nat × AV) → Option (Bool × AV × List (Nat × AV)) := fun b v δ => some (b, v, δ)
def callF (cx : Cx) (hp : Nat → Option AV) (d : Option Nat) (f : Nat) (args : List AV) : Option (Bool × AV × List (Nat × AV)) := callG cx hp d f args (PB false) (PB true)

theorem callB_eq {β : Type} (hp : Nat → Option AV) (d : Option Nat) (e : Entry) (args : List AV) (ns : List Nat) (k kp : AV → List (Nat × AV) → Option β) :
    callG.callB hp d e args ns k kp = (callG.callB hp d e args ns (PB false) (PB true)).bind fun p => cond p.1 (kp p.2.1 p.2.2) (k p.2.1 p.2.2) := by
  unfold callG.callB
  simp only [Entry.elim_eq]
  split
  · conv => lhs; rw [argsK_eq]
    conv => rhs; rw [argsK_eq]
    rw [bind_bind']
    cases argsK hp _ e.modes args some with
    | none => rfl
    | some l =>
      simp only [Option.bind_some]
      conv => lhs; rw [lentK_eq]
      conv => rhs; rw [lentK_eq]
      rw [bind_bind']
      cases lentK hp _ ns some with
      | none => rfl
      | some bs =>
        simp only [Option.bind_some]
        split
        · rename_i a _
          cases e.F a with
          | none => rfl
          | some r =>
            simp only [Option.bind_some]
            split
            · cases hp : e.pan r <;> simp [ite_bind, PB, hp]
            · rfl
        · rfl
  · rfl

theorem callG_eq {β : Type} (cx : Cx) (hp : Nat → Option AV) (d : Option Nat) (f : Nat) (args : List AV) (k kp : AV → List (Nat × AV) → Option β) :
    callG cx hp d f args k kp = (callF cx hp d f args).bind fun p => cond p.1 (kp p.2.1 p.2.2) (k p.2.1 p.2.2) := by
  unfold callF callG
  simp only [Entry.elim_eq]
  split
  · split
    · conv => lhs; rw [argsK_eq]
      conv => rhs; rw [argsK_eq]
      rw [bind_bind']
      cases argsK hp _ _ args some with
      | none => rfl
      | some l =>
        simp only [Option.bind_some]
        split
        · rename_i e _ _ _ a _
          cases e.F a with
          | none => rfl
          | some r => cases hp : e.pan r <;> simp [PB, ite_bind, hp]
        · rfl
    · exact callB_eq _ _ _ _ _ _ _
  · rfl

theorem callK_eq {β : Type} (cx : Cx) (hp : Nat → Option AV) (d : Option Nat) (f : Nat) (args : List AV) (k : AV → List (Nat × AV) → Option β) : callK cx hp d f args k = (callK cx hp d f args P2).bind fun p => k p.1 p.2 := by
  unfold callK
  rw [callG_eq, callG_eq (k := P2), bind_bind']
  congr 1
  funext p
  cases p.1 <;> simp [P2]

/-- The call without its way of telling apart. -/
theorem callK_def {β : Type} (cx : Cx) (hp : Nat → Option AV) (d : Option Nat) (f : Nat) (args : List AV) (k : AV → List (Nat × AV) → Option β) : callK cx hp d f args k = match cx.calls f with
  | some e =>
    if e.quiet then
      argsK hp (fun _ => none) e.modes args fun args' =>
      match e.dec args' [] with
      | some a => (e.F a).bind fun r => if AV.perss (e.enc r) then cond (e.pan r) none (k (one (e.enc r)) []) else none
      | none => none
    else
      callG.callB hp d e args (reachN hp 40 (AV.namess (asIs e.modes args)) []) k fun _ _ => none
  | none => none := by
  unfold callK callG
  simp only [Entry.elim_eq]
  rfl

theorem callB_def {β : Type} (hp : Nat → Option AV) (d : Option Nat) (e : Entry) (args : List AV) (ns : List Nat) (k kp : AV → List (Nat × AV) → Option β) : callG.callB hp d e args ns k kp =
    if Nat.beq ns.length e.nb && (nodupN ns && (Nat.ble ns.length 1000 && ns.all fun n => !froN n)) then
      argsK hp (fun n => placeN n ns) e.modes args fun args' =>
      lentK hp (fun n => placeN n ns) ns fun bs =>
      match e.dec args' bs with
      | some a => (e.F a).bind fun r =>
        match AV.rens (backN ns d) (e.enc r), outK hp e.nb (backN ns d) (e.out r) with
        | some vs, some bs' => if nodupN (keysN bs') && AV.perss (e.enc r) then cond (e.pan r) (kp (one vs) (bs' ++ lostN ns)) (k (one vs) (bs' ++ lostN ns)) else none
        | _, _ => none
      | none => none
    else none := by
  unfold callG.callB
  simp only [Entry.elim_eq]
  rfl

def opF (cx : Cx) (o : Oper) (env hp : Nat → Option AV) : Option (AV × List (Nat × AV)) := opK cx o env hp P2

theorem boundK2_eq {β γ : Type} (cx : Cx) (env : Nat → Option AV) (o o' : Option Operand) (d m : Nat) (k : Nat → Nat → Option β) (g : β → Option γ) :
    (boundK cx env o d m fun h => boundK cx env o' 0 h fun l => k h l).bind g = boundK cx env o d m fun h => boundK cx env o' 0 h fun l => (k h l).bind g := by
  rw [boundK_eq, boundK_eq cx env o d m (fun h => boundK cx env o' 0 h fun l => (k h l).bind g), bind_bind']
  cases boundK cx env o d m some with
  | none => rfl
  | some h =>
    simp only [Option.bind_some]
    rw [boundK_eq, boundK_eq cx env o' 0 h (fun l => (k h l).bind g), bind_bind']

theorem opK_eq {β : Type} (cx : Cx) (o : Oper) (env hp : Nat → Option AV) (k : AV → List (Nat × AV) → Option β) : opK cx o env hp k = (opF cx o env hp).bind fun p => k p.1 p.2 := by
  unfold opF opK
  cases o.op with
  | move x => rfl
  | assign x => rfl
  | pick c x y => simp only []; split <;> simp [cond_bind, P2]
  | alloc t => simp only []; split <;> simp [ite_bind, P2]
  | box t x => simp only []; split <;> simp [ite_bind, P2]
  | build t parts =>
    simp only []
    split
    · simp only [ite_bind, Option.bind_none]
      split
      · conv => lhs; rw [partsK_eq]
        conv => rhs; rw [partsK_eq]
        cases partsK _ _ _ _ some <;> simp [P2]
      · rfl
    · rfl
  | buildSlice t n parts =>
    simp only []
    split
    · rw [ite_bind]
      congr 1
      split
      · rw [ite_bind]
        congr 1
        split
        · rfl
        · split
          · rw [ite_bind]
            congr 1
            split <;> rfl
          · rfl
      · rfl
    · rfl
  | makeSlice t x y =>
    simp only []
    split
    · rw [ite_bind]
      congr 1
      split
      · simp [ite_bind, cond_bind, P2]
      · rfl
    · rfl
  | load t x =>
    simp only []
    split
    · split
      · conv => lhs; rw [getB_eq]
        conv => rhs; rw [getB_eq]
        cases gett _ _ <;> simp [P2, ite_bind]
      · rfl
    · simp [P2, ite_bind]
    · simp [P2, ite_bind, cond_bind]
    · rfl
  | store t x y =>
    simp only []
    split
    · split
      · simp only [ite_bind, Option.bind_none]
        split
        · conv => lhs; rw [setB_eq]
          conv => rhs; rw [setB_eq]
          cases sett _ _ _ <;> simp [P2]
        · rfl
      · rfl
    · rfl
  | nilCheck x => simp only []; split <;> simp [P2, cond_bind]
  | binOp op t x y u =>
    simp only []
    conv => lhs; rw [binK_eq]
    conv => rhs; rw [binK_eq]
    cases binK _ _ _ _ _ some <;> simp [P2]
  | unOp op t x =>
    simp only []
    conv => lhs; rw [unK_eq]
    conv => rhs; rw [unK_eq]
    cases unK _ _ some <;> simp [P2]
  | convert s d x =>
    simp only []
    split
    · rfl
    · split <;> rfl
    · split
      · rw [listK0_eq, listK0_eq _ _ (β := AV × List (Nat × AV))]
        cases listF0 hp _ with
        | none => rfl
        | some p => simp only [Option.bind_some]; split <;> rfl
      · rfl
    · rfl
  | makeInterface t x => simp only []; split <;> simp [P2, ite_bind]
  | typeAssert x s t c =>
    cases c
    · rfl
    · simp only []
      split
      · rfl
      · split
        · rw [ite_bind]; congr 1; rw [ite_bind]; rfl
        · rw [ite_bind]; rfl
        · rfl
      · rfl
  | fieldAddr s x f =>
    simp only []
    split
    · split
      · simp [P2, ite_bind]
      · split
        · rfl
        · conv => lhs; rw [getK_eq]
          conv => rhs; rw [getK_eq]
          cases get _ _ <;> simp [P2]
      · rw [cond_bind]
        congr 1
        split
        · rfl
        · conv => lhs; rw [getK_eq]
          conv => rhs; rw [getK_eq]
          cases get _ _ <;> simp [P2]
      · rfl
    · rfl
  | field t x f =>
    simp only []
    split
    · split
      · conv => lhs; rw [getK_eq]
        conv => rhs; rw [getK_eq]
        cases get _ _ <;> simp [P2, ite_bind]
      · rfl
    · rfl
  | indexAddr t x i =>
    simp only []
    split
    · rw [cond_bind]
      congr 1
      split
      · rw [cond_bind]
        congr 1
        split
        · split
          · simp [P2]
          · conv => lhs; rw [getK_eq]
            conv => rhs; rw [getK_eq]
            cases get _ _ <;> simp [P2]
          · rfl
        · rfl
      · split
        · split
          · simp [P2, ite_bind, cond_bind]
          · split <;> simp [P2, ite_bind, cond_bind]
          · simp [P2, ite_bind, cond_bind]
          · simp [P2, ite_bind, cond_bind]
          · simp [P2, ite_bind, cond_bind]
          · rfl
        · rfl
      · rfl
    · rfl
  | index t x i =>
    simp only []
    split
    · rw [cond_bind]
      congr 1
      split
      · rw [cond_bind]
        congr 1
        split
        · conv => lhs; rw [getK_eq]
          conv => rhs; rw [getK_eq]
          cases get _ _ <;> simp [P2, ite_bind]
        · rfl
      · split <;> simp [P2, cond_bind]
      · rfl
    · rfl
  | extract t i =>
    simp only []
    split
    · split <;> simp [P2]
    · rfl
  | slice t x lo hi mx =>
    cases mx with
    | some m => rfl
    | none =>
      simp only []
      split
      · split
        · rw [ite_bind, boundK2_eq]; rfl
        · rfl
      · split
        · rw [ite_bind, boundK2_eq]; rfl
        · split
          · rw [ite_bind]
            congr 1
            split
            · rfl
            · rw [boundK2_eq]; rfl
          · rfl
        · split
          · rw [ite_bind, boundK2_eq]; rfl
          · rfl
        · rw [ite_bind, boundK2_eq]; rfl
        · rw [ite_bind, boundK2_eq]; rfl
        · rfl
      · split
        · rw [boundK2_eq]; rfl
        · rfl
      · rfl
  | makeFunc fn first caps => cases fn <;> first | rfl | simp [P2, ite_bind]
  | call c =>
    simp only []
    split
    · split
      · rw [ite_bind]; congr 1; exact callK_eq _ _ _ _ _ _
      · rfl
    · split
      · simp [P2]
      · simp [P2]
      · split <;> simp [P2, ite_bind]
      · simp [P2]
      · simp [P2]
      · simp [P2]
      · simp [P2]
      · split <;> simp [P2]
      · rfl
    · split
      · rw [ite_bind]; congr 1; exact copyK_eq _ _ _ _
      · rfl
    · split
      · rw [ite_bind]
        congr 1
        split
        · exact appendK_eq _ _ _ _ _ _
        · rfl
      · rfl
    · split <;> simp [P2, ite_bind]
    · split <;> simp [P2, ite_bind]
    · rfl
  | _ => rfl
end
end Go.Sy
