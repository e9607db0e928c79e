/- A symbolic reading of the model's code: regions, control, functions. Definitions. -/
import Derived.Test.YtmbcolalfgepiaaDoorSyA
namespace Go.Sy
open Go

def St.put (S : St) (dst : Option Nat) (v : AV) (δ : Option (Nat × AV)) : St :=
  ⟨match dst with | some d => (d, v) :: S.env | none => S.env, match δ with | some b => b :: S.heap | none => S.heap⟩

/-- What an operation's guard asks for: a slot, the value wanted. -/
def guardAt (all : Array Oper) (o : Oper) : Option (Nat × Bool) :=
  match o.guard with
  | none => none
  | some (j, want) => match (all[j]?).bind (·.dst) with
    | some d => some (d, want)
    | none => none

/-- What an operation's guard says. -/
def guardOf (all : Array Oper) (env : Nat → Option AV) (o : Oper) : Option Bool :=
  match o.guard with
  | none => some true
  | some (j, want) => match ((all[j]?).bind (·.dst)).bind env with
    | some (.bool b) => some (b == want)
    | _ => none

/-- A bool is told by now. -/
def St.lit (S : St) (d : Nat) (b : Bool) : St := ⟨(d, .bool b) :: S.env, S.heap⟩

def dstOK (N : Nat) : Option Nat → Bool
  | none => true
  | some d => Nat.blt d N

/-- Does an operation touch memory (1: it reads, 2: it writes or makes)? -/
def kindOf : Op → Nat
  | .alloc _ | .box .. | .store .. => 2
  | .load .. => 1
  | .call { callee := .builtin .copy, .. } => 2
  | .call { callee := .builtin _, .. } => 0
  | .call _ => 1
  | _ => 0

def memApart (x y : Op) : Bool :=
  match kindOf x, kindOf y with
  | 2, 0 | 0, 2 | 0, 0 | 0, 1 | 1, 0 | 1, 1 => true
  | _, _ => false

/-- Is the slot written in the region? -/
def wrote (ops : Array Oper) (n : Nat) : Bool := ops.toList.any fun o => match o.dst with
  | some d => Nat.beq d n
  | none => false

def addrOf : Op → Option Nat
  | .load _ (.tmp n) => some n
  | .store _ (.tmp n) _ => some n
  | _ => none

def newOp : Op → Bool
  | .alloc _ | .box .. => true
  | _ => false

/-- Do they touch different blocks (f: the temporaries when the region begins)? -/
def memDisj (ops : Array Oper) (f : Nat → Option AV) (x y : Op) : Bool :=
  match addrOf x, addrOf y with
  | some n, some m => !wrote ops n && !wrote ops m && (match f n, f m with
    | some (.ptr b _), some (.ptr b' _) => !Nat.beq b b'
    | _, _ => false)
  | _, _ => false

/-- May the first, which comes up first in the text, change places with the second? -/
def memFree (ops : Array Oper) (f : Nat → Option AV) (x y : Op) : Bool :=
  memApart x y || (newOp y && Nat.ble (kindOf x) 1) || memDisj ops f x y

/-- As 'Region.free', memory too: every operation that has not come up yet waits for 'k' or is apart from it. -/
def freeM (f : Nat → Option AV) (ops : Array Oper) (listed : Array Bool) (k : Nat) : Bool :=
  match ops[k]? with
  | none => false
  | some o => (List.range ops.size).all fun j =>
    (j == k) || listed.getD j true || (match ops[j]? with
      | none => true
      | some oj => oj.after.any (fun e => Region.binds .any e && e.on == k) || (o.apart ops oj && memFree ops f o.op oj.op))

def lexM (f : Nat → Option AV) (ops : Array Oper) : Nat → Nat → Array Bool → Bool
  | 0, _, listed => (Region.ready .any ops listed).isEmpty
  | fuel + 1, k, listed => (Region.ready .any ops listed).contains k && freeM f ops listed k && lexM f ops fuel (k + 1) (listed.setIfInBounds k true)

def drawOK (f : Nat → Option AV) (ops : Array Oper) : Bool := lexM f ops ops.size 0 (Array.replicate ops.size false)

section
variable {β : Type}

def opsK (cx : Cx) (all : Array Oper) : List Oper → St → (St → Option β) → Option β
  | [], S, k => k S
  | o :: rest, S, k =>
    if dstOK cx.N o.dst then
      match o.guard, guardAt all o with
      | none, _ => opK cx o S.e S.h fun v δ => opsK cx all rest (S.put o.dst v δ) k
      | some _, some (d, want) => match S.e d with
        | some (.bool b) => cond b
          (if want then opK cx o (S.lit d true).e S.h fun v δ => opsK cx all rest ((S.lit d true).put o.dst v δ) k else opsK cx all rest ((S.lit d true).put o.dst .undef none) k)
          (if want then opsK cx all rest ((S.lit d false).put o.dst .undef none) k else opK cx o (S.lit d false).e S.h fun v δ => opsK cx all rest ((S.lit d false).put o.dst v δ) k)
        | _ => none
      | _, _ => none
    else none

def inDom (l : List (Nat × AV)) (n : Nat) : Bool := (lk n l).isSome

/-- All blocks that are named lie there. -/
def St.inScope (S : St) : Bool :=
  S.env.all (fun p => p.2.named (inDom S.heap)) && S.heap.all (fun p => p.2.named (inDom S.heap))

def St.keep (S : St) (ks hs : List Nat) : St :=
  ⟨ks.filterMap fun n => (lk n S.env).map fun v => (n, v), hs.filterMap fun n => (lk n S.heap).map fun v => (n, v)⟩

def firstReg : Code → Nat
  | .region id _ _ => id
  | .seq a b => match a with
    | .skip | .label _ => firstReg b
    | a => firstReg a
  | .block _ a | .scope a | .loop a => firstReg a
  | .cond _ a _ => firstReg a
  | _ => 0

/-- A loop, round by round. -/
def loopK (step : St → (Ex → St → Option β) → Option β) (trim : St → Option St) : Nat → St → (Ex → St → Option β) → Option β
  | 0, _, _ => none
  | n + 1, S, k => match trim S with
    | some S' => step S' fun e S'' => match e with
      | .normal => loopK step trim n S'' k
      | e => k e S''
    | none => none

def trimOf (cx : Cx) (id : Nat) (S : St) : Option St :=
  match cx.keep id with
  | none => some S
  | some (ks, hs) => if (S.keep ks hs).inScope then some (S.keep ks hs) else none

def codeK (cx : Cx) : Code → St → (Ex → St → Option β) → Option β
  | .skip, S, k => k .normal S
  | .label _, S, k => k .normal S
  | .region _ ops draw, S, k => if !draw || drawOK S.e ops then opsK cx ops ops.toList S (k .normal) else none
  | .seq a b, S, k => codeK cx a S fun e S' => match e with
    | .normal => codeK cx b S' k
    | e => k e S'
  | .cond c a b, S, k => match ev cx S.e 0 c with
    | .bool t => cond t (codeK cx a S k) (codeK cx b S k)
    | _ => none
  | .block id a, S, k => codeK cx a S fun e S' => match e with
    | .exit i => if i = id then k .normal S' else k (.exit i) S'
    | e => k e S'
  | .loop a, S, k => match cx.loops (firstReg a) with
    | some le => match le.dec S with
      | some x => (le.F x).bind fun r => le.elim x r k
      | none => none
    | none => loopK (codeK cx a) (trimOf cx (firstReg a)) 600 S k
  | .exit id, S, k => k (.exit id) S
  | .ret, S, k => k .ret S
  | _, _, _ => none

/-- The n-th loop of a body, in the order of the text (inner ones behind their outer one). -/
def loopsOf : Code → List Code
  | .seq a b => loopsOf a ++ loopsOf b
  | .cond _ a b => loopsOf a ++ loopsOf b
  | .block _ a | .scope a => loopsOf a
  | .loop a => a :: loopsOf a
  | _ => []

def bodyOf (f : Func) : Code := f.body.getD (.refuse "")
def loopAt (f : Func) (n : Nat) : Code := (loopsOf (bodyOf f)).getD n (.refuse "")

/-- The state at the start. -/
def start (args : List AV) : St := ⟨(List.range args.length).zip args, []⟩

/-- What a call answers. -/
def resultsK (cx : Cx) (S : St) : List ResultVar → (List AV → Option β) → Option β
  | [], k => k []
  | .tmp t :: rest, k => match S.e t with
    | some v => immR S.h v fun v' => resultsK cx S rest fun l => k (v' :: l)
    | none => none
  | .cell t ty :: rest, k => match S.e t with
    | some (.ptr n p) => (match S.h n with
      | some c => getK c p fun v => if fitsT cx.P ty v then immR S.h v fun v' => resultsK cx S rest fun l => k (v' :: l) else none
      | none => none)
    | _ => none
where
  immR (hp : Nat → Option AV) (v : AV) (k : AV → Option β) : Option β :=
    match v with
    | .isl true s l => if s.flat then k (.isl true s l) else none
    | .sl .. => immK hp v fun w => match w with
      | .isl _ s l => k (.isl true s l)
      | _ => none
    | v => if v.flat then k v else none

def finK (cx : Cx) (res : List ResultVar) (k : List AV → Option β) : Ex → St → Option β
  | .normal, S | .ret, S => resultsK cx S res k
  | _, _ => none

def funK (cx : Cx) (f : Func) (args : List AV) (k : List AV → Option β) : Option β :=
  codeK cx (bodyOf f) (start args) (finK cx f.results.toList k)
end
end Go.Sy
