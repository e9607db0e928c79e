/- A symbolic reading of the model's code: regions, control, functions. Definitions. -/
import Derived.Test.YtapnedegcnmhgaaDoorSyAa
namespace Go.Sy
open Go
noncomputable section

def St.put (S : St) (dst : Option Nat) (v : AV) (δ : List (Nat × AV)) : St :=
  ⟨match dst with | some d => (d, v) :: S.env | none => S.env, δ ++ S.heap⟩

/-- What an operation's guard asks for: a slot, the value wanted. -/
def guardAt (all : Array Oper) (o : Oper) : Option (Nat × Bool) :=
  match o.guard with
  | none => none
  | some (j, want) => match (all[j]?).bind (·.dst) with
    | some d => some (d, want)
    | none => none

/-- What an operation's guard says. -/
def guardOf (all : Array Oper) (env : Nat → Option AV) (o : Oper) : Option Bool :=
  match o.guard with
  | none => some true
  | some (j, want) => match ((all[j]?).bind (·.dst)).bind env with
    | some (.bool b) => some (b == want)
    | some (.tup []) => some false
    | _ => none

/-- A bool is told by now. -/
def St.lit (S : St) (d : Nat) (b : Bool) : St := ⟨(d, .bool b) :: S.env, S.heap⟩

def dstOK (N : Nat) : Option Nat → Bool
  | none => true
  | some d => Nat.blt d N

/-- Does an operation touch memory (1: it reads, 2: it writes or makes)? -/
def kindOf (cx : Cx) : Op → Nat
  | .alloc _ | .box .. | .store .. | .buildSlice .. | .makeSlice .. => 2
  | .load .. | .indexAddr .. | .slice .. => 1
  | .call { callee := .builtin .copy, .. } => 2
  | .call { callee := .builtin .append, .. } => 2
  | .call { callee := .builtin .len, .. } => 1
  | .call { callee := .builtin _, .. } => 0
  | .call { callee := .value (.func g), .. } => match cx.calls g with
    | some e => if e.quiet then 1 else 2
    | none => 1
  | .call _ => 2
  | .convert s _ _ => match cx.P.underlying s with
    | some (.slice _) => 1
    | _ => 0
  | _ => 0

def memApart (cx : Cx) (x y : Op) : Bool :=
  match kindOf cx x, kindOf cx y with
  | 2, 0 | 0, 2 | 0, 0 | 0, 1 | 1, 0 | 1, 1 => true
  | _, _ => false

/-- Is the slot written in the region? -/
def wrote (ops : Array Oper) (n : Nat) : Bool := ops.toList.any fun o => match o.dst with
  | some d => Nat.beq d n
  | none => false

def addrOf : Op → Option Nat
  | .load _ (.tmp n) => some n
  | .store _ (.tmp n) _ => some n
  | _ => none

def newOp : Op → Bool
  | .alloc _ | .box .. | .buildSlice .. | .makeSlice .. => true
  | _ => false

/-- Do they touch different blocks (f: the temporaries when the region begins)? -/
def memDisj (ops : Array Oper) (f : Nat → Option AV) (x y : Op) : Bool :=
  match addrOf x, addrOf y with
  | some n, some m => !wrote ops n && !wrote ops m && (match f n, f m with
    | some (.ptr b _), some (.ptr b' _) => !Nat.beq b b'
    | _, _ => false)
  | _, _ => false

/-- The block that an operation loads from, where the address was there when the region began. -/
def loadFix (ops : Array Oper) (f : Nat → Option AV) (x : Op) : Option Nat :=
  match x with
  | .load _ (.tmp n) => if wrote ops n then none else match f n with
    | some (.ptr b _) => some b
    | _ => none
  | _ => none

/-- Does a load of the region look at the block so? -/
def loadsAt (ops : Array Oper) (f : Nat → Option AV) (b : Nat) : Bool := ops.toList.any fun o => match loadFix ops f o.op with
  | some b' => Nat.beq b b'
  | none => false

/-- A call that may write to what is lent to it. -/
def isCall2 (cx : Cx) (x : Op) : Bool :=
  match x with
  | .call { callee := .value _, .. } => Nat.beq (kindOf cx x) 2
  | _ => false

/-- Is it a block that an operation of the region makes? -/
def madeIn (ops : Array Oper) (b : Nat) : Bool := ops.toList.any fun o => newOp o.op && (match o.dst with
  | some d => Nat.beq b (d + 1000)
  | none => false)
/-- A load looks at no block that an operation of the region makes. -/
def loadC (ops : Array Oper) (f : Nat → Option AV) (x : Op) : Bool :=
  match x with
  | .load _ (.tmp n) => (match f n with
    | some (.ptr b _) => !madeIn ops b
    | _ => true)
  | _ => true
def isLoad : Op → Bool
  | .load _ (.tmp _) => true
  | _ => false

/-- Such a call touches no block that a load of the region looks at (gd: the temporaries when a region that draws begins). -/
def callC (cx : Cx) (ops : Array Oper) (gd : Option (Nat → Option AV)) (o : Oper) (f : Nat → Option AV) (δ : List (Nat × AV)) : Bool :=
  match gd with
  | none => true
  | some g => (!isCall2 cx o.op || δ.all fun p => !loadsAt ops g p.1) && loadC ops f o.op

def memCall (cx : Cx) (ops : Array Oper) (f : Nat → Option AV) (x y : Op) : Bool :=
  (isCall2 cx x && (loadFix ops f y).isSome) || (isCall2 cx y && (loadFix ops f x).isSome) || (isCall2 cx x && newOp y)

/-- A slice of an array whose address was there when the region began: memory is not looked at. -/
def sliceP (ops : Array Oper) (f : Nat → Option AV) : Op → Bool
  | .slice _ (.tmp n) _ _ none => !wrote ops n && (match f n with
    | some (.ptr _ _) => true
    | _ => false)
  | _ => false

/-- A slice and a store: lengths of rows stay. -/
def sliceS : Op → Op → Bool
  | .slice _ _ _ _ none, .store .. => true
  | _, _ => false

/-- May the first, which comes up first in the text, change places with the second? -/
def memFree (cx : Cx) (ops : Array Oper) (f : Nat → Option AV) (x y : Op) : Bool :=
  memApart cx x y || (newOp y && Nat.ble (kindOf cx x) 1) || memDisj ops f x y || memCall cx ops f x y || (newOp x && newOp y) || sliceP ops f x || sliceP ops f y || sliceS x y || sliceS y x || (newOp x && isLoad y)

/-- Does 'j' wait for 'k', by way of others that have not come up yet? -/
def waitsB (ops : Array Oper) (listed : Array Bool) (k : Nat) : Nat → Nat → Bool
  | 0, _ => false
  | n + 1, j => match ops[j]? with
    | none => false
    | some o => o.after.toList.any fun e => Region.binds .any e && (e.on == k || (!listed.getD e.on true && waitsB ops listed k n e.on))

/-- As 'Region.free', memory too: every operation that has not come up yet waits for 'k' or is apart from it. -/
def freeM (cx : Cx) (f : Nat → Option AV) (ops : Array Oper) (listed : Array Bool) (k : Nat) : Bool :=
  match ops[k]? with
  | none => false
  | some o => (List.range ops.size).all fun j =>
    (j == k) || listed.getD j true || (match ops[j]? with
      | none => true
      | some oj => (o.apart ops oj && memFree cx ops f o.op oj.op) || waitsB ops listed k 40 j)

def lexM (cx : Cx) (f : Nat → Option AV) (ops : Array Oper) : Nat → Nat → Array Bool → Bool
  | 0, _, listed => (Region.ready .any ops listed).isEmpty
  | fuel + 1, k, listed => (Region.ready .any ops listed).contains k && freeM cx f ops listed k && lexM cx f ops fuel (k + 1) (listed.setIfInBounds k true)

def drawOK (cx : Cx) (f : Nat → Option AV) (ops : Array Oper) : Bool := lexM cx f ops ops.size 0 (Array.replicate ops.size false)

/-! ### What is said anew of the memory -/

mutual
/-- A value whose named parts are seen otherwise. -/
def AV.mapL (f : AV → AV) : AV → AV
  | .st l => .st (AV.mapsL f l)
  | .tup l => .tup (AV.mapsL f l)
  | .fn g l => .fn g (AV.mapsL f l)
  | .pim fr v => .pim fr (v.mapL f)
  | .pimq ok v => .pimq ok (v.mapL f)
  | .ifc t v => .ifc t (v.mapL f)
  | .ptr n p => f (.ptr n p)
  | .own n s => f (.own n s)
  | .osl n s i len => f (.osl n s i len)
  | v => v
def AV.mapsL (f : AV → AV) : List AV → List AV
  | [] => []
  | v :: l => v.mapL f :: AV.mapsL f l
end

def mapP (f : AV → AV) : List (Nat × AV) → List (Nat × AV)
  | [] => []
  | (n, v) :: l => (n, v.mapL f) :: mapP f l

def iceV (n : Nat) (c : AV) : AV → AV
  | .own m s => cond (Nat.beq m n) (match c with
    | .row s' l => if shEq s s' then .isl true s' l else .own m s
    | _ => .own m s) (.own m s)
  | .osl m s i len => cond (Nat.beq m n) (match c with
    | .row s' l => if shEq s s' && Nat.ble (i + len) l.length then .isw true s' (l.drop i) len else .osl m s i len
    | _ => .osl m s i len) (.osl m s i len)
  | .ptr m p => cond (Nat.beq m n) (match p with
    | [] => if c.plain then .pim true c else .ptr m p
    | _ => .ptr m p) (.ptr m p)
  | v => v

def renL (n d : Nat) : AV → AV
  | .own m s => cond (Nat.beq m n) (.own d s) (.own m s)
  | v => v

def showV (n : Nat) (c : AV) : AV → AV
  | .own m s => cond (Nat.beq m n) (match c with
    | .row s' l => if shEq s s' then .isl false s' l else .own m s
    | _ => .own m s) (.own m s)
  | v => v

def cutV (n d : Nat) : AV → AV
  | .osl m s i len => cond (Nat.beq m n && Nat.beq i 0 && Nat.beq len 0) (.own d s) (.osl m s i len)
  | v => v

def partV (n k : Nat) : AV → AV
  | .own m s => cond (Nat.beq m n) (.osl m s 0 k) (.own m s)
  | v => v

def iceK (n : Nat) (S : St) : Option St :=
  match S.h n with
  | some c => if c.live && newN n then some ⟨mapP (iceV n c) S.env, (n, .undef) :: mapP (iceV n c) S.heap⟩ else some S
  | none => some S

def ghostK (g : Ghost) (S : St) : Option St :=
  match g with
  | .ice n => iceK n S
  | .cut n d => match S.h n, S.h d with
    | some (.row s _), none => if Nat.ble 1000 d && ((!newN d || newN n) && !froN n) then some ⟨mapP (cutV n d) S.env, (n, .undef) :: (d, .row s []) :: mapP (cutV n d) S.heap⟩ else some S
    | _, _ => some S
  | .share t d => match S.e t with
    | some (.own n _) => (match S.h n, S.h d with
      | some (.row s l), none => if !froN n && froN d then some ⟨mapP (renL n d) S.env, (n, .undef) :: (d, .row s l) :: mapP (showV n (.row s l)) S.heap⟩ else some S
      | _, _ => some S)
    | _ => some S
  | .shown t => match S.e t with
    | some (.own n _) => (match S.h n with
      | some (.row s l) => some ⟨mapP (showV n (.row s l)) S.env, (n, .undef) :: mapP (showV n (.row s l)) S.heap⟩
      | _ => some S)
    | _ => some S
  | .iceT t => match S.e t with
    | some (.own n _) | some (.ptr n _) => iceK n S
    | some (.nsl s) => some ⟨(t, .isl true s []) :: S.env, S.heap⟩
    | _ => some S
  | .pack t i => match S.e t with
    | some (.el ..) => some S
    | some v => (match v.toDV.bind i.make with
      | some u => if v.isAgg == i.agg then some ⟨(t, .el i u) :: S.env, S.heap⟩ else some S
      | none => some S)
    | none => some S
  | .packB n i => match S.h n with
    | some (.el ..) => some S
    | some (.nsl s) => some ⟨S.env, (n, .isl true s []) :: S.heap⟩
    | some v => (match v.toDV.bind i.make with
      | some u => if v.isAgg == i.agg then some ⟨S.env, (n, .el i u) :: S.heap⟩ else some S
      | none => some S)
    | none => some S
  | .part n => match S.h n with
    | some (.row _ l) => some ⟨mapP (partV n l.length) S.env, mapP (partV n l.length) S.heap⟩
    | _ => some S

def ghosts : List Ghost → St → Option St
  | [], S => some S
  | g :: l, S => match ghostK g S with
    | some S' => ghosts l S'
    | none => none

section
variable {β : Type}

def opsK (cx : Cx) (gd : Option (Nat → Option AV)) (all : Array Oper) : List Oper → St → (St → Option β) → (St → Option β) → Option β
  | [], S, k, _ => k S
  | o :: rest, S, k, kp =>
    if dstOK cx.N o.dst then
      match o.guard, guardAt all o with
      | none, _ => if gd.isNone && panicky cx o then opP cx o S.e S.h (fun v δ => opsK cx gd all rest (S.put o.dst v δ) k kp) (fun v δ => kp ⟨(cx.N, v) :: S.env, δ ++ S.heap⟩)
        else opK cx o S.e S.h fun v δ => if callC cx all gd o S.e δ then opsK cx gd all rest (S.put o.dst v δ) k kp else none
      | some _, some (d, want) => match S.e d with
        | some (.bool b) => cond b
          (if want then opK cx o (S.lit d true).e S.h fun v δ => if callC cx all gd o (S.lit d true).e δ then opsK cx gd all rest ((S.lit d true).put o.dst v δ) k kp else none else opsK cx gd all rest ((S.lit d true).put o.dst (.tup []) []) k kp)
          (if want then opsK cx gd all rest ((S.lit d false).put o.dst (.tup []) []) k kp else opK cx o (S.lit d false).e S.h fun v δ => if callC cx all gd o (S.lit d false).e δ then opsK cx gd all rest ((S.lit d false).put o.dst v δ) k kp else none)
        | some (.tup []) => opsK cx gd all rest (S.put o.dst (.tup []) []) k kp
        | _ => none
      | _, _ => none
    else none

def inDom (l : List (Nat × AV)) (n : Nat) : Bool := (lk n l).isSome

/-- All blocks that are named lie there. -/
def St.inScope (S : St) : Bool :=
  S.env.all (fun p => p.2.named (inDom S.heap)) && S.heap.all (fun p => p.2.named (inDom S.heap))

def St.keep (S : St) (ks hs : List Nat) : St :=
  ⟨ks.filterMap fun n => (lk n S.env).map fun v => (n, v), hs.filterMap fun n => (lk n S.heap).map fun v => (n, v)⟩

def firstReg : Code → Nat
  | .region id _ _ => id
  | .seq a b => match a with
    | .skip | .label _ => firstReg b
    | a => firstReg a
  | .block _ a | .scope a | .loop a => firstReg a
  | .cond _ a _ => firstReg a
  | _ => 0

/-- A loop, round by round. -/
def loopK (step : St → (Ex → St → Option β) → Option β) (trim : St → Option St) : Nat → St → (Ex → St → Option β) → Option β
  | 0, _, _ => none
  | n + 1, S, k => match trim S with
    | some S' => step S' fun e S'' => match e with
      | .normal => loopK step trim n S'' k
      | e => k e S''
    | none => none

/-- The blocks that the slots name, and those that these name. -/
def St.reach (S : St) (ks : List Nat) : List Nat := reachN S.h 400 ((ks.filterMap fun n => lk n S.env).flatMap AV.names) []

def trimOf (cx : Cx) (id : Nat) (S : St) : Option St :=
  match cx.keep id with
  | none => some S
  | some (ks, _) => if (S.keep ks (S.reach ks)).inScope then some (S.keep ks (S.reach ks)) else none

def codeK (cx : Cx) : Code → St → (Ex → St → Option β) → Option β
  | .skip, S, k => k .normal S
  | .label _, S, k => k .normal S
  | .region id ops draw, S, k => match ghosts (cx.ghost id) S with
    | some S => if !draw || drawOK cx S.e ops then opsK cx (cond draw (some S.e) none) ops ops.toList S (k .normal) (k .panic) else none
    | none => none
  | .seq a b, S, k => codeK cx a S fun e S' => match e with
    | .normal => codeK cx b S' k
    | e => k e S'
  | .cond c a b, S, k => match ev cx S.e 0 c with
    | .bool t => cond t (codeK cx a S k) (codeK cx b S k)
    | _ => none
  | .block id a, S, k => codeK cx a S fun e S' => match e with
    | .exit i => if i = id then k .normal S' else k (.exit i) S'
    | e => k e S'
  | .loop a, S, k => match ghosts (cx.ghost (1000000 + firstReg a)) S with
    | some S => match cx.loops (firstReg a) with
      | some le => match le.dec S with
        | some x => le.run x k
        | none => none
      | none => loopK (codeK cx a) (trimOf cx (firstReg a)) 600 S k
    | none => none
  | .exit id, S, k => k (.exit id) S
  | .ret, S, k => k .ret S
  | _, _, _ => none

/-- The n-th loop of a body, in the order of the text (inner ones behind their outer one). -/
def loopsOf : Code → List Code
  | .seq a b => loopsOf a ++ loopsOf b
  | .cond _ a b => loopsOf a ++ loopsOf b
  | .block _ a | .scope a => loopsOf a
  | .loop a => a :: loopsOf a
  | _ => []

def bodyOf (f : Func) : Code := f.body.getD (.refuse "")
def loopAt (f : Func) (n : Nat) : Code := (loopsOf (bodyOf f)).getD n (.refuse "")

/-- The state at the start. -/
def start (args : List AV) : St := ⟨(List.range args.length).zip args, []⟩

/-- What a call answers. -/
def resultsK (cx : Cx) (S : St) : List ResultVar → (List AV → Option β) → Option β
  | [], k => k []
  | .tmp t :: rest, k => match S.e t with
    | some v => if v.plain then resultsK cx S rest fun l => k (v :: l) else none
    | none => none
  | .cell t ty :: rest, k => match S.e t with
    | some (.ptr n p) => (match S.h n with
      | some c => getB c p fun v => if fitsT cx.P ty v then resultsK cx S rest fun l => k (v :: l) else none
      | none => none)
    | _ => none

/-- The state behind a call: the results in the places of the temporaries. -/
def St.res (S : St) (l : List AV) : St := ⟨(List.range l.length).zip l, S.heap⟩

def finK (cx : Cx) (res : List ResultVar) (k kp : St → Option β) : Ex → St → Option β
  | .panic, S => match S.e cx.N with
    | some v => if v.plain then kp (S.res [v]) else none
    | none => none
  | .normal, S | .ret, S => match ghosts (cx.ghost 2000000) S with
    | some S => resultsK cx S res fun l => k (S.res l)
    | none => none
  | _, _ => none

def funK (cx : Cx) (f : Func) (S : St) (k kp : St → Option β) : Option β :=
  codeK cx (bodyOf f) S (finK cx f.results.toList k kp)
end

/-! ### Other names for the blocks of a state -/

/-- 'names': a name, and the state's own for the block; 'nils': a place (true: of a block, false: a temporary) where a nil slice may be, and the name of the row that it is seen as. -/
structure View where
  names : List (Nat × Nat)
  nils : List (Bool × Nat × List Step × Nat)

def View.to (v : View) (n : Nat) : Option Nat := go v.names
where
  go : List (Nat × Nat) → Option Nat
  | [] => none
  | (m, a) :: l => cond (Nat.beq n a) (some m) (go l)

def View.of (v : View) (m : Nat) : Option Nat := go v.names
where
  go : List (Nat × Nat) → Option Nat
  | [] => none
  | (m', a) :: l => cond (Nat.beq m m') (some a) (go l)

/-- What lies there, by the other names. -/
def St.at0 (S : St) (v : View) : Bool → Nat → Option AV
  | true, m => (v.of m).bind fun n => (S.h n).bind fun c => c.ren v.to
  | false, n => (S.e n).bind fun u => u.ren v.to

/-- The nil slice at a place. -/
def nsAt (u : AV) (p : List Step) : Option Sh :=
  match u with
  | .row .. => none
  | u => match getB u p some with
    | some (.nsl s) => some s
    | _ => none

/-- A nil slice is seen as a row's. -/
def nilsOf (b : Bool) (n : Nat) : List (Bool × Nat × List Step × Nat) → AV → AV
  | [], u => u
  | (b', n', p, m) :: l, u => cond ((b == b') && Nat.beq n n')
    (match nsAt u p with
    | some s => match setB u p (.own m s) some with
      | some u' => nilsOf b n l u'
      | none => nilsOf b n l u
    | none => nilsOf b n l u)
    (nilsOf b n l u)

def St.nilRow (S : St) (v : View) (m : Nat) : List (Bool × Nat × List Step × Nat) → Option AV
  | [] => none
  | (b, n, p, m') :: l => cond (Nat.beq m m') (match (S.at0 v b n).bind fun u => getB u p some with
    | some (.nsl s) => some (.row s [])
    | _ => none) (S.nilRow v m l)

/-- Is it a tuple (of a row: its length alone)? -/
def AV.isTup : AV → Bool
  | .tup _ => true
  | _ => false

def St.atV (S : St) (v : View) (b : Bool) (n : Nat) : Option AV :=
  match S.at0 v b n with
  | some u => cond (b && (nilsOf b n v.nils u).isTup) none (some (nilsOf b n v.nils u))
  | none => cond b (S.nilRow v n v.nils) none

/-- Is it a view: no name twice? -/
def View.ok (v : View) : Bool :=
  nodupN (v.names.map (·.1)) && nodupN (v.names.map (·.2)) && (v.names.all fun q => (Nat.ble 1000 q.1 || Nat.beq q.1 q.2) && ((!newN q.1 || newN q.2) && (!froN q.2 || froN q.1))) && v.nils.all fun q => (v.of q.2.2.2).isNone && Nat.ble 1000 q.2.2.2
end
end Go.Sy
