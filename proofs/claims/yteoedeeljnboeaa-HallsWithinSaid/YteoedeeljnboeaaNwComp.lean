/- From the model's code to the abstract machine's: sizes and offsets looked up, functions by their names; what is not served gives none. -/
import Derived.Test.YteoedeeljnboeaaNwSem
import GoSem.Core.Region
import GoSem.Core.Layout
import GoSem.Op.Equal
set_option linter.all false
set_option linter.unusedVariables false
set_option linter.unusedSimpArgs false
set_option linter.unusedSectionVars false
namespace Go.Nw

/-- What package variables hold; the functions that may write the caller's objects. -/
class Cfg where
  tab : Nat → Option (List Value)
  wr : String → Bool
variable [Cfg]

def infoZ (P : Program) (t : TypeId) : Option (List Value) := ((P.info? t).bind (·.zero)).bind fun z => if z.cells.toList.all (·.oneCell') then some z.cells.toList else none
def isAggT (P : Program) (t : TypeId) : Bool := match P.underlying t with | some (.struct _) | some (.array _ _) => true | _ => false
def sizeT (P : Program) (t : TypeId) : Option Nat := (P.info? t).map (·.size)
def sizeU (P : Program) (t : TypeId) : Option Nat := if (P.underlying t).isSome then sizeT P t else none
def bytesT (P : Program) (t : TypeId) : Option Nat := (P.info? t).map (·.bytes)

def nameOf (P : Program) (f : FuncId) : Option String :=
  (P.funcs[f]?).bind fun fn => if fn.body.isSome && fn.name != "runtime.NumGoroutine" then some fn.name else none

def compX (P : Program) : Operand → Option X
  | .tmp t => some (.t t)
  | .const v => some (.c v)
  | .func f => (nameOf P f).map .f
  | .global g => (Cfg.tab g).map (.g g)

/-- The cells of a type whose cells are all integers, bools and strings, laid one behind the other. -/
def flatFields (P : Program) (rec : TypeId → Option (List FK)) : List Field → Nat → Option (List FK)
  | [], _ => some []
  | f :: fs, n => if f.name ≠ "_" ∧ f.offset = n then (rec f.type).bind fun ks => (flatFields P rec fs (n + ks.length)).map (ks ++ ·) else none

def flatT (P : Program) : Nat → TypeId → Option (List FK)
  | 0, _ => none
  | d + 1, t =>
    (match P.underlying t with
    | some .bool => some [FK.b]
    | some (.int _) => some [FK.i]
    | some .string => some [FK.s]
    | some (.struct fs) => if P.stoodInHeld t then none else flatFields P (flatT P d) fs.toList 0
    | some (.array k e) => (flatT P d e).map fun ks => (List.replicate k ks).flatten
    | _ => none).bind fun ks => if sizeT P t = some ks.length then some ks else none

def eqKind (P : Program) (t : TypeId) : EqK :=
  match P.underlying t with
  | some .bool => .bool
  | some (.slice _) => .slice
  | some (.pointer e) => if sizeT P e = some 0 then .no else .ptr
  | some (.struct _) | some (.array _ _) => if P.eqGuardType P.depth t then .no else match flatT P 20 t with | some ks => .flat ks | none => .no
  | _ => .no

/-- An operand that is known to lead to memory that is only read. -/
def compF (P : Program) (bf : List Nat) (x : Operand) : Option X :=
  match x with
  | .tmp t => some (if bf.contains t then .tf t else .t t)
  | x => compX P x

def compParts (P : Program) (place : Nat → Option (Nat × Nat)) (ps : Array (Nat × Operand)) : Option (List (Nat × Nat × X)) :=
  ps.toList.mapM fun (i, x) => (place i).bind fun (off, sz) => (compX P x).map fun y => (off, sz, y)

def compOX (P : Program) : Option Operand → Option (Option X)
  | none => some none
  | some a => (compX P a).map some

def compOp (P : Program) (boxF : List Nat) (dst : Option Nat) : Op → Option XOp
  | .move x | .assign x => (compX P x).map .mv
  | .pick c a b => do pure (.pick (← compX P c) (← compX P a) (← compX P b))
  | .box _ x => (compX P x).map fun y => if (dst.map boxF.contains).getD false then .boxF y else .box y
  | .alloc e => (infoZ P e).map .alloc
  | .build t ps => do
    let zs ← infoZ P t
    match P.underlying t with
    | some (.struct fs) => do
      let sizes ← fs.toList.mapM fun f => (sizeT P f.type).map fun s => (f.offset, s)
      pure (.build zs (← compParts P (sizes[·]?) ps))
    | some (.array _ e) => do
      let s ← sizeT P e
      pure (.build zs (← compParts P (fun i => some (i * s, s)) ps))
    | _ => none
  | .buildSlice t len ps => do
    match P.underlying t with
    | some (.slice e) => do
      let s ← sizeT P e
      let zs ← infoZ P e
      if s ≠ 0 ∧ zs.length = s ∧ len * s ≤ 2 ^ 24 ∧ ps.toList.map (·.1) = List.range len then
        pure (.bsl s (← ps.toList.mapM fun p => compX P p.2))
      else none
    | _ => none
  | .load t a => do pure (.load (isAggT P t) (← sizeU P t) (← compF P boxF a))
  | .store t a x => do pure (.store (← sizeT P t) (← compX P a) (← compX P x))
  | .nilCheck x => (compF P boxF x).map .nilck
  | .binOp op t x y _ => do pure (.bin op (eqKind P t) (← compX P x) (← compX P y))
  | .unOp op _ x => (compX P x).map (.un op)
  | .convert s d x => match P.underlying d with | some (.int k) => (compX P x).bind fun y => if (P.underlying s).isSome then some (.cvtI k y) else none | _ => none
  | .makeFunc (.func f) first caps => do pure (.mkfn (← nameOf P f) (← first.toList.mapM (compX P)) (← caps.toList.mapM (compX P)))
  | .makeSlice t l c => do
    match P.underlying t with
    | some (.slice e) => do
      let s ← sizeT P e
      let zs ← infoZ P e
      if s ≠ 0 ∧ zs.length = s then pure (.mksl s zs (← bytesT P e) (← compX P l) (← compX P c)) else none
    | _ => none
  | .slice t x lo hi none => do
    match P.underlying t with
    | some (.slice e) => do
      let s ← sizeT P e
      let l ← compOX P lo
      let h ← compOX P hi
      pure (.slc s (← compX P x) l h)
    | _ => none
  | .fieldAddr t x f => do
    match P.underlying t with
    | some (.struct fs) => do
      let fl ← fs[f]?
      if (sizeT P fl.type).getD 0 = 0 then none else pure (.fldA fl.offset (← compF P boxF x))
    | _ => none
  | .field t x f => do
    match P.underlying t with
    | some (.struct fs) => do
      let fl ← fs[f]?
      pure (.fld (isAggT P fl.type) (← sizeU P fl.type) fl.offset (← compX P x))
    | _ => none
  | .indexAddr t x i => do
    match P.underlying t with
    | some (.slice e) => do
      let s ← sizeT P e
      if s = 0 then none else pure (.ixA s (← compF P boxF x) (← compX P i))
    | some (.array n e) => do
      let s ← sizeT P e
      if s = 0 then none else pure (.ixP s n (← compX P x) (← compX P i))
    | _ => none
  | .index t x i => do
    match P.underlying t with
    | some (.array n e) => do pure (.ixV (← sizeU P e) n (isAggT P e) (← compX P x) (← compX P i))
    | some .string => do pure (.ixS (← compX P x) (← compX P i))
    | _ => none
  | .extract t i => (compX P t).map fun x => .ext x i
  | .call { callee := .value (.func f), args, .. } => do
    let n ← nameOf P f
    let xs ← args.toList.mapM (compX P)
    pure (if Cfg.wr n || boxF.contains (2000000 + f) then .callw n xs else .call n xs)
  | .call { callee := .value (.tmp t), args, .. } => do pure (.callv (.t t) (← args.toList.mapM (compX P)))
  | .call { callee := .builtin .len, args, argTypes } => do
    match args.toList, argTypes.toList with
    | [x], [t] => (match P.underlying t with | some .string => (compX P x).map (.len true) | some (.slice _) => (compX P x).map (.len false) | _ => none)
    | _, _ => none
  | .call { callee := .builtin .min, args, .. } => do pure (.min (← args.toList.mapM (compX P)))
  | .call { callee := .builtin .max, args, .. } => do pure (.max (← args.toList.mapM (compX P)))
  | .call { callee := .builtin .append, args, argTypes } => do
    match args.toList, argTypes.toList with
    | [s, x], [t, u] =>
      (match P.underlying t, P.underlying u with
       | some (.slice e), some (.slice _) => do
         let sz ← sizeT P e
         let zs ← infoZ P e
         let by_ ← bytesT P e
         if sz ≠ 0 ∧ zs.length = sz ∧ 1 ≤ by_ then pure (.app sz by_ (← compX P s) (← compX P x)) else none
       | _, _ => none)
    | _, _ => none
  | _ => none

def compGuard (n : Nat) (ops : Array Oper) : Option (Nat × Bool) → Option (Option (Nat × Bool))
  | none => some none
  | some (j, b) => ((ops[j]?).bind (·.dst)).bind fun d => if d < n then some (some (d, b)) else none

def compOper (P : Program) (boxF : List Nat) (n : Nat) (ops : Array Oper) (o : Oper) : Option XO :=
  (compOp P boxF o.dst o.op).bind fun op => (compGuard n ops o.guard).bind fun g =>
  if (o.dst.map fun d => decide (d < n)).getD true then some { dst := o.dst, guard := g, op } else none

def XOp.xs : XOp → List X
  | .mv x | .box x | .boxF x | .nilck x | .un _ x | .cvtI _ x | .fldA _ x | .fld _ _ _ x | .ext x _ | .len _ x | .load _ _ x => [x]
  | .pick a b c => [a, b, c]
  | .alloc _ => []
  | .build _ ps => ps.map (·.2.2)
  | .bsl _ xs | .call _ xs | .callw _ xs | .min xs | .max xs => xs
  | .store _ a x | .bin _ _ a x | .mksl _ _ _ a x | .ixA _ a x | .ixP _ _ a x | .ixV _ _ _ a x | .ixS a x | .app _ _ a x => [a, x]
  | .mkfn _ a b => a ++ b
  | .slc _ x l h => x :: l.toList ++ h.toList
  | .callv f xs => f :: xs

def X.fz : X → Bool
  | .tf _ => true
  | _ => false

/-- The operations that look at the own objects; those that write one; those after whose writing an object still stands. -/
def XOp.acc : XOp → Bool
  | .load _ _ x | .nilck x | .fldA _ x | .ixA _ x _ => !x.fz
  | .slc .. | .ixP .. | .call .. | .callv .. | .app .. | .store .. | .callw .. => true
  | _ => false
def XOp.mut : XOp → Bool
  | .app _ _ (.c _) _ => false
  | .app .. | .store .. | .callw .. => true
  | _ => false
def XOp.sto : XOp → Bool
  | .store .. | .callw .. => true
  | _ => false

def XO.looks (o : XO) : List Nat := (o.op.xs.filterMap fun | .t n => some n | .tf n => some n | _ => none) ++ (match o.guard with | some (g, _) => [g] | none => [])

def sameDst (x y : XO) : Bool := match x.dst, y.dst with | some d, some e => d == e | _, _ => false

/-- The operations that leave the own heap as it is, and make nothing new. -/
def XOp.still : XOp → Bool
  | .mv _ | .pick .. | .boxF _ | .build .. | .load _ _ (.tf _) | .nilck (.tf _) | .fldA _ (.tf _) | .ixA _ (.tf _) _ | .bin .. | .un .. | .cvtI .. | .mkfn .. | .fld .. | .ixV .. | .ixS .. | .ext .. | .len .. | .min _ | .max _ => true
  | _ => false
def XOp.isW : XOp → Bool
  | .callw .. => true
  | _ => false

/-- Two operations, the first earlier in the text, of which the drawn order may turn the order. -/
def freeX (fl : Bool) (x y : XO) : Bool :=
  (match x.dst with | some d => !(y.looks.contains d) | none => true) &&
  (match y.dst with | some d => !(x.looks.contains d) | none => true) &&
  (!x.op.acc || !y.op.mut || fl) && (!x.op.sto || !y.op.acc) && ((!x.op.isW || y.op.still) && (!y.op.isW || x.op.still))

/-- The second appends to the slice that the first has just built. -/
def feeds (x y : XO) : Bool :=
  match x.op, x.dst, x.guard, y.op with
  | .bsl _ _, some d, none, .app _ _ (.t s) _ => d == s
  | _, _, _, _ => false

def force {α : Type} (n : Nat) (f : Nat → α) : α := match n with | 0 => f 0 | k + 1 => f (k + 1)

/-- The masks of what comes before, the last one first. -/
def edgeMask (n : Nat) (ms : List Nat) (es : List Edge) : Nat :=
  match es with
  | [] => 0
  | e :: r => if Region.binds .any e then (edgeMask n ms r ||| 2 ^ e.on) ||| ms.getD (n - 1 - e.on) 0 else edgeMask n ms r

def prevOk (m : Nat) (y : XO) : Bool → Nat → List XO → Bool
  | fl, n + 1, x :: ps => !(sameDst x y) && (m.testBit n || freeX fl x y) && prevOk m y (fl || feeds x y) n ps
  | _, _, _ => true

def drawGo : Nat → List Nat → List XO → List Oper → List XO → Bool
  | n, ms, ps, o :: os, x :: xs =>
    (o.after.toList.all fun e => decide (e.on < n) || !Region.binds .any e) &&
    force (edgeMask n ms o.after.toList) fun m => prevOk m x false n ps && drawGo (n + 1) (m :: ms) (x :: ps) os xs
  | _, _, _, [], [] => true
  | _, _, _, _, _ => false

def drawOk (ops : Array Oper) (xs : List XO) : Bool := drawGo 0 [] [] ops.toList xs

/-- Behind a piece so many times some objects are from now on only read; ahead of it. -/
def withA (m : Nat) (c : XCode) : XCode := Nat.rec c (fun _ c => .seq c .ghost) m
def withB (n : Nat) (c : XCode) : XCode := Nat.rec c (fun _ c => .seq .ghost c) n

/-- The slots that lead to what is only read, in one region. -/
def regBox (boxF : List Nat) (frz : List (Nat × Nat)) (id : Nat) : List Nat := match frz.filter fun p => p.1 == 1000000 + id with
  | [] => boxF
  | l => boxF ++ l.map (·.2)

def compCode (P : Program) (boxF : List Nat) (frz : List (Nat × Nat)) (n : Nat) : Code → Option XCode
  | .skip => some .skip
  | .region id ops draw => (ops.toList.mapM (compOper P (regBox boxF frz id) n ops)).bind fun xs =>
    if draw = true ∧ ¬ (P.follows .mixedOrders = true ∧ drawOk ops xs = true) then none else some (withB (frz.filter fun p => p.1 == 2 * id).length (withA (frz.filter fun p => p.1 == 2 * id + 1).length (.reg xs)))
  | .seq a b => (compCode P boxF frz n a).bind fun x => (compCode P boxF frz n b).map fun y => .seq x y
  | .cond c a b => (compX P c).bind fun z => (compCode P boxF frz n a).bind fun x => (compCode P boxF frz n b).map fun y => .cond z x y
  | .block id a => (compCode P boxF frz n a).map (.block id)
  | .loop a => (compCode P boxF frz n a).map .loop
  | .exit id => some (.exit id)
  | .ret => some .ret
  | _ => none

def compRes (P : Program) : ResultVar → Option XRes
  | .tmp t => some (.t t)
  | .cell a t => (sizeU P t).map fun s => .cell a (isAggT P t) s

def slotsOf (fn : Func) : Nat := max fn.ntmps (fn.params.size + fn.nfree)

def comp (P : Program) (boxF : List Nat) (frz : List (Nat × Nat)) (fn : Func) : Option XFunc :=
  fn.body.bind fun c => (compCode P boxF frz (slotsOf fn) c).bind fun b => (fn.results.toList.mapM (compRes P)).map fun r =>
    { np := fn.params.size + fn.nfree, res := r, body := b }

end Go.Nw
