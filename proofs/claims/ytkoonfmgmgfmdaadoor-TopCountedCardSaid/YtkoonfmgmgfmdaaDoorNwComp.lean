/- From the model's code to the abstract machine's: sizes and offsets looked up, functions by their names; what is not served gives none. -/
import Derived.Test.YtkoonfmgmgfmdaaDoorNwSem
import GoSem.Core.Region
import GoSem.Core.Layout
import GoSem.Op.Equal
set_option linter.all false
set_option linter.unusedVariables false
set_option linter.unusedSimpArgs false
set_option linter.unusedSectionVars false
namespace Go.Nw
class Cfg where
  tab : Nat → Option (List Value)
  wr : String → Bool
variable [Cfg]
def b35 (P : Program) (t : TypeId) : Option (List Value) := ((P.info? t).bind (·.zero)).bind fun z => if z.cells.toList.all (·.oneCell') then some z.cells.toList else none
def b2w (P : Program) (t : TypeId) : Bool := match P.underlying t with | some (.struct _) | some (.array _ _) => true | _ => false
def b15 (P : Program) (t : TypeId) : Option Nat := (P.info? t).map (·.size)
def b8z (P : Program) (t : TypeId) : Option Nat := if (P.underlying t).isSome then b15 P t else none
def b6g (P : Program) (t : TypeId) : Option Nat := (P.info? t).map (·.bytes)
def b6o (P : Program) (f : FuncId) : Option String :=
  (P.funcs[f]?).bind fun fn => if fn.body.isSome && fn.name != "runtime.NumGoroutine" then some fn.name else none
def b1p (P : Program) : Operand → Option X
  | .tmp t => some (.t t)
  | .const v => some (.c v)
  | .func f => (b6o P f).map .f
  | .global g => (Cfg.tab g).map (.g g)
def b8f (P : Program) (rec : TypeId → Option (List FK)) : List Field → Nat → Option (List FK)
  | [], _ => some []
  | f :: fs, n => if f.name ≠ "_" ∧ f.offset = n then (rec f.type).bind fun ks => (b8f P rec fs (n + ks.length)).map (ks ++ ·) else none
def b3g (P : Program) : Nat → TypeId → Option (List FK)
  | 0, _ => none
  | d + 1, t =>
    (match P.underlying t with
    | some .bool => some [FK.b]
    | some (.int _) => some [FK.i]
    | some .string => some [FK.s]
    | some (.struct fs) => if P.stoodInHeld t then none else b8f P (b3g P d) fs.toList 0
    | some (.array k e) => (b3g P d e).map fun ks => (List.replicate k ks).flatten
    | _ => none).bind fun ks => if b15 P t = some ks.length then some ks else none
def c4r (P : Program) (t : TypeId) : EqK :=
  match P.underlying t with
  | some .bool => .bool
  | some (.slice _) => .slice
  | some (.pointer e) => if b15 P e = some 0 then .no else .ptr
  | some (.struct _) | some (.array _ _) => if P.eqGuardType P.depth t then .no else match b3g P 20 t with | some ks => .flat ks | none => .no
  | _ => .no
def b74 (P : Program) (bf : List Nat) (x : Operand) : Option X :=
  match x with
  | .tmp t => some (if bf.contains t then .tf t else .t t)
  | x => b1p P x
def c8t (P : Program) (place : Nat → Option (Nat × Nat)) (ps : Array (Nat × Operand)) : Option (List (Nat × Nat × X)) :=
  ps.toList.mapM fun (i, x) => (place i).bind fun (off, sz) => (b1p P x).map fun y => (off, sz, y)
def c1m (P : Program) : Option Operand → Option (Option X)
  | none => some none
  | some a => (b1p P a).map some
def b1q (P : Program) (boxF : List Nat) (dst : Option Nat) : Op → Option XOp
  | .move x | .assign x => (b1p P x).map .mv
  | .pick c a b => do pure (.pick (← b1p P c) (← b1p P a) (← b1p P b))
  | .box _ x => (b1p P x).map fun y => if (dst.map boxF.contains).getD false then .boxF y else .box y
  | .alloc e => (b35 P e).map .alloc
  | .build t ps => do
    let zs ← b35 P t
    match P.underlying t with
    | some (.struct fs) => do
      let sizes ← fs.toList.mapM fun f => (b15 P f.type).map fun s => (f.offset, s)
      pure (.build zs (← c8t P (sizes[·]?) ps))
    | some (.array _ e) => do
      let s ← b15 P e
      pure (.build zs (← c8t P (fun i => some (i * s, s)) ps))
    | _ => none
  | .buildSlice t len ps => do
    match P.underlying t with
    | some (.slice e) => do
      let s ← b15 P e
      let zs ← b35 P e
      if s ≠ 0 ∧ zs.length = s ∧ len * s ≤ 2 ^ 24 ∧ ps.toList.map (·.1) = List.range len then
        pure (.bsl s (← ps.toList.mapM fun p => b1p P p.2))
      else none
    | _ => none
  | .load t a => do pure (.load (b2w P t) (← b8z P t) (← b74 P boxF a))
  | .store t a x => do pure (.store (← b15 P t) (← b1p P a) (← b1p P x))
  | .nilCheck x => (b74 P boxF x).map .nilck
  | .binOp op t x y _ => do pure (.bin op (c4r P t) (← b1p P x) (← b1p P y))
  | .unOp op _ x => (b1p P x).map (.un op)
  | .convert s d x => match P.underlying d with | some (.int k) => (b1p P x).bind fun y => if (P.underlying s).isSome then some (.cvtI k y) else none | _ => none
  | .makeFunc (.func f) first caps => do pure (.mkfn (← b6o P f) (← first.toList.mapM (b1p P)) (← caps.toList.mapM (b1p P)))
  | .makeSlice t l c => do
    match P.underlying t with
    | some (.slice e) => do
      let s ← b15 P e
      let zs ← b35 P e
      if s ≠ 0 ∧ zs.length = s then pure (.mksl s zs (← b6g P e) (← b1p P l) (← b1p P c)) else none
    | _ => none
  | .slice t x lo hi none => do
    match P.underlying t with
    | some (.slice e) => do
      let s ← b15 P e
      let l ← c1m P lo
      let h ← c1m P hi
      pure (.slc s (← b1p P x) l h)
    | _ => none
  | .fieldAddr t x f => do
    match P.underlying t with
    | some (.struct fs) => do
      let fl ← fs[f]?
      if (b15 P fl.type).getD 0 = 0 then none else pure (.fldA fl.offset (← b74 P boxF x))
    | _ => none
  | .field t x f => do
    match P.underlying t with
    | some (.struct fs) => do
      let fl ← fs[f]?
      pure (.fld (b2w P fl.type) (← b8z P fl.type) fl.offset (← b1p P x))
    | _ => none
  | .indexAddr t x i => do
    match P.underlying t with
    | some (.slice e) => do
      let s ← b15 P e
      if s = 0 then none else pure (.ixA s (← b74 P boxF x) (← b1p P i))
    | some (.array n e) => do
      let s ← b15 P e
      if s = 0 then none else pure (.ixP s n (← b1p P x) (← b1p P i))
    | _ => none
  | .index t x i => do
    match P.underlying t with
    | some (.array n e) => do pure (.ixV (← b8z P e) n (b2w P e) (← b1p P x) (← b1p P i))
    | some .string => do pure (.ixS (← b1p P x) (← b1p P i))
    | _ => none
  | .extract t i => (b1p P t).map fun x => .ext x i
  | .call { callee := .value (.func f), args, .. } => do
    let n ← b6o P f
    let xs ← args.toList.mapM (b1p P)
    pure (if Cfg.wr n || boxF.contains (2000000 + f) then .callw n xs else .call n xs)
  | .call { callee := .value (.tmp t), args, .. } => do pure (.callv (.t t) (← args.toList.mapM (b1p P)))
  | .call { callee := .builtin .len, args, argTypes } => do
    match args.toList, argTypes.toList with
    | [x], [t] => (match P.underlying t with | some .string => (b1p P x).map (.len true) | some (.slice _) => (b1p P x).map (.len false) | _ => none)
    | _, _ => none
  | .call { callee := .builtin .min, args, .. } => do pure (.min (← args.toList.mapM (b1p P)))
  | .call { callee := .builtin .max, args, .. } => do pure (.max (← args.toList.mapM (b1p P)))
  | .call { callee := .builtin .append, args, argTypes } => do
    match args.toList, argTypes.toList with
    | [s, x], [t, u] =>
      (match P.underlying t, P.underlying u with
       | some (.slice e), some (.slice _) => do
         let sz ← b15 P e
         let zs ← b35 P e
         let by_ ← b6g P e
         if sz ≠ 0 ∧ zs.length = sz ∧ 1 ≤ by_ then pure (.app sz by_ (← b1p P s) (← b1p P x)) else none
       | _, _ => none)
    | _, _ => none
  | _ => none
def c1l (n : Nat) (ops : Array Oper) : Option (Nat × Bool) → Option (Option (Nat × Bool))
  | none => some none
  | some (j, b) => ((ops[j]?).bind (·.dst)).bind fun d => if d < n then some (some (d, b)) else none
def b9f (P : Program) (boxF : List Nat) (n : Nat) (ops : Array Oper) (o : Oper) : Option XO :=
  (b1q P boxF o.dst o.op).bind fun op => (c1l n ops o.guard).bind fun g =>
  if (o.dst.map fun d => decide (d < n)).getD true then some { dst := o.dst, guard := g, op } else none
def XOp.xs : XOp → List X
  | .mv x | .box x | .boxF x | .nilck x | .un _ x | .cvtI _ x | .fldA _ x | .fld _ _ _ x | .ext x _ | .len _ x | .load _ _ x => [x]
  | .pick a b c => [a, b, c]
  | .alloc _ => []
  | .build _ ps => ps.map (·.2.2)
  | .bsl _ xs | .call _ xs | .callw _ xs | .min xs | .max xs => xs
  | .store _ a x | .bin _ _ a x | .mksl _ _ _ a x | .ixA _ a x | .ixP _ _ a x | .ixV _ _ _ a x | .ixS a x | .app _ _ a x => [a, x]
  | .mkfn _ a b => a ++ b
  | .slc _ x l h => x :: l.toList ++ h.toList
  | .callv f xs => f :: xs
def X.fz : X → Bool
  | .tf _ => true
  | _ => false
def XOp.acc : XOp → Bool
  | .load _ _ x | .nilck x | .fldA _ x | .ixA _ x _ => !x.fz
  | .slc .. | .ixP .. | .call .. | .callv .. | .app .. | .store .. | .callw .. => true
  | _ => false
def XOp.mut : XOp → Bool
  | .app _ _ (.c _) _ => false
  | .app .. | .store .. | .callw .. => true
  | _ => false
def XOp.sto : XOp → Bool
  | .store .. | .callw .. => true
  | _ => false
def XO.looks (o : XO) : List Nat := (o.op.xs.filterMap fun | .t n => some n | .tf n => some n | _ => none) ++ (match o.guard with | some (g, _) => [g] | none => [])
def d1x (x y : XO) : Bool := match x.dst, y.dst with | some d, some e => d == e | _, _ => false
def XOp.still : XOp → Bool
  | .mv _ | .pick .. | .boxF _ | .build .. | .load _ _ (.tf _) | .nilck (.tf _) | .fldA _ (.tf _) | .ixA _ (.tf _) _ | .bin .. | .un .. | .cvtI .. | .mkfn .. | .fld .. | .ixV .. | .ixS .. | .ext .. | .len .. | .min _ | .max _ => true
  | _ => false
def XOp.quiet (o : XOp) : Bool := o.still || o.look
def b4c (fl : Bool) (x y : XO) : Bool :=
  (match x.dst with | some d => !(y.looks.contains d) | none => true) &&
  (match y.dst with | some d => !(x.looks.contains d) | none => true) &&
  (!x.op.acc || !y.op.mut || fl) && (!x.op.sto || !y.op.acc) && ((!x.op.isW || y.op.still) && (!y.op.isW || x.op.still))
def b5a (x y : XO) : Bool :=
  (match x.dst with | some d => !(y.looks.contains d) | none => true) &&
  (match y.dst with | some d => !(x.looks.contains d) | none => true) &&
  ((x.op.look && y.op.isW) || (x.op.isW && y.op.look))
def b64 (x y : XO) : Bool :=
  match x.op, x.dst, x.guard, y.op with
  | .bsl _ _, some d, none, .app _ _ (.t s) _ => d == s
  | _, _, _, _ => false
def d4n {α : Type} (n : Nat) (f : Nat → α) : α := match n with | 0 => f 0 | k + 1 => f (k + 1)
def b8a (n : Nat) (ms : List Nat) (es : List Edge) : Nat :=
  match es with
  | [] => 0
  | e :: r => if Region.binds .any e then (b8a n ms r ||| 2 ^ e.on) ||| ms.getD (n - 1 - e.on) 0 else b8a n ms r
def c6n (rel : Bool) (m : Nat) (y : XO) : Bool → Nat → List XO → Bool
  | fl, n + 1, x :: ps => !(d1x x y) && ((m.testBit n || b4c fl x y) || (rel && b5a x y)) && c6n rel m y (fl || b64 x y) n ps
  | _, _, _ => true
def b79 (rel : Bool) : Nat → List Nat → List XO → List Oper → List XO → Bool
  | n, ms, ps, o :: os, x :: xs =>
    (o.after.toList.all fun e => decide (e.on < n) || !Region.binds .any e) &&
    d4n (b8a n ms o.after.toList) fun m => c6n rel m x false n ps && b79 rel (n + 1) (m :: ms) (x :: ps) os xs
  | _, _, _, [], [] => true
  | _, _, _, _, _ => false
def b55 (rel : Bool) (ops : Array Oper) (xs : List XO) : Bool := b79 rel 0 [] [] ops.toList xs
def b81 (m : Nat) (c : XCode) : XCode := Nat.rec c (fun _ c => .seq c .ghost) m
def l08 (n : Nat) (c : XCode) : XCode := Nat.rec c (fun _ c => .seq .ghost c) n
def j7z (boxF : List Nat) (frz : List (Nat × Nat)) (id : Nat) : List Nat := match frz.filter fun p => p.1 == 1000000 + id with
  | [] => boxF
  | l => boxF ++ l.map (·.2)
def b4o (P : Program) (boxF : List Nat) (frz : List (Nat × Nat)) (n : Nat) : Code → Option XCode
  | .skip => some .skip
  | .region id ops draw => (ops.toList.mapM (b9f P (j7z boxF frz id) n ops)).bind fun xs =>
    if draw = true ∧ ¬ (P.follows .mixedOrders = true ∧ b55 true ops xs = true) then none else
      some (l08 (frz.filter fun p => p.1 == 2 * id).length (b81 (frz.filter fun p => p.1 == 2 * id + 1).length (if draw = true ∧ ¬ b55 false ops xs = true then .regW xs else .reg xs)))
  | .seq a b => (b4o P boxF frz n a).bind fun x => (b4o P boxF frz n b).map fun y => .seq x y
  | .cond c a b => (b1p P c).bind fun z => (b4o P boxF frz n a).bind fun x => (b4o P boxF frz n b).map fun y => .cond z x y
  | .block id a => (b4o P boxF frz n a).map (.block id)
  | .loop a => (b4o P boxF frz n a).map .loop
  | .exit id => some (.exit id)
  | .ret => some .ret
  | _ => none
def c4m (P : Program) : ResultVar → Option XRes
  | .tmp t => some (.t t)
  | .cell a t => (b8z P t).map fun s => .cell a (b2w P t) s
def c3t (fn : Func) : Nat := max fn.ntmps (fn.params.size + fn.nfree)
def c4l (P : Program) (boxF : List Nat) (frz : List (Nat × Nat)) (fn : Func) : Option XFunc :=
  fn.body.bind fun c => (b4o P boxF frz (c3t fn) c).bind fun b => (fn.results.toList.mapM (c4m P)).map fun r =>
    { np := fn.params.size + fn.nfree, res := r, body := b }
end Go.Nw
