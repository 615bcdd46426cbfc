/- From the model's code to the abstract machine's: sizes and offsets looked up, functions by their names; what is not served gives none. -/
import Derived.Test.YtaccbljgojdfjaaDoorNwSem
import GoSem.Core.Region
import GoSem.Core.Layout
import GoSem.Op.Equal
set_option linter.all false
set_option linter.unusedVariables false
set_option linter.unusedSimpArgs false
set_option linter.unusedSectionVars false
namespace Go.Nw
class Cfg where
  tab : Nat → Option (List Value)
  wr : String → Bool
variable [Cfg]
def b2b (P : Program) (t : TypeId) : Option (List Value) := ((P.info? t).bind (·.zero)).bind fun z => if z.cells.toList.all (·.oneCell') then some z.cells.toList else none
def b1e (P : Program) (t : TypeId) : Bool := match P.underlying t with | some (.struct _) | some (.array _ _) => true | _ => false
def b0w (P : Program) (t : TypeId) : Option Nat := (P.info? t).map (·.size)
def b41 (P : Program) (t : TypeId) : Option Nat := if (P.underlying t).isSome then b0w P t else none
def b3v (P : Program) (t : TypeId) : Option Nat := (P.info? t).map (·.bytes)
def b30 (P : Program) (f : FuncId) : Option String :=
  (P.funcs[f]?).bind fun fn => if fn.body.isSome && fn.name != "runtime.NumGoroutine" then some fn.name else none
def b0p (P : Program) : Operand → Option X
  | .tmp t => some (.t t)
  | .const v => some (.c v)
  | .func f => (b30 P f).map .f
  | .global g => (Cfg.tab g).map (.g g)
def b4u (P : Program) (rec : TypeId → Option (List FK)) : List Field → Nat → Option (List FK)
  | [], _ => some []
  | f :: fs, n => if f.name ≠ "_" ∧ f.offset = n then (rec f.type).bind fun ks => (b4u P rec fs (n + ks.length)).map (ks ++ ·) else none
def b1t (P : Program) : Nat → TypeId → Option (List FK)
  | 0, _ => none
  | d + 1, t =>
    (match P.underlying t with
    | some .bool => some [FK.b]
    | some (.int _) => some [FK.i]
    | some .string => some [FK.s]
    | some (.struct fs) => if P.stoodInHeld t then none else b4u P (b1t P d) fs.toList 0
    | some (.array k e) => (b1t P d e).map fun ks => (List.replicate k ks).flatten
    | _ => none).bind fun ks => if b0w P t = some ks.length then some ks else none
def b76 (P : Program) (t : TypeId) : EqK :=
  match P.underlying t with
  | some .bool => .bool
  | some (.slice _) => .slice
  | some (.pointer e) => if b0w P e = some 0 then .no else .ptr
  | some (.struct _) | some (.array _ _) => if P.eqGuardType P.depth t then .no else match b1t P 20 t with | some ks => .flat ks | none => .no
  | _ => .no
def b4o (P : Program) (bf : List Nat) (x : Operand) : Option X :=
  match x with
  | .tmp t => some (if bf.contains t then .tf t else .t t)
  | x => b0p P x
def c0n (P : Program) (place : Nat → Option (Nat × Nat)) (ps : Array (Nat × Operand)) : Option (List (Nat × Nat × X)) :=
  ps.toList.mapM fun (i, x) => (place i).bind fun (off, sz) => (b0p P x).map fun y => (off, sz, y)
def b6f (P : Program) : Option Operand → Option (Option X)
  | none => some none
  | some a => (b0p P a).map some
def b0q (P : Program) (boxF : List Nat) (dst : Option Nat) : Op → Option XOp
  | .move x | .assign x => (b0p P x).map .mv
  | .pick c a b => do pure (.pick (← b0p P c) (← b0p P a) (← b0p P b))
  | .box _ x => (b0p P x).map fun y => if (dst.map boxF.contains).getD false then .boxF y else .box y
  | .alloc e => (b2b P e).map .alloc
  | .build t ps => do
    let zs ← b2b P t
    match P.underlying t with
    | some (.struct fs) => do
      let sizes ← fs.toList.mapM fun f => (b0w P f.type).map fun s => (f.offset, s)
      pure (.build zs (← c0n P (sizes[·]?) ps))
    | some (.array _ e) => do
      let s ← b0w P e
      pure (.build zs (← c0n P (fun i => some (i * s, s)) ps))
    | _ => none
  | .buildSlice t len ps => do
    match P.underlying t with
    | some (.slice e) => do
      let s ← b0w P e
      let zs ← b2b P e
      if s ≠ 0 ∧ zs.length = s ∧ len * s ≤ 2 ^ 24 ∧ ps.toList.map (·.1) = List.range len then
        pure (.bsl s (← ps.toList.mapM fun p => b0p P p.2))
      else none
    | _ => none
  | .load t a => do pure (.load (b1e P t) (← b41 P t) (← b4o P boxF a))
  | .store t a x => do pure (.store (← b0w P t) (← b0p P a) (← b0p P x))
  | .nilCheck x => (b4o P boxF x).map .nilck
  | .binOp op t x y _ => do pure (.bin op (b76 P t) (← b0p P x) (← b0p P y))
  | .unOp op _ x => (b0p P x).map (.un op)
  | .convert s d x => match P.underlying d with | some (.int k) => (b0p P x).bind fun y => if (P.underlying s).isSome then some (.cvtI k y) else none | _ => none
  | .makeFunc (.func f) first caps => do pure (.mkfn (← b30 P f) (← first.toList.mapM (b0p P)) (← caps.toList.mapM (b0p P)))
  | .makeSlice t l c => do
    match P.underlying t with
    | some (.slice e) => do
      let s ← b0w P e
      let zs ← b2b P e
      if s ≠ 0 ∧ zs.length = s then pure (.mksl s zs (← b3v P e) (← b0p P l) (← b0p P c)) else none
    | _ => none
  | .slice t x lo hi none => do
    match P.underlying t with
    | some (.slice e) => do
      let s ← b0w P e
      let l ← b6f P lo
      let h ← b6f P hi
      pure (.slc s (← b0p P x) l h)
    | _ => none
  | .fieldAddr t x f => do
    match P.underlying t with
    | some (.struct fs) => do
      let fl ← fs[f]?
      if (b0w P fl.type).getD 0 = 0 then none else pure (.fldA fl.offset (← b4o P boxF x))
    | _ => none
  | .field t x f => do
    match P.underlying t with
    | some (.struct fs) => do
      let fl ← fs[f]?
      pure (.fld (b1e P fl.type) (← b41 P fl.type) fl.offset (← b0p P x))
    | _ => none
  | .indexAddr t x i => do
    match P.underlying t with
    | some (.slice e) => do
      let s ← b0w P e
      if s = 0 then none else pure (.ixA s (← b4o P boxF x) (← b0p P i))
    | some (.array n e) => do
      let s ← b0w P e
      if s = 0 then none else pure (.ixP s n (← b0p P x) (← b0p P i))
    | _ => none
  | .index t x i => do
    match P.underlying t with
    | some (.array n e) => do pure (.ixV (← b41 P e) n (b1e P e) (← b0p P x) (← b0p P i))
    | some .string => do pure (.ixS (← b0p P x) (← b0p P i))
    | _ => none
  | .extract t i => (b0p P t).map fun x => .ext x i
  | .call { callee := .value (.func f), args, .. } => do
    let n ← b30 P f
    let xs ← args.toList.mapM (b0p P)
    pure (if Cfg.wr n || boxF.contains (2000000 + f) then .callw n xs else .call n xs)
  | .call { callee := .value (.tmp t), args, .. } => do pure (.callv (.t t) (← args.toList.mapM (b0p P)))
  | .call { callee := .builtin .len, args, argTypes } => do
    match args.toList, argTypes.toList with
    | [x], [t] => (match P.underlying t with | some .string => (b0p P x).map (.len true) | some (.slice _) => (b0p P x).map (.len false) | _ => none)
    | _, _ => none
  | .call { callee := .builtin .min, args, .. } => do pure (.min (← args.toList.mapM (b0p P)))
  | .call { callee := .builtin .max, args, .. } => do pure (.max (← args.toList.mapM (b0p P)))
  | .call { callee := .builtin .append, args, argTypes } => do
    match args.toList, argTypes.toList with
    | [s, x], [t, u] =>
      (match P.underlying t, P.underlying u with
       | some (.slice e), some (.slice _) => do
         let sz ← b0w P e
         let zs ← b2b P e
         let by_ ← b3v P e
         if sz ≠ 0 ∧ zs.length = sz ∧ 1 ≤ by_ then pure (.app sz by_ (← b0p P s) (← b0p P x)) else none
       | _, _ => none)
    | _, _ => none
  | _ => none
def b6e (n : Nat) (ops : Array Oper) : Option (Nat × Bool) → Option (Option (Nat × Bool))
  | none => some none
  | some (j, b) => ((ops[j]?).bind (·.dst)).bind fun d => if d < n then some (some (d, b)) else none
def b5g (P : Program) (boxF : List Nat) (n : Nat) (ops : Array Oper) (o : Oper) : Option XO :=
  (b0q P boxF o.dst o.op).bind fun op => (b6e n ops o.guard).bind fun g =>
  if (o.dst.map fun d => decide (d < n)).getD true then some { dst := o.dst, guard := g, op } else none
def XOp.xs : XOp → List X
  | .mv x | .box x | .boxF x | .nilck x | .un _ x | .cvtI _ x | .fldA _ x | .fld _ _ _ x | .ext x _ | .len _ x | .load _ _ x => [x]
  | .pick a b c => [a, b, c]
  | .alloc _ => []
  | .build _ ps => ps.map (·.2.2)
  | .bsl _ xs | .call _ xs | .callw _ xs | .min xs | .max xs => xs
  | .store _ a x | .bin _ _ a x | .mksl _ _ _ a x | .ixA _ a x | .ixP _ _ a x | .ixV _ _ _ a x | .ixS a x | .app _ _ a x => [a, x]
  | .mkfn _ a b => a ++ b
  | .slc _ x l h => x :: l.toList ++ h.toList
  | .callv f xs => f :: xs
def X.fz : X → Bool
  | .tf _ => true
  | _ => false
def XOp.acc : XOp → Bool
  | .load _ _ x | .nilck x | .fldA _ x | .ixA _ x _ => !x.fz
  | .slc .. | .ixP .. | .call .. | .callv .. | .app .. | .store .. | .callw .. => true
  | _ => false
def XOp.mut : XOp → Bool
  | .app _ _ (.c _) _ => false
  | .app .. | .store .. | .callw .. => true
  | _ => false
def XOp.sto : XOp → Bool
  | .store .. | .callw .. => true
  | _ => false
def XO.looks (o : XO) : List Nat := (o.op.xs.filterMap fun | .t n => some n | .tf n => some n | _ => none) ++ (match o.guard with | some (g, _) => [g] | none => [])
def c2p (x y : XO) : Bool := match x.dst, y.dst with | some d, some e => d == e | _, _ => false
def XOp.still : XOp → Bool
  | .mv _ | .pick .. | .boxF _ | .build .. | .load _ _ (.tf _) | .nilck (.tf _) | .fldA _ (.tf _) | .ixA _ (.tf _) _ | .bin .. | .un .. | .cvtI .. | .mkfn .. | .fld .. | .ixV .. | .ixS .. | .ext .. | .len .. | .min _ | .max _ => true
  | _ => false
def XOp.isW : XOp → Bool
  | .callw .. => true
  | _ => false
def b3u (fl : Bool) (x y : XO) : Bool :=
  (match x.dst with | some d => !(y.looks.contains d) | none => true) &&
  (match y.dst with | some d => !(x.looks.contains d) | none => true) &&
  (!x.op.acc || !y.op.mut || fl) && (!x.op.sto || !y.op.acc) && ((!x.op.isW || y.op.still) && (!y.op.isW || x.op.still))
def b4t (x y : XO) : Bool :=
  match x.op, x.dst, x.guard, y.op with
  | .bsl _ _, some d, none, .app _ _ (.t s) _ => d == s
  | _, _, _, _ => false
def c4f {α : Type} (n : Nat) (f : Nat → α) : α := match n with | 0 => f 0 | k + 1 => f (k + 1)
def b4q (n : Nat) (ms : List Nat) (es : List Edge) : Nat :=
  match es with
  | [] => 0
  | e :: r => if Region.binds .any e then (b4q n ms r ||| 2 ^ e.on) ||| ms.getD (n - 1 - e.on) 0 else b4q n ms r
def b9b (m : Nat) (y : XO) : Bool → Nat → List XO → Bool
  | fl, n + 1, x :: ps => !(c2p x y) && (m.testBit n || b3u fl x y) && b9b m y (fl || b4t x y) n ps
  | _, _, _ => true
def b4p : Nat → List Nat → List XO → List Oper → List XO → Bool
  | n, ms, ps, o :: os, x :: xs =>
    (o.after.toList.all fun e => decide (e.on < n) || !Region.binds .any e) &&
    c4f (b4q n ms o.after.toList) fun m => b9b m x false n ps && b4p (n + 1) (m :: ms) (x :: ps) os xs
  | _, _, _, [], [] => true
  | _, _, _, _, _ => false
def b72 (ops : Array Oper) (xs : List XO) : Bool := b4p 0 [] [] ops.toList xs
def b43 (m : Nat) (c : XCode) : XCode := Nat.rec c (fun _ c => .seq c .ghost) m
def g53 (n : Nat) (c : XCode) : XCode := Nat.rec c (fun _ c => .seq .ghost c) n
def g3g (boxF : List Nat) (frz : List (Nat × Nat)) (id : Nat) : List Nat := match frz.filter fun p => p.1 == 1000000 + id with
  | [] => boxF
  | l => boxF ++ l.map (·.2)
def b2k (P : Program) (boxF : List Nat) (frz : List (Nat × Nat)) (n : Nat) : Code → Option XCode
  | .skip => some .skip
  | .region id ops draw => (ops.toList.mapM (b5g P (g3g boxF frz id) n ops)).bind fun xs =>
    if draw = true ∧ ¬ (P.follows .mixedOrders = true ∧ b72 ops xs = true) then none else some (g53 (frz.filter fun p => p.1 == 2 * id).length (b43 (frz.filter fun p => p.1 == 2 * id + 1).length (.reg xs)))
  | .seq a b => (b2k P boxF frz n a).bind fun x => (b2k P boxF frz n b).map fun y => .seq x y
  | .cond c a b => (b0p P c).bind fun z => (b2k P boxF frz n a).bind fun x => (b2k P boxF frz n b).map fun y => .cond z x y
  | .block id a => (b2k P boxF frz n a).map (.block id)
  | .loop a => (b2k P boxF frz n a).map .loop
  | .exit id => some (.exit id)
  | .ret => some .ret
  | _ => none
def b7z (P : Program) : ResultVar → Option XRes
  | .tmp t => some (.t t)
  | .cell a t => (b41 P t).map fun s => .cell a (b1e P t) s
def b7j (fn : Func) : Nat := max fn.ntmps (fn.params.size + fn.nfree)
def b7y (P : Program) (boxF : List Nat) (frz : List (Nat × Nat)) (fn : Func) : Option XFunc :=
  fn.body.bind fun c => (b2k P boxF frz (b7j fn) c).bind fun b => (fn.results.toList.mapM (b7z P)).map fun r =>
    { np := fn.params.size + fn.nfree, res := r, body := b }
end Go.Nw
