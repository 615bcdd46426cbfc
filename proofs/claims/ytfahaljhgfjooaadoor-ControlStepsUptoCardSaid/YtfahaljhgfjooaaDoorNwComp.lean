/- From the model's code to the abstract machine's: sizes and offsets looked up, functions by their names; what is not served gives none. -/
import Derived.Test.YtfahaljhgfjooaaDoorNwSem
import GoSem.Core.Region
import GoSem.Core.Layout
import GoSem.Op.Equal
set_option linter.all false
namespace Go.Nw
class Cfg where
 tab : Nat -> Option (List GC)
 wr : String -> Bool
variable [Cfg]
def b3d (P : Program) (t : TypeId) : Option (List Value) := ((P.info? t).bind (·.zero)).bind fun z => if z.cells.toList.all (·.oneCell') then some z.cells.toList else none
def b1u (P : Program) (t : TypeId) : Bool := match P.underlying t with | some (.struct _) | some (.array _ _) => true | _ => false
def b1n (P : Program) (t : TypeId) : Option Nat := (P.info? t).map (·.size)
def b71 (P : Program) (t : TypeId) : Option Nat := if (P.underlying t).isSome then b1n P t else none
def b4m (P : Program) (t : TypeId) : Option Nat := (P.info? t).map (·.bytes)
def b5n (P : Program) (f : FuncId) : Option String :=
 (P.funcs[f]?).bind fun fn => if fn.body.isSome && fn.name != "runtime.NumGoroutine" then some fn.name else none
def b05 (P : Program) : Operand -> Option X
 | .tmp t => some (.t t)
 | .const v => some (.c v)
 | .func f => (b5n P f).map .f
 | .global g => (Cfg.tab g).map (.g g)
def b49 (P : Program) (rec : TypeId -> Option (List FK)) : List Field -> Nat -> Option (List FK)
 | [], _ => some []
 | f :: fs, n => if f.name ≠ "_" /\ f.offset = n then (rec f.type).bind fun ks => (b49 P rec fs (n + ks.length)).map (ks ++ ·) else none
def b19 (P : Program) : Nat -> TypeId -> Option (List FK)
 | 0, _ => none
 | d + 1, t =>
  (match P.underlying t with
  | some .bool => some [FK.b]
  | some (.int _) => some [FK.i]
  | some .string => some [FK.s]
  | some (.struct fs) => if P.stoodInHeld t then none else b49 P (b19 P d) fs.toList 0
  | some (.array k e) => (b19 P d e).map fun ks => (List.replicate k ks).flatten
  | _ => none).bind fun ks => if b1n P t = some ks.length then some ks else none
def c3j (P : Program) (t : TypeId) : EqK :=
 match P.underlying t with
 | some .bool => .bool
 | some (.slice _) => .slice
 | some (.pointer e) => if b1n P e = some 0 then .no else .ptr
 | some (.struct _) | some (.array _ _) => if P.eqGuardType P.depth t then .no else match b19 P 20 t with | some ks => .flat ks | none => .no
 | _ => .no
def b7h (P : Program) (bf : List Nat) (x : Operand) : Option X :=
 match x with
 | .tmp t => some (if bf.contains t then .tf t else .t t)
 | x => b05 P x
def c7o (P : Program) (place : Nat -> Option (Nat × Nat)) (ps : Array (Nat × Operand)) : Option (List (Nat × Nat × X)) :=
 ps.toList.mapM fun (i, x) => (place i).bind fun (off, sz) => (b05 P x).map fun y => (off, sz, y)
def b91 (P : Program) : Option Operand -> Option (Option X)
 | none => some none
 | some a => (b05 P a).map some
def c0t (P : Program) (k : TypeId) : Option (Bool × Nat) :=
 match P.underlying k with
 | some .string => some (true, 0)
 | some (.int _) => some (false, 0)
 | some (.struct _) | some (.array _ _) => (b19 P 20 k).bind fun ks => if ks = List.replicate ks.length .i /\ 1 <= ks.length then some (false, ks.length) else none
 | _ => none
def b04 (P : Program) (boxF : List Nat) (dst : Option Nat) : Op -> Option XOp
 | .move x | .assign x => (b05 P x).map .mv
 | .pick c a b => do pure (.pick (<- b05 P c) (<- b05 P a) (<- b05 P b))
 | .box _ x => (b05 P x).map fun y => if (dst.map boxF.contains).getD false then .boxF y else .box y
 | .alloc e => (b3d P e).bind fun zs => if zs.isEmpty then none else some (.alloc zs)
 | .build t ps => do
  let zs <- b3d P t
  match P.underlying t with
  | some (.struct fs) => do
   let sizes <- fs.toList.mapM fun f => (b1n P f.type).map fun s => (f.offset, s)
   pure (.build zs (<- c7o P (sizes[·]?) ps))
  | some (.array _ e) => do
   let s <- b1n P e
   pure (.build zs (<- c7o P (fun i => some (i * s, s)) ps))
  | _ => none
 | .buildSlice t len ps => do
  match P.underlying t with
  | some (.slice e) => do
   let s <- b1n P e
   let zs <- b3d P e
   if s ≠ 0 /\ zs.length = s /\ len * s <= 2 ^ 24 /\ ps.toList.map (·.1) = List.range len then
    pure (.bsl s (<- ps.toList.mapM fun p => b05 P p.2))
   else none
  | _ => none
 | .load t a => do pure (.load (b1u P t) (<- b71 P t) (<- b7h P boxF a))
 | .store t a x => do pure (.store (<- b1n P t) (<- b05 P a) (<- b05 P x))
 | .nilCheck x => (b7h P boxF x).map .nilck
 | .binOp op t x y _ => do pure (.bin op (c3j P t) (<- b05 P x) (<- b05 P y))
 | .unOp op _ x => (b05 P x).map (.un op)
 | .convert s d x => match P.underlying d with
  | some (.int k) => (b05 P x).bind fun y => if (P.underlying s).isSome then some (.cvtI k y) else none
  | some (.slice e) => match P.underlying s, P.underlying e with
   | some .string, some (.int .u8) => (b05 P x).map fun y => .callw "#sb" [y]
   | _, _ => none
  | _ => none
 | .makeFunc (.func f) first caps => do pure (.mkfn (<- b5n P f) (<- first.toList.mapM (b05 P)) (<- caps.toList.mapM (b05 P)))
 | .makeSlice t l c => do
  match P.underlying t with
  | some (.slice e) => do
   let s <- b1n P e
   let zs <- b3d P e
   if s ≠ 0 /\ zs.length = s then pure (.mksl s zs (<- b4m P e) (<- b05 P l) (<- b05 P c)) else none
  | _ => none
 | .slice t x lo hi none => do
  match P.underlying t with
  | some (.slice e) => do
   let s <- b1n P e
   let l <- b91 P lo
   let h <- b91 P hi
   pure (.slc s (<- b05 P x) l h)
  | _ => none
 | .fieldAddr t x f => do
  match P.underlying t with
  | some (.struct fs) => do
   let fl <- fs[f]?
   if (b1n P fl.type).getD 0 = 0 then none else pure (.fldA fl.offset (<- b7h P boxF x))
  | _ => none
 | .field t x f => do
  match P.underlying t with
  | some (.struct fs) => do
   let fl <- fs[f]?
   pure (.fld (b1u P fl.type) (<- b71 P fl.type) fl.offset (<- b05 P x))
  | _ => none
 | .indexAddr t x i => do
  match P.underlying t with
  | some (.slice e) => do
   let s <- b1n P e
   if s = 0 then none else pure (.ixA s (<- b7h P boxF x) (<- b05 P i))
  | some (.array n e) => do
   let s <- b1n P e
   if s = 0 then none else pure (.ixP s n (<- b05 P x) (<- b05 P i))
  | _ => none
 | .index t x i => do
  match P.underlying t with
  | some (.array n e) => do pure (.ixV (<- b71 P e) n (b1u P e) (<- b05 P x) (<- b05 P i))
  | some .string => do pure (.ixS (<- b05 P x) (<- b05 P i))
  | _ => none
 | .extract t i => (b05 P t).map fun x => .ext x i
 | .call { callee := .value (.func f), args, .. } => do
  let n <- b5n P f
  let xs <- args.toList.mapM (b05 P)
  pure (if (Cfg.wr n || boxF.contains (2000000 + f)) && (b2d n).isNone then .callw n xs else .call n xs)
 | .makeMap t r => match P.underlying t, r with
  | some (.map _ _), none => some (.callw "#mk" [])
  | some (.map _ _), some (.const (.int _ _)) => some (.callw "#mk" [])
  | _, _ => none
 | .lookup t m x ok => do
  match P.underlying t with
  | some (.map k e) => do
   let (s, n) <- c0t P k
   let z <- (P.info? e).bind (·.zero)
   pure (.callw (if s then (if ok then "#lt" else "#ls") else (if ok then "#lj" else "#li")) [<- b05 P m, <- b05 P x, .c z, .c (.int .i64 n)])
  | _ => none
 | .insert t m k v => do
  match P.underlying t with
  | some (.map kt e) => do
   let (s, n) <- c0t P kt
   pure (.callw (if s then "#ps" else "#pi") [<- b05 P m, <- b05 P k, <- b05 P v, .c (.int .i64 n)])
  | _ => none
 | .mapUpdate t m k v => do
  match P.underlying t with
  | some (.map kt e) => do
   let (s, n) <- c0t P kt
   pure (.callw (if s then "#ps" else "#pi") [<- b05 P m, <- b05 P k, <- b05 P v, .c (.int .i64 n)])
  | _ => none
 | .call { callee := .value (.tmp t), args, .. } => do pure (.callv (.t t) (<- args.toList.mapM (b05 P)))
 | .call { callee := .builtin .len, args, argTypes } => do
  match args.toList, argTypes.toList with
  | [x], [t] => (match P.underlying t with | some .string => (b05 P x).map (.len true) | some (.slice _) => (b05 P x).map (.len false) | _ => none)
  | _, _ => none
 | .call { callee := .builtin .cap, args, argTypes } => do
  match args.toList, argTypes.toList with
  | [x], [t] => (match P.underlying t with | some (.slice _) => (b05 P x).map fun y => .callw "#cap" [y] | _ => none)
  | _, _ => none
 | .makeInterface .. | .panic .. => some (.callw "#no" [])
 | .call { callee := .builtin .min, args, .. } => do pure (.min (<- args.toList.mapM (b05 P)))
 | .call { callee := .builtin .max, args, .. } => do pure (.max (<- args.toList.mapM (b05 P)))
 | .call { callee := .builtin .append, args, argTypes } => do
  match args.toList, argTypes.toList with
  | [s, x], [t, u] =>
   (match P.underlying t, P.underlying u with
    | some (.slice e), some (.slice _) => do
     let sz <- b1n P e
     let zs <- b3d P e
     let by_ <- b4m P e
     if sz ≠ 0 /\ zs.length = sz /\ 1 <= by_ then pure (.app sz by_ (<- b05 P s) (<- b05 P x)) else none
    | some (.slice e), some (.int _) => do
     let sz <- b1n P e
     let zs <- b3d P e
     let by_ <- b4m P e
     (match zs with
      | [z] => if sz = 1 /\ by_ <= 16 /\ b1u P e = false then (b05 P s).bind fun y => (b05 P x).map fun u => .callw "#ax" [y, u, .c z] else none
      | _ => none)
    | _, _ => none)
  | _, _ => none
 | _ => none
def b90 (n : Nat) (ops : Array Oper) : Option (Nat × Bool) -> Option (Option (Nat × Bool))
 | none => some none
 | some (j, b) => ((ops[j]?).bind (·.dst)).bind fun d => if d < n then some (some (d, b)) else none
def b8k (P : Program) (boxF : List Nat) (n : Nat) (ops : Array Oper) (o : Oper) : Option XO :=
 (b04 P boxF o.dst o.op).bind fun op => (b90 n ops o.guard).bind fun g =>
 if (o.dst.map fun d => decide (d < n)).getD true then some { dst := o.dst, guard := g, op } else none
def XOp.xs : XOp -> List X
 | .mv x | .box x | .boxF x | .nilck x | .un _ x | .cvtI _ x | .fldA _ x | .fld _ _ _ x | .ext x _ | .len _ x | .load _ _ x => [x]
 | .pick a b c => [a, b, c]
 | .alloc _ => []
 | .build _ ps => ps.map (·.2.2)
 | .bsl _ xs | .call _ xs | .callw _ xs | .min xs | .max xs => xs
 | .store _ a x | .bin _ _ a x | .mksl _ _ _ a x | .ixA _ a x | .ixP _ _ a x | .ixV _ _ _ a x | .ixS a x | .app _ _ a x => [a, x]
 | .mkfn _ a b => a ++ b
 | .slc _ x l h => x :: l.toList ++ h.toList
 | .callv f xs => f :: xs
def X.fz : X -> Bool
 | .tf _ => true
 | _ => false
def XOp.acc : XOp -> Bool
 | .load _ _ x | .nilck x | .fldA _ x | .ixA _ x _ => !x.fz
 | .slc .. | .ixP .. | .call .. | .callv .. | .app .. | .store .. | .callw .. => true
 | _ => false
def XOp.mut : XOp -> Bool
 | .app _ _ (.c _) _ => false
 | .app .. | .store .. | .callw .. => true
 | _ => false
def XOp.sto : XOp -> Bool
 | .store .. | .callw .. => true
 | _ => false
def XO.looks (o : XO) : List Nat := (o.op.xs.filterMap fun | .t n => some n | .tf n => some n | _ => none) ++ (match o.guard with | some (g, _) => [g] | none => [])
def d0k (x y : XO) : Bool := match x.dst, y.dst with | some d, some e => d == e | _, _ => false
def XOp.still : XOp -> Bool
 | .mv _ | .pick .. | .boxF _ | .build .. | .load _ _ (.tf _) | .nilck (.tf _) | .fldA _ (.tf _) | .ixA _ (.tf _) _ | .bin .. | .un .. | .cvtI .. | .mkfn .. | .fld .. | .ixV .. | .ixS .. | .ext .. | .len .. | .min _ | .max _ => true
 | _ => false
def XOp.quiet (o : XOp) : Bool := o.still || o.look
def b38 (fl : Bool) (x y : XO) : Bool :=
 (match x.dst with | some d => !(y.looks.contains d) | none => true) &&
 (match y.dst with | some d => !(x.looks.contains d) | none => true) &&
 (!x.op.acc || !y.op.mut || fl) && (!x.op.sto || !y.op.acc) && ((!x.op.isW || y.op.still) && (!y.op.isW || x.op.still))
def b4t (x y : XO) : Bool :=
 (match x.dst with | some d => !(y.looks.contains d) | none => true) &&
 (match y.dst with | some d => !(x.looks.contains d) | none => true) &&
 ((x.op.look && y.op.isA) || (x.op.isA && y.op.look))
def b4z (x y : XO) : Bool :=
 match x.op, x.dst, x.guard, y.op with
 | .bsl _ _, some d, none, .app _ _ (.t s) _ => d == s
 | _, _, _, _ => false
def c75 {α : Type} (n : Nat) (f : Nat -> α) : α := match n with | 0 => f 0 | k + 1 => f (k + 1)
def b55 (n : Nat) (ms : List Nat) (es : List Edge) : Nat :=
 match es with
 | [] => 0
 | e :: r => if Region.binds .any e then (b55 n ms r ||| 2 ^ e.on) ||| ms.getD (n - 1 - e.on) 0 else b55 n ms r
def b7r (x : XO) (i j : Nat) : Nat × Nat := if x.op.look then (i, j) else (j, i)
def c4o (prs : List (Nat × Nat)) (j m : Nat) (y : XO) : Bool -> Nat -> List XO -> Bool
 | fl, n + 1, x :: ps => !(d0k x y) && ((m.testBit n || b38 fl x y) || (prs.contains (b7r x n j) && b4t x y)) && c4o prs j m y (fl || b4z x y) n ps
 | _, _, _ => true
def b7j (prs : List (Nat × Nat)) : Nat -> List Nat -> List XO -> List Oper -> List XO -> Bool
 | n, ms, ps, o :: os, x :: xs =>
  (o.after.toList.all fun e => decide (e.on < n) || !Region.binds .any e) &&
  c75 (b55 n ms o.after.toList) fun m => c4o prs n m x false n ps && b7j prs (n + 1) (m :: ms) (x :: ps) os xs
 | _, _, _, [], [] => true
 | _, _, _, _, _ => false
def b54 (prs : List (Nat × Nat)) (ops : Array Oper) (xs : List XO) : Bool := b7j prs 0 [] [] ops.toList xs
def c99 (j m : Nat) (y : XO) : Bool -> Nat -> List XO -> List (Nat × Nat)
 | fl, n + 1, x :: ps => if m.testBit n || b38 fl x y then c99 j m y (fl || b4z x y) n ps else b7r x n j :: c99 j m y (fl || b4z x y) n ps
 | _, _, _ => []
def c7s : Nat -> List Nat -> List XO -> List Oper -> List XO -> List (Nat × Nat)
 | n, ms, ps, o :: os, x :: xs => c75 (b55 n ms o.after.toList) fun m => c99 n m x false n ps ++ c7s (n + 1) (m :: ms) (x :: ps) os xs
 | _, _, _, _, _ => []
def b72 (m : Nat) (c : XCode) : XCode := Nat.rec c (fun _ c => .seq c .ghost) m
def j91 (n : Nat) (c : XCode) : XCode := Nat.rec c (fun _ c => .seq .ghost c) n
def j6x (boxF : List Nat) (frz : List (Nat × Nat)) (id : Nat) : List Nat := match frz.filter fun p => p.1 == 1000000 + id with
 | [] => boxF
 | l => boxF ++ l.map (·.2)
def d0g (fl draw : Bool) (ops : Array Oper) (xs : List XO) : Option XCode :=
 if draw = true then
  (if fl = true then
   (if b54 [] ops xs = true then some (.reg xs)
    else if b54 (c7s 0 [] [] ops.toList xs) ops xs = true then some (.regW xs (c7s 0 [] [] ops.toList xs)) else none)
   else none)
 else some (.reg xs)
theorem j6z {fl draw : Bool} {ops : Array Oper} {xs : List XO} {C : XCode} (h : d0g fl draw ops xs = some C) :
  (draw = false /\ C = .reg xs) \/ (draw = true /\ fl = true /\ ((C = .reg xs /\ b54 [] ops xs = true) \/ ∃ prs, C = .regW xs prs /\ b54 prs ops xs = true)) := by
 unfold d0g at h
 split at h
 ·rename_i h1
  split at h
  ·rename_i h2
   split at h
   ·rename_i h3; cases h; exact .inr ⟨h1, h2, .inl ⟨rfl, h3⟩⟩
   ·split at h
    ·rename_i h3; cases h; exact .inr ⟨h1, h2, .inr ⟨_, rfl, h3⟩⟩
    ·cases h
  ·cases h
 ·rename_i h1; cases h; exact .inl ⟨by simpa using h1, rfl⟩
def b3y (P : Program) (boxF : List Nat) (frz : List (Nat × Nat)) (n : Nat) : Code -> Option XCode
 | .skip => some .skip
 | .region id ops draw => (ops.toList.mapM (b8k P (j6x boxF frz id) n ops)).bind fun xs =>
  (d0g (P.follows .mixedOrders) draw ops xs).map fun C => j91 (frz.filter fun p => p.1 == 2 * id).length (b72 (frz.filter fun p => p.1 == 2 * id + 1).length C)
 | .seq a b => (b3y P boxF frz n a).bind fun x => (b3y P boxF frz n b).map fun y => .seq x y
 | .cond c a b => (b05 P c).bind fun z => (b3y P boxF frz n a).bind fun x => (b3y P boxF frz n b).map fun y => .cond z x y
 | .block id a => (b3y P boxF frz n a).map (.block id)
 | .loop a => (b3y P boxF frz n a).map .loop
 | .exit id => some (.exit id)
 | .ret => some .ret
 | _ => none
def b92 (P : Program) : ResultVar -> Option XRes
 | .tmp t => some (.t t)
 | .cell a t => (b71 P t).map fun s => .cell a (b1u P t) s
def b9i (fn : Func) : Nat := max fn.ntmps (fn.params.size + fn.nfree)
def c3e (P : Program) (boxF : List Nat) (frz : List (Nat × Nat)) (fn : Func) : Option XFunc :=
 if (b2d fn.name).isSome then none else
 fn.body.bind fun c => (b3y P boxF frz (b9i fn) c).bind fun b => (fn.results.toList.mapM (b92 P)).map fun r =>
  { np := fn.params.size + fn.nfree, res := r, body := b }
end Go.Nw
