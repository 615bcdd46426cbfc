/- From the model's code to the abstract machine's: sizes and offsets looked up, functions by their names; what is not served gives none. -/
import Derived.Test.YtojneiildpnpiaaNwSem
import GoSem.Core.Region
import GoSem.Core.Layout
import GoSem.Op.Equal
set_option linter.all false
namespace Go.Nw
class Cfg where
 tab : Nat->Option (List GC)
 wr : String->Bool
variable [Cfg]
def b3v (P:Program) (t:TypeId):Option (List Value):=((P.info? t).bind (·.zero)).bind fun z=>if z.cells.toList.all (·.oneCell') then some z.cells.toList else none
def b2c (P:Program) (t:TypeId):Bool:=match P.underlying t with|some (.struct _)|some (.array _ _)=>true|_=>false
def b1x (P:Program) (t:TypeId):Option Nat:=(P.info? t).map (·.size)
def s9a (P:Program) (t:TypeId):Option Nat:=if (P.underlying t).isSome then b1x P t else none
def b5e (P:Program) (t:TypeId):Option Nat:=(P.info? t).map (·.bytes)
def b6p (P:Program) (f:FuncId):Option String :=
 (P.funcs[f]?).bind fun fn=>if fn.body.isSome && fn.name != "runtime.NumGoroutine" then some fn.name else none
def b1f (P:Program):Operand->Option X
 | .tmp t=>some (.t t)
 | .const v=>some (.c v)
 | .func f=>(b6p P f).map .f
 | .global g=>(Cfg.tab g).map (.g g)
def b5z (P:Program) (rec:TypeId->Option (List FK)):List Field->Nat->Option (List FK)
 | [],_=>some []
 | f :: fs,n=>if f.name ≠ "_"/\f.offset=n then (rec f.type).bind fun ks=>(b5z P rec fs (n+ks.length)).map (ks++·) else none
def b2m (P:Program):Nat->TypeId->Option (List FK)
 | 0,_=>none
 | d+1,t =>
  (match P.underlying t with
  | some .bool=>some [FK.b]
  | some (.int _)=>some [FK.i]
  | some .string=>some [FK.s]
  | some (.struct fs)=>if P.stoodInHeld t then none else b5z P (b2m P d) fs.toList 0
  | some (.array k e)=>(b2m P d e).map fun ks=>(List.replicate k ks).flatten
  | _=>none).bind fun ks=>if b1x P t=some ks.length then some ks else none
def c6x (P:Program) (t:TypeId):EqK :=
 match P.underlying t with
 | some .bool=>.bool
 | some (.slice _)=>.slice
 | some (.pointer e)=>if b1x P e=some 0 then .no else .ptr
 | some (.struct _)|some (.array _ _)=>if P.eqGuardType P.depth t then .no else match b2m P 20 t with|some ks=>.flat ks|none=>.no
 | _=>.no
def b8c (P:Program) (bf:List Nat) (x:Operand):Option X :=
 match x with
 | .tmp t=>some (if bf.contains t then .tf t else .t t)
 | x=>b1f P x
def d1h (P:Program) (place:Nat->Option (Nat × Nat)) (ps:Array (Nat × Operand)):Option (List (Nat × Nat × X)) :=
 ps.toList.mapM fun (i,x)=>(place i).bind fun (off,sz)=>(b1f P x).map fun y=>(off,sz,y)
def c2c (P:Program):Option Operand->Option (Option X)
 | none=>some none
 | some a=>(b1f P a).map some
def c3q (P:Program) (k:TypeId):Option (Bool × Nat) :=
 match P.underlying k with
 | some .string=>some (true,0)
 | some (.int _)=>some (false,0)
 | some (.struct _)|some (.array _ _)=>(b2m P 20 k).bind fun ks=>if ks=List.replicate ks.length .i/\1<=ks.length then some (false,ks.length) else none
 | _=>none
def b1e (P:Program) (boxF:List Nat) (dst:Option Nat):Op->Option XOp
 | .move x | .assign x=>(b1f P x).map .mv
 | .pick c a b=>do pure (.pick (<- b1f P c) (<- b1f P a) (<- b1f P b))
 | .box _ x=>(b1f P x).map fun y=>if (dst.map boxF.contains).getD false then .boxF y else .box y
 | .alloc e=>(b3v P e).bind fun zs=>if zs.isEmpty then none else some (.alloc zs)
 | .build t ps=>do
  let zs <- b3v P t
  match P.underlying t with
  | some (.struct fs)=>do
   let sizes <- fs.toList.mapM fun f=>(b1x P f.type).map fun s=>(f.offset,s)
   pure (.build zs (<- d1h P (sizes[·]?) ps))
  | some (.array _ e)=>do
   let s <- b1x P e
   pure (.build zs (<- d1h P (fun i=>some (i * s,s)) ps))
  | _=>none
 | .buildSlice t len ps=>do
  match P.underlying t with
  | some (.slice e)=>do
   let s <- b1x P e
   let zs <- b3v P e
   if s≠0/\zs.length=s/\len * s<=2 ^ 24/\ps.toList.map (·.1)=List.range len then
    let xs <- ps.toList.mapM fun p=>b1f P p.2
    pure (if (dst.map boxF.contains).getD false then .bslF s xs else .bsl s xs)
   else none
  | _=>none
 | .load t a=>do pure (.load (b2c P t) (<- s9a P t) (<- b8c P boxF a))
 | .store t a x=>do pure (.store (<- b1x P t) (<- b1f P a) (<- b1f P x))
 | .nilCheck x=>(b8c P boxF x).map .nilck
 | .binOp op t x y _=>do pure (.bin op (c6x P t) (<- b1f P x) (<- b1f P y))
 | .unOp op _ x=>(b1f P x).map (.un op)
 | .convert s d x=>match P.underlying d with
  | some (.int k)=>(b1f P x).bind fun y=>if (P.underlying s).isSome then some (.cvtI k y) else none
  | some (.slice e)=>match P.underlying s,P.underlying e with
   | some .string,some (.int .u8)=>(b1f P x).map fun y=>.callw "#sb" [y]
   | _,_=>none
  | some .string=>match P.underlying s with
   | some (.int _)=>(b1f P x).map fun y=>.callw "#chr" [y]
   | _=>none
  | _=>none
 | .makeFunc (.func f) first caps=>do pure (.mkfn (<- b6p P f) (<- first.toList.mapM (b1f P)) (<- caps.toList.mapM (b1f P)))
 | .makeSlice t l c=>do
  match P.underlying t with
  | some (.slice e)=>do
   let s <- b1x P e
   let zs <- b3v P e
   if s≠0/\zs.length=s then pure (.mksl s zs (<- b5e P e) (<- b1f P l) (<- b1f P c)) else none
  | _=>none
 | .slice t x lo hi none=>do
  match P.underlying t with
  | some (.slice e)=>do
   let s <- b1x P e
   let l <- c2c P lo
   let h <- c2c P hi
   let y <- b1f P x
   pure (if boxF.contains 3000001 && l.isSome && h.isNone then .callw "#tl" (y :: (l.toList++[.c (.int .i64 s)])) else .slc s y l h)
  | _=>none
 | .fieldAddr t x f=>do
  match P.underlying t with
  | some (.struct fs)=>do
   let fl <- fs[f]?
   if (b1x P fl.type).getD 0=0 then none else pure (.fldA fl.offset (<- b8c P boxF x))
  | _=>none
 | .field t x f=>do
  match P.underlying t with
  | some (.struct fs)=>do
   let fl <- fs[f]?
   pure (.fld (b2c P fl.type) (<- s9a P fl.type) fl.offset (<- b1f P x))
  | _=>none
 | .indexAddr t x i=>do
  match P.underlying t with
  | some (.slice e)=>do
   let s <- b1x P e
   if s=0 then none else pure (.ixA s (<- b8c P boxF x) (<- b1f P i))
  | some (.array n e)=>do
   let s <- b1x P e
   if s=0 then none else pure (.ixP s n (<- b1f P x) (<- b1f P i))
  | _=>none
 | .index t x i=>do
  match P.underlying t with
  | some (.array n e)=>do pure (.ixV (<- s9a P e) n (b2c P e) (<- b1f P x) (<- b1f P i))
  | some .string=>do pure (.ixS (<- b1f P x) (<- b1f P i))
  | _=>none
 | .extract t i=>(b1f P t).map fun x=>.ext x i
 | .call { callee:=.value (.func f),args,.. }=>do
  let n <- b6p P f
  let xs <- args.toList.mapM (b1f P)
  pure (if (Cfg.wr n || boxF.contains (2000000+f)) && (b2k n).isNone then .callw n xs else .call n xs)
 | .makeMap t r=>match P.underlying t,r with
  | some (.map _ _),none=>some (.callw "#mk" [])
  | some (.map _ _),some (.const (.int _ _))=>some (.callw "#mk" [])
  | _,_=>none
 | .lookup t m x ok=>do
  match P.underlying t with
  | some (.map k e)=>do
   let (s,n) <- c3q P k
   let z <- (P.info? e).bind (·.zero)
   pure (.callw (if s then (if ok then "#lt" else "#ls") else (if ok then "#lj" else "#li")) [<- b1f P m,<- b1f P x,.c z,.c (.int .i64 n)])
  | _=>none
 | .insert t m k v=>do
  match P.underlying t with
  | some (.map kt e)=>do
   let (s,n) <- c3q P kt
   pure (.callw (if s then "#ps" else "#pi") [<- b1f P m,<- b1f P k,<- b1f P v,.c (.int .i64 n)])
  | _=>none
 | .mapUpdate t m k v=>do
  match P.underlying t with
  | some (.map kt e)=>do
   let (s,n) <- c3q P kt
   pure (.callw (if s then "#ps" else "#pi") [<- b1f P m,<- b1f P k,<- b1f P v,.c (.int .i64 n)])
  | _=>none
 | .call { callee:=.value (.tmp t),args,.. }=>do
  let xs <- args.toList.mapM (b1f P)
  pure (if boxF.contains 3000000 then .callw "#v" (.t t :: xs) else .callv (.t t) xs)
 | .call { callee:=.builtin .len,args,argTypes }=>do
  match args.toList,argTypes.toList with
  | [x],[t]=>(match P.underlying t with|some .string=>(b1f P x).map (.len true)|some (.slice _)=>(b1f P x).map (.len false)|_=>none)
  | _,_=>none
 | .call { callee:=.builtin .cap,args,argTypes }=>do
  match args.toList,argTypes.toList with
  | [x],[t]=>(match P.underlying t with|some (.slice _)=>(b1f P x).map fun y=>.callw "#cap" [y]|_=>none)
  | _,_=>none
 | .call { callee:=.builtin .copy,args,argTypes }=>do
  match args.toList,argTypes.toList with
  | [d,s],[t,_] =>
   (match P.underlying t with
    | some (.slice e)=>if b1x P e=some 1 then (b1f P d).bind fun y=>(b1f P s).map fun z=>.callw "#cp" [y,z] else none
    | _=>none)
  | _,_=>none
 | .makeInterface .. | .panic ..=>some (.callw "#no" [])
 | .call { callee:=.builtin .min,args,.. }=>do pure (.min (<- args.toList.mapM (b1f P)))
 | .call { callee:=.builtin .max,args,.. }=>do pure (.max (<- args.toList.mapM (b1f P)))
 | .call { callee:=.builtin .append,args,argTypes }=>do
  match args.toList,argTypes.toList with
  | [s,x],[t,u] =>
   (match P.underlying t,P.underlying u with
    | some (.slice e),some (.slice _)=>do
     let sz <- b1x P e
     let zs <- b3v P e
     let by_ <- b5e P e
     if sz≠0/\zs.length=sz/\1<=by_ then pure (.app sz by_ (<- b1f P s) (<- b1f P x)) else none
    | some (.slice e),some (.int _)=>do
     let sz <- b1x P e
     let zs <- b3v P e
     let by_ <- b5e P e
     (match zs with
      | [z]=>if sz=1/\by_<=16/\b2c P e=false then (b1f P s).bind fun y=>(b1f P x).map fun u=>.callw "#ax" [y,u,.c z] else none
      | _=>none)
    | _,_=>none)
  | _,_=>none
 | _=>none
def c2b (n:Nat) (ops:Array Oper):Option (Nat × Bool)->Option (Option (Nat × Bool))
 | none=>some none
 | some (j,b)=>((ops[j]?).bind (·.dst)).bind fun d=>if d<n then some (some (d,b)) else none
def b9r (P:Program) (boxF:List Nat) (n:Nat) (ops:Array Oper) (o:Oper):Option XO :=
 (b1e P boxF o.dst o.op).bind fun op=>(c2b n ops o.guard).bind fun g =>
 if (o.dst.map fun d=>decide (d<n)).getD true then some { dst:=o.dst,guard:=g,op } else none
def XOp.xs:XOp->List X
 | .mv x | .box x | .boxF x | .nilck x | .un _ x | .cvtI _ x | .fldA _ x | .fld _ _ _ x | .ext x _ | .len _ x | .load _ _ x=>[x]
 | .pick a b c=>[a,b,c]
 | .alloc _=>[]
 | .build _ ps=>ps.map (·.2.2)
 | .bsl _ xs | .bslF _ xs | .call _ xs | .callw _ xs | .min xs | .max xs=>xs
 | .store _ a x | .bin _ _ a x | .mksl _ _ _ a x | .ixA _ a x | .ixP _ _ a x | .ixV _ _ _ a x | .ixS a x | .app _ _ a x=>[a,x]
 | .mkfn _ a b=>a++b
 | .slc _ x l h=>x :: l.toList++h.toList
 | .callv f xs=>f :: xs
def X.fz:X->Bool
 | .tf _=>true
 | _=>false
def XOp.acc:XOp->Bool
 | .load _ _ x | .nilck x | .fldA _ x | .ixA _ x _=>!x.fz
 | .slc .. | .ixP .. | .call .. | .callv .. | .app .. | .store .. | .callw ..=>true
 | _=>false
def XOp.mut:XOp->Bool
 | .app _ _ (.c _) _=>false
 | .app .. | .store .. | .callw ..=>true
 | _=>false
def XOp.sto:XOp->Bool
 | .store .. | .callw ..=>true
 | _=>false
def XO.looks (o:XO):List Nat:=(o.op.xs.filterMap fun | .t n=>some n | .tf n=>some n|_=>none)++(match o.guard with|some (g,_)=>[g]|none=>[])
def d40 (x y:XO):Bool:=match x.dst,y.dst with|some d,some e=>d == e|_,_=>false
def XOp.still:XOp->Bool
 | .mv _ | .pick .. | .boxF _ | .bslF .. | .build .. | .load _ _ (.tf _) | .nilck (.tf _) | .fldA _ (.tf _) | .ixA _ (.tf _) _ | .bin .. | .un .. | .cvtI .. | .mkfn .. | .fld .. | .ixV .. | .ixS .. | .ext .. | .len .. | .min _ | .max _=>true
 | _=>false
def XOp.quiet (o:XOp):Bool:=o.still || o.look
def b4w (fl:Bool) (x y:XO):Bool :=
 (match x.dst with|some d=>!(y.looks.contains d)|none=>true) &&
 (match y.dst with|some d=>!(x.looks.contains d)|none=>true) &&
 (!x.op.acc || !y.op.mut || fl) && (!x.op.sto || !y.op.acc) && ((!x.op.isW || y.op.still) && (!y.op.isW || x.op.still))
def b5j (x y:XO):Bool :=
 (match x.dst with|some d=>!(y.looks.contains d)|none=>true) &&
 (match y.dst with|some d=>!(x.looks.contains d)|none=>true) &&
 ((x.op.look && y.op.isA) || (x.op.isA && y.op.look))
def b5p (x y:XO):Bool :=
 match x.op,x.dst,x.guard,y.op with
 | .bsl _ _,some d,none,.app _ _ (.t s) _=>d == s
 | _,_,_,_=>false
def d13 {α:Type} (n:Nat) (f:Nat->α):α:=match n with|0=>f 0|k+1=>f (k+1)
def b63 (n:Nat) (ms:List Nat) (es:List Edge):Nat :=
 match es with
 | []=>0
 | e :: r=>if Region.binds .any e then (b63 n ms r ||| 2 ^ e.on) ||| ms.getD (n - 1 - e.on) 0 else b63 n ms r
def b8t (x:XO) (i j:Nat):Nat × Nat:=if x.op.look then (i,j) else (j,i)
def c75 (prs:List (Nat × Nat)) (j m:Nat) (y:XO):Bool->Nat->List XO->Bool
 | fl,n+1,x :: ps=>!(d40 x y) && ((m.testBit n || b4w fl x y) || (prs.contains (b8t x n j) && b5j x y)) && c75 prs j m y (fl || b5p x y) n ps
 | _,_,_=>true
def b8f (prs:List (Nat × Nat)):Nat->List Nat->List XO->List Oper->List XO->Bool
 | n,ms,ps,o :: os,x :: xs =>
  (o.after.toList.all fun e=>decide (e.on<n) || !Region.binds .any e) &&
  d13 (b63 n ms o.after.toList) fun m=>c75 prs n m x false n ps && b8f prs (n+1) (m :: ms) (x :: ps) os xs
 | _,_,_,[],[]=>true
 | _,_,_,_,_=>false
def L4f (prs:List (Nat × Nat)) (ops:Array Oper) (xs:List XO):Bool:=b8f prs 0 [] [] ops.toList xs
def d4l (j m:Nat) (y:XO):Bool->Nat->List XO->List (Nat × Nat)
 | fl,n+1,x :: ps=>if m.testBit n || b4w fl x y then d4l j m y (fl || b5p x y) n ps else b8t x n j :: d4l j m y (fl || b5p x y) n ps
 | _,_,_=>[]
def d1n:Nat->List Nat->List XO->List Oper->List XO->List (Nat × Nat)
 | n,ms,ps,o :: os,x :: xs=>d13 (b63 n ms o.after.toList) fun m=>d4l n m x false n ps++d1n (n+1) (m :: ms) (x :: ps) os xs
 | _,_,_,_,_=>[]
def b86 (m:Nat) (c:XCode):XCode:=Nat.rec c (fun _ c=>.seq c .ghost) m
def l7i (n:Nat) (c:XCode):XCode:=Nat.rec c (fun _ c=>.seq .ghost c) n
def l4d (boxF:List Nat) (frz:List (Nat × Nat)) (id:Nat):List Nat:=match frz.filter fun p=>p.1 == 1000000+id with
 | []=>boxF
 | l=>boxF++l.map (·.2)
def d4w (fl draw:Bool) (ops:Array Oper) (xs:List XO):Option XCode :=
 if draw=true then
  (if fl=true then
   (if L4f [] ops xs=true then some (.reg xs)
    else if L4f (d1n 0 [] [] ops.toList xs) ops xs=true then some (.regW xs (d1n 0 [] [] ops.toList xs)) else none)
   else none)
 else some (.reg xs)
theorem l4f {fl draw:Bool} {ops:Array Oper} {xs:List XO} {C:XCode} (h:d4w fl draw ops xs=some C) :
  (draw = false/\C = .reg xs)\/(draw=true/\fl=true/\((C = .reg xs/\L4f [] ops xs=true)\/∃ prs,C = .regW xs prs/\L4f prs ops xs=true)):=by
 unfold d4w at h
 split at h
 ·rename_i h1
  split at h
  ·rename_i h2
   split at h
   ·rename_i h3; cases h; exact .inr ⟨h1,h2,.inl ⟨rfl,h3⟩⟩
   ·split at h
    ·rename_i h3; cases h; exact .inr ⟨h1,h2,.inr ⟨_,rfl,h3⟩⟩
    ·cases h
  ·cases h
 ·rename_i h1; cases h; exact .inl ⟨by simpa using h1,rfl⟩
def b4m (P:Program) (boxF:List Nat) (frz:List (Nat × Nat)) (n:Nat):Code->Option XCode
 | .skip=>some .skip
 | .region id ops draw=>(ops.toList.mapM (b9r P (l4d boxF frz id) n ops)).bind fun xs =>
  (d4w (P.follows .mixedOrders) draw ops xs).map fun C=>l7i (frz.filter fun p=>p.1 == 2 * id).length (b86 (frz.filter fun p=>p.1 == 2 * id+1).length C)
 | .seq a b=>(b4m P boxF frz n a).bind fun x=>(b4m P boxF frz n b).map fun y=>.seq x y
 | .cond c a b=>(b1f P c).bind fun z=>(b4m P boxF frz n a).bind fun x=>(b4m P boxF frz n b).map fun y=>.cond z x y
 | .block id a=>(b4m P boxF frz n a).map (.block id)
 | .loop a=>(b4m P boxF frz n a).map .loop
 | .exit id=>some (.exit id)
 | .ret=>some .ret
 | _=>none
def c2d (P:Program):ResultVar->Option XRes
 | .tmp t=>some (.t t)
 | .cell a t=>(s9a P t).map fun s=>.cell a (b2c P t) s
def c1k (fn:Func):Nat:=max fn.ntmps (fn.params.size+fn.nfree)
def c6p (P:Program) (boxF:List Nat) (frz:List (Nat × Nat)) (fn:Func):Option XFunc :=
 if (b2k fn.name).isSome then none else
 fn.body.bind fun c=>(b4m P boxF frz (c1k fn) c).bind fun b=>(fn.results.toList.mapM (c2d P)).map fun r =>
  { np:=fn.params.size+fn.nfree,res:=r,body:=b }
end Go.Nw
