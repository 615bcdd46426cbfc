/- The abstract machine: values without addresses, a small instruction set, and what a piece of code makes of a state, as a proposition. -/
import GoSem.Core.Sem
import GoSem.Core.View
import GoSem.Op.String
import GoSem.Core.Utf8
import Derived.Attr
import Derived.Laws.Sem
set_option linter.all false
namespace Go.Nw
theorem bS9 {α β:Type _} (a:α) (f:α → Option β):(some a).bind f=f a:=rfl
theorem bE9 {α β:Type _} {o:Option α} {f:α → Option β} {b:β}:o.bind f=some b ↔ ∃ a,o=some a ∧ f a=some b:=Option.bind_eq_some_iff
theorem mE9 {α β:Type _} {x:Option α} {f:α → β} {b:β}:x.map f=some b ↔ ∃ a,x=some a ∧ f a=b:=Option.map_eq_some_iff
theorem gG9 {α:Type _} {l:List α} {i:Nat} (h:i<l.length):l[i]?=some l[i]:=List.getElem?_eq_getElem h
theorem gS9 {α:Type _} {a:α} {i:Nat} {l:List α}:l[i]?=some a ↔ ∃ h:i<l.length,l[i]=a:=List.getElem?_eq_some_iff
theorem fT9:(false=true)=False:=Bool.false_eq_true
theorem iE9 {α:Type _} (a b:α):(some a=some b)=(a=b):=Option.some.injEq a b
theorem mG9 {α:Type _} {l:List α} {i:Nat} {a:α} (h:l[i]?=some a):a∈l:=List.mem_of_getElem? h
inductive AV where
 | v (x:Value)
 | agg (cs:List AV)
 | tup (vs:List AV)
 | fs (sz:Nat) (es:List (List AV))
 | fp (cs:List AV) (off:Nat)
 | fn (f:String) (first caps:List AV)
 | rs (id lo len:Nat)
 | rp (id i off:Nat)
 | mp (id:Nat)
 | dead
def at2 (es:List (List AV)) (i j:Nat):Option AV:=(es[i]?).bind (·[j]?)
abbrev Ob:=Nat × List (List AV)
structure Heap where
 ob : Nat->Option Ob
 us : Nat->Prop
 nx : Nat
structure St where
 t : Nat->AV
 h : Heap
inductive GC where
 | v (x:Value)
 | sl (sz:Nat) (rows:List (List Value))
def GC.av:GC->AV
 | .v x=>.v x
 | .sl sz rows=>.fs sz (rows.map (List.map .v))
inductive X where
 | t (n:Nat)
 | tf (n:Nat)
 | c (v:Value)
 | f (name:String)
 | g (id:Nat) (cs:List GC)
inductive FK where
 | i|b|s
 deriving DecidableEq
inductive EqK where
 | no|bool|flat (ks:List FK)|slice|ptr
inductive XOp where
 | mv (x:X)
 | pick (c a b:X)
 | box (x:X)
 | boxF (x:X)
 | alloc (zs:List Value)
 | build (zs:List Value) (parts:List (Nat × Nat × X))
 | bsl (sz:Nat) (parts:List X)
 | bslF (sz:Nat) (parts:List X)
 | load (agg:Bool) (n:Nat) (a:X)
 | store (n:Nat) (a x:X)
 | nilck (x:X)
 | bin (op:BinOp) (k:EqK) (x y:X)
 | un (op:UnOp) (x:X)
 | cvtI (k:IntKind) (x:X)
 | mkfn (f:String) (first caps:List X)
 | mksl (sz:Nat) (zs:List Value) (bytes:Nat) (len cap:X)
 | slc (sz:Nat) (x:X) (lo hi:Option X)
 | fldA (off:Nat) (x:X)
 | fld (agg:Bool) (n off:Nat) (x:X)
 | ixA (sz:Nat) (x i:X)
 | ixP (sz len:Nat) (x i:X)
 | ixV (sz len:Nat) (agg:Bool) (x i:X)
 | ixS (x i:X)
 | ext (x:X) (i:Nat)
 | call (f:String) (args:List X)
 | callv (f:X) (args:List X)
 | len (str:Bool) (x:X)
 | min (xs:List X)
 | max (xs:List X)
 | app (sz bytes:Nat) (s x:X)
 | callw (f:String) (args:List X)
structure XO where
 dst : Option Nat
 guard : Option (Nat × Bool)
 op : XOp
inductive XCode where
 | skip
 | reg (ops:List XO)
 | regW (ops:List XO) (prs:List (Nat × Nat))
 | seq (a b:XCode)
 | cond (c:X) (a b:XCode)
 | block (id:Nat) (a:XCode)
 | loop (a:XCode)
 | exit (id:Nat)
 | ret
 | ghost
inductive XRes where
 | t (n:Nat)
 | cell (n:Nat) (agg:Bool) (sz:Nat)
structure XFunc where
 np : Nat
 res : List XRes
 body : XCode
inductive XExit where
 | normal
 | exit (id:Nat)
 | ret
def r7o:AV->AV
 | .fp cs off=>.fp cs off
 | .fs sz es=>.fs sz es
 | _=>.dead
def St.ev (s:St):X->AV
 | .t n=>s.t n
 | .tf n=>r7o (s.t n)
 | .c v=>.v v
 | .f name=>.fn name [] []
 | .g _ cs=>.fp (cs.map GC.av) 0
def upd (f:Nat->AV) (i:Nat) (x:AV):Nat->AV:=fun j=>if j=i then x else f j
def St.set (s:St) (d:Nat) (x:AV):St:={ s with t:=upd s.t d x }
def St.put (s:St) (d:Option Nat) (x:AV):St:=match d with|some d=>s.set d x|none=>s
def Heap.upd (h:Heap) (id:Nat) (o:Option Ob):Heap:={ h with ob:=fun j=>if j=id then o else h.ob j }
def Heap.new (h:Heap) (o:Ob):Heap:={ ob:=fun j=>if j=h.nx then some o else h.ob j,us:=fun j=>j=h.nx\/h.us j,nx:=h.nx+1 }
def Heap.empty:Heap:={ ob:=fun _=>none,us:=fun _=>False,nx:=0 }
inductive Own:AV->Prop
 | v (x:Value):Own (.v x)
 | agg (cs:List AV) (h:∀ c∈cs,Own c):Own (.agg cs)
 | tup (cs:List AV) (h:∀ c∈cs,Own c):Own (.tup cs)
 | rs (id lo len:Nat):Own (.rs id lo len)
 | rp (id i off:Nat):Own (.rp id i off)
 | dead:Own .dead
inductive Frz:AV->Prop
 | v (x:Value):Frz (.v x)
 | agg (cs:List AV) (h:∀ c∈cs,Frz c):Frz (.agg cs)
 | tup (cs:List AV) (h:∀ c∈cs,Frz c):Frz (.tup cs)
 | fs (sz:Nat) (es:List (List AV)) (h:∀ e∈es,∀ c∈e,Frz c):Frz (.fs sz es)
 | fp (cs:List AV) (off:Nat) (h:∀ c∈cs,Frz c):Frz (.fp cs off)
 | fn (f:String) (a b:List AV) (ha:∀ c∈a,Frz c) (hb:∀ c∈b,Frz c):Frz (.fn f a b)
 | dead:Frz .dead
inductive Fz (h:Heap):AV->AV->Prop
 | refl (x:AV) (hx:Frz x):Fz h x x
 | nil (sz:Nat):Fz h (.v (.slice none 0 0)) (.fs sz [])
 | dead (x:AV):Fz h x .dead
 | agg (cs ds:List AV) (hl:cs.length=ds.length) (hc:∀ (i:Nat) c d,cs[i]?=some c->ds[i]?=some d->Fz h c d):Fz h (.agg cs) (.agg ds)
 | tup (cs ds:List AV) (hl:cs.length=ds.length) (hc:∀ (i:Nat) c d,cs[i]?=some c->ds[i]?=some d->Fz h c d):Fz h (.tup cs) (.tup ds)
 | fn (f:String) (as bs cs ds:List AV) (hl:as.length=bs.length) (hc:∀ (i:Nat) c d,as[i]?=some c->bs[i]?=some d->Fz h c d)
   (hl' : cs.length=ds.length) (hc':∀ (i:Nat) c d,cs[i]?=some c->ds[i]?=some d->Fz h c d):Fz h (.fn f as cs) (.fn f bs ds)
 | rs (id lo len sz:Nat) (es ds:List (List AV)) (ho:h.ob id=some (sz,es)) (hb:lo+len<=es.length) (hl:ds.length=len) (hz:∀ d∈ds,d.length=sz)
   (hc : ∀ (i j:Nat) c d,at2 es (lo+i) j=some c->at2 ds i j=some d->Fz h c d):Fz h (.rs id lo len) (.fs sz ds)
 | rp (id i off sz:Nat) (es:List (List AV)) (cs ds:List AV) (ho:h.ob id=some (sz,es)) (hi:es[i]?=some cs) (hl:cs.length=ds.length)
   (hc : ∀ (i:Nat) c d,cs[i]?=some c->ds[i]?=some d->Fz h c d):Fz h (.rp id i off) (.fp ds off)
inductive FzL (h:Heap):List AV->List AV->Prop
 | nil:FzL h [] []
 | cons {x y:AV} {xs ys:List AV} (a:Fz h x y) (b:FzL h xs ys):FzL h (x :: xs) (y :: ys)
inductive Ren (f:Nat->Option Nat):AV->AV->Prop
 | frz (x:AV) (hx:Frz x):Ren f x x
 | agg (cs ds:List AV) (hl:cs.length=ds.length) (hc:∀ (i:Nat) c d,cs[i]?=some c->ds[i]?=some d->Ren f c d):Ren f (.agg cs) (.agg ds)
 | tup (cs ds:List AV) (hl:cs.length=ds.length) (hc:∀ (i:Nat) c d,cs[i]?=some c->ds[i]?=some d->Ren f c d):Ren f (.tup cs) (.tup ds)
 | rs (id k lo len:Nat) (hk:f id=some k):Ren f (.rs id lo len) (.rs k lo len)
 | rp (id k i off:Nat) (hk:f id=some k):Ren f (.rp id i off) (.rp k i off)
abbrev b3z:=List Ob
structure Orac where
 c : String->List AV->AV->b3z->Prop
 w : String->List AV->Heap->AV->Heap->Prop
instance : CoeFun Orac (fun _=>String->List AV->AV->b3z->Prop):=⟨Orac.c⟩
def cellsOf:AV->List AV
 | .agg cs=>cs
 | x=>[x]
def b2d:AV->Bool
 | .agg _=>true
 | .v y=>y.oneCell'
 | .tup _ | .dead=>false
 | _=>true
def b4d (op:BinOp) (k:IntKind) (a b:Int):Option Value :=
 match op with
 | .add=>some (.int k (k.wrap (a+b)))
 | .sub=>some (.int k (k.wrap (a - b)))
 | .mul=>some (.int k (k.wrap (a * b)))
 | .quo=>if b=0 then none else some (.int k (k.wrap (a.tdiv b)))
 | .rem=>if b=0 then none else some (.int k (a.tmod b))
 | .and=>some (.int k (k.wrap (BitVec.ofInt k.bits a &&& BitVec.ofInt k.bits b).toNat))
 | .or=>some (.int k (k.wrap (BitVec.ofInt k.bits a ||| BitVec.ofInt k.bits b).toNat))
 | .xor=>some (.int k (k.wrap (BitVec.ofInt k.bits a ^^^ BitVec.ofInt k.bits b).toNat))
 | .andNot=>some (.int k (k.wrap (BitVec.ofInt k.bits a &&& ~~~(BitVec.ofInt k.bits b)).toNat))
 | .eql=>some (.bool (a == b))
 | .neq=>some (.bool (a != b))
 | .lss=>some (.bool (decide (a<b)))
 | .leq=>some (.bool (decide (a<=b)))
 | .gtr=>some (.bool (decide (a > b)))
 | .geq=>some (.bool (decide (a >= b)))
 | _=>none
def p2d (op:BinOp) (a b:ByteArray):Option Value :=
 match op with
 | .eql=>some (.bool (a.toList == b.toList))
 | .neq=>some (.bool (!(a.toList == b.toList)))
 | .lss=>some (.bool (Op.bytesLess a.toList b.toList))
 | .add=>if a.size+b.size<=2 ^ 40 then some (.string (a++b)) else none
 | _=>none
def c1g (op:BinOp) (k:IntKind) (a b:Int):Option Value :=
 if b<0 then none else
 match op with
 | .shl=>some (.int k (k.wrap (a * 2 ^ (Nat.min b.toNat k.bits))))
 | .shr=>some (.int k (a.fdiv (2 ^ (Nat.min b.toNat k.bits))))
 | _=>none
def r7h:List FK->List AV->List AV->Option Bool
 | [],[],[]=>some true
 | .i :: ks,.v (.int k a) :: xs,.v (.int k' b) :: ys=>if k=k' then (if a == b then r7h ks xs ys else some false) else none
 | .b :: ks,.v (.bool a) :: xs,.v (.bool b) :: ys=>if a == b then r7h ks xs ys else some false
 | .s :: ks,.v (.string a) :: xs,.v (.string b) :: ys=>if a.toList == b.toList then r7h ks xs ys else some false
 | _,_,_=>none
def c0h:AV->Option Bool
 | .v (.slice none _ _)=>some true
 | .rs _ _ _=>some false
 | .fs _ (_ :: _)=>some false
 | _=>none
def g0w:AV->Option Bool
 | .v (.pointer none)=>some true
 | .rp _ _ _=>some false
 | .fp _ _=>some false
 | _=>none
def b3m (op:BinOp) (k:IntKind) (a:Int) (k':IntKind) (b:Int):Option Value :=
 match op with
 | .shl=>c1g .shl k a b
 | .shr=>c1g .shr k a b
 | op=>if k=k' then b4d op k a b else none
def b2z (k:EqK) (x y:AV):Option Bool :=
 match k with
 | .bool=>match x,y with | .v (.bool a),.v (.bool b)=>some (a == b)|_,_=>none
 | .flat ks=>match x,y with | .agg a,.agg b=>if a.length=ks.length/\b.length=ks.length then r7h ks a b else none|_,_=>none
 | .slice=>match y with | .v (.slice none 0 0)=>c0h x|_=>none
 | .ptr=>match y with | .v (.pointer none)=>g0w x|_=>none
 | .no=>none
def b3f (op:BinOp) (k:EqK) (x y:AV):Option AV :=
 match x,y with
 | .v (.int k a),.v (.int k' b)=>(b3m op k a k' b).map .v
 | .v (.string a),.v (.string b)=>(p2d op a b).map .v
 | x,y=>match op with
  | .eql=>(b2z k x y).map fun r=>.v (.bool r)
  | .neq=>(b2z k x y).map fun r=>.v (.bool (!r))
  | _=>none
def b7u (op:UnOp) (x:AV):Option AV :=
 match op,x with
 | .neg,.v (.int k n)=>some (.v (.int k (k.wrap (0 - n))))
 | .not,.v (.bool b)=>some (.v (.bool !b))
 | .xor,.v (.int k n)=>some (.v (.int k (k.wrap (BitVec.ofInt k.bits (if k.signed then -1 else k.max) ^^^ BitVec.ofInt k.bits n).toNat)))
 | _,_=>none
def place (cs:List AV):List (Nat × List AV)->List AV
 | []=>cs
 | (off,ds) :: r=>place (cs.take off++ds++cs.drop (off+ds.length)) r
def b7h (x y:AV):Option AV :=
 match x,y with
 | .v (.int k a),.v (.int _ b)=>some (.v (.int k (if b<a then b else a)))
 | _,_=>none
def b7f (x y:AV):Option AV :=
 match x,y with
 | .v (.int k a),.v (.int _ b)=>some (.v (.int k (if b > a then b else a)))
 | _,_=>none
def b5g (f:AV->AV->Option AV):List AV->Option AV
 | []=>none
 | x :: r=>r.foldlM f x
def b6q (parts:List (Nat × Nat × AV)):Option (List (Nat × List AV)) :=
 parts.mapM fun p=>if b2d p.2.2/\(cellsOf p.2.2).length=p.2.1 then some (p.1,cellsOf p.2.2) else none
def b2x:AV->Option Nat
 | .v (.slice none 0 0)=>some 0
 | .fs _ es=>some es.length
 | .rs _ _ len=>some len
 | _=>none
def b5d (d:Nat) (o:Option AV):Option Nat :=
 match o with|none=>some d|some (.v (.int _ l))=>if 0<=l then some l.toNat else none|_=>none
def b5i (len:Nat) (o:Option AV):Option Nat :=
 match o with|none=>some len|some (.v (.int _ r))=>if 0<=r/\r.toNat<=len then some r.toNat else none|_=>none
def eff (op:XOp) (ev:X->AV) (h:Heap):Option (AV × Heap) :=
 match op with
 | .mv x=>some (ev x,h)
 | .pick c a b=>match ev c with | .v (.bool t)=>some (if t then ev a else ev b,h)|_=>none
 | .box x=>if b2d (ev x)/\(cellsOf (ev x)).isEmpty=false then some (.rp h.nx 0 0,h.new ((cellsOf (ev x)).length,[cellsOf (ev x)])) else none
 | .alloc zs=>some (.rp h.nx 0 0,h.new (zs.length,[zs.map .v]))
 | .build zs parts =>
  (b6q (parts.map fun p=>(p.1,p.2.1,ev p.2.2))).bind fun ps=>if ps.all fun p=>decide (p.1+p.2.length<=zs.length) then some (.agg (place (zs.map .v) ps),h) else none
 | .bsl sz parts =>
  if (parts.map ev).all fun x=>b2d x && (cellsOf x).length == sz then some (.rs h.nx 0 parts.length,h.new (sz,(parts.map ev).map cellsOf)) else none
 | .bslF sz parts =>
  if (parts.map ev).all fun x=>b2d x && (cellsOf x).length == sz then some (.fs sz ((parts.map ev).map cellsOf),h) else none
 | .load agg n a =>
  match ev a with
  | .fp cs off=>if agg then (if off+n<=cs.length then some (.agg ((cs.drop off).take n),h) else none) else (cs[off]?).map fun x=>(x,h)
  | .rp id i off=>(h.ob id).bind fun o=>(o.2[i]?).bind fun cs =>
    if agg then (if off+n<=cs.length then some (.agg ((cs.drop off).take n),h) else none) else (cs[off]?).map fun x=>(x,h)
  | _=>none
 | .store n a x =>
  match ev a with
  | .rp id i off=>(h.ob id).bind fun o=>(o.2[i]?).bind fun cs =>
    if b2d (ev x)/\(cellsOf (ev x)).length=n/\off+n<=cs.length then
     some (.dead,h.upd id (some (o.1,o.2.set i (cs.take off++cellsOf (ev x)++cs.drop (off+n)))))
    else none
  | _=>none
 | .nilck x=>match ev x with | .fp cs off=>some (.fp cs off,h) | .rp id i off=>(h.ob id).bind fun _=>some (.rp id i off,h) | .fn f a b=>some (.fn f a b,h)|_=>none
 | .bin op k x y=>(b3f op k (ev x) (ev y)).map fun r=>(r,h)
 | .un op x=>(b7u op (ev x)).map fun r=>(r,h)
 | .cvtI k x=>match ev x with | .v (.int _ n)=>some (.v (.int k (k.wrap n)),h)|_=>none
 | .mkfn f first caps=>some (.fn f (first.map ev) (caps.map ev),h)
 | .mksl sz zs bytes len cap =>
  match ev len,ev cap with
  | .v (.int _ n),.v (.int _ c)=>if n=c/\0<=n/\n * bytes<=2 ^ 47/\n<2 ^ 63 then some (.rs h.nx 0 n.toNat,h.new (sz,List.replicate n.toNat (zs.map .v))) else none
  | _,_=>none
 | .slc n x lo hi =>
  (b2x (ev x)).bind fun len =>
  (b5d 0 (lo.map ev)).bind fun l =>
  (b5i len (hi.map ev)).bind fun r =>
  if l<=r then
   match ev x with
   | .fs sz es=>if sz=n then some (.fs sz ((es.take r).drop l),h) else none
   | .rs id lo' _=>(h.ob id).bind fun o=>if (l=0\/l<r)/\o.1=n then some (.rs id (lo'+l) (r - l),h) else none
   | .v (.slice none 0 0)=>some (.v (.slice none 0 0),h)
   | _=>none
  else none
 | .fldA off x=>match ev x with | .fp cs o=>some (.fp cs (o+off),h) | .rp id i o=>(h.ob id).bind fun _=>some (.rp id i (o+off),h)|_=>none
 | .fld agg n off x=>match ev x with
  | .agg cs=>if agg then (if off+n<=cs.length then some (.agg ((cs.drop off).take n),h) else none) else (cs[off]?).map fun x=>(x,h)
  | _=>none
 | .ixA n x i=>match ev x,ev i with
  | .fs sz es,.v (.int _ k)=>if sz=n/\0<=k then (es[k.toNat]?).map fun cs=>(.fp cs 0,h) else none
  | .rs id lo len,.v (.int _ k)=>(h.ob id).bind fun o=>if o.1=n/\0<=k/\k<len then some (.rp id (lo+k.toNat) 0,h) else none
  | _,_=>none
 | .ixP sz len x i=>match ev x,ev i with
  | .fp cs off,.v (.int _ n)=>if 0<=n/\n<len then some (.fp cs (off+n.toNat * sz),h) else none
  | .rp id k off,.v (.int _ n)=>(h.ob id).bind fun _=>if 0<=n/\n<len then some (.rp id k (off+n.toNat * sz),h) else none
  | _,_=>none
 | .ixV sz len agg x i=>match ev x,ev i with
  | .agg cs,.v (.int _ n)=>if 0<=n/\n<len then (if agg then (if n.toNat * sz+sz<=cs.length then some (.agg ((cs.drop (n.toNat * sz)).take sz),h) else none) else (cs[n.toNat * sz]?).map fun x=>(x,h)) else none
  | _,_=>none
 | .ixS x i=>match ev x,ev i with
  | .v (.string s),.v (.int _ n)=>if 0<=n then (s.data.toList[n.toNat]?).map fun b=>(.v (.int .u8 b.toNat),h) else none
  | _,_=>none
 | .ext x i=>match ev x with | .tup vs=>(vs[i]?).map fun x=>(x,h)|_=>none
 | .len str x=>if str then (match ev x with | .v (.string s)=>some (.v (.int .i64 s.size),h)|_=>none) else (b2x (ev x)).map fun n:Nat=>(.v (.int .i64 n),h)
 | .min xs=>(b5g b7h (xs.map ev)).map fun r=>(r,h)
 | .max xs=>(b5g b7f (xs.map ev)).map fun r=>(r,h)
 | .app sz bytes s x =>
  match ev x with
  | .rs id2 lo2 len2 =>
   (h.ob id2).bind fun o2 =>
   match ev s with
   | .v (.slice none 0 0)=>if len2=0 then some (.v (.slice none 0 0),h) else if o2.1=sz/\lo2+len2<=o2.2.length/\len2 * bytes<=2 ^ 40 then some (.rs h.nx 0 len2,h.new (sz,(o2.2.drop lo2).take len2)) else none
   | .rs id lo len=>(h.ob id).bind fun o =>
     if o.1=sz/\o2.1=sz/\id≠id2/\lo+len<=o.2.length/\lo2+len2<=o2.2.length/\(len+len2) * bytes<=2 ^ 40 then
      some (.rs h.nx 0 (len+len2),(h.upd id none).new (sz,(o.2.drop lo).take len++(o2.2.drop lo2).take len2))
     else none
   | _=>none
  | .fs sz2 es =>
   match ev s with
   | .v (.slice none 0 0)=>if es.length=0 then some (.v (.slice none 0 0),h) else if sz2=sz/\es.length * bytes<=2 ^ 40 then some (.rs h.nx 0 es.length,h.new (sz,es)) else none
   | .rs id lo len=>(h.ob id).bind fun o =>
     if o.1=sz/\sz2=sz/\lo+len<=o.2.length/\(len+es.length) * bytes<=2 ^ 40 then
      some (.rs h.nx 0 (len+es.length),(h.upd id none).new (sz,(o.2.drop lo).take len++es))
     else none
   | _=>none
  | .v (.slice none 0 0) =>
   match ev s with
   | .v (.slice none 0 0)=>some (.v (.slice none 0 0),h)
   | .rs id lo len=>(h.ob id).bind fun o =>
     if o.1=sz/\lo+len<=o.2.length/\len * bytes<=2 ^ 40 then
      some (.rs h.nx 0 len,(h.upd id none).new (sz,(o.2.drop lo).take len))
     else none
   | _=>none
  | _=>none
 | _=>none
inductive MK where
 | mk
 | sb
 | cap
 | ax
 | no
 | chr
 | look (str two:Bool)
 | put (str:Bool)
 | dyn
 | tl
 | cp
def b2k (f:String):Option MK :=
 if f = "#mk" then some .mk else if f = "#li" then some (.look false false) else if f = "#lj" then some (.look false true) else if f = "#ls" then some (.look true false) else if f = "#lt" then some (.look true true) else
 if f = "#pi" then some (.put false) else if f = "#ps" then some (.put true) else if f = "#sb" then some .sb else if f = "#cap" then some .cap else if f = "#ax" then some .ax else if f = "#no" then some .no else if f = "#v" then some .dyn else if f = "#chr" then some .chr else if f = "#tl" then some .tl else if f = "#cp" then some .cp else none
def d2p:AV->Bool
 | .v _=>true
 | _=>false
def unV:AV->Value
 | .v x=>x
 | _=>.tuple #[]
def b6j (n:Int):AV->Option Value
 | .agg cs=>if cs.all d2p/\(cs.length:Int)=n/\n≠0 then some (.agg (cs.map unV).toArray) else none
 | .v (.agg vs)=>if (vs.size:Int)=n/\n≠0 then some (.agg vs) else none
 | .v x=>if n=0 then some x else none
 | _=>none
def feq:List FK->List Value->List Value->Option Bool
 | [],[],[]=>some true
 | .i :: ks,.int k a :: xs,.int k' b :: ys=>if k=k' then (if a == b then feq ks xs ys else some false) else none
 | .b :: ks,.bool a :: xs,.bool b :: ys=>if a == b then feq ks xs ys else some false
 | .s :: ks,.string a :: xs,.string b :: ys=>if a.toList == b.toList then feq ks xs ys else some false
 | _,_,_=>none
def b3o (str:Bool):Value->Value->Option Bool
 | .agg xs,.agg ys=>if str=true\/xs.size≠ys.size then none else feq (List.replicate xs.size .i) xs.toList ys.toList
 | .agg _,_=>none
 | _,.agg _=>none
 | x,y=>feq (if str then [.s] else [.i]) [x] [y]
def b3p (str:Bool) (key:Value):List (List AV)->Nat->Option (Option (Nat × Value))
 | [],_=>some none
 | [.v v,.v k] :: r,i=>match b3o str key k with
  | some true=>some (some (i,v))
  | some false=>b3p str key r (i+1)
  | none=>none
 | _ :: _,_=>none
def c7u (two:Bool) (z:Value):Option (Nat × Value)->AV
 | some (_,v)=>if two then .tup [.v v,.v (.bool true)] else .v v
 | none=>if two then .tup [.v z,.v (.bool false)] else .v z
def b6l (es:List (List AV)) (key v:Value):Option (Nat × Value)->List (List AV)
 | some (i,_)=>es.set i [.v v,.v key]
 | none=>es++[[.v v,.v key]]
def N0f (h:Heap):AV->Option (List (List AV))
 | .fs sz es=>if sz=1/\0<es.length then some es else none
 | .rs id lo len=>(h.ob id).bind fun o=>if o.1=1/\lo+len<=o.2.length then some ((o.2.drop lo).take len) else none
 | _=>none
def b2i (k:MK) (as:List AV) (h:Heap):Option (AV × Heap) :=
 match k,as with
 | .mk,[]=>some (.mp h.nx,h.new (0,[]))
 | .sb,[.v (.string s)]=>some (.fs 1 (s.data.toList.map fun b=>[.v (.int .u8 b.toNat)]),h)
 | .cap,[.v (.slice none 0 0)]=>some (.v (.int .i64 0),h)
 | .chr,[.v (.int _ n)]=>some (.v (.string (Utf8.encode n)),h)
 | .ax,[.v (.slice none 0 0),.v (.int _ n),.v z]=>if 0<n/\n * 16<=2 ^ 40 then some (.rs h.nx 0 n.toNat,h.new (1,List.replicate n.toNat [.v z])) else none
 | .look str two,[.mp id,key,.v z,.v (.int _ n)]=>(h.ob id).bind fun o=>(b6j n key).bind fun kv=>if o.1=0 then
   (b3p str kv o.2 0).map fun r=>(c7u two z r,h) else none
 | .put str,[.mp id,key,.v v,.v (.int _ n)]=>(h.ob id).bind fun o=>(b6j n key).bind fun kv=>if o.1=0 then
   (b3p str kv o.2 0).map fun r=>(.dead,h.upd id (some (0,b6l o.2 kv v r))) else none
 | .tl,[.rs id lo len,x,.v (.int _ n)]=>(h.ob id).bind fun o=>(b5d 0 (some x)).bind fun l=>if o.1≠0/\(o.1:Int)=n/\lo+len<=o.2.length/\l<=len then
   some (.rs h.nx 0 (len - l),(h.upd id none).new (o.1,((o.2.drop lo).take len).drop l)) else none
 | .cp,[.rs id lo len,y]=>(h.ob id).bind fun o=>(N0f h y).bind fun rows=>if o.1=1/\lo+len<=o.2.length then
   some (.v (.int .i64 (Nat.min rows.length len:Nat)),h.upd id (some (1,o.2.take lo++rows.take (Nat.min rows.length len)++o.2.drop (lo+Nat.min rows.length len)))) else none
 | _,_=>none
def Heap.join (h:Heap) (frag:b3z):Heap:=frag.foldl Heap.new h
def d5v (frag:b3z):Prop:=∀ o∈frag,∀ e∈o.2,∀ c∈e,Own c
def callee:AV->Option (String × List AV × List AV)
 | .fn f a b=>some (f,a,b)
 | _=>none
def b9o (O:Orac) (f:String) (as:List AV) (h:Heap) (r':AV) (h':Heap):Prop :=
 ∃ (as':List AV) (r:AV) (frag:b3z) (frag':b3z),FzL h as as'/\O f as' r frag /\
  ((∀ a∈as,Frz a)\/(Own r/\d5v frag)) /\
  Ren (fun k=>if k<frag.length then some (h.nx+k) else none) r r'/\frag'.length=frag.length /\
  (∀ (k sz:Nat) (es:List (List AV)),frag[k]?=some (sz,es)->∃ ds:List (List AV),frag'[k]?=some (sz,ds)/\es.length=ds.length/\(∀ e∈ds,e.length=sz)/\∀ i j c,at2 es i j=some c->∃ d,at2 ds i j=some d/\Ren (fun k=>if k<frag.length then some (h.nx+k) else none) c d) /\
  h' = h.join frag'
def b6z (O:Orac) (f:String) (as:List AV) (h:Heap) (K:AV->Heap->Prop):Prop:=∃ r h',b9o O f as h r h'/\K r h'
structure Fr (T:Nat->Prop) (h h':Heap):Prop where
 nx : h.nx<=h'.nx
 us : ∀ id,h'.us id ↔ h.us id\/(h.nx<=id/\id<h'.nx)
 ob : ∀ id,¬ T id->¬ (h.nx<=id/\id<h'.nx)->h'.ob id=h.ob id
 no : ∀ id,¬ (h.nx<=id/\id<h'.nx)->h.ob id=none->h'.ob id=none
def b6e (O:Orac) (f:String) (as:List AV) (h:Heap) (K:AV->Heap->Prop):Prop:=∃ r h',O.w f as h r h'/\Fr (fun _=>True) h h'/\K r h'
def b2y (s:St):Option (Nat × Bool)->Option Bool
 | none=>some true
 | some (g,b)=>match s.t g with | .v (.bool t)=>some (t == b) | .dead=>none|_=>some false
def wpOp (O:Orac) (o:XO) (s:St) (K:St->Prop):Prop :=
 match o.op with
 | op =>
  match b2y s o.guard with
  | none=>False
  | some false=>K (s.put o.dst (.v (.tuple #[])))
  | some true =>
   match op with
   | .callw f args=>b6e O f (args.map s.ev) s.h fun r h=>K { t:=(s.put o.dst r).t,h:=h }
   | .call f args=>b6z O f (args.map s.ev) s.h fun r h=>K { t:=(s.put o.dst r).t,h:=h }
   | .callv f args=>∃ n a b,callee (s.ev f)=some (n,a,b)/\b6z O n (a++args.map s.ev++b) s.h fun r h=>K { t:=(s.put o.dst r).t,h:=h }
   | .boxF x=>b2d (s.ev x)=true/\K { t:=(s.put o.dst (.fp (cellsOf (s.ev x)) 0)).t,h:=s.h }
   | op=>∃ r h,eff op s.ev s.h=some (r,h)/\K { t:=(s.put o.dst r).t,h:=h }
def b3i (O:Orac):List XO->(St->Prop)->St->Prop
 | [],K,s=>K s
 | o :: r,K,s=>wpOp O o s (b3i O r K)
def E65:AV->Option Nat
 | .rs id _ _ | .rp id _ _=>some id
 | _=>none
def XOp.look:XOp->Bool
 | .load _ _ (.t _) | .nilck (.t _) | .fldA _ (.t _) | .ixA _ (.t _) _=>true
 | _=>false
def XOp.lookX:XOp->X
 | .load _ _ x | .nilck x | .fldA _ x | .ixA _ x _=>x
 | _=>.c (.bool false)
def XOp.isW:XOp->Bool
 | .callw ..=>true
 | _=>false
def XOp.isA:XOp->Bool
 | .callw .. | .app .. | .store ..=>true
 | _=>false
def Dyn (xs:List XO) (prs:List (Nat × Nat)) (S:Nat->St):Prop:=∀ (j k:Nat) (x y:XO) (id:Nat),(j,k)∈prs->xs[j]?=some x->xs[k]?=some y->x.op.look=true->y.op.isA=true->b2y (S j) x.guard=some true ->
 E65 ((S j).ev x.op.lookX)=some id->(S (k+1)).h.ob id=(S k).h.ob id
def Heap.only (h:Heap) (F:Nat->Bool):Heap:={ h with ob:=fun id=>if F id then h.ob id else none }
def Heap.but (h:Heap) (F:Nat->Bool):Heap:={ h with ob:=fun id=>if F id then none else h.ob id }
def b7x (h:Heap) (c d:AV):Prop:=d=c\/(Fz h c d/\Frz d)
def b6u (s s':St):Prop:=∃ F:Nat->Bool,s'.h.us=s.h.us/\s'.h.nx=s.h.nx /\
 (∀ id sz es',s'.h.ob id=some (sz,es')->F id=false/\∃ es,s.h.ob id=some (sz,es)/\(es'=es\/(es'.length=es.length/\∀ e∈es',e.length=sz)) /\
  ∀ i j d,at2 es' i j=some d->∃ c,at2 es i j=some c/\b7x (s.h.only F) c d) /\
 ∀ t,b7x (s.h.only F) (s.t t) (s'.t t)
abbrev XPost:=XExit->St->Prop
def XPost.seq (next:St->Prop) (Q:XPost):XPost
 | .normal,s=>next s
 | e,s=>Q e s
def XPost.block (id:Nat) (Q:XPost):XPost
 | .exit i,s=>if i=id then Q .normal s else Q (.exit i) s
 | e,s=>Q e s
def wp (O:Orac):XCode->XPost->St->Prop
 | .skip,Q,s=>Q .normal s
 | .reg ops,Q,s=>b3i O ops (Q .normal) s
 | .regW ops prs,Q,s=>∃ S:Nat->St,S 0=s/\(∀ (i:Nat) x,ops[i]?=some x->wpOp O x (S i) (·=S (i+1)))/\Dyn ops prs S/\Q .normal (S ops.length)
 | .seq a b,Q,s=>wp O a (XPost.seq (wp O b Q) Q) s
 | .cond c a b,Q,s=>∃ t,s.ev c = .v (.bool t)/\(t=true->wp O a Q s)/\(t=false->wp O b Q s)
 | .block id a,Q,s=>wp O a (XPost.block id Q) s
 | .loop a,Q,s=>∃ (I:St->Prop) (m:St->Nat),I s/\∀ s',I s'->wp O a (XPost.seq (fun s2=>I s2/\m s2<m s') Q) s'
 | .exit id,Q,s=>Q (.exit id) s
 | .ret,Q,s=>Q .ret s
 | .ghost,Q,s=>∃ s',b6u s s'/\Q .normal s'
def l18 (s:St):XRes->Option AV
 | .t n=>some (s.t n)
 | .cell n agg sz=>(eff (.load agg sz (.t n)) s.ev s.h).map (·.1)
def E6z:List AV->AV
 | [x]=>x
 | l=>.tup l
class MapsOk (O:Orac):Prop where
 w : ∀ f k as h r h',b2k f=some k->b2i k as h=some (r,h')->O.w f as h r h'
class DynOk (O:Orac):Prop where
 v : ∀ n a b rest h r h',b2k n=none->O.w n (a++rest++b) h r h'->O.w "#v" (.fn n a b :: rest) h r h'
def b4b (res:List XRes) (r:AV) (frag:b3z) (s:St):Prop :=
 (frag = []/\∃ rs,res.mapM (l18 s)=some rs/\Fz s.h (E6z rs) r) \/
 ∃ (rs:List AV) (ids:List Nat),res.mapM (l18 s)=some rs/\ids.length=frag.length/\ids.Nodup /\
  Ren (fun id=>(List.range ids.length).find? fun k=>ids[k]?=some id) (E6z rs) r /\
  ∀ (k sz:Nat) (ds:List (List AV)),frag[k]?=some (sz,ds)->∃ (id:Nat) (es:List (List AV)),ids[k]?=some id/\s.h.ob id=some (sz,es)/\es.length=ds.length/\(∀ e∈ds,e.length=sz) /\
   ∀ i j c,at2 es i j=some c->∃ d,at2 ds i j=some d/\Ren (fun id=>(List.range ids.length).find? fun k=>ids[k]?=some id) c d
def start (as:List AV):St:={ t:=fun i=>as.getD i (.v (.tuple #[])),h:=Heap.empty }
def g9r (res:List XRes) (r:AV) (frag:b3z):XPost
 | .normal,s | .ret,s=>b4b res r frag s
 | .exit _,_=>False
def d65 (res:List XRes) (r:AV) (h':Heap):XPost
 | .normal,s | .ret,s=>(∃ rs,res.mapM (l18 s)=some rs/\E6z rs=r)/\s.h=h'
 | .exit _,_=>False
structure Has (O:Orac) (f:String) (fn:XFunc):Prop where
 p : ∀ as r frag,as.length=fn.np->wp O fn.body (g9r fn.res r frag) (start as)->(∀ a∈as,Frz a)->O f as r frag
 w : ∀ as h r h',as.length=fn.np->wp O fn.body (d65 fn.res r h') { start as with h:=h }->O.w f as h r h'
end Go.Nw
