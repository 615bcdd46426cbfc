/- The rules, with what comes behind as instance-implicit arguments: there "simp" does not go. -/
import Derived.Test.YtojneiildpnpiaaNwRules
set_option linter.all false
namespace Go.Nw
class Kp where p:Prop
class K1 (α:Type) where k:α->Prop
class K2 where k:AV->Heap->Prop
class Kr where k:Nat->List (List AV)->List AV->Prop
class Ko where k:Nat->List (List AV)->Prop
class Kh where k:Heap->Prop
def ibr (x:Bool) [p:Kp] [q:Kp]:Prop:=br x p.p q.p
def d9p (x:AV) [p:Kp] [q:Kp]:Prop:=c6q x p.p q.p
def b2h (x:AV) (b:Bool) [p:Kp] [q:Kp] [q0:Kp]:Prop:=b3c x b p.p q.p q0.p
def iop (O:Orac) (op:XOp) (t:Slots) (h:Heap) [k:K2]:Prop:=op1 O op t h k.k
def d2h (agg:Bool) (n:Nat) (x:AV) (h:Heap) [k:K1 AV]:Prop:=d33 agg n x h k.k
def g0y (n:Nat) (a x:AV) (h:Heap) [k:Kh]:Prop:=d5h n a x h k.k
def u0p (agg:Bool) (n:Nat) (cs:List AV) (off:Nat) [k:K1 AV]:Prop:=b5m agg n cs off k.k
def c0b (cs:List AV) (i:Nat) [k:K1 AV]:Prop:=b4x cs i k.k
def c7j (o:Option Ob) (i:Nat) [k:Kr]:Prop:=b7r o i k.k
def iob (o:Option Ob) [k:Ko]:Prop:=obK o k.k
def c7e {α:Type} (l:List α) (i:Int) [k:K1 α]:Prop:=s3s l i k.k
def d2o (c:AV) [p:Kp] [q:Kp]:Prop:=c3z c p.p q.p
def b7b (x:AV) [k:K1 (List AV)]:Prop:=b4e x k.k
def c7h (x:AV) (h:Heap) [k:K1 AV]:Prop:=d4f x h k.k
def d2c (n:Nat) (x:AV) (h:Heap) [k:K1 AV]:Prop:=d11 n x h k.k
def iix (n:Nat) (x i:AV) (h:Heap) [k:K1 AV]:Prop:=d2r n x i h k.k
def b2g (op:BinOp) (e:EqK) (x y:AV) [k:K1 AV]:Prop:=b1u op e x y k.k
def iun (op:UnOp) (x:AV) [k:K1 AV]:Prop:=unK op x k.k
def l58 (x:AV) [k:K1 Int]:Prop:=b6k x k.k
def d9u (x:AV) (i:Nat) [k:K1 AV]:Prop:=d1s x i k.k
def b4y (v:AV) [k:K1 AV]:Prop:=k.k v
def b4o (a:Prop) [p:Kp]:Prop:=a/\p.p
def K5x (O:Orac) (f:String) (as:List AV) (h:Heap) [k:K2]:Prop:=b6z O f as h k.k
def s3q (O:Orac) (f:String) (as:List AV) (h:Heap) [k:K2]:Prop:=b6e O f as h k.k
def d9l (O:Orac) (f:AV) (as:List AV) (h:Heap) [k:K2]:Prop:=∃ n a b,callee f=some (n,a,b)/\b6z O n (a++as++b) h k.k
section
variable {O:Orac} {d:Option Nat} {g:Nat} {b0:Bool} {r:List XO} {K:Slots->Heap->Prop} {t:Slots} {h:Heap} {k:AV->Heap->Prop}
theorem j4o {x}:b0d O (⟨d,none,.mv x⟩ :: r) K t h=@iop O (.mv x) t h ⟨fun v h'=>b0d O r K (b0l t d v) h'⟩:=g71
theorem j5p {x}:b0d O (⟨d,some (g,b0),.mv x⟩ :: r) K t h=@b2h (t g) b0 ⟨@iop O (.mv x) (upd t g (B b0)) h ⟨fun v h'=>b0d O r K (b0l (upd t g (B b0)) d v) h'⟩⟩ ⟨b0d O r K (b0l (upd t g (B (!b0))) d U) h⟩ ⟨b0d O r K (b0l t d U) h⟩:=j1q
theorem j4q {c a b}:b0d O (⟨d,none,.pick c a b⟩ :: r) K t h=@iop O (.pick c a b) t h ⟨fun v h'=>b0d O r K (b0l t d v) h'⟩:=g73
theorem j5r {c a b}:b0d O (⟨d,some (g,b0),.pick c a b⟩ :: r) K t h=@b2h (t g) b0 ⟨@iop O (.pick c a b) (upd t g (B b0)) h ⟨fun v h'=>b0d O r K (b0l (upd t g (B b0)) d v) h'⟩⟩ ⟨b0d O r K (b0l (upd t g (B (!b0))) d U) h⟩ ⟨b0d O r K (b0l t d U) h⟩:=j1s
theorem j34 {x}:b0d O (⟨d,none,.boxF x⟩ :: r) K t h=@iop O (.boxF x) t h ⟨fun v h'=>b0d O r K (b0l t d v) h'⟩:=g7j
theorem j45 {x}:b0d O (⟨d,some (g,b0),.boxF x⟩ :: r) K t h=@b2h (t g) b0 ⟨@iop O (.boxF x) (upd t g (B b0)) h ⟨fun v h'=>b0d O r K (b0l (upd t g (B b0)) d v) h'⟩⟩ ⟨b0d O r K (b0l (upd t g (B (!b0))) d U) h⟩ ⟨b0d O r K (b0l t d U) h⟩:=j1h
theorem j33 {x}:b0d O (⟨d,none,.box x⟩ :: r) K t h=@iop O (.box x) t h ⟨fun v h'=>b0d O r K (b0l t d v) h'⟩:=g7i
theorem j44 {x}:b0d O (⟨d,some (g,b0),.box x⟩ :: r) K t h=@b2h (t g) b0 ⟨@iop O (.box x) (upd t g (B b0)) h ⟨fun v h'=>b0d O r K (b0l (upd t g (B b0)) d v) h'⟩⟩ ⟨b0d O r K (b0l (upd t g (B (!b0))) d U) h⟩ ⟨b0d O r K (b0l t d U) h⟩:=j1g
theorem j30 {zs}:b0d O (⟨d,none,.alloc zs⟩ :: r) K t h=@iop O (.alloc zs) t h ⟨fun v h'=>b0d O r K (b0l t d v) h'⟩:=g7g
theorem j41 {zs}:b0d O (⟨d,some (g,b0),.alloc zs⟩ :: r) K t h=@b2h (t g) b0 ⟨@iop O (.alloc zs) (upd t g (B b0)) h ⟨fun v h'=>b0d O r K (b0l (upd t g (B b0)) d v) h'⟩⟩ ⟨b0d O r K (b0l (upd t g (B (!b0))) d U) h⟩ ⟨b0d O r K (b0l t d U) h⟩:=j1e
theorem j4j {agg n a}:b0d O (⟨d,none,.load agg n a⟩ :: r) K t h=@iop O (.load agg n a) t h ⟨fun v h'=>b0d O r K (b0l t d v) h'⟩:=g7z
theorem j5k {agg n a}:b0d O (⟨d,some (g,b0),.load agg n a⟩ :: r) K t h=@b2h (t g) b0 ⟨@iop O (.load agg n a) (upd t g (B b0)) h ⟨fun v h'=>b0d O r K (b0l (upd t g (B b0)) d v) h'⟩⟩ ⟨b0d O r K (b0l (upd t g (B (!b0))) d U) h⟩ ⟨b0d O r K (b0l t d U) h⟩:=j1o
theorem j4t {n a x}:b0d O (⟨d,none,.store n a x⟩ :: r) K t h=@iop O (.store n a x) t h ⟨fun v h'=>b0d O r K (b0l t d v) h'⟩:=g8t
theorem j5u {n a x}:b0d O (⟨d,some (g,b0),.store n a x⟩ :: r) K t h=@b2h (t g) b0 ⟨@iop O (.store n a x) (upd t g (B b0)) h ⟨fun v h'=>b0d O r K (b0l (upd t g (B b0)) d v) h'⟩⟩ ⟨b0d O r K (b0l (upd t g (B (!b0))) d U) h⟩ ⟨b0d O r K (b0l t d U) h⟩:=j1t
theorem j4p {x}:b0d O (⟨d,none,.nilck x⟩ :: r) K t h=@iop O (.nilck x) t h ⟨fun v h'=>b0d O r K (b0l t d v) h'⟩:=g72
theorem j5q {x}:b0d O (⟨d,some (g,b0),.nilck x⟩ :: r) K t h=@b2h (t g) b0 ⟨@iop O (.nilck x) (upd t g (B b0)) h ⟨fun v h'=>b0d O r K (b0l (upd t g (B b0)) d v) h'⟩⟩ ⟨b0d O r K (b0l (upd t g (B (!b0))) d U) h⟩ ⟨b0d O r K (b0l t d U) h⟩:=j1r
theorem j4d {o x}:b0d O (⟨d,none,.fldA o x⟩ :: r) K t h=@iop O (.fldA o x) t h ⟨fun v h'=>b0d O r K (b0l t d v) h'⟩:=g7s
theorem j5e {o x}:b0d O (⟨d,some (g,b0),.fldA o x⟩ :: r) K t h=@b2h (t g) b0 ⟨@iop O (.fldA o x) (upd t g (B b0)) h ⟨fun v h'=>b0d O r K (b0l (upd t g (B b0)) d v) h'⟩⟩ ⟨b0d O r K (b0l (upd t g (B (!b0))) d U) h⟩ ⟨b0d O r K (b0l t d U) h⟩:=j1l
theorem j4e {n x i}:b0d O (⟨d,none,.ixA n x i⟩ :: r) K t h=@iop O (.ixA n x i) t h ⟨fun v h'=>b0d O r K (b0l t d v) h'⟩:=g7t
theorem j5f {n x i}:b0d O (⟨d,some (g,b0),.ixA n x i⟩ :: r) K t h=@b2h (t g) b0 ⟨@iop O (.ixA n x i) (upd t g (B b0)) h ⟨fun v h'=>b0d O r K (b0l (upd t g (B b0)) d v) h'⟩⟩ ⟨b0d O r K (b0l (upd t g (B (!b0))) d U) h⟩ ⟨b0d O r K (b0l t d U) h⟩:=j1m
theorem j32 {op e x y}:b0d O (⟨d,none,.bin op e x y⟩ :: r) K t h=@iop O (.bin op e x y) t h ⟨fun v h'=>b0d O r K (b0l t d v) h'⟩:=g7h
theorem j43 {op e x y}:b0d O (⟨d,some (g,b0),.bin op e x y⟩ :: r) K t h=@b2h (t g) b0 ⟨@iop O (.bin op e x y) (upd t g (B b0)) h ⟨fun v h'=>b0d O r K (b0l (upd t g (B b0)) d v) h'⟩⟩ ⟨b0d O r K (b0l (upd t g (B (!b0))) d U) h⟩ ⟨b0d O r K (b0l t d U) h⟩:=j1f
theorem j4u {op x}:b0d O (⟨d,none,.un op x⟩ :: r) K t h=@iop O (.un op x) t h ⟨fun v h'=>b0d O r K (b0l t d v) h'⟩:=g8u
theorem j5v {op x}:b0d O (⟨d,some (g,b0),.un op x⟩ :: r) K t h=@b2h (t g) b0 ⟨@iop O (.un op x) (upd t g (B b0)) h ⟨fun v h'=>b0d O r K (b0l (upd t g (B b0)) d v) h'⟩⟩ ⟨b0d O r K (b0l (upd t g (B (!b0))) d U) h⟩ ⟨b0d O r K (b0l t d U) h⟩:=j1u
theorem j4i {x}:b0d O (⟨d,none,.len false x⟩ :: r) K t h=@iop O (.len false x) t h ⟨fun v h'=>b0d O r K (b0l t d v) h'⟩:=g7y
theorem j5j {x}:b0d O (⟨d,some (g,b0),.len false x⟩ :: r) K t h=@b2h (t g) b0 ⟨@iop O (.len false x) (upd t g (B b0)) h ⟨fun v h'=>b0d O r K (b0l (upd t g (B b0)) d v) h'⟩⟩ ⟨b0d O r K (b0l (upd t g (B (!b0))) d U) h⟩ ⟨b0d O r K (b0l t d U) h⟩:=j1n
theorem j4b {x i}:b0d O (⟨d,none,.ext x i⟩ :: r) K t h=@iop O (.ext x i) t h ⟨fun v h'=>b0d O r K (b0l t d v) h'⟩:=g7r
theorem j5c {x i}:b0d O (⟨d,some (g,b0),.ext x i⟩ :: r) K t h=@b2h (t g) b0 ⟨@iop O (.ext x i) (upd t g (B b0)) h ⟨fun v h'=>b0d O r K (b0l (upd t g (B b0)) d v) h'⟩⟩ ⟨b0d O r K (b0l (upd t g (B (!b0))) d U) h⟩ ⟨b0d O r K (b0l t d U) h⟩:=j1k
theorem j4m {f a b}:b0d O (⟨d,none,.mkfn f a b⟩ :: r) K t h=@iop O (.mkfn f a b) t h ⟨fun v h'=>b0d O r K (b0l t d v) h'⟩:=g70
theorem j5n {f a b}:b0d O (⟨d,some (g,b0),.mkfn f a b⟩ :: r) K t h=@b2h (t g) b0 ⟨@iop O (.mkfn f a b) (upd t g (B b0)) h ⟨fun v h'=>b0d O r K (b0l (upd t g (B b0)) d v) h'⟩⟩ ⟨b0d O r K (b0l (upd t g (B (!b0))) d U) h⟩ ⟨b0d O r K (b0l t d U) h⟩:=j1p
theorem j37 {f l}:b0d O (⟨d,none,.call f l⟩ :: r) K t h=@iop O (.call f l) t h ⟨fun v h'=>b0d O r K (b0l t d v) h'⟩:=g7k
theorem j48 {f l}:b0d O (⟨d,some (g,b0),.call f l⟩ :: r) K t h=@b2h (t g) b0 ⟨@iop O (.call f l) (upd t g (B b0)) h ⟨fun v h'=>b0d O r K (b0l (upd t g (B b0)) d v) h'⟩⟩ ⟨b0d O r K (b0l (upd t g (B (!b0))) d U) h⟩ ⟨b0d O r K (b0l t d U) h⟩:=j1i
theorem j39 {f l}:b0d O (⟨d,none,.callw f l⟩ :: r) K t h=@iop O (.callw f l) t h ⟨fun v h'=>b0d O r K (b0l t d v) h'⟩:=g9f
theorem j38 {f l}:b0d O (⟨d,none,.callv f l⟩ :: r) K t h=@iop O (.callv f l) t h ⟨fun v h'=>b0d O r K (b0l t d v) h'⟩:=g7l
theorem j49 {f l}:b0d O (⟨d,some (g,b0),.callv f l⟩ :: r) K t h=@b2h (t g) b0 ⟨@iop O (.callv f l) (upd t g (B b0)) h ⟨fun v h'=>b0d O r K (b0l (upd t g (B b0)) d v) h'⟩⟩ ⟨b0d O r K (b0l (upd t g (B (!b0))) d U) h⟩ ⟨b0d O r K (b0l t d U) h⟩:=j1j
theorem j6p {x}:@iop O (.mv x) t h ⟨k⟩=@b4y (evT t x) ⟨fun v=>k v h⟩:=l2y
theorem j6r {c a b}:@iop O (.pick c a b) t h ⟨k⟩=@d2o (evT t c) ⟨@b4y (evT t a) ⟨fun v=>k v h⟩⟩ ⟨@b4y (evT t b) ⟨fun v=>k v h⟩⟩:=x1d
theorem j55 {x}:@iop O (.boxF x) t h ⟨k⟩=@b7b (evT t x) ⟨fun cs=>k (.fp cs 0) h⟩:=l2p
theorem j54 {x}:@iop O (.box x) t h ⟨k⟩=@b7b (evT t x) ⟨fun cs=>@b4o (cs.isEmpty=false) ⟨k (.rp h.nx 0 0) (h.new (cs.length,[cs]))⟩⟩:=l2o
theorem j8r {a:AV} {l:List AV}:((a :: l).isEmpty=false)=True:=by simp
theorem B3h {zs}:@iop O (.alloc zs) t h ⟨k⟩=k (.rp h.nx 0 0) (h.new (zs.length,[zs.map .v])):=l2m
theorem j6k {agg n a}:@iop O (.load agg n a) t h ⟨k⟩=@d2h agg n (evT t a) h ⟨fun v=>k v h⟩:=l2w
theorem j6u {n a x}:@iop O (.store n a x) t h ⟨k⟩=@g0y n (evT t a) (evT t x) h ⟨fun h'=>k .dead h'⟩:=l24
theorem j6q {x}:@iop O (.nilck x) t h ⟨k⟩=@c7h (evT t x) h ⟨fun v=>k v h⟩:=l2z
theorem j6e {o x}:@iop O (.fldA o x) t h ⟨k⟩=@d2c o (evT t x) h ⟨fun v=>k v h⟩:=l2t
theorem j6f {n x i}:@iop O (.ixA n x i) t h ⟨k⟩=@iix n (evT t x) (evT t i) h ⟨fun v=>k v h⟩:=l2u
theorem j53 {op e x y}:@iop O (.bin op e x y) t h ⟨k⟩=@b2g op e (evT t x) (evT t y) ⟨fun v=>k v h⟩:=l2n
theorem j6v {op x}:@iop O (.un op x) t h ⟨k⟩=@iun op (evT t x) ⟨fun v=>k v h⟩:=l26
theorem j6j {x}:@iop O (.len false x) t h ⟨k⟩=@l58 (evT t x) ⟨fun n=>k (I n) h⟩:=l2v
theorem j6c {x i}:@iop O (.ext x i) t h ⟨k⟩=@d9u (evT t x) i ⟨fun v=>k v h⟩:=l2s
theorem j6n {f a b}:@iop O (.mkfn f a b) t h ⟨k⟩=k (.fn f (a.map (evT t)) (b.map (evT t))) h:=l2x
theorem j58 {f l}:@iop O (.call f l) t h ⟨k⟩=@K5x O f (l.map (evT t)) h ⟨k⟩:=l2q
theorem j6a {f l}:@iop O (.callw f l) t h ⟨k⟩=@s3q O f (l.map (evT t)) h ⟨k⟩:=rfl
theorem j59 {f l}:@iop O (.callv f l) t h ⟨k⟩=@d9l O (evT t f) (l.map (evT t)) h ⟨k⟩:=l2r
theorem j69 {c a b} {Q:XExit->Slots->Heap->Prop}:cw O (.cond c a b) Q t h=@d9p (evT t c) ⟨cw O a Q t h⟩ ⟨cw O b Q t h⟩:=g9i
end
section
variable {k:AV->Prop} {h:Heap} {p q q0:Prop}
theorem j68 {x}:@b4y (.v x) ⟨k⟩=k (.v x):=rfl
theorem j6z {x}:@b4y (.agg x) ⟨k⟩=k (.agg x):=rfl
theorem j67 {x}:@b4y (.tup x) ⟨k⟩=k (.tup x):=rfl
theorem j63 {a b}:@b4y (.fs a b) ⟨k⟩=k (.fs a b):=rfl
theorem j62 {a b}:@b4y (.fp a b) ⟨k⟩=k (.fp a b):=rfl
theorem j61 {a b c}:@b4y (.fn a b c) ⟨k⟩=k (.fn a b c):=rfl
theorem j66 {a b c}:@b4y (.rs a b c) ⟨k⟩=k (.rs a b c):=rfl
theorem j65 {a b c}:@b4y (.rp a b c) ⟨k⟩=k (.rp a b c):=rfl
theorem j60:@b4y .dead ⟨k⟩=k .dead:=rfl
theorem b5r (v:AV):@b4y v ⟨k⟩=k v:=rfl
theorem d9j  : @ibr true ⟨p⟩ ⟨q⟩=p:=g6u
theorem d9i  : @ibr false ⟨p⟩ ⟨q⟩=q:=g6t
theorem d9q {b}:@d9p (.v (.bool b)) ⟨p⟩ ⟨q⟩=@ibr b ⟨p⟩ ⟨q⟩:=g9e
theorem d92 {y}:@b2h (.v (.bool y)) true ⟨p⟩ ⟨q⟩ ⟨q0⟩=@ibr y ⟨p⟩ ⟨q⟩:=j12
theorem d91 {y}:@b2h (.v (.bool y)) false ⟨p⟩ ⟨q⟩ ⟨q0⟩=@ibr y ⟨q⟩ ⟨p⟩:=j11
theorem d93 {b}:@b2h U b ⟨p⟩ ⟨q⟩ ⟨q0⟩=q0:=rfl
theorem g0a {agg n cs off}:@d2h agg n (.fp cs off) h ⟨k⟩=@u0p agg n cs off ⟨k⟩:=rfl
theorem g0b {agg n id i off}:@d2h agg n (.rp id i off) h ⟨k⟩=@c7j (h.ob id) i ⟨fun _ _ cs=>@u0p agg n cs off ⟨k⟩⟩:=rfl
theorem g0z {n id i off x} {k:Heap->Prop}:@g0y n (.rp id i off) x h ⟨k⟩=@c7j (h.ob id) i ⟨fun sz es cs=>b2d x=true/\(cellsOf x).length=n/\off+n<=cs.length/\k (h.upd id (some (sz,es.set i (cs.take off++cellsOf x++cs.drop (off+n)))))⟩:=rfl
theorem d9n {n cs off}:@u0p false n cs off ⟨k⟩=@c0b cs off ⟨k⟩:=g80
theorem d9o {n cs off}:@u0p true n cs off ⟨k⟩=@b4o (off+n<=cs.length) ⟨k (.agg ((cs.drop off).take n))⟩:=g81
theorem d9z {c cs}:@c0b (c :: cs) 0 ⟨k⟩=k c:=j1w
theorem d90 {c cs n}:@c0b (c :: cs) (n+1) ⟨k⟩=@c0b cs n ⟨k⟩:=j1x
theorem g0u {sz cs} {k:Nat->List (List AV)->List AV->Prop}:@c7j (some (sz,[cs])) 0 ⟨k⟩=k sz [cs] cs:=l4k
theorem g0q {sz es} {k:Nat->List (List AV)->Prop}:@iob (some (sz,es)) ⟨k⟩=k sz es:=l2a
theorem d9t {α β:Type} {f:α->β} {l:List α} {i:Int} {k:β->Prop}:@c7e β (l.map f) i ⟨k⟩=@c7e α l i ⟨fun a=>k (f a)⟩:=j0n
theorem g0t  : @d2o (.v (.bool true)) ⟨p⟩ ⟨q⟩=p:=rfl
theorem g0s  : @d2o (.v (.bool false)) ⟨p⟩ ⟨q⟩=q:=rfl
theorem d9c {cs} {k:List AV->Prop}:@b7b (.agg cs) ⟨k⟩=k cs:=g6n
theorem d9f {kd n} {k:List AV->Prop}:@b7b (.v (.int kd n)) ⟨k⟩=k [.v (.int kd n)]:=g6q
theorem d9d {b} {k:List AV->Prop}:@b7b (.v (.bool b)) ⟨k⟩=k [.v (.bool b)]:=g6o
theorem d9h {a b c} {k:List AV->Prop}:@b7b (.v (.slice a b c)) ⟨k⟩=k [.v (.slice a b c)]:=g6s
theorem d9e {sz es} {k:List AV->Prop}:@b7b (.fs sz es) ⟨k⟩=k [.fs sz es]:=g6p
theorem d9g {a b c} {k:List AV->Prop}:@b7b (.rs a b c) ⟨k⟩=k [.rs a b c]:=g6r
theorem g0k {cs off}:@c7h (.fp cs off) h ⟨k⟩=k (.fp cs off):=rfl
theorem g0j {f a b}:@c7h (.fn f a b) h ⟨k⟩=k (.fn f a b):=rfl
theorem g0l {id i off}:@c7h (.rp id i off) h ⟨k⟩=@b4o ((h.ob id).isSome=true) ⟨k (.rp id i off)⟩:=rfl
theorem d9x {n cs off}:@d2c n (.fp cs off) h ⟨k⟩=k (.fp cs (off+n)):=rfl
theorem d9y {n id i off}:@d2c n (.rp id i off) h ⟨k⟩=@b4o ((h.ob id).isSome=true) ⟨k (.rp id i (off+n))⟩:=rfl
theorem d97 {n sz es kd j}:@iix n (.fs sz es) (.v (.int kd j)) h ⟨k⟩=@b4o (sz=n) ⟨@c7e (List AV) es j ⟨fun cs=>k (.fp cs 0)⟩⟩:=rfl
theorem d98 {n id lo len kd j}:@iix n (.rs id lo len) (.v (.int kd j)) h ⟨k⟩=@iob (h.ob id) ⟨fun sz _=>@b4o (sz=n) ⟨@b4o (0<=j) ⟨@b4o (j<(len:Int)) ⟨k (.rp id (lo+j.toNat) 0)⟩⟩⟩⟩:=rfl
theorem d99 {sz es} {k:Int->Prop}:@l58 (.fs sz es) ⟨k⟩=k es.length:=j7i
theorem d2g {id lo len} {k:Int->Prop}:@l58 (.rs id lo len) ⟨k⟩=k len:=j7k
theorem d2f {k:Int->Prop}:@l58 (.v (.slice none 0 0)) ⟨k⟩=k 0:=j7j
theorem d9v {vs i}:@d9u (.tup vs) i ⟨k⟩=@c0b vs i ⟨k⟩:=rfl
theorem g01 {b:Bool}:@iun .not (B b) ⟨k⟩=k (B (!b)):=l55
theorem g00 {kd a}:@iun .neg (.v (.int kd a)) ⟨k⟩=k (.v (.int kd (kd.wrap (0 - a)))):=l54
theorem d8j {a:Prop} (ha:a):@b4o a ⟨p⟩=p:=by simp [b4o,ha]
theorem d8l {e kd a b}:@b2g .add e (.v (.int kd a)) (.v (.int kd b)) ⟨k⟩=k (.v (.int kd (kd.wrap (a+b)))):=g6b
theorem d9a {e kd a b}:@b2g .sub e (.v (.int kd a)) (.v (.int kd b)) ⟨k⟩=k (.v (.int kd (kd.wrap (a - b)))):=g6l
theorem d8y {e kd a b}:@b2g .mul e (.v (.int kd a)) (.v (.int kd b)) ⟨k⟩=k (.v (.int kd (kd.wrap (a * b)))):=g6j
theorem d8q {e kd} {a b:Int}:@b2g .eql e (.v (.int kd a)) (.v (.int kd b)) ⟨k⟩=k (B (decide (a=b))):=g6e
theorem d8z {e kd} {a b:Int}:@b2g .neq e (.v (.int kd a)) (.v (.int kd b)) ⟨k⟩=k (B (decide (¬ a=b))):=g6k
theorem d8x {e kd} {a b:Int}:@b2g .lss e (.v (.int kd a)) (.v (.int kd b)) ⟨k⟩=k (B (decide (a<b))):=g6i
theorem d8w {e kd} {a b:Int}:@b2g .leq e (.v (.int kd a)) (.v (.int kd b)) ⟨k⟩=k (B (decide (a<=b))):=g6h
theorem d8v {e kd} {a b:Int}:@b2g .gtr e (.v (.int kd a)) (.v (.int kd b)) ⟨k⟩=k (B (decide (b<a))):=g6g
theorem d8u {e kd} {a b:Int}:@b2g .geq e (.v (.int kd a)) (.v (.int kd b)) ⟨k⟩=k (B (decide (b<=a))):=g6f
theorem d8n {a b:Bool}:@b2g .eql .bool (B a) (B b) ⟨k⟩=k (B (b5c a b)):=g6c
theorem d8o {a b:Bool}:@b2g .neq .bool (B a) (B b) ⟨k⟩=k (B (!(b5c a b))):=g6d
theorem b0k {x:Bool} {p q:Prop} (h1:x=true->p) (h2:x=false->q):@ibr x ⟨p⟩ ⟨q⟩:=⟨h1,h2⟩
end
def c7i {α:Type} (o:Option α) [k:K1 α]:Prop:=∃ x,o=some x/\k.k x
theorem g0r {α:Type} {x:α} {k:α->Prop}:@c7i α (some x) ⟨k⟩=k x:=by simp [c7i]
section
variable {O:Orac} {d:Option Nat} {g:Nat} {b0:Bool} {r:List XO} {K:Slots->Heap->Prop} {t:Slots} {h:Heap} {k:AV->Heap->Prop}
theorem B3d {zs ps}:b0d O (⟨d,none,.build zs ps⟩ :: r) K t h=@iop O (.build zs ps) t h ⟨fun v h'=>b0d O r K (b0l t d v) h'⟩:=b2n rfl
theorem j47 {zs ps}:b0d O (⟨d,some (g,b0),.build zs ps⟩ :: r) K t h=@b2h (t g) b0 ⟨@iop O (.build zs ps) (upd t g (B b0)) h ⟨fun v h'=>b0d O r K (b0l (upd t g (B b0)) d v) h'⟩⟩ ⟨b0d O r K (b0l (upd t g (B (!b0))) d U) h⟩ ⟨b0d O r K (b0l t d U) h⟩:=b2l rfl
theorem j57 {zs ps}:@iop O (.build zs ps) t h ⟨k⟩=@c7i _ (b6q (ps.map fun p=>(p.1,p.2.1,evT t p.2.2))) ⟨fun qs=>@b4o ((qs.all fun p=>decide (p.1+p.2.length<=zs.length))=true) ⟨k (.agg (place (zs.map .v) qs)) h⟩⟩:=by
 simp only [iop,op1,eff,c7i,b4o]
 apply propext; constructor
 ·rintro ⟨r,h',he,hk⟩
  simp only [bE9] at he
  obtain ⟨qs,h1,he⟩:=he
  split at he
  ·rename_i hc; cases he; exact ⟨qs,h1,hc,hk⟩
  ·cases he
 ·rintro ⟨qs,h1,h2,h3⟩
  exact ⟨_,_,by simp only [h1,bS9]; rw [if_pos h2],h3⟩
end
theorem l3t:b6q []=some []:=rfl
theorem l3s {a n:Nat} {x:AV} {l}:b6q ((a,n,x) :: l)=if b2d x/\(cellsOf x).length=n then (b6q l).map ((a,cellsOf x) :: ·) else none:=by
 unfold b6q
 rw [List.mapM_cons]
 simp only []
 split
 ·rename_i hc
  simp only [Option.bind_eq_bind,bS9,Option.pure_def]
  generalize (List.mapM (m:=Option) _ l)=o
  cases o <;> rfl
 ·rfl
theorem l2h {kd n}:b2d (.v (.int kd n))=true:=rfl
theorem l2d {b}:b2d (.v (.bool b))=true:=rfl
theorem l2k {a b c}:b2d (.v (.slice a b c))=true:=rfl
theorem l2c {cs}:b2d (.agg cs)=true:=rfl
theorem l2g {a b}:b2d (.fs a b)=true:=rfl
theorem l2j {a b c}:b2d (.rs a b c)=true:=rfl
theorem g88 {x}:cellsOf (.v x)=[.v x]:=rfl
theorem g82 {cs}:cellsOf (.agg cs)=cs:=rfl
theorem g85 {a b}:cellsOf (.fs a b)=[.fs a b]:=rfl
theorem g87 {a b c}:cellsOf (.rs a b c)=[.rs a b c]:=rfl
theorem l3x {cs}:place cs []=cs:=rfl
theorem l3w {cs off ds r}:place cs ((off,ds) :: r)=place (cs.take off++ds++cs.drop (off+ds.length)) r:=rfl
attribute [go_sem] j68 j6z j67 j63 j62 j61 j66 j65 j60
attribute [go_sem ↓] g0r B3d j47 j57 g9h j4o j5p j4q j5r j34 j45 j33 j44 j30 j41 j4j j5k j4t j5u j4p j5q j4d j5e j4e j5f j32 j43 j4u j5v j4i j5j j4b j5c j4m j5n j37 j48 j38 j49 j6p j6r j55 j54 B3h j6k j6u j6q j6e j6f j53 j6v j6j j6c j6n j58 j59 j39 j6a j69 d9j d9i d9q d92 d91 d93 g0a g0b g0z d9n d9o d9z d90 g0u g0q d9t g0t g0s d9c d9f d9d d9h d9e d9g g0k g0j g0l d9x d9y d97 d98 d99 d2g d2f d9v g01 g00 d8j d8l d9a d8y d8q d8z d8x d8w d8v d8u d8n d8o
attribute [go_sem] j8r g0r l3t l3s l2h l2d l2k l2c l2g l2j g88 g82 g85 g87 l3x l3w List.map_cons List.map_nil List.take_zero List.take_succ_cons List.drop_zero List.drop_succ_cons List.nil_append List.cons_append List.length_cons List.length_nil List.all_cons List.all_nil Option.map_some Nat.reduceLeDiff Option.isSome_some decide_true Bool.and_true true_and and_true if_true if_false List.set_cons_zero List.take_nil List.drop_nil List.append_nil d9j d9i d9q d92 d91 d93 g0a g0b g0z d9n d9o d9z d90 g0u g0q d9t g0t g0s d9c d9f d9d d9h d9e d9g g0k g0j g0l d9x d9y d97 d98 d99 d2g d2f d9v g01 g00 d8j d8l d9a d8y d8q d8z d8x d8w d8v d8u d8n d8o Bool.not_true Bool.not_false Nat.reduceAdd Nat.reduceEqDiff not_false_eq_true
end Go.Nw
