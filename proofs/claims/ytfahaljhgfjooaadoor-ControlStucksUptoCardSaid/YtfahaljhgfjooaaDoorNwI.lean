/- The rules, with what comes behind as instance-implicit arguments: there "simp" does not go. -/
import Derived.Test.YtfahaljhgfjooaaDoorNwRules
set_option linter.all false
namespace Go.Nw
class Kp where p : Prop
class K1 (α : Type) where k : α -> Prop
class K2 where k : AV -> Heap -> Prop
class Kr where k : Nat -> List (List AV) -> List AV -> Prop
class Ko where k : Nat -> List (List AV) -> Prop
class Kh where k : Heap -> Prop
def ibr (x : Bool) [p : Kp] [q : Kp] : Prop := br x p.p q.p
def d7q (x : AV) [p : Kp] [q : Kp] : Prop := c4z x p.p q.p
def b2e (x : AV) (b : Bool) [p : Kp] [q : Kp] [q0 : Kp] : Prop := b25 x b p.p q.p q0.p
def iop (O : Orac) (op : XOp) (t : Slots) (h : Heap) [k : K2] : Prop := op1 O op t h k.k
def d0z (agg : Bool) (n : Nat) (x : AV) (h : Heap) [k : K1 AV] : Prop := d2q agg n x h k.k
def d8y (n : Nat) (a x : AV) (h : Heap) [k : Kh] : Prop := d31 n a x h k.k
def c18 (agg : Bool) (n : Nat) (cs : List AV) (off : Nat) [k : K1 AV] : Prop := b5f agg n cs off k.k
def b9u (cs : List AV) (i : Nat) [k : K1 AV] : Prop := b4m cs i k.k
def c5y (o : Option Ob) (i : Nat) [k : Kr] : Prop := b7j o i k.k
def iob (o : Option Ob) [k : Ko] : Prop := obK o k.k
def c5q {α : Type} (l : List α) (i : Int) [k : K1 α] : Prop := b6s l i k.k
def d04 (c : AV) [p : Kp] [q : Kp] : Prop := c2n c p.p q.p
def b6y (x : AV) [k : K1 (List AV)] : Prop := b3z x k.k
def c5w (x : AV) (h : Heap) [k : K1 AV] : Prop := d23 x h k.k
def d0w (n : Nat) (x : AV) (h : Heap) [k : K1 AV] : Prop := d0o n x h k.k
def iix (n : Nat) (x i : AV) (h : Heap) [k : K1 AV] : Prop := d07 n x i h k.k
def b2d (op : BinOp) (e : EqK) (x y : AV) [k : K1 AV] : Prop := b1q op e x y k.k
def iun (op : UnOp) (x : AV) [k : K1 AV] : Prop := unK op x k.k
def b9x (x : AV) [k : K1 Int] : Prop := b59 x k.k
def d7u (x : AV) (i : Nat) [k : K1 AV] : Prop := d0f x i k.k
def b4n (v : AV) [k : K1 AV] : Prop := k.k v
def b4e (a : Prop) [p : Kp] : Prop := a /\ p.p
def c17 (O : Orac) (f : String) (as : List AV) (h : Heap) [k : K2] : Prop := b6p O f as h k.k
def b5w (O : Orac) (f : String) (as : List AV) (h : Heap) [k : K2] : Prop := b52 O f as h k.k
def d7m (O : Orac) (f : AV) (as : List AV) (h : Heap) [k : K2] : Prop := ∃ n a b, callee f = some (n, a, b) /\ b6p O n (a ++ as ++ b) h k.k
section
variable {O : Orac} {d : Option Nat} {g : Nat} {b0 : Bool} {r : List XO} {K : Slots -> Heap -> Prop} {t : Slots} {h : Heap} {k : AV -> Heap -> Prop}
theorem j2i {x} : b0d O (⟨d, none, .mv x⟩ :: r) K t h = @iop O (.mv x) t h ⟨fun v h' => b0d O r K (b0h t d v) h'⟩ := g5t
theorem j3k {x} : b0d O (⟨d, some (g, b0), .mv x⟩ :: r) K t h = @b2e (t g) b0 ⟨@iop O (.mv x) (upd t g (B b0)) h ⟨fun v h' => b0d O r K (b0h (upd t g (B b0)) d v) h'⟩⟩ ⟨b0d O r K (b0h (upd t g (B (!b0))) d U) h⟩ ⟨b0d O r K (b0h t d U) h⟩ := g9r
theorem j2k {c a b} : b0d O (⟨d, none, .pick c a b⟩ :: r) K t h = @iop O (.pick c a b) t h ⟨fun v h' => b0d O r K (b0h t d v) h'⟩ := g5v
theorem j3m {c a b} : b0d O (⟨d, some (g, b0), .pick c a b⟩ :: r) K t h = @b2e (t g) b0 ⟨@iop O (.pick c a b) (upd t g (B b0)) h ⟨fun v h' => b0d O r K (b0h (upd t g (B b0)) d v) h'⟩⟩ ⟨b0d O r K (b0h (upd t g (B (!b0))) d U) h⟩ ⟨b0d O r K (b0h t d U) h⟩ := g9t
theorem j1y {x} : b0d O (⟨d, none, .boxF x⟩ :: r) K t h = @iop O (.boxF x) t h ⟨fun v h' => b0d O r K (b0h t d v) h'⟩ := g5b
theorem j20 {x} : b0d O (⟨d, some (g, b0), .boxF x⟩ :: r) K t h = @b2e (t g) b0 ⟨@iop O (.boxF x) (upd t g (B b0)) h ⟨fun v h' => b0d O r K (b0h (upd t g (B b0)) d v) h'⟩⟩ ⟨b0d O r K (b0h (upd t g (B (!b0))) d U) h⟩ ⟨b0d O r K (b0h t d U) h⟩ := g9i
theorem j1x {x} : b0d O (⟨d, none, .box x⟩ :: r) K t h = @iop O (.box x) t h ⟨fun v h' => b0d O r K (b0h t d v) h'⟩ := g5a
theorem j2z {x} : b0d O (⟨d, some (g, b0), .box x⟩ :: r) K t h = @b2e (t g) b0 ⟨@iop O (.box x) (upd t g (B b0)) h ⟨fun v h' => b0d O r K (b0h (upd t g (B b0)) d v) h'⟩⟩ ⟨b0d O r K (b0h (upd t g (B (!b0))) d U) h⟩ ⟨b0d O r K (b0h t d U) h⟩ := g9h
theorem j1u {zs} : b0d O (⟨d, none, .alloc zs⟩ :: r) K t h = @iop O (.alloc zs) t h ⟨fun v h' => b0d O r K (b0h t d v) h'⟩ := g48
theorem j2w {zs} : b0d O (⟨d, some (g, b0), .alloc zs⟩ :: r) K t h = @b2e (t g) b0 ⟨@iop O (.alloc zs) (upd t g (B b0)) h ⟨fun v h' => b0d O r K (b0h (upd t g (B b0)) d v) h'⟩⟩ ⟨b0d O r K (b0h (upd t g (B (!b0))) d U) h⟩ ⟨b0d O r K (b0h t d U) h⟩ := g9f
theorem j2d {agg n a} : b0d O (⟨d, none, .load agg n a⟩ :: r) K t h = @iop O (.load agg n a) t h ⟨fun v h' => b0d O r K (b0h t d v) h'⟩ := g5r
theorem j3f {agg n a} : b0d O (⟨d, some (g, b0), .load agg n a⟩ :: r) K t h = @b2e (t g) b0 ⟨@iop O (.load agg n a) (upd t g (B b0)) h ⟨fun v h' => b0d O r K (b0h (upd t g (B b0)) d v) h'⟩⟩ ⟨b0d O r K (b0h (upd t g (B (!b0))) d U) h⟩ ⟨b0d O r K (b0h t d U) h⟩ := g9p
theorem j2n {n a x} : b0d O (⟨d, none, .store n a x⟩ :: r) K t h = @iop O (.store n a x) t h ⟨fun v h' => b0d O r K (b0h t d v) h'⟩ := g6o
theorem j3p {n a x} : b0d O (⟨d, some (g, b0), .store n a x⟩ :: r) K t h = @b2e (t g) b0 ⟨@iop O (.store n a x) (upd t g (B b0)) h ⟨fun v h' => b0d O r K (b0h (upd t g (B b0)) d v) h'⟩⟩ ⟨b0d O r K (b0h (upd t g (B (!b0))) d U) h⟩ ⟨b0d O r K (b0h t d U) h⟩ := g9u
theorem j2j {x} : b0d O (⟨d, none, .nilck x⟩ :: r) K t h = @iop O (.nilck x) t h ⟨fun v h' => b0d O r K (b0h t d v) h'⟩ := g5u
theorem j3l {x} : b0d O (⟨d, some (g, b0), .nilck x⟩ :: r) K t h = @b2e (t g) b0 ⟨@iop O (.nilck x) (upd t g (B b0)) h ⟨fun v h' => b0d O r K (b0h (upd t g (B b0)) d v) h'⟩⟩ ⟨b0d O r K (b0h (upd t g (B (!b0))) d U) h⟩ ⟨b0d O r K (b0h t d U) h⟩ := g9s
theorem j17 {o x} : b0d O (⟨d, none, .fldA o x⟩ :: r) K t h = @iop O (.fldA o x) t h ⟨fun v h' => b0d O r K (b0h t d v) h'⟩ := g5k
theorem j29 {o x} : b0d O (⟨d, some (g, b0), .fldA o x⟩ :: r) K t h = @b2e (t g) b0 ⟨@iop O (.fldA o x) (upd t g (B b0)) h ⟨fun v h' => b0d O r K (b0h (upd t g (B b0)) d v) h'⟩⟩ ⟨b0d O r K (b0h (upd t g (B (!b0))) d U) h⟩ ⟨b0d O r K (b0h t d U) h⟩ := g9m
theorem j18 {n x i} : b0d O (⟨d, none, .ixA n x i⟩ :: r) K t h = @iop O (.ixA n x i) t h ⟨fun v h' => b0d O r K (b0h t d v) h'⟩ := g5l
theorem j3a {n x i} : b0d O (⟨d, some (g, b0), .ixA n x i⟩ :: r) K t h = @b2e (t g) b0 ⟨@iop O (.ixA n x i) (upd t g (B b0)) h ⟨fun v h' => b0d O r K (b0h (upd t g (B b0)) d v) h'⟩⟩ ⟨b0d O r K (b0h (upd t g (B (!b0))) d U) h⟩ ⟨b0d O r K (b0h t d U) h⟩ := g9n
theorem j1w {op e x y} : b0d O (⟨d, none, .bin op e x y⟩ :: r) K t h = @iop O (.bin op e x y) t h ⟨fun v h' => b0d O r K (b0h t d v) h'⟩ := g49
theorem j2y {op e x y} : b0d O (⟨d, some (g, b0), .bin op e x y⟩ :: r) K t h = @b2e (t g) b0 ⟨@iop O (.bin op e x y) (upd t g (B b0)) h ⟨fun v h' => b0d O r K (b0h (upd t g (B b0)) d v) h'⟩⟩ ⟨b0d O r K (b0h (upd t g (B (!b0))) d U) h⟩ ⟨b0d O r K (b0h t d U) h⟩ := g9g
theorem j2o {op x} : b0d O (⟨d, none, .un op x⟩ :: r) K t h = @iop O (.un op x) t h ⟨fun v h' => b0d O r K (b0h t d v) h'⟩ := g6p
theorem j3q {op x} : b0d O (⟨d, some (g, b0), .un op x⟩ :: r) K t h = @b2e (t g) b0 ⟨@iop O (.un op x) (upd t g (B b0)) h ⟨fun v h' => b0d O r K (b0h (upd t g (B b0)) d v) h'⟩⟩ ⟨b0d O r K (b0h (upd t g (B (!b0))) d U) h⟩ ⟨b0d O r K (b0h t d U) h⟩ := g9v
theorem j2c {x} : b0d O (⟨d, none, .len false x⟩ :: r) K t h = @iop O (.len false x) t h ⟨fun v h' => b0d O r K (b0h t d v) h'⟩ := g5q
theorem j3e {x} : b0d O (⟨d, some (g, b0), .len false x⟩ :: r) K t h = @b2e (t g) b0 ⟨@iop O (.len false x) (upd t g (B b0)) h ⟨fun v h' => b0d O r K (b0h (upd t g (B b0)) d v) h'⟩⟩ ⟨b0d O r K (b0h (upd t g (B (!b0))) d U) h⟩ ⟨b0d O r K (b0h t d U) h⟩ := g9o
theorem j15 {x i} : b0d O (⟨d, none, .ext x i⟩ :: r) K t h = @iop O (.ext x i) t h ⟨fun v h' => b0d O r K (b0h t d v) h'⟩ := g5j
theorem j27 {x i} : b0d O (⟨d, some (g, b0), .ext x i⟩ :: r) K t h = @b2e (t g) b0 ⟨@iop O (.ext x i) (upd t g (B b0)) h ⟨fun v h' => b0d O r K (b0h (upd t g (B b0)) d v) h'⟩⟩ ⟨b0d O r K (b0h (upd t g (B (!b0))) d U) h⟩ ⟨b0d O r K (b0h t d U) h⟩ := g9l
theorem j2g {f a b} : b0d O (⟨d, none, .mkfn f a b⟩ :: r) K t h = @iop O (.mkfn f a b) t h ⟨fun v h' => b0d O r K (b0h t d v) h'⟩ := g5s
theorem j3i {f a b} : b0d O (⟨d, some (g, b0), .mkfn f a b⟩ :: r) K t h = @b2e (t g) b0 ⟨@iop O (.mkfn f a b) (upd t g (B b0)) h ⟨fun v h' => b0d O r K (b0h (upd t g (B b0)) d v) h'⟩⟩ ⟨b0d O r K (b0h (upd t g (B (!b0))) d U) h⟩ ⟨b0d O r K (b0h t d U) h⟩ := g9q
theorem j11 {f l} : b0d O (⟨d, none, .call f l⟩ :: r) K t h = @iop O (.call f l) t h ⟨fun v h' => b0d O r K (b0h t d v) h'⟩ := g5c
theorem j23 {f l} : b0d O (⟨d, some (g, b0), .call f l⟩ :: r) K t h = @b2e (t g) b0 ⟨@iop O (.call f l) (upd t g (B b0)) h ⟨fun v h' => b0d O r K (b0h (upd t g (B b0)) d v) h'⟩⟩ ⟨b0d O r K (b0h (upd t g (B (!b0))) d U) h⟩ ⟨b0d O r K (b0h t d U) h⟩ := g9j
theorem j13 {f l} : b0d O (⟨d, none, .callw f l⟩ :: r) K t h = @iop O (.callw f l) t h ⟨fun v h' => b0d O r K (b0h t d v) h'⟩ := g7b
theorem j12 {f l} : b0d O (⟨d, none, .callv f l⟩ :: r) K t h = @iop O (.callv f l) t h ⟨fun v h' => b0d O r K (b0h t d v) h'⟩ := g5d
theorem j24 {f l} : b0d O (⟨d, some (g, b0), .callv f l⟩ :: r) K t h = @b2e (t g) b0 ⟨@iop O (.callv f l) (upd t g (B b0)) h ⟨fun v h' => b0d O r K (b0h (upd t g (B b0)) d v) h'⟩⟩ ⟨b0d O r K (b0h (upd t g (B (!b0))) d U) h⟩ ⟨b0d O r K (b0h t d U) h⟩ := g9k
theorem j4l {x} : @iop O (.mv x) t h ⟨k⟩ = @b4n (evT t x) ⟨fun v => k v h⟩ := l0m
theorem j4n {c a b} : @iop O (.pick c a b) t h ⟨k⟩ = @d04 (evT t c) ⟨@b4n (evT t a) ⟨fun v => k v h⟩⟩ ⟨@b4n (evT t b) ⟨fun v => k v h⟩⟩ := l0o
theorem j31 {x} : @iop O (.boxF x) t h ⟨k⟩ = @b6y (evT t x) ⟨fun cs => k (.fp cs 0) h⟩ := l0d
theorem j30 {x} : @iop O (.box x) t h ⟨k⟩ = @b6y (evT t x) ⟨fun cs => @b4e (cs.isEmpty = false) ⟨k (.rp h.nx 0 0) (h.new (cs.length, [cs]))⟩⟩ := l0c
theorem j6m {a : AV} {l : List AV} : ((a :: l).isEmpty = false) = True := by simp
theorem j3x {zs} : @iop O (.alloc zs) t h ⟨k⟩ = k (.rp h.nx 0 0) (h.new (zs.length, [zs.map .v])) := l0a
theorem j4g {agg n a} : @iop O (.load agg n a) t h ⟨k⟩ = @d0z agg n (evT t a) h ⟨fun v => k v h⟩ := l0k
theorem j4q {n a x} : @iop O (.store n a x) t h ⟨k⟩ = @d8y n (evT t a) (evT t x) h ⟨fun h' => k .dead h'⟩ := l0p
theorem j4m {x} : @iop O (.nilck x) t h ⟨k⟩ = @c5w (evT t x) h ⟨fun v => k v h⟩ := l0n
theorem j4a {o x} : @iop O (.fldA o x) t h ⟨k⟩ = @d0w o (evT t x) h ⟨fun v => k v h⟩ := l0h
theorem j4b {n x i} : @iop O (.ixA n x i) t h ⟨k⟩ = @iix n (evT t x) (evT t i) h ⟨fun v => k v h⟩ := l0i
theorem j3z {op e x y} : @iop O (.bin op e x y) t h ⟨k⟩ = @b2d op e (evT t x) (evT t y) ⟨fun v => k v h⟩ := l0b
theorem j4r {op x} : @iop O (.un op x) t h ⟨k⟩ = @iun op (evT t x) ⟨fun v => k v h⟩ := l0q
theorem j4f {x} : @iop O (.len false x) t h ⟨k⟩ = @b9x (evT t x) ⟨fun n => k (I n) h⟩ := l0j
theorem j38 {x i} : @iop O (.ext x i) t h ⟨k⟩ = @d7u (evT t x) i ⟨fun v => k v h⟩ := l0g
theorem j4j {f a b} : @iop O (.mkfn f a b) t h ⟨k⟩ = k (.fn f (a.map (evT t)) (b.map (evT t))) h := l0l
theorem j34 {f l} : @iop O (.call f l) t h ⟨k⟩ = @c17 O f (l.map (evT t)) h ⟨k⟩ := l0e
theorem j36 {f l} : @iop O (.callw f l) t h ⟨k⟩ = @b5w O f (l.map (evT t)) h ⟨k⟩ := rfl
theorem j35 {f l} : @iop O (.callv f l) t h ⟨k⟩ = @d7m O (evT t f) (l.map (evT t)) h ⟨k⟩ := l0f
theorem j45 {c a b} {Q : XExit -> Slots -> Heap -> Prop} : cw O (.cond c a b) Q t h = @d7q (evT t c) ⟨cw O a Q t h⟩ ⟨cw O b Q t h⟩ := g7e
end
section
variable {k : AV -> Prop} {h : Heap} {p q q0 : Prop}
theorem j44 {x} : @b4n (.v x) ⟨k⟩ = k (.v x) := rfl
theorem j4v {x} : @b4n (.agg x) ⟨k⟩ = k (.agg x) := rfl
theorem j43 {x} : @b4n (.tup x) ⟨k⟩ = k (.tup x) := rfl
theorem j4z {a b} : @b4n (.fs a b) ⟨k⟩ = k (.fs a b) := rfl
theorem j4y {a b} : @b4n (.fp a b) ⟨k⟩ = k (.fp a b) := rfl
theorem j4x {a b c} : @b4n (.fn a b c) ⟨k⟩ = k (.fn a b c) := rfl
theorem j42 {a b c} : @b4n (.rs a b c) ⟨k⟩ = k (.rs a b c) := rfl
theorem j41 {a b c} : @b4n (.rp a b c) ⟨k⟩ = k (.rp a b c) := rfl
theorem j4w : @b4n .dead ⟨k⟩ = k .dead := rfl
theorem b5k (v : AV) : @b4n v ⟨k⟩ = k v := rfl
theorem d7k  : @ibr true ⟨p⟩ ⟨q⟩ = p := g4k
theorem d7j  : @ibr false ⟨p⟩ ⟨q⟩ = q := g4j
theorem d7r {b} : @d7q (.v (.bool b)) ⟨p⟩ ⟨q⟩ = @ibr b ⟨p⟩ ⟨q⟩ := g68
theorem d72 {y} : @b2e (.v (.bool y)) true ⟨p⟩ ⟨q⟩ ⟨q0⟩ = @ibr y ⟨p⟩ ⟨q⟩ := g93
theorem d71 {y} : @b2e (.v (.bool y)) false ⟨p⟩ ⟨q⟩ ⟨q0⟩ = @ibr y ⟨q⟩ ⟨p⟩ := g92
theorem d73 {b} : @b2e U b ⟨p⟩ ⟨q⟩ ⟨q0⟩ = q0 := rfl
theorem d8a {agg n cs off} : @d0z agg n (.fp cs off) h ⟨k⟩ = @c18 agg n cs off ⟨k⟩ := rfl
theorem d8b {agg n id i off} : @d0z agg n (.rp id i off) h ⟨k⟩ = @c5y (h.ob id) i ⟨fun _ _ cs => @c18 agg n cs off ⟨k⟩⟩ := rfl
theorem d8z {n id i off x} {k : Heap -> Prop} : @d8y n (.rp id i off) x h ⟨k⟩ = @c5y (h.ob id) i ⟨fun sz es cs => b2a x = true /\ (cellsOf x).length = n /\ off + n <= cs.length /\ k (h.upd id (some (sz, es.set i (cs.take off ++ cellsOf x ++ cs.drop (off + n)))))⟩ := rfl
theorem d7o {n cs off} : @c18 false n cs off ⟨k⟩ = @b9u cs off ⟨k⟩ := g6u
theorem d7p {n cs off} : @c18 true n cs off ⟨k⟩ = @b4e (off + n <= cs.length) ⟨k (.agg ((cs.drop off).take n))⟩ := g6v
theorem d7z {c cs} : @b9u (c :: cs) 0 ⟨k⟩ = k c := g9w
theorem d70 {c cs n} : @b9u (c :: cs) (n + 1) ⟨k⟩ = @b9u cs n ⟨k⟩ := g9x
theorem d8u {sz cs} {k : Nat -> List (List AV) -> List AV -> Prop} : @c5y (some (sz, [cs])) 0 ⟨k⟩ = k sz [cs] cs := l2d
theorem d8q {sz es} {k : Nat -> List (List AV) -> Prop} : @iob (some (sz, es)) ⟨k⟩ = k sz es := j9y
theorem d7t {α β : Type} {f : α -> β} {l : List α} {i : Int} {k : β -> Prop} : @c5q β (l.map f) i ⟨k⟩ = @c5q α l i ⟨fun a => k (f a)⟩ := g8k
theorem d8t  : @d04 (.v (.bool true)) ⟨p⟩ ⟨q⟩ = p := rfl
theorem d8s  : @d04 (.v (.bool false)) ⟨p⟩ ⟨q⟩ = q := rfl
theorem d7d {cs} {k : List AV -> Prop} : @b6y (.agg cs) ⟨k⟩ = k cs := g4d
theorem d7g {kd n} {k : List AV -> Prop} : @b6y (.v (.int kd n)) ⟨k⟩ = k [.v (.int kd n)] := g4g
theorem d7e {b} {k : List AV -> Prop} : @b6y (.v (.bool b)) ⟨k⟩ = k [.v (.bool b)] := g4e
theorem d7i {a b c} {k : List AV -> Prop} : @b6y (.v (.slice a b c)) ⟨k⟩ = k [.v (.slice a b c)] := g4i
theorem d7f {sz es} {k : List AV -> Prop} : @b6y (.fs sz es) ⟨k⟩ = k [.fs sz es] := g4f
theorem d7h {a b c} {k : List AV -> Prop} : @b6y (.rs a b c) ⟨k⟩ = k [.rs a b c] := g4h
theorem d8k {cs off} : @c5w (.fp cs off) h ⟨k⟩ = k (.fp cs off) := rfl
theorem d8j {f a b} : @c5w (.fn f a b) h ⟨k⟩ = k (.fn f a b) := rfl
theorem d8l {id i off} : @c5w (.rp id i off) h ⟨k⟩ = @b4e ((h.ob id).isSome = true) ⟨k (.rp id i off)⟩ := rfl
theorem d7x {n cs off} : @d0w n (.fp cs off) h ⟨k⟩ = k (.fp cs (off + n)) := rfl
theorem d7y {n id i off} : @d0w n (.rp id i off) h ⟨k⟩ = @b4e ((h.ob id).isSome = true) ⟨k (.rp id i (off + n))⟩ := rfl
theorem d77 {n sz es kd j} : @iix n (.fs sz es) (.v (.int kd j)) h ⟨k⟩ = @b4e (sz = n) ⟨@c5q (List AV) es j ⟨fun cs => k (.fp cs 0)⟩⟩ := rfl
theorem d78 {n id lo len kd j} : @iix n (.rs id lo len) (.v (.int kd j)) h ⟨k⟩ = @iob (h.ob id) ⟨fun sz _ => @b4e (sz = n) ⟨@b4e (0 <= j) ⟨@b4e (j < (len : Int)) ⟨k (.rp id (lo + j.toNat) 0)⟩⟩⟩⟩ := rfl
theorem d79 {sz es} {k : Int -> Prop} : @b9x (.fs sz es) ⟨k⟩ = k es.length := j5e
theorem c5t {id lo len} {k : Int -> Prop} : @b9x (.rs id lo len) ⟨k⟩ = k len := j5g
theorem c5s {k : Int -> Prop} : @b9x (.v (.slice none 0 0)) ⟨k⟩ = k 0 := j5f
theorem d7v {vs i} : @d7u (.tup vs) i ⟨k⟩ = @b9u vs i ⟨k⟩ := rfl
theorem d81 {b : Bool} : @iun .not (B b) ⟨k⟩ = k (B (!b)) := l38
theorem d80 {kd a} : @iun .neg (.v (.int kd a)) ⟨k⟩ = k (.v (.int kd (kd.wrap (0 - a)))) := l37
theorem d6j {a : Prop} (ha : a) : @b4e a ⟨p⟩ = p := by simp [b4e, ha]
theorem d6m {e kd a b} : @b2d .add e (.v (.int kd a)) (.v (.int kd b)) ⟨k⟩ = k (.v (.int kd (kd.wrap (a + b)))) := g31
theorem d7b {e kd a b} : @b2d .sub e (.v (.int kd a)) (.v (.int kd b)) ⟨k⟩ = k (.v (.int kd (kd.wrap (a - b)))) := g4b
theorem d6z {e kd a b} : @b2d .mul e (.v (.int kd a)) (.v (.int kd b)) ⟨k⟩ = k (.v (.int kd (kd.wrap (a * b)))) := g39
theorem d6r {e kd} {a b : Int} : @b2d .eql e (.v (.int kd a)) (.v (.int kd b)) ⟨k⟩ = k (B (decide (a = b))) := g34
theorem d60 {e kd} {a b : Int} : @b2d .neq e (.v (.int kd a)) (.v (.int kd b)) ⟨k⟩ = k (B (decide (¬ a = b))) := g4a
theorem d6y {e kd} {a b : Int} : @b2d .lss e (.v (.int kd a)) (.v (.int kd b)) ⟨k⟩ = k (B (decide (a < b))) := g38
theorem d6x {e kd} {a b : Int} : @b2d .leq e (.v (.int kd a)) (.v (.int kd b)) ⟨k⟩ = k (B (decide (a <= b))) := g37
theorem d6w {e kd} {a b : Int} : @b2d .gtr e (.v (.int kd a)) (.v (.int kd b)) ⟨k⟩ = k (B (decide (b < a))) := g36
theorem d6v {e kd} {a b : Int} : @b2d .geq e (.v (.int kd a)) (.v (.int kd b)) ⟨k⟩ = k (B (decide (b <= a))) := g35
theorem d6o {a b : Bool} : @b2d .eql .bool (B a) (B b) ⟨k⟩ = k (B (b5r a b)) := g32
theorem d6p {a b : Bool} : @b2d .neq .bool (B a) (B b) ⟨k⟩ = k (B (!(b5r a b))) := g33
theorem b0j {x : Bool} {p q : Prop} (h1 : x = true -> p) (h2 : x = false -> q) : @ibr x ⟨p⟩ ⟨q⟩ := ⟨h1, h2⟩
end
def c5x {α : Type} (o : Option α) [k : K1 α] : Prop := ∃ x, o = some x /\ k.k x
theorem d8r {α : Type} {x : α} {k : α -> Prop} : @c5x α (some x) ⟨k⟩ = k x := by simp [c5x]
section
variable {O : Orac} {d : Option Nat} {g : Nat} {b0 : Bool} {r : List XO} {K : Slots -> Heap -> Prop} {t : Slots} {h : Heap} {k : AV -> Heap -> Prop}
theorem j10 {zs ps} : b0d O (⟨d, none, .build zs ps⟩ :: r) K t h = @iop O (.build zs ps) t h ⟨fun v h' => b0d O r K (b0h t d v) h'⟩ := b2j rfl
theorem j22 {zs ps} : b0d O (⟨d, some (g, b0), .build zs ps⟩ :: r) K t h = @b2e (t g) b0 ⟨@iop O (.build zs ps) (upd t g (B b0)) h ⟨fun v h' => b0d O r K (b0h (upd t g (B b0)) d v) h'⟩⟩ ⟨b0d O r K (b0h (upd t g (B (!b0))) d U) h⟩ ⟨b0d O r K (b0h t d U) h⟩ := b2h rfl
theorem j33 {zs ps} : @iop O (.build zs ps) t h ⟨k⟩ = @c5x _ (b6g (ps.map fun p => (p.1, p.2.1, evT t p.2.2))) ⟨fun qs => @b4e ((qs.all fun p => decide (p.1 + p.2.length <= zs.length)) = true) ⟨k (.agg (place (zs.map .v) qs)) h⟩⟩ := by
 simp only [iop, op1, eff, c5x, b4e]
 apply propext; constructor
 ·rintro ⟨r, h', he, hk⟩
  simp only [Option.bind_eq_some_iff] at he
  obtain ⟨qs, h1, he⟩ := he
  split at he
  ·rename_i hc; cases he; exact ⟨qs, h1, hc, hk⟩
  ·cases he
 ·rintro ⟨qs, h1, h2, h3⟩
  exact ⟨_, _, by simp only [h1, Option.bind_some]; rw [if_pos h2], h3⟩
end
theorem l1e : b6g [] = some [] := rfl
theorem l1d {a n : Nat} {x : AV} {l} : b6g ((a, n, x) :: l) = if b2a x /\ (cellsOf x).length = n then (b6g l).map ((a, cellsOf x) :: ·) else none := by
 unfold b6g
 rw [List.mapM_cons]
 simp only []
 split
 ·rename_i hc
  simp only [Option.bind_eq_bind, Option.bind_some, Option.pure_def]
  generalize (List.mapM (m := Option) _ l) = o
  cases o <;> rfl
 ·rfl
theorem j95 {kd n} : b2a (.v (.int kd n)) = true := rfl
theorem j91 {b} : b2a (.v (.bool b)) = true := rfl
theorem j98 {a b c} : b2a (.v (.slice a b c)) = true := rfl
theorem j90 {cs} : b2a (.agg cs) = true := rfl
theorem j94 {a b} : b2a (.fs a b) = true := rfl
theorem j97 {a b c} : b2a (.rs a b c) = true := rfl
theorem g62 {x} : cellsOf (.v x) = [.v x] := rfl
theorem g6w {cs} : cellsOf (.agg cs) = cs := rfl
theorem g6z {a b} : cellsOf (.fs a b) = [.fs a b] := rfl
theorem g61 {a b c} : cellsOf (.rs a b c) = [.rs a b c] := rfl
theorem l1i {cs} : place cs [] = cs := rfl
theorem l1h {cs off ds r} : place cs ((off, ds) :: r) = place (cs.take off ++ ds ++ cs.drop (off + ds.length)) r := rfl
attribute [go_sem] j44 j4v j43 j4z j4y j4x j42 j41 j4w
attribute [go_sem ↓] d8r j10 j22 j33 g7d j2i j3k j2k j3m j1y j20 j1x j2z j1u j2w j2d j3f j2n j3p j2j j3l j17 j29 j18 j3a j1w j2y j2o j3q j2c j3e j15 j27 j2g j3i j11 j23 j12 j24 j4l j4n j31 j30 j3x j4g j4q j4m j4a j4b j3z j4r j4f j38 j4j j34 j35 j13 j36 j45 d7k d7j d7r d72 d71 d73 d8a d8b d8z d7o d7p d7z d70 d8u d8q d7t d8t d8s d7d d7g d7e d7i d7f d7h d8k d8j d8l d7x d7y d77 d78 d79 c5t c5s d7v d81 d80 d6j d6m d7b d6z d6r d60 d6y d6x d6w d6v d6o d6p
attribute [go_sem] j6m d8r l1e l1d j95 j91 j98 j90 j94 j97 g62 g6w g6z g61 l1i l1h List.map_cons List.map_nil List.take_zero List.take_succ_cons List.drop_zero List.drop_succ_cons List.nil_append List.cons_append List.length_cons List.length_nil List.all_cons List.all_nil Option.map_some Nat.reduceLeDiff Option.isSome_some decide_true Bool.and_true true_and and_true if_true if_false List.set_cons_zero List.take_nil List.drop_nil List.append_nil d7k d7j d7r d72 d71 d73 d8a d8b d8z d7o d7p d7z d70 d8u d8q d7t d8t d8s d7d d7g d7e d7i d7f d7h d8k d8j d8l d7x d7y d77 d78 d79 c5t c5s d7v d81 d80 d6j d6m d7b d6z d6r d60 d6y d6x d6w d6v d6o d6p Bool.not_true Bool.not_false Nat.reduceAdd Nat.reduceEqDiff not_false_eq_true
end Go.Nw
