/- The rules, with what comes behind as instance-implicit arguments: there "simp" does not go. -/
import Derived.Test.YtaccbljgojdfjaaDoorNwRules
set_option linter.all false
set_option linter.unusedVariables false
set_option linter.unusedSimpArgs false
set_option linter.unusedSectionVars false
namespace Go.Nw
class Kp where p : Prop
class K1 (α : Type) where k : α → Prop
class K2 where k : AV → Heap → Prop
class Kr where k : Nat → List (List AV) → List AV → Prop
class Ko where k : Nat → List (List AV) → Prop
class Kh where k : Heap → Prop
def ibr (x : Bool) [p : Kp] [q : Kp] : Prop := br x p.p q.p
def c53 (x : AV) [p : Kp] [q : Kp] : Prop := b79 x p.p q.p
def b1c (x : AV) (b : Bool) [p : Kp] [q : Kp] [q0 : Kp] : Prop := b1r x b p.p q.p q0.p
def iop (O : Orac) (op : XOp) (t : Slots) (h : Heap) [k : K2] : Prop := op1 O op t h k.k
def c1p (agg : Bool) (n : Nat) (x : AV) (h : Heap) [k : K1 AV] : Prop := c2a agg n x h k.k
def c6y (n : Nat) (a x : AV) (h : Heap) [k : Kh] : Prop := c26 n a x h k.k
def b6x (agg : Bool) (n : Nat) (cs : List AV) (off : Nat) [k : K1 AV] : Prop := b3a agg n cs off k.k
def b5u (cs : List AV) (i : Nat) [k : K1 AV] : Prop := b2k cs i k.k
def b8y (o : Option Ob) (i : Nat) [k : Kr] : Prop := b4k o i k.k
def iob (o : Option Ob) [k : Ko] : Prop := obK o k.k
def b8r {α : Type} (l : List α) (i : Int) [k : K1 α] : Prop := b39 l i k.k
def c1r (c : AV) [p : Kp] [q : Kp] : Prop := b7a c p.p q.p
def b4d (x : AV) [k : K1 (List AV)] : Prop := b19 x k.k
def b8w (x : AV) (h : Heap) [k : K1 AV] : Prop := c2n x h k.k
def c1m (n : Nat) (x : AV) (h : Heap) [k : K1 AV] : Prop := c1e n x h k.k
def iix (n : Nat) (x i : AV) (h : Heap) [k : K1 AV] : Prop := c1t n x i h k.k
def b1h (op : BinOp) (e : EqK) (x y : AV) [k : K1 AV] : Prop := b03 op e x y k.k
def iun (op : UnOp) (x : AV) [k : K1 AV] : Prop := unK op x k.k
def b4y (x : AV) [k : K1 Int] : Prop := b3z x k.k
def c56 (x : AV) (i : Nat) [k : K1 AV] : Prop := c02 x i k.k
def b2q (v : AV) [k : K1 AV] : Prop := k.k v
def b2l (a : Prop) [p : Kp] : Prop := a ∧ p.p
def c1k (O : Orac) (f : String) (as : List AV) (h : Heap) [k : K2] : Prop := b37 O f as h k.k
def d53 (O : Orac) (f : String) (as : List AV) (h : Heap) [k : K2] : Prop := c0o O f as h k.k
def d52 (O : Orac) (f : AV) (as : List AV) (h : Heap) [k : K2] : Prop := ∃ n a b, callee f = some (n, a, b) ∧ b37 O n (a ++ as ++ b) h k.k
section
variable {O : Orac} {d : Option Nat} {g : Nat} {b0 : Bool} {r : List XO} {K : Slots → Heap → Prop} {t : Slots} {h : Heap} {k : AV → Heap → Prop}
theorem d5v {x} : b0a O (⟨d, none, .mv x⟩ :: r) K t h = @iop O (.mv x) t h ⟨fun v h' => b0a O r K (b0b t d v) h'⟩ := d1d
theorem d6p {x} : b0a O (⟨d, some (g, b0), .mv x⟩ :: r) K t h = @b1c (t g) b0 ⟨@iop O (.mv x) (upd t g (B b0)) h ⟨fun v h' => b0a O r K (b0b (upd t g (B b0)) d v) h'⟩⟩ ⟨b0a O r K (b0b (upd t g (B (!b0))) d U) h⟩ ⟨b0a O r K (b0b t d U) h⟩ := d35
theorem d5x {c a b} : b0a O (⟨d, none, .pick c a b⟩ :: r) K t h = @iop O (.pick c a b) t h ⟨fun v h' => b0a O r K (b0b t d v) h'⟩ := d1f
theorem d6r {c a b} : b0a O (⟨d, some (g, b0), .pick c a b⟩ :: r) K t h = @b1c (t g) b0 ⟨@iop O (.pick c a b) (upd t g (B b0)) h ⟨fun v h' => b0a O r K (b0b (upd t g (B b0)) d v) h'⟩⟩ ⟨b0a O r K (b0b (upd t g (B (!b0))) d U) h⟩ ⟨b0a O r K (b0b t d U) h⟩ := d37
theorem d5d {x} : b0a O (⟨d, none, .boxF x⟩ :: r) K t h = @iop O (.boxF x) t h ⟨fun v h' => b0a O r K (b0b t d v) h'⟩ := d0r
theorem d59 {x} : b0a O (⟨d, some (g, b0), .boxF x⟩ :: r) K t h = @b1c (t g) b0 ⟨@iop O (.boxF x) (upd t g (B b0)) h ⟨fun v h' => b0a O r K (b0b (upd t g (B b0)) d v) h'⟩⟩ ⟨b0a O r K (b0b (upd t g (B (!b0))) d U) h⟩ ⟨b0a O r K (b0b t d U) h⟩ := d3w
theorem d5c {x} : b0a O (⟨d, none, .box x⟩ :: r) K t h = @iop O (.box x) t h ⟨fun v h' => b0a O r K (b0b t d v) h'⟩ := d0q
theorem d58 {x} : b0a O (⟨d, some (g, b0), .box x⟩ :: r) K t h = @b1c (t g) b0 ⟨@iop O (.box x) (upd t g (B b0)) h ⟨fun v h' => b0a O r K (b0b (upd t g (B b0)) d v) h'⟩⟩ ⟨b0a O r K (b0b (upd t g (B (!b0))) d U) h⟩ ⟨b0a O r K (b0b t d U) h⟩ := d3v
theorem d49 {zs} : b0a O (⟨d, none, .alloc zs⟩ :: r) K t h = @iop O (.alloc zs) t h ⟨fun v h' => b0a O r K (b0b t d v) h'⟩ := d0o
theorem d55 {zs} : b0a O (⟨d, some (g, b0), .alloc zs⟩ :: r) K t h = @b1c (t g) b0 ⟨@iop O (.alloc zs) (upd t g (B b0)) h ⟨fun v h' => b0a O r K (b0b (upd t g (B b0)) d v) h'⟩⟩ ⟨b0a O r K (b0b (upd t g (B (!b0))) d U) h⟩ ⟨b0a O r K (b0b t d U) h⟩ := d3t
theorem d5q {agg n a} : b0a O (⟨d, none, .load agg n a⟩ :: r) K t h = @iop O (.load agg n a) t h ⟨fun v h' => b0a O r K (b0b t d v) h'⟩ := d07
theorem d6k {agg n a} : b0a O (⟨d, some (g, b0), .load agg n a⟩ :: r) K t h = @b1c (t g) b0 ⟨@iop O (.load agg n a) (upd t g (B b0)) h ⟨fun v h' => b0a O r K (b0b (upd t g (B b0)) d v) h'⟩⟩ ⟨b0a O r K (b0b (upd t g (B (!b0))) d U) h⟩ ⟨b0a O r K (b0b t d U) h⟩ := d33
theorem d5z {n a x} : b0a O (⟨d, none, .store n a x⟩ :: r) K t h = @iop O (.store n a x) t h ⟨fun v h' => b0a O r K (b0b t d v) h'⟩ := d1n
theorem d6t {n a x} : b0a O (⟨d, some (g, b0), .store n a x⟩ :: r) K t h = @b1c (t g) b0 ⟨@iop O (.store n a x) (upd t g (B b0)) h ⟨fun v h' => b0a O r K (b0b (upd t g (B b0)) d v) h'⟩⟩ ⟨b0a O r K (b0b (upd t g (B (!b0))) d U) h⟩ ⟨b0a O r K (b0b t d U) h⟩ := d38
theorem d5w {x} : b0a O (⟨d, none, .nilck x⟩ :: r) K t h = @iop O (.nilck x) t h ⟨fun v h' => b0a O r K (b0b t d v) h'⟩ := d1e
theorem d6q {x} : b0a O (⟨d, some (g, b0), .nilck x⟩ :: r) K t h = @b1c (t g) b0 ⟨@iop O (.nilck x) (upd t g (B b0)) h ⟨fun v h' => b0a O r K (b0b (upd t g (B b0)) d v) h'⟩⟩ ⟨b0a O r K (b0b (upd t g (B (!b0))) d U) h⟩ ⟨b0a O r K (b0b t d U) h⟩ := d36
theorem d5m {o x} : b0a O (⟨d, none, .fldA o x⟩ :: r) K t h = @iop O (.fldA o x) t h ⟨fun v h' => b0a O r K (b0b t d v) h'⟩ := d01
theorem d6h {o x} : b0a O (⟨d, some (g, b0), .fldA o x⟩ :: r) K t h = @b1c (t g) b0 ⟨@iop O (.fldA o x) (upd t g (B b0)) h ⟨fun v h' => b0a O r K (b0b (upd t g (B b0)) d v) h'⟩⟩ ⟨b0a O r K (b0b (upd t g (B (!b0))) d U) h⟩ ⟨b0a O r K (b0b t d U) h⟩ := d30
theorem d5n {n x i} : b0a O (⟨d, none, .ixA n x i⟩ :: r) K t h = @iop O (.ixA n x i) t h ⟨fun v h' => b0a O r K (b0b t d v) h'⟩ := d02
theorem d6i {n x i} : b0a O (⟨d, some (g, b0), .ixA n x i⟩ :: r) K t h = @b1c (t g) b0 ⟨@iop O (.ixA n x i) (upd t g (B b0)) h ⟨fun v h' => b0a O r K (b0b (upd t g (B b0)) d v) h'⟩⟩ ⟨b0a O r K (b0b (upd t g (B (!b0))) d U) h⟩ ⟨b0a O r K (b0b t d U) h⟩ := d31
theorem d5b {op e x y} : b0a O (⟨d, none, .bin op e x y⟩ :: r) K t h = @iop O (.bin op e x y) t h ⟨fun v h' => b0a O r K (b0b t d v) h'⟩ := d0p
theorem d57 {op e x y} : b0a O (⟨d, some (g, b0), .bin op e x y⟩ :: r) K t h = @b1c (t g) b0 ⟨@iop O (.bin op e x y) (upd t g (B b0)) h ⟨fun v h' => b0a O r K (b0b (upd t g (B b0)) d v) h'⟩⟩ ⟨b0a O r K (b0b (upd t g (B (!b0))) d U) h⟩ ⟨b0a O r K (b0b t d U) h⟩ := d3u
theorem d50 {op x} : b0a O (⟨d, none, .un op x⟩ :: r) K t h = @iop O (.un op x) t h ⟨fun v h' => b0a O r K (b0b t d v) h'⟩ := d1o
theorem d6u {op x} : b0a O (⟨d, some (g, b0), .un op x⟩ :: r) K t h = @b1c (t g) b0 ⟨@iop O (.un op x) (upd t g (B b0)) h ⟨fun v h' => b0a O r K (b0b (upd t g (B b0)) d v) h'⟩⟩ ⟨b0a O r K (b0b (upd t g (B (!b0))) d U) h⟩ ⟨b0a O r K (b0b t d U) h⟩ := d39
theorem d5p {x} : b0a O (⟨d, none, .len false x⟩ :: r) K t h = @iop O (.len false x) t h ⟨fun v h' => b0a O r K (b0b t d v) h'⟩ := d06
theorem d6j {x} : b0a O (⟨d, some (g, b0), .len false x⟩ :: r) K t h = @b1c (t g) b0 ⟨@iop O (.len false x) (upd t g (B b0)) h ⟨fun v h' => b0a O r K (b0b (upd t g (B b0)) d v) h'⟩⟩ ⟨b0a O r K (b0b (upd t g (B (!b0))) d U) h⟩ ⟨b0a O r K (b0b t d U) h⟩ := d32
theorem d5k {x i} : b0a O (⟨d, none, .ext x i⟩ :: r) K t h = @iop O (.ext x i) t h ⟨fun v h' => b0a O r K (b0b t d v) h'⟩ := d0w
theorem d6f {x i} : b0a O (⟨d, some (g, b0), .ext x i⟩ :: r) K t h = @b1c (t g) b0 ⟨@iop O (.ext x i) (upd t g (B b0)) h ⟨fun v h' => b0a O r K (b0b (upd t g (B b0)) d v) h'⟩⟩ ⟨b0a O r K (b0b (upd t g (B (!b0))) d U) h⟩ ⟨b0a O r K (b0b t d U) h⟩ := d3z
theorem d5t {f a b} : b0a O (⟨d, none, .mkfn f a b⟩ :: r) K t h = @iop O (.mkfn f a b) t h ⟨fun v h' => b0a O r K (b0b t d v) h'⟩ := d1c
theorem d6n {f a b} : b0a O (⟨d, some (g, b0), .mkfn f a b⟩ :: r) K t h = @b1c (t g) b0 ⟨@iop O (.mkfn f a b) (upd t g (B b0)) h ⟨fun v h' => b0a O r K (b0b (upd t g (B b0)) d v) h'⟩⟩ ⟨b0a O r K (b0b (upd t g (B (!b0))) d U) h⟩ ⟨b0a O r K (b0b t d U) h⟩ := d34
theorem d5g {f l} : b0a O (⟨d, none, .call f l⟩ :: r) K t h = @iop O (.call f l) t h ⟨fun v h' => b0a O r K (b0b t d v) h'⟩ := d0s
theorem d6c {f l} : b0a O (⟨d, some (g, b0), .call f l⟩ :: r) K t h = @b1c (t g) b0 ⟨@iop O (.call f l) (upd t g (B b0)) h ⟨fun v h' => b0a O r K (b0b (upd t g (B b0)) d v) h'⟩⟩ ⟨b0a O r K (b0b (upd t g (B (!b0))) d U) h⟩ ⟨b0a O r K (b0b t d U) h⟩ := d3x
theorem d5i {f l} : b0a O (⟨d, none, .callw f l⟩ :: r) K t h = @iop O (.callw f l) t h ⟨fun v h' => b0a O r K (b0b t d v) h'⟩ := d18
theorem d5h {f l} : b0a O (⟨d, none, .callv f l⟩ :: r) K t h = @iop O (.callv f l) t h ⟨fun v h' => b0a O r K (b0b t d v) h'⟩ := d0t
theorem d6d {f l} : b0a O (⟨d, some (g, b0), .callv f l⟩ :: r) K t h = @b1c (t g) b0 ⟨@iop O (.callv f l) (upd t g (B b0)) h ⟨fun v h' => b0a O r K (b0b (upd t g (B b0)) d v) h'⟩⟩ ⟨b0a O r K (b0b (upd t g (B (!b0))) d U) h⟩ ⟨b0a O r K (b0b t d U) h⟩ := d3y
theorem d7k {x} : @iop O (.mv x) t h ⟨k⟩ = @b2q (evT t x) ⟨fun v => k v h⟩ := g2k
theorem d7m {c a b} : @iop O (.pick c a b) t h ⟨k⟩ = @c1r (evT t c) ⟨@b2q (evT t a) ⟨fun v => k v h⟩⟩ ⟨@b2q (evT t b) ⟨fun v => k v h⟩⟩ := g2m
theorem d62 {x} : @iop O (.boxF x) t h ⟨k⟩ = @b4d (evT t x) ⟨fun cs => k (.fp cs 0) h⟩ := g2b
theorem d61 {x} : @iop O (.box x) t h ⟨k⟩ = @b4d (evT t x) ⟨fun cs => k (.rp h.nx 0 0) (h.new (cs.length, [cs]))⟩ := g2a
theorem d6y {zs} : @iop O (.alloc zs) t h ⟨k⟩ = k (.rp h.nx 0 0) (h.new (zs.length, [zs.map .v])) := g18
theorem d7f {agg n a} : @iop O (.load agg n a) t h ⟨k⟩ = @c1p agg n (evT t a) h ⟨fun v => k v h⟩ := g2i
theorem d7o {n a x} : @iop O (.store n a x) t h ⟨k⟩ = @c6y n (evT t a) (evT t x) h ⟨fun h' => k .dead h'⟩ := g2n
theorem d7l {x} : @iop O (.nilck x) t h ⟨k⟩ = @b8w (evT t x) h ⟨fun v => k v h⟩ := g2l
theorem d7b {o x} : @iop O (.fldA o x) t h ⟨k⟩ = @c1m o (evT t x) h ⟨fun v => k v h⟩ := g2f
theorem d7c {n x i} : @iop O (.ixA n x i) t h ⟨k⟩ = @iix n (evT t x) (evT t i) h ⟨fun v => k v h⟩ := g2g
theorem d60 {op e x y} : @iop O (.bin op e x y) t h ⟨k⟩ = @b1h op e (evT t x) (evT t y) ⟨fun v => k v h⟩ := g19
theorem d7p {op x} : @iop O (.un op x) t h ⟨k⟩ = @iun op (evT t x) ⟨fun v => k v h⟩ := g2o
theorem d7e {x} : @iop O (.len false x) t h ⟨k⟩ = @b4y (evT t x) ⟨fun n => k (I n) h⟩ := g2h
theorem d69 {x i} : @iop O (.ext x i) t h ⟨k⟩ = @c56 (evT t x) i ⟨fun v => k v h⟩ := g2e
theorem d7i {f a b} : @iop O (.mkfn f a b) t h ⟨k⟩ = k (.fn f (a.map (evT t)) (b.map (evT t))) h := g2j
theorem d65 {f l} : @iop O (.call f l) t h ⟨k⟩ = @c1k O f (l.map (evT t)) h ⟨k⟩ := g2c
theorem d67 {f l} : @iop O (.callw f l) t h ⟨k⟩ = @d53 O f (l.map (evT t)) h ⟨k⟩ := rfl
theorem d66 {f l} : @iop O (.callv f l) t h ⟨k⟩ = @d52 O (evT t f) (l.map (evT t)) h ⟨k⟩ := g2d
theorem c1s {c a b} {Q : XExit → Slots → Heap → Prop} : cw O (.cond c a b) Q t h = @c53 (evT t c) ⟨cw O a Q t h⟩ ⟨cw O b Q t h⟩ := d2c
end
section
variable {k : AV → Prop} {h : Heap} {p q q0 : Prop}
theorem d70 {x} : @b2q (.v x) ⟨k⟩ = k (.v x) := rfl
theorem d7s {x} : @b2q (.agg x) ⟨k⟩ = k (.agg x) := rfl
theorem d7z {x} : @b2q (.tup x) ⟨k⟩ = k (.tup x) := rfl
theorem d7w {a b} : @b2q (.fs a b) ⟨k⟩ = k (.fs a b) := rfl
theorem d7v {a b} : @b2q (.fp a b) ⟨k⟩ = k (.fp a b) := rfl
theorem d7u {a b c} : @b2q (.fn a b c) ⟨k⟩ = k (.fn a b c) := rfl
theorem d7y {a b c} : @b2q (.rs a b c) ⟨k⟩ = k (.rs a b c) := rfl
theorem d7x {a b c} : @b2q (.rp a b c) ⟨k⟩ = k (.rp a b c) := rfl
theorem d7t : @b2q .dead ⟨k⟩ = k .dead := rfl
theorem b1a (v : AV) : @b2q v ⟨k⟩ = k v := rfl
theorem b8p  : @ibr true ⟨p⟩ ⟨q⟩ = p := d0j
theorem b8o  : @ibr false ⟨p⟩ ⟨q⟩ = q := d0i
theorem b8q {b} : @c53 (.v (.bool b)) ⟨p⟩ ⟨q⟩ = @ibr b ⟨p⟩ ⟨q⟩ := d16
theorem c6e {y} : @b1c (.v (.bool y)) true ⟨p⟩ ⟨q⟩ ⟨q0⟩ = @ibr y ⟨p⟩ ⟨q⟩ := d4h
theorem c6d {y} : @b1c (.v (.bool y)) false ⟨p⟩ ⟨q⟩ ⟨q0⟩ = @ibr y ⟨q⟩ ⟨p⟩ := d4g
theorem c6f {b} : @b1c U b ⟨p⟩ ⟨q⟩ ⟨q0⟩ = q0 := rfl
theorem c6i {agg n cs off} : @c1p agg n (.fp cs off) h ⟨k⟩ = @b6x agg n cs off ⟨k⟩ := rfl
theorem c6j {agg n id i off} : @c1p agg n (.rp id i off) h ⟨k⟩ = @b8y (h.ob id) i ⟨fun _ _ cs => @b6x agg n cs off ⟨k⟩⟩ := rfl
theorem c6z {n id i off x} {k : Heap → Prop} : @c6y n (.rp id i off) x h ⟨k⟩ = @b8y (h.ob id) i ⟨fun sz es cs => b05 x = true ∧ (cellsOf x).length = n ∧ off + n ≤ cs.length ∧ k (h.upd id (some (sz, es.set i (cs.take off ++ cellsOf x ++ cs.drop (off + n)))))⟩ := rfl
theorem c51 {n cs off} : @b6x false n cs off ⟨k⟩ = @b5u cs off ⟨k⟩ := d1s
theorem c52 {n cs off} : @b6x true n cs off ⟨k⟩ = @b2l (off + n ≤ cs.length) ⟨k (.agg ((cs.drop off).take n))⟩ := d1t
theorem c6b {c cs} : @b5u (c :: cs) 0 ⟨k⟩ = k c := d4a
theorem c6c {c cs n} : @b5u (c :: cs) (n + 1) ⟨k⟩ = @b5u cs n ⟨k⟩ := d4b
theorem c6w {sz cs} {k : Nat → List (List AV) → List AV → Prop} : @b8y (some (sz, [cs])) 0 ⟨k⟩ = k sz [cs] cs := g3y
theorem c6s {sz es} {k : Nat → List (List AV) → Prop} : @iob (some (sz, es)) ⟨k⟩ = k sz es := g1v
theorem c55 {α β : Type} {f : α → β} {l : List α} {i : Int} {k : β → Prop} : @b8r β (l.map f) i ⟨k⟩ = @b8r α l i ⟨fun a => k (f a)⟩ := d3b
theorem c6v  : @c1r (.v (.bool true)) ⟨p⟩ ⟨q⟩ = p := rfl
theorem c6u  : @c1r (.v (.bool false)) ⟨p⟩ ⟨q⟩ = q := rfl
theorem c5u {cs} {k : List AV → Prop} : @b4d (.agg cs) ⟨k⟩ = k cs := d0c
theorem c5x {kd n} {k : List AV → Prop} : @b4d (.v (.int kd n)) ⟨k⟩ = k [.v (.int kd n)] := d0f
theorem c5v {b} {k : List AV → Prop} : @b4d (.v (.bool b)) ⟨k⟩ = k [.v (.bool b)] := d0d
theorem c5z {a b c} {k : List AV → Prop} : @b4d (.v (.slice a b c)) ⟨k⟩ = k [.v (.slice a b c)] := d0h
theorem c5w {sz es} {k : List AV → Prop} : @b4d (.fs sz es) ⟨k⟩ = k [.fs sz es] := d0e
theorem c5y {a b c} {k : List AV → Prop} : @b4d (.rs a b c) ⟨k⟩ = k [.rs a b c] := d0g
theorem c6p {cs off} : @b8w (.fp cs off) h ⟨k⟩ = k (.fp cs off) := rfl
theorem c6o {f a b} : @b8w (.fn f a b) h ⟨k⟩ = k (.fn f a b) := rfl
theorem c6q {id i off} : @b8w (.rp id i off) h ⟨k⟩ = @b2l ((h.ob id).isSome = true) ⟨k (.rp id i off)⟩ := rfl
theorem c59 {n cs off} : @c1m n (.fp cs off) h ⟨k⟩ = k (.fp cs (off + n)) := rfl
theorem c6a {n id i off} : @c1m n (.rp id i off) h ⟨k⟩ = @b2l ((h.ob id).isSome = true) ⟨k (.rp id i (off + n))⟩ := rfl
theorem c6g {n sz es kd j} : @iix n (.fs sz es) (.v (.int kd j)) h ⟨k⟩ = @b2l (sz = n) ⟨@b8r (List AV) es j ⟨fun cs => k (.fp cs 0)⟩⟩ := rfl
theorem c6h {n id lo len kd j} : @iix n (.rs id lo len) (.v (.int kd j)) h ⟨k⟩ = @iob (h.ob id) ⟨fun sz _ => @b2l (sz = n) ⟨@b2l (0 ≤ j) ⟨@b2l (j < (len : Int)) ⟨k (.rp id (lo + j.toNat) 0)⟩⟩⟩⟩ := rfl
theorem c1o {sz es} {k : Int → Prop} : @b4y (.fs sz es) ⟨k⟩ = k es.length := d76
theorem b8t {id lo len} {k : Int → Prop} : @b4y (.rs id lo len) ⟨k⟩ = k len := d78
theorem b6y {k : Int → Prop} : @b4y (.v (.slice none 0 0)) ⟨k⟩ = k 0 := d77
theorem c57 {vs i} : @c56 (.tup vs) i ⟨k⟩ = @b5u vs i ⟨k⟩ := rfl
theorem c61 {b : Bool} : @iun .not (B b) ⟨k⟩ = k (B (!b)) := g41
theorem c60 {kd a} : @iun .neg (.v (.int kd a)) ⟨k⟩ = k (.v (.int kd (kd.wrap (0 - a)))) := g40
theorem c44 {a : Prop} (ha : a) : @b2l a ⟨p⟩ = p := by simp [b2l, ha]
theorem c46 {e kd a b} : @b1h .add e (.v (.int kd a)) (.v (.int kd b)) ⟨k⟩ = k (.v (.int kd (kd.wrap (a + b)))) := c9z
theorem c5s {e kd a b} : @b1h .sub e (.v (.int kd a)) (.v (.int kd b)) ⟨k⟩ = k (.v (.int kd (kd.wrap (a - b)))) := c99
theorem c5i {e kd a b} : @b1h .mul e (.v (.int kd a)) (.v (.int kd b)) ⟨k⟩ = k (.v (.int kd (kd.wrap (a * b)))) := c97
theorem c5b {e kd} {a b : Int} : @b1h .eql e (.v (.int kd a)) (.v (.int kd b)) ⟨k⟩ = k (B (decide (a = b))) := c92
theorem c5j {e kd} {a b : Int} : @b1h .neq e (.v (.int kd a)) (.v (.int kd b)) ⟨k⟩ = k (B (decide (¬ a = b))) := c98
theorem c5h {e kd} {a b : Int} : @b1h .lss e (.v (.int kd a)) (.v (.int kd b)) ⟨k⟩ = k (B (decide (a < b))) := c96
theorem c5g {e kd} {a b : Int} : @b1h .leq e (.v (.int kd a)) (.v (.int kd b)) ⟨k⟩ = k (B (decide (a ≤ b))) := c95
theorem c5f {e kd} {a b : Int} : @b1h .gtr e (.v (.int kd a)) (.v (.int kd b)) ⟨k⟩ = k (B (decide (b < a))) := c94
theorem c5e {e kd} {a b : Int} : @b1h .geq e (.v (.int kd a)) (.v (.int kd b)) ⟨k⟩ = k (B (decide (b ≤ a))) := c93
theorem c48 {a b : Bool} : @b1h .eql .bool (B a) (B b) ⟨k⟩ = k (B (b5k a b)) := c90
theorem c49 {a b : Bool} : @b1h .neq .bool (B a) (B b) ⟨k⟩ = k (B (!(b5k a b))) := c91
theorem b0k {x : Bool} {p q : Prop} (h1 : x = true → p) (h2 : x = false → q) : @ibr x ⟨p⟩ ⟨q⟩ := ⟨h1, h2⟩
end
def b8x {α : Type} (o : Option α) [k : K1 α] : Prop := ∃ x, o = some x ∧ k.k x
theorem c6t {α : Type} {x : α} {k : α → Prop} : @b8x α (some x) ⟨k⟩ = k x := by simp [b8x]
section
variable {O : Orac} {d : Option Nat} {g : Nat} {b0 : Bool} {r : List XO} {K : Slots → Heap → Prop} {t : Slots} {h : Heap} {k : AV → Heap → Prop}
theorem d5f {zs ps} : b0a O (⟨d, none, .build zs ps⟩ :: r) K t h = @iop O (.build zs ps) t h ⟨fun v h' => b0a O r K (b0b t d v) h'⟩ := b1f rfl
theorem d6b {zs ps} : b0a O (⟨d, some (g, b0), .build zs ps⟩ :: r) K t h = @b1c (t g) b0 ⟨@iop O (.build zs ps) (upd t g (B b0)) h ⟨fun v h' => b0a O r K (b0b (upd t g (B b0)) d v) h'⟩⟩ ⟨b0a O r K (b0b (upd t g (B (!b0))) d U) h⟩ ⟨b0a O r K (b0b t d U) h⟩ := b1g rfl
theorem d64 {zs ps} : @iop O (.build zs ps) t h ⟨k⟩ = @b8x _ (b32 (ps.map fun p => (p.1, p.2.1, evT t p.2.2))) ⟨fun qs => @b2l ((qs.all fun p => decide (p.1 + p.2.length ≤ zs.length)) = true) ⟨k (.agg (place (zs.map .v) qs)) h⟩⟩ := by
  simp only [iop, op1, eff, b8x, b2l]
  apply propext; constructor
  · rintro ⟨r, h', he, hk⟩
    simp only [Option.bind_eq_some_iff] at he
    obtain ⟨qs, h1, he⟩ := he
    split at he
    · rename_i hc; cases he; exact ⟨qs, h1, hc, hk⟩
    · cases he
  · rintro ⟨qs, h1, h2, h3⟩
    exact ⟨_, _, by simp only [h1, Option.bind_some]; rw [if_pos h2], h3⟩
end
theorem g3a : b32 [] = some [] := rfl
theorem g29 {a n : Nat} {x : AV} {l} : b32 ((a, n, x) :: l) = if b05 x ∧ (cellsOf x).length = n then (b32 l).map ((a, cellsOf x) :: ·) else none := by
  unfold b32
  rw [List.mapM_cons]
  simp only []
  split
  · rename_i hc
    simp only [Option.bind_eq_bind, Option.bind_some, Option.pure_def]
    generalize (List.mapM (m := Option) _ l) = o
    cases o <;> rfl
  · rfl
theorem g12 {kd n} : b05 (.v (.int kd n)) = true := rfl
theorem g1y {b} : b05 (.v (.bool b)) = true := rfl
theorem g15 {a b c} : b05 (.v (.slice a b c)) = true := rfl
theorem g1x {cs} : b05 (.agg cs) = true := rfl
theorem g11 {a b} : b05 (.fs a b) = true := rfl
theorem g14 {a b c} : b05 (.rs a b c) = true := rfl
theorem d10 {x} : cellsOf (.v x) = [.v x] := rfl
theorem d1u {cs} : cellsOf (.agg cs) = cs := rfl
theorem d1x {a b} : cellsOf (.fs a b) = [.fs a b] := rfl
theorem d1z {a b c} : cellsOf (.rs a b c) = [.rs a b c] := rfl
theorem g3d {cs} : place cs [] = cs := rfl
theorem g3c {cs off ds r} : place cs ((off, ds) :: r) = place (cs.take off ++ ds ++ cs.drop (off + ds.length)) r := rfl
attribute [go_sem] d70 d7s d7z d7w d7v d7u d7y d7x d7t
attribute [go_sem ↓] c6t d5f d6b d64 d2b d5v d6p d5x d6r d5d d59 d5c d58 d49 d55 d5q d6k d5z d6t d5w d6q d5m d6h d5n d6i d5b d57 d50 d6u d5p d6j d5k d6f d5t d6n d5g d6c d5h d6d d7k d7m d62 d61 d6y d7f d7o d7l d7b d7c d60 d7p d7e d69 d7i d65 d66 d5i d67 c1s b8p b8o b8q c6e c6d c6f c6i c6j c6z c51 c52 c6b c6c c6w c6s c55 c6v c6u c5u c5x c5v c5z c5w c5y c6p c6o c6q c59 c6a c6g c6h c1o b8t b6y c57 c61 c60 c44 c46 c5s c5i c5b c5j c5h c5g c5f c5e c48 c49
attribute [go_sem] c6t g3a g29 g12 g1y g15 g1x g11 g14 d10 d1u d1x d1z g3d g3c List.map_cons List.map_nil List.take_zero List.take_succ_cons List.drop_zero List.drop_succ_cons List.nil_append List.cons_append List.length_cons List.length_nil List.all_cons List.all_nil Option.map_some Nat.reduceLeDiff Option.isSome_some decide_true Bool.and_true true_and and_true if_true if_false List.set_cons_zero List.take_nil List.drop_nil List.append_nil b8p b8o b8q c6e c6d c6f c6i c6j c6z c51 c52 c6b c6c c6w c6s c55 c6v c6u c5u c5x c5v c5z c5w c5y c6p c6o c6q c59 c6a c6g c6h c1o b8t b6y c57 c61 c60 c44 c46 c5s c5i c5b c5j c5h c5g c5f c5e c48 c49 Bool.not_true Bool.not_false Nat.reduceAdd Nat.reduceEqDiff not_false_eq_true
end Go.Nw
