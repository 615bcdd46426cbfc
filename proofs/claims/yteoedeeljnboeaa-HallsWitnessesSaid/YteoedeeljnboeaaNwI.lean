/- The rules, with what comes behind as instance-implicit arguments: there "simp" does not go. -/
import Derived.Test.YteoedeeljnboeaaNwRules
set_option linter.all false
set_option linter.unusedVariables false
set_option linter.unusedSimpArgs false
set_option linter.unusedSectionVars false
namespace Go.Nw
class Kp where p : Prop
class K1 (α : Type) where k : α → Prop
class K2 where k : AV → Heap → Prop
class Kr where k : Nat → List (List AV) → List AV → Prop
class Ko where k : Nat → List (List AV) → Prop
class Kh where k : Heap → Prop
def ibr (x : Bool) [p : Kp] [q : Kp] : Prop := br x p.p q.p
def d60 (x : AV) [p : Kp] [q : Kp] : Prop := c46 x p.p q.p
def b29 (x : AV) (b : Bool) [p : Kp] [q : Kp] [q0 : Kp] : Prop := b3m x b p.p q.p q0.p
def iop (O : Orac) (op : XOp) (t : Slots) (h : Heap) [k : K2] : Prop := op1 O op t h k.k
def d0o (agg : Bool) (n : Nat) (x : AV) (h : Heap) [k : K1 AV] : Prop := d1k agg n x h k.k
def d70 (n : Nat) (a x : AV) (h : Heap) [k : Kh] : Prop := d2q n a x h k.k
def c3f (agg : Bool) (n : Nat) (cs : List AV) (off : Nat) [k : K1 AV] : Prop := b5y agg n cs off k.k
def c3g (cs : List AV) (i : Nat) [k : K1 AV] : Prop := b5p cs i k.k
def c59 (o : Option Ob) (i : Nat) [k : Kr] : Prop := b72 o i k.k
def iob (o : Option Ob) [k : Ko] : Prop := obK o k.k
def c52 {α : Type} (l : List α) (i : Int) [k : K1 α] : Prop := b7c l i k.k
def d0q (c : AV) [p : Kp] [q : Kp] : Prop := c3x c p.p q.p
def b7t (x : AV) [k : K1 (List AV)] : Prop := b4i x k.k
def c57 (x : AV) (h : Heap) [k : K1 AV] : Prop := d1v x h k.k
def d0m (n : Nat) (x : AV) (h : Heap) [k : K1 AV] : Prop := c85 n x h k.k
def iix (n : Nat) (x i : AV) (h : Heap) [k : K1 AV] : Prop := d0r n x i h k.k
def b3k (op : BinOp) (e : EqK) (x y : AV) [k : K1 AV] : Prop := b2t op e x y k.k
def iun (op : UnOp) (x : AV) [k : K1 AV] : Prop := unK op x k.k
def c0s (x : AV) [k : K1 Int] : Prop := b60 x k.k
def d64 (x : AV) (i : Nat) [k : K1 AV] : Prop := c80 x i k.k
def b5f (v : AV) [k : K1 AV] : Prop := k.k v
def b48 (a : Prop) [p : Kp] : Prop := a ∧ p.p
def c50 (O : Orac) (f : String) (as : List AV) (h : Heap) [k : K2] : Prop := b7a O f as h k.k
def d6x (O : Orac) (f : String) (as : List AV) (h : Heap) [k : K2] : Prop := b7b O f as h k.k
def d6w (O : Orac) (f : AV) (as : List AV) (h : Heap) [k : K2] : Prop := ∃ n a b, callee f = some (n, a, b) ∧ b7a O n (a ++ as ++ b) h k.k
section
variable {O : Orac} {d : Option Nat} {g : Nat} {b0 : Bool} {r : List XO} {K : Slots → Heap → Prop} {t : Slots} {h : Heap} {k : AV → Heap → Prop}
theorem g82 {x} : b0g O (⟨d, none, .mv x⟩ :: r) K t h = @iop O (.mv x) t h ⟨fun v h' => b0g O r K (b0t t d v) h'⟩ := g36
theorem g9w {x} : b0g O (⟨d, some (g, b0), .mv x⟩ :: r) K t h = @b29 (t g) b0 ⟨@iop O (.mv x) (upd t g (B b0)) h ⟨fun v h' => b0g O r K (b0t (upd t g (B b0)) d v) h'⟩⟩ ⟨b0g O r K (b0t (upd t g (B (!b0))) d U) h⟩ ⟨b0g O r K (b0t t d U) h⟩ := g6t
theorem g84 {c a b} : b0g O (⟨d, none, .pick c a b⟩ :: r) K t h = @iop O (.pick c a b) t h ⟨fun v h' => b0g O r K (b0t t d v) h'⟩ := g38
theorem g9y {c a b} : b0g O (⟨d, some (g, b0), .pick c a b⟩ :: r) K t h = @b29 (t g) b0 ⟨@iop O (.pick c a b) (upd t g (B b0)) h ⟨fun v h' => b0g O r K (b0t (upd t g (B b0)) d v) h'⟩⟩ ⟨b0g O r K (b0t (upd t g (B (!b0))) d U) h⟩ ⟨b0g O r K (b0t t d U) h⟩ := g6v
theorem g8k {x} : b0g O (⟨d, none, .boxF x⟩ :: r) K t h = @iop O (.boxF x) t h ⟨fun v h' => b0g O r K (b0t t d v) h'⟩ := g3g
theorem g9g {x} : b0g O (⟨d, some (g, b0), .boxF x⟩ :: r) K t h = @b29 (t g) b0 ⟨@iop O (.boxF x) (upd t g (B b0)) h ⟨fun v h' => b0g O r K (b0t (upd t g (B b0)) d v) h'⟩⟩ ⟨b0g O r K (b0t (upd t g (B (!b0))) d U) h⟩ ⟨b0g O r K (b0t t d U) h⟩ := g6k
theorem g8j {x} : b0g O (⟨d, none, .box x⟩ :: r) K t h = @iop O (.box x) t h ⟨fun v h' => b0g O r K (b0t t d v) h'⟩ := g3f
theorem g9f {x} : b0g O (⟨d, some (g, b0), .box x⟩ :: r) K t h = @b29 (t g) b0 ⟨@iop O (.box x) (upd t g (B b0)) h ⟨fun v h' => b0g O r K (b0t (upd t g (B b0)) d v) h'⟩⟩ ⟨b0g O r K (b0t (upd t g (B (!b0))) d U) h⟩ ⟨b0g O r K (b0t t d U) h⟩ := g6j
theorem g8g {zs} : b0g O (⟨d, none, .alloc zs⟩ :: r) K t h = @iop O (.alloc zs) t h ⟨fun v h' => b0g O r K (b0t t d v) h'⟩ := g3d
theorem g9c {zs} : b0g O (⟨d, some (g, b0), .alloc zs⟩ :: r) K t h = @b29 (t g) b0 ⟨@iop O (.alloc zs) (upd t g (B b0)) h ⟨fun v h' => b0g O r K (b0t (upd t g (B b0)) d v) h'⟩⟩ ⟨b0g O r K (b0t (upd t g (B (!b0))) d U) h⟩ ⟨b0g O r K (b0t t d U) h⟩ := g6h
theorem g8x {agg n a} : b0g O (⟨d, none, .load agg n a⟩ :: r) K t h = @iop O (.load agg n a) t h ⟨fun v h' => b0g O r K (b0t t d v) h'⟩ := g34
theorem g9r {agg n a} : b0g O (⟨d, some (g, b0), .load agg n a⟩ :: r) K t h = @b29 (t g) b0 ⟨@iop O (.load agg n a) (upd t g (B b0)) h ⟨fun v h' => b0g O r K (b0t (upd t g (B b0)) d v) h'⟩⟩ ⟨b0g O r K (b0t (upd t g (B (!b0))) d U) h⟩ ⟨b0g O r K (b0t t d U) h⟩ := g6r
theorem g86 {n a x} : b0g O (⟨d, none, .store n a x⟩ :: r) K t h = @iop O (.store n a x) t h ⟨fun v h' => b0g O r K (b0t t d v) h'⟩ := g4k
theorem g90 {n a x} : b0g O (⟨d, some (g, b0), .store n a x⟩ :: r) K t h = @b29 (t g) b0 ⟨@iop O (.store n a x) (upd t g (B b0)) h ⟨fun v h' => b0g O r K (b0t (upd t g (B b0)) d v) h'⟩⟩ ⟨b0g O r K (b0t (upd t g (B (!b0))) d U) h⟩ ⟨b0g O r K (b0t t d U) h⟩ := g6w
theorem g83 {x} : b0g O (⟨d, none, .nilck x⟩ :: r) K t h = @iop O (.nilck x) t h ⟨fun v h' => b0g O r K (b0t t d v) h'⟩ := g37
theorem g9x {x} : b0g O (⟨d, some (g, b0), .nilck x⟩ :: r) K t h = @b29 (t g) b0 ⟨@iop O (.nilck x) (upd t g (B b0)) h ⟨fun v h' => b0g O r K (b0t (upd t g (B b0)) d v) h'⟩⟩ ⟨b0g O r K (b0t (upd t g (B (!b0))) d U) h⟩ ⟨b0g O r K (b0t t d U) h⟩ := g6u
theorem g8t {o x} : b0g O (⟨d, none, .fldA o x⟩ :: r) K t h = @iop O (.fldA o x) t h ⟨fun v h' => b0g O r K (b0t t d v) h'⟩ := g3k
theorem g9o {o x} : b0g O (⟨d, some (g, b0), .fldA o x⟩ :: r) K t h = @b29 (t g) b0 ⟨@iop O (.fldA o x) (upd t g (B b0)) h ⟨fun v h' => b0g O r K (b0t (upd t g (B b0)) d v) h'⟩⟩ ⟨b0g O r K (b0t (upd t g (B (!b0))) d U) h⟩ ⟨b0g O r K (b0t t d U) h⟩ := g6o
theorem g8u {n x i} : b0g O (⟨d, none, .ixA n x i⟩ :: r) K t h = @iop O (.ixA n x i) t h ⟨fun v h' => b0g O r K (b0t t d v) h'⟩ := g3w
theorem g9p {n x i} : b0g O (⟨d, some (g, b0), .ixA n x i⟩ :: r) K t h = @b29 (t g) b0 ⟨@iop O (.ixA n x i) (upd t g (B b0)) h ⟨fun v h' => b0g O r K (b0t (upd t g (B b0)) d v) h'⟩⟩ ⟨b0g O r K (b0t (upd t g (B (!b0))) d U) h⟩ ⟨b0g O r K (b0t t d U) h⟩ := g6p
theorem g8i {op e x y} : b0g O (⟨d, none, .bin op e x y⟩ :: r) K t h = @iop O (.bin op e x y) t h ⟨fun v h' => b0g O r K (b0t t d v) h'⟩ := g3e
theorem g9e {op e x y} : b0g O (⟨d, some (g, b0), .bin op e x y⟩ :: r) K t h = @b29 (t g) b0 ⟨@iop O (.bin op e x y) (upd t g (B b0)) h ⟨fun v h' => b0g O r K (b0t (upd t g (B b0)) d v) h'⟩⟩ ⟨b0g O r K (b0t (upd t g (B (!b0))) d U) h⟩ ⟨b0g O r K (b0t t d U) h⟩ := g6i
theorem g87 {op x} : b0g O (⟨d, none, .un op x⟩ :: r) K t h = @iop O (.un op x) t h ⟨fun v h' => b0g O r K (b0t t d v) h'⟩ := g4l
theorem g91 {op x} : b0g O (⟨d, some (g, b0), .un op x⟩ :: r) K t h = @b29 (t g) b0 ⟨@iop O (.un op x) (upd t g (B b0)) h ⟨fun v h' => b0g O r K (b0t (upd t g (B b0)) d v) h'⟩⟩ ⟨b0g O r K (b0t (upd t g (B (!b0))) d U) h⟩ ⟨b0g O r K (b0t t d U) h⟩ := g6x
theorem g8w {x} : b0g O (⟨d, none, .len false x⟩ :: r) K t h = @iop O (.len false x) t h ⟨fun v h' => b0g O r K (b0t t d v) h'⟩ := g33
theorem g9q {x} : b0g O (⟨d, some (g, b0), .len false x⟩ :: r) K t h = @b29 (t g) b0 ⟨@iop O (.len false x) (upd t g (B b0)) h ⟨fun v h' => b0g O r K (b0t (upd t g (B b0)) d v) h'⟩⟩ ⟨b0g O r K (b0t (upd t g (B (!b0))) d U) h⟩ ⟨b0g O r K (b0t t d U) h⟩ := g6q
theorem g8r {x i} : b0g O (⟨d, none, .ext x i⟩ :: r) K t h = @iop O (.ext x i) t h ⟨fun v h' => b0g O r K (b0t t d v) h'⟩ := g3j
theorem g9m {x i} : b0g O (⟨d, some (g, b0), .ext x i⟩ :: r) K t h = @b29 (t g) b0 ⟨@iop O (.ext x i) (upd t g (B b0)) h ⟨fun v h' => b0g O r K (b0t (upd t g (B b0)) d v) h'⟩⟩ ⟨b0g O r K (b0t (upd t g (B (!b0))) d U) h⟩ ⟨b0g O r K (b0t t d U) h⟩ := g6n
theorem g80 {f a b} : b0g O (⟨d, none, .mkfn f a b⟩ :: r) K t h = @iop O (.mkfn f a b) t h ⟨fun v h' => b0g O r K (b0t t d v) h'⟩ := g35
theorem g9u {f a b} : b0g O (⟨d, some (g, b0), .mkfn f a b⟩ :: r) K t h = @b29 (t g) b0 ⟨@iop O (.mkfn f a b) (upd t g (B b0)) h ⟨fun v h' => b0g O r K (b0t (upd t g (B b0)) d v) h'⟩⟩ ⟨b0g O r K (b0t (upd t g (B (!b0))) d U) h⟩ ⟨b0g O r K (b0t t d U) h⟩ := g6s
theorem g8n {f l} : b0g O (⟨d, none, .call f l⟩ :: r) K t h = @iop O (.call f l) t h ⟨fun v h' => b0g O r K (b0t t d v) h'⟩ := g3h
theorem g9j {f l} : b0g O (⟨d, some (g, b0), .call f l⟩ :: r) K t h = @b29 (t g) b0 ⟨@iop O (.call f l) (upd t g (B b0)) h ⟨fun v h' => b0g O r K (b0t (upd t g (B b0)) d v) h'⟩⟩ ⟨b0g O r K (b0t (upd t g (B (!b0))) d U) h⟩ ⟨b0g O r K (b0t t d U) h⟩ := g6l
theorem g8p {f l} : b0g O (⟨d, none, .callw f l⟩ :: r) K t h = @iop O (.callw f l) t h ⟨fun v h' => b0g O r K (b0t t d v) h'⟩ := g46
theorem g8o {f l} : b0g O (⟨d, none, .callv f l⟩ :: r) K t h = @iop O (.callv f l) t h ⟨fun v h' => b0g O r K (b0t t d v) h'⟩ := g3i
theorem g9k {f l} : b0g O (⟨d, some (g, b0), .callv f l⟩ :: r) K t h = @b29 (t g) b0 ⟨@iop O (.callv f l) (upd t g (B b0)) h ⟨fun v h' => b0g O r K (b0t (upd t g (B b0)) d v) h'⟩⟩ ⟨b0g O r K (b0t (upd t g (B (!b0))) d U) h⟩ ⟨b0g O r K (b0t t d U) h⟩ := g6m
theorem j0p {x} : @iop O (.mv x) t h ⟨k⟩ = @b5f (evT t x) ⟨fun v => k v h⟩ := j5x
theorem j0r {c a b} : @iop O (.pick c a b) t h ⟨k⟩ = @d0q (evT t c) ⟨@b5f (evT t a) ⟨fun v => k v h⟩⟩ ⟨@b5f (evT t b) ⟨fun v => k v h⟩⟩ := j5z
theorem g97 {x} : @iop O (.boxF x) t h ⟨k⟩ = @b7t (evT t x) ⟨fun cs => k (.fp cs 0) h⟩ := j5o
theorem g96 {x} : @iop O (.box x) t h ⟨k⟩ = @b7t (evT t x) ⟨fun cs => k (.rp h.nx 0 0) (h.new (cs.length, [cs]))⟩ := j5n
theorem g93 {zs} : @iop O (.alloc zs) t h ⟨k⟩ = k (.rp h.nx 0 0) (h.new (zs.length, [zs.map .v])) := j5l
theorem j0k {agg n a} : @iop O (.load agg n a) t h ⟨k⟩ = @d0o agg n (evT t a) h ⟨fun v => k v h⟩ := j5v
theorem j0t {n a x} : @iop O (.store n a x) t h ⟨k⟩ = @d70 n (evT t a) (evT t x) h ⟨fun h' => k .dead h'⟩ := j50
theorem j0q {x} : @iop O (.nilck x) t h ⟨k⟩ = @c57 (evT t x) h ⟨fun v => k v h⟩ := j5y
theorem j0g {o x} : @iop O (.fldA o x) t h ⟨k⟩ = @d0m o (evT t x) h ⟨fun v => k v h⟩ := j5s
theorem j0h {n x i} : @iop O (.ixA n x i) t h ⟨k⟩ = @iix n (evT t x) (evT t i) h ⟨fun v => k v h⟩ := j5t
theorem g95 {op e x y} : @iop O (.bin op e x y) t h ⟨k⟩ = @b3k op e (evT t x) (evT t y) ⟨fun v => k v h⟩ := j5m
theorem j0u {op x} : @iop O (.un op x) t h ⟨k⟩ = @iun op (evT t x) ⟨fun v => k v h⟩ := j51
theorem j0j {x} : @iop O (.len false x) t h ⟨k⟩ = @c0s (evT t x) ⟨fun n => k (I n) h⟩ := j5u
theorem j0e {x i} : @iop O (.ext x i) t h ⟨k⟩ = @d64 (evT t x) i ⟨fun v => k v h⟩ := j5r
theorem j0n {f a b} : @iop O (.mkfn f a b) t h ⟨k⟩ = k (.fn f (a.map (evT t)) (b.map (evT t))) h := j5w
theorem j0a {f l} : @iop O (.call f l) t h ⟨k⟩ = @c50 O f (l.map (evT t)) h ⟨k⟩ := j5p
theorem j0c {f l} : @iop O (.callw f l) t h ⟨k⟩ = @d6x O f (l.map (evT t)) h ⟨k⟩ := rfl
theorem j0b {f l} : @iop O (.callv f l) t h ⟨k⟩ = @d6w O (evT t f) (l.map (evT t)) h ⟨k⟩ := j5q
theorem j06 {c a b} {Q : XExit → Slots → Heap → Prop} : cw O (.cond c a b) Q t h = @d60 (evT t c) ⟨cw O a Q t h⟩ ⟨cw O b Q t h⟩ := g5c
end
section
variable {k : AV → Prop} {h : Heap} {p q q0 : Prop}
theorem j05 {x} : @b5f (.v x) ⟨k⟩ = k (.v x) := rfl
theorem j0x {x} : @b5f (.agg x) ⟨k⟩ = k (.agg x) := rfl
theorem j04 {x} : @b5f (.tup x) ⟨k⟩ = k (.tup x) := rfl
theorem j01 {a b} : @b5f (.fs a b) ⟨k⟩ = k (.fs a b) := rfl
theorem j00 {a b} : @b5f (.fp a b) ⟨k⟩ = k (.fp a b) := rfl
theorem j0z {a b c} : @b5f (.fn a b c) ⟨k⟩ = k (.fn a b c) := rfl
theorem j03 {a b c} : @b5f (.rs a b c) ⟨k⟩ = k (.rs a b c) := rfl
theorem j02 {a b c} : @b5f (.rp a b c) ⟨k⟩ = k (.rp a b c) := rfl
theorem j0y : @b5f .dead ⟨k⟩ = k .dead := rfl
theorem b0b (v : AV) : @b5f v ⟨k⟩ = k v := rfl
theorem d6u  : @ibr true ⟨p⟩ ⟨q⟩ = p := g25
theorem d6t  : @ibr false ⟨p⟩ ⟨q⟩ = q := g24
theorem d61 {b} : @d60 (.v (.bool b)) ⟨p⟩ ⟨q⟩ = @ibr b ⟨p⟩ ⟨q⟩ := g45
theorem d7c {y} : @b29 (.v (.bool y)) true ⟨p⟩ ⟨q⟩ ⟨q0⟩ = @ibr y ⟨p⟩ ⟨q⟩ := g66
theorem d7b {y} : @b29 (.v (.bool y)) false ⟨p⟩ ⟨q⟩ ⟨q0⟩ = @ibr y ⟨q⟩ ⟨p⟩ := g65
theorem d7d {b} : @b29 U b ⟨p⟩ ⟨q⟩ ⟨q0⟩ = q0 := rfl
theorem d7i {agg n cs off} : @d0o agg n (.fp cs off) h ⟨k⟩ = @c3f agg n cs off ⟨k⟩ := rfl
theorem d7j {agg n id i off} : @d0o agg n (.rp id i off) h ⟨k⟩ = @c59 (h.ob id) i ⟨fun _ _ cs => @c3f agg n cs off ⟨k⟩⟩ := rfl
theorem d71 {n id i off x} {k : Heap → Prop} : @d70 n (.rp id i off) x h ⟨k⟩ = @c59 (h.ob id) i ⟨fun sz es cs => b2u x = true ∧ (cellsOf x).length = n ∧ off + n ≤ cs.length ∧ k (h.upd id (some (sz, es.set i (cs.take off ++ cellsOf x ++ cs.drop (off + n)))))⟩ := rfl
theorem d6y {n cs off} : @c3f false n cs off ⟨k⟩ = @c3g cs off ⟨k⟩ := g4p
theorem d6z {n cs off} : @c3f true n cs off ⟨k⟩ = @b48 (off + n ≤ cs.length) ⟨k (.agg ((cs.drop off).take n))⟩ := g4q
theorem d69 {c cs} : @c3g (c :: cs) 0 ⟨k⟩ = k c := g60
theorem d7a {c cs n} : @c3g (c :: cs) (n + 1) ⟨k⟩ = @c3g cs n ⟨k⟩ := g61
theorem d7w {sz cs} {k : Nat → List (List AV) → List AV → Prop} : @c59 (some (sz, [cs])) 0 ⟨k⟩ = k sz [cs] cs := j7m
theorem d7s {sz es} {k : Nat → List (List AV) → Prop} : @iob (some (sz, es)) ⟨k⟩ = k sz es := j5a
theorem d63 {α β : Type} {f : α → β} {l : List α} {i : Int} {k : β → Prop} : @c52 β (l.map f) i ⟨k⟩ = @c52 α l i ⟨fun a => k (f a)⟩ := g5v
theorem d7v  : @d0q (.v (.bool true)) ⟨p⟩ ⟨q⟩ = p := rfl
theorem d7u  : @d0q (.v (.bool false)) ⟨p⟩ ⟨q⟩ = q := rfl
theorem d6n {cs} {k : List AV → Prop} : @b7t (.agg cs) ⟨k⟩ = k cs := g2y
theorem d6q {kd n} {k : List AV → Prop} : @b7t (.v (.int kd n)) ⟨k⟩ = k [.v (.int kd n)] := g21
theorem d6o {b} {k : List AV → Prop} : @b7t (.v (.bool b)) ⟨k⟩ = k [.v (.bool b)] := g2z
theorem d6s {a b c} {k : List AV → Prop} : @b7t (.v (.slice a b c)) ⟨k⟩ = k [.v (.slice a b c)] := g23
theorem d6p {sz es} {k : List AV → Prop} : @b7t (.fs sz es) ⟨k⟩ = k [.fs sz es] := g20
theorem d6r {a b c} {k : List AV → Prop} : @b7t (.rs a b c) ⟨k⟩ = k [.rs a b c] := g22
theorem d7q {cs off} : @c57 (.fp cs off) h ⟨k⟩ = k (.fp cs off) := rfl
theorem d7p {f a b} : @c57 (.fn f a b) h ⟨k⟩ = k (.fn f a b) := rfl
theorem d7r {id i off} : @c57 (.rp id i off) h ⟨k⟩ = @b48 ((h.ob id).isSome = true) ⟨k (.rp id i off)⟩ := rfl
theorem d67 {n cs off} : @d0m n (.fp cs off) h ⟨k⟩ = k (.fp cs (off + n)) := rfl
theorem d68 {n id i off} : @d0m n (.rp id i off) h ⟨k⟩ = @b48 ((h.ob id).isSome = true) ⟨k (.rp id i (off + n))⟩ := rfl
theorem d7f {n sz es kd j} : @iix n (.fs sz es) (.v (.int kd j)) h ⟨k⟩ = @b48 (sz = n) ⟨@c52 (List AV) es j ⟨fun cs => k (.fp cs 0)⟩⟩ := rfl
theorem d7g {n id lo len kd j} : @iix n (.rs id lo len) (.v (.int kd j)) h ⟨k⟩ = @iob (h.ob id) ⟨fun sz _ => @b48 (sz = n) ⟨@b48 (0 ≤ j) ⟨@b48 (j < (len : Int)) ⟨k (.rp id (lo + j.toNat) 0)⟩⟩⟩⟩ := rfl
theorem d7h {sz es} {k : Int → Prop} : @c0s (.fs sz es) ⟨k⟩ = k es.length := j1d
theorem c54 {id lo len} {k : Int → Prop} : @c0s (.rs id lo len) ⟨k⟩ = k len := j1f
theorem c53 {k : Int → Prop} : @c0s (.v (.slice none 0 0)) ⟨k⟩ = k 0 := j1e
theorem d65 {vs i} : @d64 (.tup vs) i ⟨k⟩ = @c3g vs i ⟨k⟩ := rfl
theorem d73 {b : Bool} : @iun .not (B b) ⟨k⟩ = k (B (!b)) := j8y
theorem d72 {kd a} : @iun .neg (.v (.int kd a)) ⟨k⟩ = k (.v (.int kd (kd.wrap (0 - a)))) := j8x
theorem d5y {a : Prop} (ha : a) : @b48 a ⟨p⟩ = p := by simp [b48, ha]
theorem d50 {e kd a b} : @b3k .add e (.v (.int kd a)) (.v (.int kd b)) ⟨k⟩ = k (.v (.int kd (kd.wrap (a + b)))) := g2k
theorem d6l {e kd a b} : @b3k .sub e (.v (.int kd a)) (.v (.int kd b)) ⟨k⟩ = k (.v (.int kd (kd.wrap (a - b)))) := g2u
theorem d6c {e kd a b} : @b3k .mul e (.v (.int kd a)) (.v (.int kd b)) ⟨k⟩ = k (.v (.int kd (kd.wrap (a * b)))) := g2s
theorem d55 {e kd} {a b : Int} : @b3k .eql e (.v (.int kd a)) (.v (.int kd b)) ⟨k⟩ = k (B (decide (a = b))) := g2n
theorem d6d {e kd} {a b : Int} : @b3k .neq e (.v (.int kd a)) (.v (.int kd b)) ⟨k⟩ = k (B (decide (¬ a = b))) := g2t
theorem d6b {e kd} {a b : Int} : @b3k .lss e (.v (.int kd a)) (.v (.int kd b)) ⟨k⟩ = k (B (decide (a < b))) := g2r
theorem d6a {e kd} {a b : Int} : @b3k .leq e (.v (.int kd a)) (.v (.int kd b)) ⟨k⟩ = k (B (decide (a ≤ b))) := g2q
theorem d59 {e kd} {a b : Int} : @b3k .gtr e (.v (.int kd a)) (.v (.int kd b)) ⟨k⟩ = k (B (decide (b < a))) := g2p
theorem d58 {e kd} {a b : Int} : @b3k .geq e (.v (.int kd a)) (.v (.int kd b)) ⟨k⟩ = k (B (decide (b ≤ a))) := g2o
theorem d52 {a b : Bool} : @b3k .eql .bool (B a) (B b) ⟨k⟩ = k (B (b9y a b)) := g2l
theorem d53 {a b : Bool} : @b3k .neq .bool (B a) (B b) ⟨k⟩ = k (B (!(b9y a b))) := g2m
theorem b0x {x : Bool} {p q : Prop} (h1 : x = true → p) (h2 : x = false → q) : @ibr x ⟨p⟩ ⟨q⟩ := ⟨h1, h2⟩
end
def c58 {α : Type} (o : Option α) [k : K1 α] : Prop := ∃ x, o = some x ∧ k.k x
theorem d7t {α : Type} {x : α} {k : α → Prop} : @c58 α (some x) ⟨k⟩ = k x := by simp [c58]
section
variable {O : Orac} {d : Option Nat} {g : Nat} {b0 : Bool} {r : List XO} {K : Slots → Heap → Prop} {t : Slots} {h : Heap} {k : AV → Heap → Prop}
theorem g8m {zs ps} : b0g O (⟨d, none, .build zs ps⟩ :: r) K t h = @iop O (.build zs ps) t h ⟨fun v h' => b0g O r K (b0t t d v) h'⟩ := b3d rfl
theorem g9i {zs ps} : b0g O (⟨d, some (g, b0), .build zs ps⟩ :: r) K t h = @b29 (t g) b0 ⟨@iop O (.build zs ps) (upd t g (B b0)) h ⟨fun v h' => b0g O r K (b0t (upd t g (B b0)) d v) h'⟩⟩ ⟨b0g O r K (b0t (upd t g (B (!b0))) d U) h⟩ ⟨b0g O r K (b0t t d U) h⟩ := b3e rfl
theorem g99 {zs ps} : @iop O (.build zs ps) t h ⟨k⟩ = @c58 _ (b7x (ps.map fun p => (p.1, p.2.1, evT t p.2.2))) ⟨fun qs => @b48 ((qs.all fun p => decide (p.1 + p.2.length ≤ zs.length)) = true) ⟨k (.agg (place (zs.map .v) qs)) h⟩⟩ := by
  simp only [iop, op1, eff, c58, b48]
  apply propext; constructor
  · rintro ⟨r, h', he, hk⟩
    simp only [Option.bind_eq_some_iff] at he
    obtain ⟨qs, h1, he⟩ := he
    split at he
    · rename_i hc; cases he; exact ⟨qs, h1, hc, hk⟩
    · cases he
  · rintro ⟨qs, h1, h2, h3⟩
    exact ⟨_, _, by simp only [h1, Option.bind_some]; rw [if_pos h2], h3⟩
end
theorem j6o : b7x [] = some [] := rfl
theorem j6n {a n : Nat} {x : AV} {l} : b7x ((a, n, x) :: l) = if b2u x ∧ (cellsOf x).length = n then (b7x l).map ((a, cellsOf x) :: ·) else none := by
  unfold b7x
  rw [List.mapM_cons]
  simp only []
  split
  · rename_i hc
    simp only [Option.bind_eq_bind, Option.bind_some, Option.pure_def]
    generalize (List.mapM (m := Option) _ l) = o
    cases o <;> rfl
  · rfl
theorem j5g {kd n} : b2u (.v (.int kd n)) = true := rfl
theorem j5c {b} : b2u (.v (.bool b)) = true := rfl
theorem j5j {a b c} : b2u (.v (.slice a b c)) = true := rfl
theorem j5b {cs} : b2u (.agg cs) = true := rfl
theorem j5f {a b} : b2u (.fs a b) = true := rfl
theorem j5i {a b c} : b2u (.rs a b c) = true := rfl
theorem g4x {x} : cellsOf (.v x) = [.v x] := rfl
theorem g4r {cs} : cellsOf (.agg cs) = cs := rfl
theorem g4u {a b} : cellsOf (.fs a b) = [.fs a b] := rfl
theorem g4w {a b c} : cellsOf (.rs a b c) = [.rs a b c] := rfl
theorem j6y {cs} : place cs [] = cs := rfl
theorem j6x {cs off ds r} : place cs ((off, ds) :: r) = place (cs.take off ++ ds ++ cs.drop (off + ds.length)) r := rfl
attribute [go_sem] j05 j0x j04 j01 j00 j0z j03 j02 j0y
attribute [go_sem ↓] d7t g8m g9i g99 g48 g82 g9w g84 g9y g8k g9g g8j g9f g8g g9c g8x g9r g86 g90 g83 g9x g8t g9o g8u g9p g8i g9e g87 g91 g8w g9q g8r g9m g80 g9u g8n g9j g8o g9k j0p j0r g97 g96 g93 j0k j0t j0q j0g j0h g95 j0u j0j j0e j0n j0a j0b g8p j0c j06 d6u d6t d61 d7c d7b d7d d7i d7j d71 d6y d6z d69 d7a d7w d7s d63 d7v d7u d6n d6q d6o d6s d6p d6r d7q d7p d7r d67 d68 d7f d7g d7h c54 c53 d65 d73 d72 d5y d50 d6l d6c d55 d6d d6b d6a d59 d58 d52 d53
attribute [go_sem] d7t j6o j6n j5g j5c j5j j5b j5f j5i g4x g4r g4u g4w j6y j6x List.map_cons List.map_nil List.take_zero List.take_succ_cons List.drop_zero List.drop_succ_cons List.nil_append List.cons_append List.length_cons List.length_nil List.all_cons List.all_nil Option.map_some Nat.reduceLeDiff Option.isSome_some decide_true Bool.and_true true_and and_true if_true if_false List.set_cons_zero List.take_nil List.drop_nil List.append_nil d6u d6t d61 d7c d7b d7d d7i d7j d71 d6y d6z d69 d7a d7w d7s d63 d7v d7u d6n d6q d6o d6s d6p d6r d7q d7p d7r d67 d68 d7f d7g d7h c54 c53 d65 d73 d72 d5y d50 d6l d6c d55 d6d d6b d6a d59 d58 d52 d53 Bool.not_true Bool.not_false Nat.reduceAdd Nat.reduceEqDiff not_false_eq_true
end Go.Nw
