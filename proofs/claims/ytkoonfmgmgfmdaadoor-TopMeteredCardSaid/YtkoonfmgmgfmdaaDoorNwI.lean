/- The rules, with what comes behind as instance-implicit arguments: there "simp" does not go. -/
import Derived.Test.YtkoonfmgmgfmdaaDoorNwRules
set_option linter.all false
set_option linter.unusedVariables false
set_option linter.unusedSimpArgs false
set_option linter.unusedSectionVars false
namespace Go.Nw
class Kp where p : Prop
class K1 (α : Type) where k : α → Prop
class K2 where k : AV → Heap → Prop
class Kr where k : Nat → List (List AV) → List AV → Prop
class Ko where k : Nat → List (List AV) → Prop
class Kh where k : Heap → Prop
def ibr (x : Bool) [p : Kp] [q : Kp] : Prop := br x p.p q.p
def c8k (x : AV) [p : Kp] [q : Kp] : Prop := b89 x p.p q.p
def b1k (x : AV) (b : Bool) [p : Kp] [q : Kp] [q0 : Kp] : Prop := b15 x b p.p q.p q0.p
def iop (O : Orac) (op : XOp) (t : Slots) (h : Heap) [k : K2] : Prop := op1 O op t h k.k
def c3c (agg : Bool) (n : Nat) (x : AV) (h : Heap) [k : K1 AV] : Prop := c4a agg n x h k.k
def c9g (n : Nat) (a x : AV) (h : Heap) [k : Kh] : Prop := c5c n a x h k.k
def b7r (agg : Bool) (n : Nat) (cs : List AV) (off : Nat) [k : K1 AV] : Prop := b3r agg n cs off k.k
def b6b (cs : List AV) (i : Nat) [k : K1 AV] : Prop := b24 cs i k.k
def b93 (o : Option Ob) (i : Nat) [k : Kr] : Prop := b40 o i k.k
def iob (o : Option Ob) [k : Ko] : Prop := obK o k.k
def b9v {α : Type} (l : List α) (i : Int) [k : K1 α] : Prop := b4j l i k.k
def c3e (c : AV) [p : Kp] [q : Kp] : Prop := b78 c p.p q.p
def b4s (x : AV) [k : K1 (List AV)] : Prop := b2r x k.k
def b91 (x : AV) (h : Heap) [k : K1 AV] : Prop := c4p x h k.k
def c3a (n : Nat) (x : AV) (h : Heap) [k : K1 AV] : Prop := c23 n x h k.k
def iix (n : Nat) (x i : AV) (h : Heap) [k : K1 AV] : Prop := c3g n x i h k.k
def b1q (op : BinOp) (e : EqK) (x y : AV) [k : K1 AV] : Prop := b1b op e x y k.k
def iun (op : UnOp) (x : AV) [k : K1 AV] : Prop := unK op x k.k
def b6c (x : AV) [k : K1 Int] : Prop := b4a x k.k
def c8n (x : AV) (i : Nat) [k : K1 AV] : Prop := c2q x i k.k
def b3d (v : AV) [k : K1 AV] : Prop := k.k v
def b25 (a : Prop) [p : Kp] : Prop := a ∧ p.p
def c8g (O : Orac) (f : String) (as : List AV) (h : Heap) [k : K2] : Prop := b4i O f as h k.k
def d96 (O : Orac) (f : String) (as : List AV) (h : Heap) [k : K2] : Prop := c18 O f as h k.k
def c8h (O : Orac) (f : AV) (as : List AV) (h : Heap) [k : K2] : Prop := ∃ n a b, callee f = some (n, a, b) ∧ b4i O n (a ++ as ++ b) h k.k
section
variable {O : Orac} {d : Option Nat} {g : Nat} {b0 : Bool} {r : List XO} {K : Slots → Heap → Prop} {t : Slots} {h : Heap} {k : AV → Heap → Prop}
theorem d9z {x} : b0c O (⟨d, none, .mv x⟩ :: r) K t h = @iop O (.mv x) t h ⟨fun v h' => b0c O r K (b0e t d v) h'⟩ := d4d
theorem g0u {x} : b0c O (⟨d, some (g, b0), .mv x⟩ :: r) K t h = @b1k (t g) b0 ⟨@iop O (.mv x) (upd t g (B b0)) h ⟨fun v h' => b0c O r K (b0e (upd t g (B b0)) d v) h'⟩⟩ ⟨b0c O r K (b0e (upd t g (B (!b0))) d U) h⟩ ⟨b0c O r K (b0e t d U) h⟩ := d7p
theorem d91 {c a b} : b0c O (⟨d, none, .pick c a b⟩ :: r) K t h = @iop O (.pick c a b) t h ⟨fun v h' => b0c O r K (b0e t d v) h'⟩ := d4j
theorem g0w {c a b} : b0c O (⟨d, some (g, b0), .pick c a b⟩ :: r) K t h = @b1k (t g) b0 ⟨@iop O (.pick c a b) (upd t g (B b0)) h ⟨fun v h' => b0c O r K (b0e (upd t g (B b0)) d v) h'⟩⟩ ⟨b0c O r K (b0e (upd t g (B (!b0))) d U) h⟩ ⟨b0c O r K (b0e t d U) h⟩ := d7r
theorem d9h {x} : b0c O (⟨d, none, .boxF x⟩ :: r) K t h = @iop O (.boxF x) t h ⟨fun v h' => b0c O r K (b0e t d v) h'⟩ := d3k
theorem g0e {x} : b0c O (⟨d, some (g, b0), .boxF x⟩ :: r) K t h = @b1k (t g) b0 ⟨@iop O (.boxF x) (upd t g (B b0)) h ⟨fun v h' => b0c O r K (b0e (upd t g (B b0)) d v) h'⟩⟩ ⟨b0c O r K (b0e (upd t g (B (!b0))) d U) h⟩ ⟨b0c O r K (b0e t d U) h⟩ := d7g
theorem d9g {x} : b0c O (⟨d, none, .box x⟩ :: r) K t h = @iop O (.box x) t h ⟨fun v h' => b0c O r K (b0e t d v) h'⟩ := d3j
theorem g0d {x} : b0c O (⟨d, some (g, b0), .box x⟩ :: r) K t h = @b1k (t g) b0 ⟨@iop O (.box x) (upd t g (B b0)) h ⟨fun v h' => b0c O r K (b0e (upd t g (B b0)) d v) h'⟩⟩ ⟨b0c O r K (b0e (upd t g (B (!b0))) d U) h⟩ ⟨b0c O r K (b0e t d U) h⟩ := d7f
theorem d9d {zs} : b0c O (⟨d, none, .alloc zs⟩ :: r) K t h = @iop O (.alloc zs) t h ⟨fun v h' => b0c O r K (b0e t d v) h'⟩ := d3h
theorem g0a {zs} : b0c O (⟨d, some (g, b0), .alloc zs⟩ :: r) K t h = @b1k (t g) b0 ⟨@iop O (.alloc zs) (upd t g (B b0)) h ⟨fun v h' => b0c O r K (b0e (upd t g (B b0)) d v) h'⟩⟩ ⟨b0c O r K (b0e (upd t g (B (!b0))) d U) h⟩ ⟨b0c O r K (b0e t d U) h⟩ := d7d
theorem d9u {agg n a} : b0c O (⟨d, none, .load agg n a⟩ :: r) K t h = @iop O (.load agg n a) t h ⟨fun v h' => b0c O r K (b0e t d v) h'⟩ := d37
theorem g0p {agg n a} : b0c O (⟨d, some (g, b0), .load agg n a⟩ :: r) K t h = @b1k (t g) b0 ⟨@iop O (.load agg n a) (upd t g (B b0)) h ⟨fun v h' => b0c O r K (b0e (upd t g (B b0)) d v) h'⟩⟩ ⟨b0c O r K (b0e (upd t g (B (!b0))) d U) h⟩ ⟨b0c O r K (b0e t d U) h⟩ := d7n
theorem d93 {n a x} : b0c O (⟨d, none, .store n a x⟩ :: r) K t h = @iop O (.store n a x) t h ⟨fun v h' => b0c O r K (b0e t d v) h'⟩ := d4v
theorem g0y {n a x} : b0c O (⟨d, some (g, b0), .store n a x⟩ :: r) K t h = @b1k (t g) b0 ⟨@iop O (.store n a x) (upd t g (B b0)) h ⟨fun v h' => b0c O r K (b0e (upd t g (B b0)) d v) h'⟩⟩ ⟨b0c O r K (b0e (upd t g (B (!b0))) d U) h⟩ ⟨b0c O r K (b0e t d U) h⟩ := d7s
theorem d90 {x} : b0c O (⟨d, none, .nilck x⟩ :: r) K t h = @iop O (.nilck x) t h ⟨fun v h' => b0c O r K (b0e t d v) h'⟩ := d4i
theorem g0v {x} : b0c O (⟨d, some (g, b0), .nilck x⟩ :: r) K t h = @b1k (t g) b0 ⟨@iop O (.nilck x) (upd t g (B b0)) h ⟨fun v h' => b0c O r K (b0e (upd t g (B b0)) d v) h'⟩⟩ ⟨b0c O r K (b0e (upd t g (B (!b0))) d U) h⟩ ⟨b0c O r K (b0e t d U) h⟩ := d7q
theorem d9q {o x} : b0c O (⟨d, none, .fldA o x⟩ :: r) K t h = @iop O (.fldA o x) t h ⟨fun v h' => b0c O r K (b0e t d v) h'⟩ := d32
theorem g0m {o x} : b0c O (⟨d, some (g, b0), .fldA o x⟩ :: r) K t h = @b1k (t g) b0 ⟨@iop O (.fldA o x) (upd t g (B b0)) h ⟨fun v h' => b0c O r K (b0e (upd t g (B b0)) d v) h'⟩⟩ ⟨b0c O r K (b0e (upd t g (B (!b0))) d U) h⟩ ⟨b0c O r K (b0e t d U) h⟩ := d7k
theorem d9r {n x i} : b0c O (⟨d, none, .ixA n x i⟩ :: r) K t h = @iop O (.ixA n x i) t h ⟨fun v h' => b0c O r K (b0e t d v) h'⟩ := d33
theorem g0n {n x i} : b0c O (⟨d, some (g, b0), .ixA n x i⟩ :: r) K t h = @b1k (t g) b0 ⟨@iop O (.ixA n x i) (upd t g (B b0)) h ⟨fun v h' => b0c O r K (b0e (upd t g (B b0)) d v) h'⟩⟩ ⟨b0c O r K (b0e (upd t g (B (!b0))) d U) h⟩ ⟨b0c O r K (b0e t d U) h⟩ := d7l
theorem d9f {op e x y} : b0c O (⟨d, none, .bin op e x y⟩ :: r) K t h = @iop O (.bin op e x y) t h ⟨fun v h' => b0c O r K (b0e t d v) h'⟩ := d3i
theorem g0c {op e x y} : b0c O (⟨d, some (g, b0), .bin op e x y⟩ :: r) K t h = @b1k (t g) b0 ⟨@iop O (.bin op e x y) (upd t g (B b0)) h ⟨fun v h' => b0c O r K (b0e (upd t g (B b0)) d v) h'⟩⟩ ⟨b0c O r K (b0e (upd t g (B (!b0))) d U) h⟩ ⟨b0c O r K (b0e t d U) h⟩ := d7e
theorem d94 {op x} : b0c O (⟨d, none, .un op x⟩ :: r) K t h = @iop O (.un op x) t h ⟨fun v h' => b0c O r K (b0e t d v) h'⟩ := d4w
theorem g0z {op x} : b0c O (⟨d, some (g, b0), .un op x⟩ :: r) K t h = @b1k (t g) b0 ⟨@iop O (.un op x) (upd t g (B b0)) h ⟨fun v h' => b0c O r K (b0e (upd t g (B b0)) d v) h'⟩⟩ ⟨b0c O r K (b0e (upd t g (B (!b0))) d U) h⟩ ⟨b0c O r K (b0e t d U) h⟩ := d7t
theorem d9t {x} : b0c O (⟨d, none, .len false x⟩ :: r) K t h = @iop O (.len false x) t h ⟨fun v h' => b0c O r K (b0e t d v) h'⟩ := d36
theorem g0o {x} : b0c O (⟨d, some (g, b0), .len false x⟩ :: r) K t h = @b1k (t g) b0 ⟨@iop O (.len false x) (upd t g (B b0)) h ⟨fun v h' => b0c O r K (b0e (upd t g (B b0)) d v) h'⟩⟩ ⟨b0c O r K (b0e (upd t g (B (!b0))) d U) h⟩ ⟨b0c O r K (b0e t d U) h⟩ := d7m
theorem d9o {x i} : b0c O (⟨d, none, .ext x i⟩ :: r) K t h = @iop O (.ext x i) t h ⟨fun v h' => b0c O r K (b0e t d v) h'⟩ := d3x
theorem g0k {x i} : b0c O (⟨d, some (g, b0), .ext x i⟩ :: r) K t h = @b1k (t g) b0 ⟨@iop O (.ext x i) (upd t g (B b0)) h ⟨fun v h' => b0c O r K (b0e (upd t g (B b0)) d v) h'⟩⟩ ⟨b0c O r K (b0e (upd t g (B (!b0))) d U) h⟩ ⟨b0c O r K (b0e t d U) h⟩ := d7j
theorem d9x {f a b} : b0c O (⟨d, none, .mkfn f a b⟩ :: r) K t h = @iop O (.mkfn f a b) t h ⟨fun v h' => b0c O r K (b0e t d v) h'⟩ := d4c
theorem g0s {f a b} : b0c O (⟨d, some (g, b0), .mkfn f a b⟩ :: r) K t h = @b1k (t g) b0 ⟨@iop O (.mkfn f a b) (upd t g (B b0)) h ⟨fun v h' => b0c O r K (b0e (upd t g (B b0)) d v) h'⟩⟩ ⟨b0c O r K (b0e (upd t g (B (!b0))) d U) h⟩ ⟨b0c O r K (b0e t d U) h⟩ := d7o
theorem d9k {f l} : b0c O (⟨d, none, .call f l⟩ :: r) K t h = @iop O (.call f l) t h ⟨fun v h' => b0c O r K (b0e t d v) h'⟩ := d3l
theorem g0h {f l} : b0c O (⟨d, some (g, b0), .call f l⟩ :: r) K t h = @b1k (t g) b0 ⟨@iop O (.call f l) (upd t g (B b0)) h ⟨fun v h' => b0c O r K (b0e (upd t g (B b0)) d v) h'⟩⟩ ⟨b0c O r K (b0e (upd t g (B (!b0))) d U) h⟩ ⟨b0c O r K (b0e t d U) h⟩ := d7h
theorem d9m {f l} : b0c O (⟨d, none, .callw f l⟩ :: r) K t h = @iop O (.callw f l) t h ⟨fun v h' => b0c O r K (b0e t d v) h'⟩ := d5i
theorem d9l {f l} : b0c O (⟨d, none, .callv f l⟩ :: r) K t h = @iop O (.callv f l) t h ⟨fun v h' => b0c O r K (b0e t d v) h'⟩ := d3m
theorem g0i {f l} : b0c O (⟨d, some (g, b0), .callv f l⟩ :: r) K t h = @b1k (t g) b0 ⟨@iop O (.callv f l) (upd t g (B b0)) h ⟨fun v h' => b0c O r K (b0e (upd t g (B b0)) d v) h'⟩⟩ ⟨b0c O r K (b0e (upd t g (B (!b0))) d U) h⟩ ⟨b0c O r K (b0e t d U) h⟩ := d7i
theorem g1p {x} : @iop O (.mv x) t h ⟨k⟩ = @b3d (evT t x) ⟨fun v => k v h⟩ := g6x
theorem g1r {c a b} : @iop O (.pick c a b) t h ⟨k⟩ = @c3e (evT t c) ⟨@b3d (evT t a) ⟨fun v => k v h⟩⟩ ⟨@b3d (evT t b) ⟨fun v => k v h⟩⟩ := g6z
theorem g07 {x} : @iop O (.boxF x) t h ⟨k⟩ = @b4s (evT t x) ⟨fun cs => k (.fp cs 0) h⟩ := g6o
theorem g06 {x} : @iop O (.box x) t h ⟨k⟩ = @b4s (evT t x) ⟨fun cs => k (.rp h.nx 0 0) (h.new (cs.length, [cs]))⟩ := g6n
theorem g03 {zs} : @iop O (.alloc zs) t h ⟨k⟩ = k (.rp h.nx 0 0) (h.new (zs.length, [zs.map .v])) := g6l
theorem g1k {agg n a} : @iop O (.load agg n a) t h ⟨k⟩ = @c3c agg n (evT t a) h ⟨fun v => k v h⟩ := g6v
theorem g1t {n a x} : @iop O (.store n a x) t h ⟨k⟩ = @c9g n (evT t a) (evT t x) h ⟨fun h' => k .dead h'⟩ := g60
theorem g1q {x} : @iop O (.nilck x) t h ⟨k⟩ = @b91 (evT t x) h ⟨fun v => k v h⟩ := g6y
theorem g1g {o x} : @iop O (.fldA o x) t h ⟨k⟩ = @c3a o (evT t x) h ⟨fun v => k v h⟩ := g6s
theorem g1h {n x i} : @iop O (.ixA n x i) t h ⟨k⟩ = @iix n (evT t x) (evT t i) h ⟨fun v => k v h⟩ := g6t
theorem g05 {op e x y} : @iop O (.bin op e x y) t h ⟨k⟩ = @b1q op e (evT t x) (evT t y) ⟨fun v => k v h⟩ := g6m
theorem g1u {op x} : @iop O (.un op x) t h ⟨k⟩ = @iun op (evT t x) ⟨fun v => k v h⟩ := g61
theorem g1j {x} : @iop O (.len false x) t h ⟨k⟩ = @b6c (evT t x) ⟨fun n => k (I n) h⟩ := g6u
theorem g1e {x i} : @iop O (.ext x i) t h ⟨k⟩ = @c8n (evT t x) i ⟨fun v => k v h⟩ := g6r
theorem g1n {f a b} : @iop O (.mkfn f a b) t h ⟨k⟩ = k (.fn f (a.map (evT t)) (b.map (evT t))) h := g6w
theorem g1a {f l} : @iop O (.call f l) t h ⟨k⟩ = @c8g O f (l.map (evT t)) h ⟨k⟩ := g6p
theorem g1c {f l} : @iop O (.callw f l) t h ⟨k⟩ = @d96 O f (l.map (evT t)) h ⟨k⟩ := rfl
theorem g1b {f l} : @iop O (.callv f l) t h ⟨k⟩ = @c8h O (evT t f) (l.map (evT t)) h ⟨k⟩ := g6q
theorem c3f {c a b} {Q : XExit → Slots → Heap → Prop} : cw O (.cond c a b) Q t h = @c8k (evT t c) ⟨cw O a Q t h⟩ ⟨cw O b Q t h⟩ := d5m
end
section
variable {k : AV → Prop} {h : Heap} {p q q0 : Prop}
theorem g14 {x} : @b3d (.v x) ⟨k⟩ = k (.v x) := rfl
theorem g1w {x} : @b3d (.agg x) ⟨k⟩ = k (.agg x) := rfl
theorem g13 {x} : @b3d (.tup x) ⟨k⟩ = k (.tup x) := rfl
theorem g10 {a b} : @b3d (.fs a b) ⟨k⟩ = k (.fs a b) := rfl
theorem g1z {a b} : @b3d (.fp a b) ⟨k⟩ = k (.fp a b) := rfl
theorem g1y {a b c} : @b3d (.fn a b c) ⟨k⟩ = k (.fn a b c) := rfl
theorem g12 {a b c} : @b3d (.rs a b c) ⟨k⟩ = k (.rs a b c) := rfl
theorem g11 {a b c} : @b3d (.rp a b c) ⟨k⟩ = k (.rp a b c) := rfl
theorem g1x : @b3d .dead ⟨k⟩ = k .dead := rfl
theorem b2p (v : AV) : @b3d v ⟨k⟩ = k v := rfl
theorem b9t  : @ibr true ⟨p⟩ ⟨q⟩ = p := d3d
theorem b9s  : @ibr false ⟨p⟩ ⟨q⟩ = q := d3c
theorem b9u {b} : @c8k (.v (.bool b)) ⟨p⟩ ⟨q⟩ = @ibr b ⟨p⟩ ⟨q⟩ := d5h
theorem c8v {y} : @b1k (.v (.bool y)) true ⟨p⟩ ⟨q⟩ ⟨q0⟩ = @ibr y ⟨p⟩ ⟨q⟩ := d72
theorem c8u {y} : @b1k (.v (.bool y)) false ⟨p⟩ ⟨q⟩ ⟨q0⟩ = @ibr y ⟨q⟩ ⟨p⟩ := d71
theorem c8w {b} : @b1k U b ⟨p⟩ ⟨q⟩ ⟨q0⟩ = q0 := rfl
theorem c80 {agg n cs off} : @c3c agg n (.fp cs off) h ⟨k⟩ = @b7r agg n cs off ⟨k⟩ := rfl
theorem c81 {agg n id i off} : @c3c agg n (.rp id i off) h ⟨k⟩ = @b93 (h.ob id) i ⟨fun _ _ cs => @b7r agg n cs off ⟨k⟩⟩ := rfl
theorem c9h {n id i off x} {k : Heap → Prop} : @c9g n (.rp id i off) x h ⟨k⟩ = @b93 (h.ob id) i ⟨fun sz es cs => b1c x = true ∧ (cellsOf x).length = n ∧ off + n ≤ cs.length ∧ k (h.upd id (some (sz, es.set i (cs.take off ++ cellsOf x ++ cs.drop (off + n)))))⟩ := rfl
theorem c8i {n cs off} : @b7r false n cs off ⟨k⟩ = @b6b cs off ⟨k⟩ := d40
theorem c8j {n cs off} : @b7r true n cs off ⟨k⟩ = @b25 (off + n ≤ cs.length) ⟨k (.agg ((cs.drop off).take n))⟩ := d41
theorem c8s {c cs} : @b6b (c :: cs) 0 ⟨k⟩ = k c := d7u
theorem c8t {c cs n} : @b6b (c :: cs) (n + 1) ⟨k⟩ = @b6b cs n ⟨k⟩ := d7v
theorem c9e {sz cs} {k : Nat → List (List AV) → List AV → Prop} : @b93 (some (sz, [cs])) 0 ⟨k⟩ = k sz [cs] cs := g8b
theorem c9a {sz es} {k : Nat → List (List AV) → Prop} : @iob (some (sz, es)) ⟨k⟩ = k sz es := g58
theorem c8m {α β : Type} {f : α → β} {l : List α} {i : Int} {k : β → Prop} : @b9v β (l.map f) i ⟨k⟩ = @b9v α l i ⟨fun a => k (f a)⟩ := d6p
theorem c9d  : @c3e (.v (.bool true)) ⟨p⟩ ⟨q⟩ = p := rfl
theorem c9c  : @c3e (.v (.bool false)) ⟨p⟩ ⟨q⟩ = q := rfl
theorem c79 {cs} {k : List AV → Prop} : @b4s (.agg cs) ⟨k⟩ = k cs := d26
theorem c8c {kd n} {k : List AV → Prop} : @b4s (.v (.int kd n)) ⟨k⟩ = k [.v (.int kd n)] := d29
theorem c8a {b} {k : List AV → Prop} : @b4s (.v (.bool b)) ⟨k⟩ = k [.v (.bool b)] := d27
theorem c8e {a b c} {k : List AV → Prop} : @b4s (.v (.slice a b c)) ⟨k⟩ = k [.v (.slice a b c)] := d3b
theorem c8b {sz es} {k : List AV → Prop} : @b4s (.fs sz es) ⟨k⟩ = k [.fs sz es] := d28
theorem c8d {a b c} {k : List AV → Prop} : @b4s (.rs a b c) ⟨k⟩ = k [.rs a b c] := d3a
theorem c87 {cs off} : @b91 (.fp cs off) h ⟨k⟩ = k (.fp cs off) := rfl
theorem c86 {f a b} : @b91 (.fn f a b) h ⟨k⟩ = k (.fn f a b) := rfl
theorem c88 {id i off} : @b91 (.rp id i off) h ⟨k⟩ = @b25 ((h.ob id).isSome = true) ⟨k (.rp id i off)⟩ := rfl
theorem c8q {n cs off} : @c3a n (.fp cs off) h ⟨k⟩ = k (.fp cs (off + n)) := rfl
theorem c8r {n id i off} : @c3a n (.rp id i off) h ⟨k⟩ = @b25 ((h.ob id).isSome = true) ⟨k (.rp id i (off + n))⟩ := rfl
theorem c8x {n sz es kd j} : @iix n (.fs sz es) (.v (.int kd j)) h ⟨k⟩ = @b25 (sz = n) ⟨@b9v (List AV) es j ⟨fun cs => k (.fp cs 0)⟩⟩ := rfl
theorem c8y {n id lo len kd j} : @iix n (.rs id lo len) (.v (.int kd j)) h ⟨k⟩ = @iob (h.ob id) ⟨fun sz _ => @b25 (sz = n) ⟨@b25 (0 ≤ j) ⟨@b25 (j < (len : Int)) ⟨k (.rp id (lo + j.toNat) 0)⟩⟩⟩⟩ := rfl
theorem c8z {sz es} {k : Int → Prop} : @b6c (.fs sz es) ⟨k⟩ = k es.length := g2b
theorem b9y {id lo len} {k : Int → Prop} : @b6c (.rs id lo len) ⟨k⟩ = k len := g2d
theorem b9x {k : Int → Prop} : @b6c (.v (.slice none 0 0)) ⟨k⟩ = k 0 := g2c
theorem c8o {vs i} : @c8n (.tup vs) i ⟨k⟩ = @b6b vs i ⟨k⟩ := rfl
theorem c9j {b : Bool} : @iun .not (B b) ⟨k⟩ = k (B (!b)) := g9o
theorem c9i {kd a} : @iun .neg (.v (.int kd a)) ⟨k⟩ = k (.v (.int kd (kd.wrap (0 - a)))) := g9n
theorem c7i {a : Prop} (ha : a) : @b25 a ⟨p⟩ = p := by simp [b25, ha]
theorem c7l {e kd a b} : @b1q .add e (.v (.int kd a)) (.v (.int kd b)) ⟨k⟩ = k (.v (.int kd (kd.wrap (a + b)))) := d2s
theorem c77 {e kd a b} : @b1q .sub e (.v (.int kd a)) (.v (.int kd b)) ⟨k⟩ = k (.v (.int kd (kd.wrap (a - b)))) := d22
theorem c7x {e kd a b} : @b1q .mul e (.v (.int kd a)) (.v (.int kd b)) ⟨k⟩ = k (.v (.int kd (kd.wrap (a * b)))) := d20
theorem c7q {e kd} {a b : Int} : @b1q .eql e (.v (.int kd a)) (.v (.int kd b)) ⟨k⟩ = k (B (decide (a = b))) := d2v
theorem c7y {e kd} {a b : Int} : @b1q .neq e (.v (.int kd a)) (.v (.int kd b)) ⟨k⟩ = k (B (decide (¬ a = b))) := d21
theorem c7w {e kd} {a b : Int} : @b1q .lss e (.v (.int kd a)) (.v (.int kd b)) ⟨k⟩ = k (B (decide (a < b))) := d2z
theorem c7v {e kd} {a b : Int} : @b1q .leq e (.v (.int kd a)) (.v (.int kd b)) ⟨k⟩ = k (B (decide (a ≤ b))) := d2y
theorem c7u {e kd} {a b : Int} : @b1q .gtr e (.v (.int kd a)) (.v (.int kd b)) ⟨k⟩ = k (B (decide (b < a))) := d2x
theorem c7t {e kd} {a b : Int} : @b1q .geq e (.v (.int kd a)) (.v (.int kd b)) ⟨k⟩ = k (B (decide (b ≤ a))) := d2w
theorem c7n {a b : Bool} : @b1q .eql .bool (B a) (B b) ⟨k⟩ = k (B (b5x a b)) := d2t
theorem c7o {a b : Bool} : @b1q .neq .bool (B a) (B b) ⟨k⟩ = k (B (!(b5x a b))) := d2u
theorem b0g {x : Bool} {p q : Prop} (h1 : x = true → p) (h2 : x = false → q) : @ibr x ⟨p⟩ ⟨q⟩ := ⟨h1, h2⟩
end
def b92 {α : Type} (o : Option α) [k : K1 α] : Prop := ∃ x, o = some x ∧ k.k x
theorem c9b {α : Type} {x : α} {k : α → Prop} : @b92 α (some x) ⟨k⟩ = k x := by simp [b92]
section
variable {O : Orac} {d : Option Nat} {g : Nat} {b0 : Bool} {r : List XO} {K : Slots → Heap → Prop} {t : Slots} {h : Heap} {k : AV → Heap → Prop}
theorem d9j {zs ps} : b0c O (⟨d, none, .build zs ps⟩ :: r) K t h = @iop O (.build zs ps) t h ⟨fun v h' => b0c O r K (b0e t d v) h'⟩ := b1p rfl
theorem g0g {zs ps} : b0c O (⟨d, some (g, b0), .build zs ps⟩ :: r) K t h = @b1k (t g) b0 ⟨@iop O (.build zs ps) (upd t g (B b0)) h ⟨fun v h' => b0c O r K (b0e (upd t g (B b0)) d v) h'⟩⟩ ⟨b0c O r K (b0e (upd t g (B (!b0))) d U) h⟩ ⟨b0c O r K (b0e t d U) h⟩ := b1r rfl
theorem g09 {zs ps} : @iop O (.build zs ps) t h ⟨k⟩ = @b92 _ (b4d (ps.map fun p => (p.1, p.2.1, evT t p.2.2))) ⟨fun qs => @b25 ((qs.all fun p => decide (p.1 + p.2.length ≤ zs.length)) = true) ⟨k (.agg (place (zs.map .v) qs)) h⟩⟩ := by
  simp only [iop, op1, eff, b92, b25]
  apply propext; constructor
  · rintro ⟨r, h', he, hk⟩
    simp only [Option.bind_eq_some_iff] at he
    obtain ⟨qs, h1, he⟩ := he
    split at he
    · rename_i hc; cases he; exact ⟨qs, h1, hc, hk⟩
    · cases he
  · rintro ⟨qs, h1, h2, h3⟩
    exact ⟨_, _, by simp only [h1, Option.bind_some]; rw [if_pos h2], h3⟩
end
theorem g7m : b4d [] = some [] := rfl
theorem g7l {a n : Nat} {x : AV} {l} : b4d ((a, n, x) :: l) = if b1c x ∧ (cellsOf x).length = n then (b4d l).map ((a, cellsOf x) :: ·) else none := by
  unfold b4d
  rw [List.mapM_cons]
  simp only []
  split
  · rename_i hc
    simp only [Option.bind_eq_bind, Option.bind_some, Option.pure_def]
    generalize (List.mapM (m := Option) _ l) = o
    cases o <;> rfl
  · rfl
theorem g6f {kd n} : b1c (.v (.int kd n)) = true := rfl
theorem g6b {b} : b1c (.v (.bool b)) = true := rfl
theorem g6i {a b c} : b1c (.v (.slice a b c)) = true := rfl
theorem g6a {cs} : b1c (.agg cs) = true := rfl
theorem g6e {a b} : b1c (.fs a b) = true := rfl
theorem g6h {a b c} : b1c (.rs a b c) = true := rfl
theorem d48 {x} : cellsOf (.v x) = [.v x] := rfl
theorem d42 {cs} : cellsOf (.agg cs) = cs := rfl
theorem d45 {a b} : cellsOf (.fs a b) = [.fs a b] := rfl
theorem d47 {a b c} : cellsOf (.rs a b c) = [.rs a b c] := rfl
theorem g7q {cs} : place cs [] = cs := rfl
theorem g7p {cs off ds r} : place cs ((off, ds) :: r) = place (cs.take off ++ ds ++ cs.drop (off + ds.length)) r := rfl
attribute [go_sem] g14 g1w g13 g10 g1z g1y g12 g11 g1x
attribute [go_sem ↓] c9b d9j g0g g09 d5l d9z g0u d91 g0w d9h g0e d9g g0d d9d g0a d9u g0p d93 g0y d90 g0v d9q g0m d9r g0n d9f g0c d94 g0z d9t g0o d9o g0k d9x g0s d9k g0h d9l g0i g1p g1r g07 g06 g03 g1k g1t g1q g1g g1h g05 g1u g1j g1e g1n g1a g1b d9m g1c c3f b9t b9s b9u c8v c8u c8w c80 c81 c9h c8i c8j c8s c8t c9e c9a c8m c9d c9c c79 c8c c8a c8e c8b c8d c87 c86 c88 c8q c8r c8x c8y c8z b9y b9x c8o c9j c9i c7i c7l c77 c7x c7q c7y c7w c7v c7u c7t c7n c7o
attribute [go_sem] c9b g7m g7l g6f g6b g6i g6a g6e g6h d48 d42 d45 d47 g7q g7p List.map_cons List.map_nil List.take_zero List.take_succ_cons List.drop_zero List.drop_succ_cons List.nil_append List.cons_append List.length_cons List.length_nil List.all_cons List.all_nil Option.map_some Nat.reduceLeDiff Option.isSome_some decide_true Bool.and_true true_and and_true if_true if_false List.set_cons_zero List.take_nil List.drop_nil List.append_nil b9t b9s b9u c8v c8u c8w c80 c81 c9h c8i c8j c8s c8t c9e c9a c8m c9d c9c c79 c8c c8a c8e c8b c8d c87 c86 c88 c8q c8r c8x c8y c8z b9y b9x c8o c9j c9i c7i c7l c77 c7x c7q c7y c7w c7v c7u c7t c7n c7o Bool.not_true Bool.not_false Nat.reduceAdd Nat.reduceEqDiff not_false_eq_true
end Go.Nw
