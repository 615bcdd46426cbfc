/- The rules, with what comes behind as instance-implicit arguments: there "simp" does not go. -/
import Derived.Test.YtaccbljgojdfjaaDoorNwRules
set_option linter.all false
set_option linter.unusedVariables false
set_option linter.unusedSimpArgs false
set_option linter.unusedSectionVars false
namespace Go.Nw
class Kp where p : Prop
class K1 (α : Type) where k : α → Prop
class K2 where k : AV → Heap → Prop
class Kr where k : Nat → List (List AV) → List AV → Prop
class Ko where k : Nat → List (List AV) → Prop
class Kh where k : Heap → Prop
def ibr (x : Bool) [p : Kp] [q : Kp] : Prop := br x p.p q.p
def c5s (x : AV) [p : Kp] [q : Kp] : Prop := b70 x p.p q.p
def b1c (x : AV) (b : Bool) [p : Kp] [q : Kp] [q0 : Kp] : Prop := b1p x b p.p q.p q0.p
def iop (O : Orac) (op : XOp) (t : Slots) (h : Heap) [k : K2] : Prop := op1 O op t h k.k
def c1f (agg : Bool) (n : Nat) (x : AV) (h : Heap) [k : K1 AV] : Prop := c1u agg n x h k.k
def c6o (n : Nat) (a x : AV) (h : Heap) [k : Kh] : Prop := c2t n a x h k.k
def b6w (agg : Bool) (n : Nat) (cs : List AV) (off : Nat) [k : K1 AV] : Prop := b3f agg n cs off k.k
def b5m (cs : List AV) (i : Nat) [k : K1 AV] : Prop := b2m cs i k.k
def b8q (o : Option Ob) (i : Nat) [k : Kr] : Prop := b4j o i k.k
def iob (o : Option Ob) [k : Ko] : Prop := obK o k.k
def b8i {α : Type} (l : List α) (i : Int) [k : K1 α] : Prop := b38 l i k.k
def c1h (c : AV) [p : Kp] [q : Kp] : Prop := b67 c p.p q.p
def b4c (x : AV) [k : K1 (List AV)] : Prop := b17 x k.k
def b8o (x : AV) (h : Heap) [k : K1 AV] : Prop := c2a x h k.k
def c1d (n : Nat) (x : AV) (h : Heap) [k : K1 AV] : Prop := c07 n x h k.k
def iix (n : Nat) (x i : AV) (h : Heap) [k : K1 AV] : Prop := c1j n x i h k.k
def b1h (op : BinOp) (e : EqK) (x y : AV) [k : K1 AV] : Prop := b0y op e x y k.k
def iun (op : UnOp) (x : AV) [k : K1 AV] : Prop := unK op x k.k
def b5n (x : AV) [k : K1 Int] : Prop := b3z x k.k
def c5v (x : AV) (i : Nat) [k : K1 AV] : Prop := c0v x i k.k
def b2t (v : AV) [k : K1 AV] : Prop := k.k v
def b2o (a : Prop) [p : Kp] : Prop := a ∧ p.p
def c5p (O : Orac) (f : String) (as : List AV) (h : Heap) [k : K2] : Prop := b37 O f as h k.k
def d5m (O : Orac) (f : String) (as : List AV) (h : Heap) [k : K2] : Prop := c0h O f as h k.k
def d5l (O : Orac) (f : AV) (as : List AV) (h : Heap) [k : K2] : Prop := ∃ n a b, callee f = some (n, a, b) ∧ b37 O n (a ++ as ++ b) h k.k
section
variable {O : Orac} {d : Option Nat} {g : Nat} {b0 : Bool} {r : List XO} {K : Slots → Heap → Prop} {t : Slots} {h : Heap} {k : AV → Heap → Prop}
theorem d5f {x} : b0a O (⟨d, none, .mv x⟩ :: r) K t h = @iop O (.mv x) t h ⟨fun v h' => b0a O r K (b0b t d v) h'⟩ := d0z
theorem d58 {x} : b0a O (⟨d, some (g, b0), .mv x⟩ :: r) K t h = @b1c (t g) b0 ⟨@iop O (.mv x) (upd t g (B b0)) h ⟨fun v h' => b0a O r K (b0b (upd t g (B b0)) d v) h'⟩⟩ ⟨b0a O r K (b0b (upd t g (B (!b0))) d U) h⟩ ⟨b0a O r K (b0b t d U) h⟩ := d3s
theorem d5h {c a b} : b0a O (⟨d, none, .pick c a b⟩ :: r) K t h = @iop O (.pick c a b) t h ⟨fun v h' => b0a O r K (b0b t d v) h'⟩ := d01
theorem d6a {c a b} : b0a O (⟨d, some (g, b0), .pick c a b⟩ :: r) K t h = @b1c (t g) b0 ⟨@iop O (.pick c a b) (upd t g (B b0)) h ⟨fun v h' => b0a O r K (b0b (upd t g (B b0)) d v) h'⟩⟩ ⟨b0a O r K (b0b (upd t g (B (!b0))) d U) h⟩ ⟨b0a O r K (b0b t d U) h⟩ := d3u
theorem d4x {x} : b0a O (⟨d, none, .boxF x⟩ :: r) K t h = @iop O (.boxF x) t h ⟨fun v h' => b0a O r K (b0b t d v) h'⟩ := d0d
theorem d5s {x} : b0a O (⟨d, some (g, b0), .boxF x⟩ :: r) K t h = @b1c (t g) b0 ⟨@iop O (.boxF x) (upd t g (B b0)) h ⟨fun v h' => b0a O r K (b0b (upd t g (B b0)) d v) h'⟩⟩ ⟨b0a O r K (b0b (upd t g (B (!b0))) d U) h⟩ ⟨b0a O r K (b0b t d U) h⟩ := d3j
theorem d4w {x} : b0a O (⟨d, none, .box x⟩ :: r) K t h = @iop O (.box x) t h ⟨fun v h' => b0a O r K (b0b t d v) h'⟩ := d0c
theorem d5r {x} : b0a O (⟨d, some (g, b0), .box x⟩ :: r) K t h = @b1c (t g) b0 ⟨@iop O (.box x) (upd t g (B b0)) h ⟨fun v h' => b0a O r K (b0b (upd t g (B b0)) d v) h'⟩⟩ ⟨b0a O r K (b0b (upd t g (B (!b0))) d U) h⟩ ⟨b0a O r K (b0b t d U) h⟩ := d3i
theorem d4t {zs} : b0a O (⟨d, none, .alloc zs⟩ :: r) K t h = @iop O (.alloc zs) t h ⟨fun v h' => b0a O r K (b0b t d v) h'⟩ := d0a
theorem d5o {zs} : b0a O (⟨d, some (g, b0), .alloc zs⟩ :: r) K t h = @b1c (t g) b0 ⟨@iop O (.alloc zs) (upd t g (B b0)) h ⟨fun v h' => b0a O r K (b0b (upd t g (B b0)) d v) h'⟩⟩ ⟨b0a O r K (b0b (upd t g (B (!b0))) d U) h⟩ ⟨b0a O r K (b0b t d U) h⟩ := d3g
theorem d5a {agg n a} : b0a O (⟨d, none, .load agg n a⟩ :: r) K t h = @iop O (.load agg n a) t h ⟨fun v h' => b0a O r K (b0b t d v) h'⟩ := d0t
theorem d53 {agg n a} : b0a O (⟨d, some (g, b0), .load agg n a⟩ :: r) K t h = @b1c (t g) b0 ⟨@iop O (.load agg n a) (upd t g (B b0)) h ⟨fun v h' => b0a O r K (b0b (upd t g (B b0)) d v) h'⟩⟩ ⟨b0a O r K (b0b (upd t g (B (!b0))) d U) h⟩ ⟨b0a O r K (b0b t d U) h⟩ := d3q
theorem d5j {n a x} : b0a O (⟨d, none, .store n a x⟩ :: r) K t h = @iop O (.store n a x) t h ⟨fun v h' => b0a O r K (b0b t d v) h'⟩ := d05
theorem d6c {n a x} : b0a O (⟨d, some (g, b0), .store n a x⟩ :: r) K t h = @b1c (t g) b0 ⟨@iop O (.store n a x) (upd t g (B b0)) h ⟨fun v h' => b0a O r K (b0b (upd t g (B b0)) d v) h'⟩⟩ ⟨b0a O r K (b0b (upd t g (B (!b0))) d U) h⟩ ⟨b0a O r K (b0b t d U) h⟩ := d3v
theorem d5g {x} : b0a O (⟨d, none, .nilck x⟩ :: r) K t h = @iop O (.nilck x) t h ⟨fun v h' => b0a O r K (b0b t d v) h'⟩ := d00
theorem d59 {x} : b0a O (⟨d, some (g, b0), .nilck x⟩ :: r) K t h = @b1c (t g) b0 ⟨@iop O (.nilck x) (upd t g (B b0)) h ⟨fun v h' => b0a O r K (b0b (upd t g (B b0)) d v) h'⟩⟩ ⟨b0a O r K (b0b (upd t g (B (!b0))) d U) h⟩ ⟨b0a O r K (b0b t d U) h⟩ := d3t
theorem d46 {o x} : b0a O (⟨d, none, .fldA o x⟩ :: r) K t h = @iop O (.fldA o x) t h ⟨fun v h' => b0a O r K (b0b t d v) h'⟩ := d0n
theorem d50 {o x} : b0a O (⟨d, some (g, b0), .fldA o x⟩ :: r) K t h = @b1c (t g) b0 ⟨@iop O (.fldA o x) (upd t g (B b0)) h ⟨fun v h' => b0a O r K (b0b (upd t g (B b0)) d v) h'⟩⟩ ⟨b0a O r K (b0b (upd t g (B (!b0))) d U) h⟩ ⟨b0a O r K (b0b t d U) h⟩ := d3n
theorem d47 {n x i} : b0a O (⟨d, none, .ixA n x i⟩ :: r) K t h = @iop O (.ixA n x i) t h ⟨fun v h' => b0a O r K (b0b t d v) h'⟩ := d0o
theorem d51 {n x i} : b0a O (⟨d, some (g, b0), .ixA n x i⟩ :: r) K t h = @b1c (t g) b0 ⟨@iop O (.ixA n x i) (upd t g (B b0)) h ⟨fun v h' => b0a O r K (b0b (upd t g (B b0)) d v) h'⟩⟩ ⟨b0a O r K (b0b (upd t g (B (!b0))) d U) h⟩ ⟨b0a O r K (b0b t d U) h⟩ := d3o
theorem d4v {op e x y} : b0a O (⟨d, none, .bin op e x y⟩ :: r) K t h = @iop O (.bin op e x y) t h ⟨fun v h' => b0a O r K (b0b t d v) h'⟩ := d0b
theorem d5q {op e x y} : b0a O (⟨d, some (g, b0), .bin op e x y⟩ :: r) K t h = @b1c (t g) b0 ⟨@iop O (.bin op e x y) (upd t g (B b0)) h ⟨fun v h' => b0a O r K (b0b (upd t g (B b0)) d v) h'⟩⟩ ⟨b0a O r K (b0b (upd t g (B (!b0))) d U) h⟩ ⟨b0a O r K (b0b t d U) h⟩ := d3h
theorem d5k {op x} : b0a O (⟨d, none, .un op x⟩ :: r) K t h = @iop O (.un op x) t h ⟨fun v h' => b0a O r K (b0b t d v) h'⟩ := d06
theorem d6d {op x} : b0a O (⟨d, some (g, b0), .un op x⟩ :: r) K t h = @b1c (t g) b0 ⟨@iop O (.un op x) (upd t g (B b0)) h ⟨fun v h' => b0a O r K (b0b (upd t g (B b0)) d v) h'⟩⟩ ⟨b0a O r K (b0b (upd t g (B (!b0))) d U) h⟩ ⟨b0a O r K (b0b t d U) h⟩ := d3w
theorem d49 {x} : b0a O (⟨d, none, .len false x⟩ :: r) K t h = @iop O (.len false x) t h ⟨fun v h' => b0a O r K (b0b t d v) h'⟩ := d0s
theorem d52 {x} : b0a O (⟨d, some (g, b0), .len false x⟩ :: r) K t h = @b1c (t g) b0 ⟨@iop O (.len false x) (upd t g (B b0)) h ⟨fun v h' => b0a O r K (b0b (upd t g (B b0)) d v) h'⟩⟩ ⟨b0a O r K (b0b (upd t g (B (!b0))) d U) h⟩ ⟨b0a O r K (b0b t d U) h⟩ := d3p
theorem d44 {x i} : b0a O (⟨d, none, .ext x i⟩ :: r) K t h = @iop O (.ext x i) t h ⟨fun v h' => b0a O r K (b0b t d v) h'⟩ := d0i
theorem d5y {x i} : b0a O (⟨d, some (g, b0), .ext x i⟩ :: r) K t h = @b1c (t g) b0 ⟨@iop O (.ext x i) (upd t g (B b0)) h ⟨fun v h' => b0a O r K (b0b (upd t g (B b0)) d v) h'⟩⟩ ⟨b0a O r K (b0b (upd t g (B (!b0))) d U) h⟩ ⟨b0a O r K (b0b t d U) h⟩ := d3m
theorem d5d {f a b} : b0a O (⟨d, none, .mkfn f a b⟩ :: r) K t h = @iop O (.mkfn f a b) t h ⟨fun v h' => b0a O r K (b0b t d v) h'⟩ := d0y
theorem d56 {f a b} : b0a O (⟨d, some (g, b0), .mkfn f a b⟩ :: r) K t h = @b1c (t g) b0 ⟨@iop O (.mkfn f a b) (upd t g (B b0)) h ⟨fun v h' => b0a O r K (b0b (upd t g (B b0)) d v) h'⟩⟩ ⟨b0a O r K (b0b (upd t g (B (!b0))) d U) h⟩ ⟨b0a O r K (b0b t d U) h⟩ := d3r
theorem d40 {f l} : b0a O (⟨d, none, .call f l⟩ :: r) K t h = @iop O (.call f l) t h ⟨fun v h' => b0a O r K (b0b t d v) h'⟩ := d0e
theorem d5v {f l} : b0a O (⟨d, some (g, b0), .call f l⟩ :: r) K t h = @b1c (t g) b0 ⟨@iop O (.call f l) (upd t g (B b0)) h ⟨fun v h' => b0a O r K (b0b (upd t g (B b0)) d v) h'⟩⟩ ⟨b0a O r K (b0b (upd t g (B (!b0))) d U) h⟩ ⟨b0a O r K (b0b t d U) h⟩ := d3k
theorem d42 {f l} : b0a O (⟨d, none, .callw f l⟩ :: r) K t h = @iop O (.callw f l) t h ⟨fun v h' => b0a O r K (b0b t d v) h'⟩ := d1r
theorem d41 {f l} : b0a O (⟨d, none, .callv f l⟩ :: r) K t h = @iop O (.callv f l) t h ⟨fun v h' => b0a O r K (b0b t d v) h'⟩ := d0f
theorem d5w {f l} : b0a O (⟨d, some (g, b0), .callv f l⟩ :: r) K t h = @b1c (t g) b0 ⟨@iop O (.callv f l) (upd t g (B b0)) h ⟨fun v h' => b0a O r K (b0b (upd t g (B b0)) d v) h'⟩⟩ ⟨b0a O r K (b0b (upd t g (B (!b0))) d U) h⟩ ⟨b0a O r K (b0b t d U) h⟩ := d3l
theorem d63 {x} : @iop O (.mv x) t h ⟨k⟩ = @b2t (evT t x) ⟨fun v => k v h⟩ := g17
theorem d65 {c a b} : @iop O (.pick c a b) t h ⟨k⟩ = @c1h (evT t c) ⟨@b2t (evT t a) ⟨fun v => k v h⟩⟩ ⟨@b2t (evT t b) ⟨fun v => k v h⟩⟩ := g19
theorem d6l {x} : @iop O (.boxF x) t h ⟨k⟩ = @b4c (evT t x) ⟨fun cs => k (.fp cs 0) h⟩ := g1y
theorem d6k {x} : @iop O (.box x) t h ⟨k⟩ = @b4c (evT t x) ⟨fun cs => k (.rp h.nx 0 0) (h.new (cs.length, [cs]))⟩ := g1x
theorem d6h {zs} : @iop O (.alloc zs) t h ⟨k⟩ = k (.rp h.nx 0 0) (h.new (zs.length, [zs.map .v])) := g1v
theorem d6y {agg n a} : @iop O (.load agg n a) t h ⟨k⟩ = @c1f agg n (evT t a) h ⟨fun v => k v h⟩ := g15
theorem d67 {n a x} : @iop O (.store n a x) t h ⟨k⟩ = @c6o n (evT t a) (evT t x) h ⟨fun h' => k .dead h'⟩ := g2a
theorem d64 {x} : @iop O (.nilck x) t h ⟨k⟩ = @b8o (evT t x) h ⟨fun v => k v h⟩ := g18
theorem d6u {o x} : @iop O (.fldA o x) t h ⟨k⟩ = @c1d o (evT t x) h ⟨fun v => k v h⟩ := g12
theorem d6v {n x i} : @iop O (.ixA n x i) t h ⟨k⟩ = @iix n (evT t x) (evT t i) h ⟨fun v => k v h⟩ := g13
theorem d6j {op e x y} : @iop O (.bin op e x y) t h ⟨k⟩ = @b1h op e (evT t x) (evT t y) ⟨fun v => k v h⟩ := g1w
theorem d68 {op x} : @iop O (.un op x) t h ⟨k⟩ = @iun op (evT t x) ⟨fun v => k v h⟩ := g2b
theorem d6x {x} : @iop O (.len false x) t h ⟨k⟩ = @b5n (evT t x) ⟨fun n => k (I n) h⟩ := g14
theorem d6s {x i} : @iop O (.ext x i) t h ⟨k⟩ = @c5v (evT t x) i ⟨fun v => k v h⟩ := g11
theorem d61 {f a b} : @iop O (.mkfn f a b) t h ⟨k⟩ = k (.fn f (a.map (evT t)) (b.map (evT t))) h := g16
theorem d6o {f l} : @iop O (.call f l) t h ⟨k⟩ = @c5p O f (l.map (evT t)) h ⟨k⟩ := g1z
theorem d6q {f l} : @iop O (.callw f l) t h ⟨k⟩ = @d5m O f (l.map (evT t)) h ⟨k⟩ := rfl
theorem d6p {f l} : @iop O (.callv f l) t h ⟨k⟩ = @d5l O (evT t f) (l.map (evT t)) h ⟨k⟩ := g10
theorem c1i {c a b} {Q : XExit → Slots → Heap → Prop} : cw O (.cond c a b) Q t h = @c5s (evT t c) ⟨cw O a Q t h⟩ ⟨cw O b Q t h⟩ := d1u
end
section
variable {k : AV → Prop} {h : Heap} {p q q0 : Prop}
theorem d7j {x} : @b2t (.v x) ⟨k⟩ = k (.v x) := rfl
theorem d7b {x} : @b2t (.agg x) ⟨k⟩ = k (.agg x) := rfl
theorem d7i {x} : @b2t (.tup x) ⟨k⟩ = k (.tup x) := rfl
theorem d7f {a b} : @b2t (.fs a b) ⟨k⟩ = k (.fs a b) := rfl
theorem d7e {a b} : @b2t (.fp a b) ⟨k⟩ = k (.fp a b) := rfl
theorem d7d {a b c} : @b2t (.fn a b c) ⟨k⟩ = k (.fn a b c) := rfl
theorem d7h {a b c} : @b2t (.rs a b c) ⟨k⟩ = k (.rs a b c) := rfl
theorem d7g {a b c} : @b2t (.rp a b c) ⟨k⟩ = k (.rp a b c) := rfl
theorem d7c : @b2t .dead ⟨k⟩ = k .dead := rfl
theorem b5r (v : AV) : @b2t v ⟨k⟩ = k v := rfl
theorem b8g  : @ibr true ⟨p⟩ ⟨q⟩ = p := c95
theorem b8f  : @ibr false ⟨p⟩ ⟨q⟩ = q := c94
theorem b8h {b} : @c5s (.v (.bool b)) ⟨p⟩ ⟨q⟩ = @ibr b ⟨p⟩ ⟨q⟩ := d1p
theorem c53 {y} : @b1c (.v (.bool y)) true ⟨p⟩ ⟨q⟩ ⟨q0⟩ = @ibr y ⟨p⟩ ⟨q⟩ := d35
theorem c52 {y} : @b1c (.v (.bool y)) false ⟨p⟩ ⟨q⟩ ⟨q0⟩ = @ibr y ⟨q⟩ ⟨p⟩ := d34
theorem c54 {b} : @b1c U b ⟨p⟩ ⟨q⟩ ⟨q0⟩ = q0 := rfl
theorem c58 {agg n cs off} : @c1f agg n (.fp cs off) h ⟨k⟩ = @b6w agg n cs off ⟨k⟩ := rfl
theorem c59 {agg n id i off} : @c1f agg n (.rp id i off) h ⟨k⟩ = @b8q (h.ob id) i ⟨fun _ _ cs => @b6w agg n cs off ⟨k⟩⟩ := rfl
theorem c6p {n id i off x} {k : Heap → Prop} : @c6o n (.rp id i off) x h ⟨k⟩ = @b8q (h.ob id) i ⟨fun sz es cs => b02 x = true ∧ (cellsOf x).length = n ∧ off + n ≤ cs.length ∧ k (h.upd id (some (sz, es.set i (cs.take off ++ cellsOf x ++ cs.drop (off + n)))))⟩ := rfl
theorem c5q {n cs off} : @b6w false n cs off ⟨k⟩ = @b5m cs off ⟨k⟩ := d1a
theorem c5r {n cs off} : @b6w true n cs off ⟨k⟩ = @b2o (off + n ≤ cs.length) ⟨k (.agg ((cs.drop off).take n))⟩ := d1b
theorem c50 {c cs} : @b5m (c :: cs) 0 ⟨k⟩ = k c := d3x
theorem c51 {c cs n} : @b5m (c :: cs) (n + 1) ⟨k⟩ = @b5m cs n ⟨k⟩ := d3y
theorem c6m {sz cs} {k : Nat → List (List AV) → List AV → Prop} : @b8q (some (sz, [cs])) 0 ⟨k⟩ = k sz [cs] cs := g3m
theorem c6i {sz es} {k : Nat → List (List AV) → Prop} : @iob (some (sz, es)) ⟨k⟩ = k sz es := g1i
theorem c5u {α β : Type} {f : α → β} {l : List α} {i : Int} {k : β → Prop} : @b8i β (l.map f) i ⟨k⟩ = @b8i α l i ⟨fun a => k (f a)⟩ := d2y
theorem c6l  : @c1h (.v (.bool true)) ⟨p⟩ ⟨q⟩ = p := rfl
theorem c6k  : @c1h (.v (.bool false)) ⟨p⟩ ⟨q⟩ = q := rfl
theorem c5i {cs} {k : List AV → Prop} : @b4c (.agg cs) ⟨k⟩ = k cs := c9y
theorem c5l {kd n} {k : List AV → Prop} : @b4c (.v (.int kd n)) ⟨k⟩ = k [.v (.int kd n)] := c91
theorem c5j {b} {k : List AV → Prop} : @b4c (.v (.bool b)) ⟨k⟩ = k [.v (.bool b)] := c9z
theorem c5n {a b c} {k : List AV → Prop} : @b4c (.v (.slice a b c)) ⟨k⟩ = k [.v (.slice a b c)] := c93
theorem c5k {sz es} {k : List AV → Prop} : @b4c (.fs sz es) ⟨k⟩ = k [.fs sz es] := c90
theorem c5m {a b c} {k : List AV → Prop} : @b4c (.rs a b c) ⟨k⟩ = k [.rs a b c] := c92
theorem c6f {cs off} : @b8o (.fp cs off) h ⟨k⟩ = k (.fp cs off) := rfl
theorem c6e {f a b} : @b8o (.fn f a b) h ⟨k⟩ = k (.fn f a b) := rfl
theorem c6g {id i off} : @b8o (.rp id i off) h ⟨k⟩ = @b2o ((h.ob id).isSome = true) ⟨k (.rp id i off)⟩ := rfl
theorem c5y {n cs off} : @c1d n (.fp cs off) h ⟨k⟩ = k (.fp cs (off + n)) := rfl
theorem c5z {n id i off} : @c1d n (.rp id i off) h ⟨k⟩ = @b2o ((h.ob id).isSome = true) ⟨k (.rp id i (off + n))⟩ := rfl
theorem c55 {n sz es kd j} : @iix n (.fs sz es) (.v (.int kd j)) h ⟨k⟩ = @b2o (sz = n) ⟨@b8i (List AV) es j ⟨fun cs => k (.fp cs 0)⟩⟩ := rfl
theorem c56 {n id lo len kd j} : @iix n (.rs id lo len) (.v (.int kd j)) h ⟨k⟩ = @iob (h.ob id) ⟨fun sz _ => @b2o (sz = n) ⟨@b2o (0 ≤ j) ⟨@b2o (j < (len : Int)) ⟨k (.rp id (lo + j.toNat) 0)⟩⟩⟩⟩ := rfl
theorem c57 {sz es} {k : Int → Prop} : @b5n (.fs sz es) ⟨k⟩ = k es.length := d7p
theorem b8l {id lo len} {k : Int → Prop} : @b5n (.rs id lo len) ⟨k⟩ = k len := d7r
theorem b8k {k : Int → Prop} : @b5n (.v (.slice none 0 0)) ⟨k⟩ = k 0 := d7q
theorem c5w {vs i} : @c5v (.tup vs) i ⟨k⟩ = @b5m vs i ⟨k⟩ := rfl
theorem c6r {b : Bool} : @iun .not (B b) ⟨k⟩ = k (B (!b)) := g4p
theorem c6q {kd a} : @iun .neg (.v (.int kd a)) ⟨k⟩ = k (.v (.int kd (kd.wrap (0 - a)))) := g4o
theorem c4q {a : Prop} (ha : a) : @b2o a ⟨p⟩ = p := by simp [b2o, ha]
theorem c4s {e kd a b} : @b1h .add e (.v (.int kd a)) (.v (.int kd b)) ⟨k⟩ = k (.v (.int kd (kd.wrap (a + b)))) := c9l
theorem c5g {e kd a b} : @b1h .sub e (.v (.int kd a)) (.v (.int kd b)) ⟨k⟩ = k (.v (.int kd (kd.wrap (a - b)))) := c9v
theorem c47 {e kd a b} : @b1h .mul e (.v (.int kd a)) (.v (.int kd b)) ⟨k⟩ = k (.v (.int kd (kd.wrap (a * b)))) := c9t
theorem c4x {e kd} {a b : Int} : @b1h .eql e (.v (.int kd a)) (.v (.int kd b)) ⟨k⟩ = k (B (decide (a = b))) := c9o
theorem c48 {e kd} {a b : Int} : @b1h .neq e (.v (.int kd a)) (.v (.int kd b)) ⟨k⟩ = k (B (decide (¬ a = b))) := c9u
theorem c46 {e kd} {a b : Int} : @b1h .lss e (.v (.int kd a)) (.v (.int kd b)) ⟨k⟩ = k (B (decide (a < b))) := c9s
theorem c45 {e kd} {a b : Int} : @b1h .leq e (.v (.int kd a)) (.v (.int kd b)) ⟨k⟩ = k (B (decide (a ≤ b))) := c9r
theorem c43 {e kd} {a b : Int} : @b1h .gtr e (.v (.int kd a)) (.v (.int kd b)) ⟨k⟩ = k (B (decide (b < a))) := c9q
theorem c40 {e kd} {a b : Int} : @b1h .geq e (.v (.int kd a)) (.v (.int kd b)) ⟨k⟩ = k (B (decide (b ≤ a))) := c9p
theorem c4u {a b : Bool} : @b1h .eql .bool (B a) (B b) ⟨k⟩ = k (B (b3s a b)) := c9m
theorem c4v {a b : Bool} : @b1h .neq .bool (B a) (B b) ⟨k⟩ = k (B (!(b3s a b))) := c9n
theorem b0i {x : Bool} {p q : Prop} (h1 : x = true → p) (h2 : x = false → q) : @ibr x ⟨p⟩ ⟨q⟩ := ⟨h1, h2⟩
end
def b8p {α : Type} (o : Option α) [k : K1 α] : Prop := ∃ x, o = some x ∧ k.k x
theorem c6j {α : Type} {x : α} {k : α → Prop} : @b8p α (some x) ⟨k⟩ = k x := by simp [b8p]
section
variable {O : Orac} {d : Option Nat} {g : Nat} {b0 : Bool} {r : List XO} {K : Slots → Heap → Prop} {t : Slots} {h : Heap} {k : AV → Heap → Prop}
theorem d4z {zs ps} : b0a O (⟨d, none, .build zs ps⟩ :: r) K t h = @iop O (.build zs ps) t h ⟨fun v h' => b0a O r K (b0b t d v) h'⟩ := b1f rfl
theorem d5u {zs ps} : b0a O (⟨d, some (g, b0), .build zs ps⟩ :: r) K t h = @b1c (t g) b0 ⟨@iop O (.build zs ps) (upd t g (B b0)) h ⟨fun v h' => b0a O r K (b0b (upd t g (B b0)) d v) h'⟩⟩ ⟨b0a O r K (b0b (upd t g (B (!b0))) d U) h⟩ ⟨b0a O r K (b0b t d U) h⟩ := b1g rfl
theorem d6n {zs ps} : @iop O (.build zs ps) t h ⟨k⟩ = @b8p _ (b32 (ps.map fun p => (p.1, p.2.1, evT t p.2.2))) ⟨fun qs => @b2o ((qs.all fun p => decide (p.1 + p.2.length ≤ zs.length)) = true) ⟨k (.agg (place (zs.map .v) qs)) h⟩⟩ := by
  simp only [iop, op1, eff, b8p, b2o]
  apply propext; constructor
  · rintro ⟨r, h', he, hk⟩
    simp only [Option.bind_eq_some_iff] at he
    obtain ⟨qs, h1, he⟩ := he
    split at he
    · rename_i hc; cases he; exact ⟨qs, h1, hc, hk⟩
    · cases he
  · rintro ⟨qs, h1, h2, h3⟩
    exact ⟨_, _, by simp only [h1, Option.bind_some]; rw [if_pos h2], h3⟩
end
theorem g20 : b32 [] = some [] := rfl
theorem g2z {a n : Nat} {x : AV} {l} : b32 ((a, n, x) :: l) = if b02 x ∧ (cellsOf x).length = n then (b32 l).map ((a, cellsOf x) :: ·) else none := by
  unfold b32
  rw [List.mapM_cons]
  simp only []
  split
  · rename_i hc
    simp only [Option.bind_eq_bind, Option.bind_some, Option.pure_def]
    generalize (List.mapM (m := Option) _ l) = o
    cases o <;> rfl
  · rfl
theorem g1p {kd n} : b02 (.v (.int kd n)) = true := rfl
theorem g1l {b} : b02 (.v (.bool b)) = true := rfl
theorem g1s {a b c} : b02 (.v (.slice a b c)) = true := rfl
theorem g1k {cs} : b02 (.agg cs) = true := rfl
theorem g1o {a b} : b02 (.fs a b) = true := rfl
theorem g1r {a b c} : b02 (.rs a b c) = true := rfl
theorem d1i {x} : cellsOf (.v x) = [.v x] := rfl
theorem d1c {cs} : cellsOf (.agg cs) = cs := rfl
theorem d1f {a b} : cellsOf (.fs a b) = [.fs a b] := rfl
theorem d1h {a b c} : cellsOf (.rs a b c) = [.rs a b c] := rfl
theorem g23 {cs} : place cs [] = cs := rfl
theorem g22 {cs off ds r} : place cs ((off, ds) :: r) = place (cs.take off ++ ds ++ cs.drop (off + ds.length)) r := rfl
attribute [go_sem] d7j d7b d7i d7f d7e d7d d7h d7g d7c
attribute [go_sem ↓] c6j d4z d5u d6n d1t d5f d58 d5h d6a d4x d5s d4w d5r d4t d5o d5a d53 d5j d6c d5g d59 d46 d50 d47 d51 d4v d5q d5k d6d d49 d52 d44 d5y d5d d56 d40 d5v d41 d5w d63 d65 d6l d6k d6h d6y d67 d64 d6u d6v d6j d68 d6x d6s d61 d6o d6p d42 d6q c1i b8g b8f b8h c53 c52 c54 c58 c59 c6p c5q c5r c50 c51 c6m c6i c5u c6l c6k c5i c5l c5j c5n c5k c5m c6f c6e c6g c5y c5z c55 c56 c57 b8l b8k c5w c6r c6q c4q c4s c5g c47 c4x c48 c46 c45 c43 c40 c4u c4v
attribute [go_sem] c6j g20 g2z g1p g1l g1s g1k g1o g1r d1i d1c d1f d1h g23 g22 List.map_cons List.map_nil List.take_zero List.take_succ_cons List.drop_zero List.drop_succ_cons List.nil_append List.cons_append List.length_cons List.length_nil List.all_cons List.all_nil Option.map_some Nat.reduceLeDiff Option.isSome_some decide_true Bool.and_true true_and and_true if_true if_false List.set_cons_zero List.take_nil List.drop_nil List.append_nil b8g b8f b8h c53 c52 c54 c58 c59 c6p c5q c5r c50 c51 c6m c6i c5u c6l c6k c5i c5l c5j c5n c5k c5m c6f c6e c6g c5y c5z c55 c56 c57 b8l b8k c5w c6r c6q c4q c4s c5g c47 c4x c48 c46 c45 c43 c40 c4u c4v Bool.not_true Bool.not_false Nat.reduceAdd Nat.reduceEqDiff not_false_eq_true
end Go.Nw
