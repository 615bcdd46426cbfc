/- The rules, with what comes behind as instance-implicit arguments: there "simp" does not go. -/
import Derived.Test.YteoedeeljnboeaaNwRules
set_option linter.all false
set_option linter.unusedVariables false
set_option linter.unusedSimpArgs false
set_option linter.unusedSectionVars false
namespace Go.Nw
class Kp where p : Prop
class K1 (α : Type) where k : α → Prop
class K2 where k : AV → Heap → Prop
class Kr where k : Nat → List (List AV) → List AV → Prop
class Ko where k : Nat → List (List AV) → Prop
class Kh where k : Heap → Prop
def ibr (x : Bool) [p : Kp] [q : Kp] : Prop := br x p.p q.p
def d7d (x : AV) [p : Kp] [q : Kp] : Prop := c5i x p.p q.p
def b25 (x : AV) (b : Bool) [p : Kp] [q : Kp] [q0 : Kp] : Prop := b3l x b p.p q.p q0.p
def iop (O : Orac) (op : XOp) (t : Slots) (h : Heap) [k : K2] : Prop := op1 O op t h k.k
def d0z (agg : Bool) (n : Nat) (x : AV) (h : Heap) [k : K1 AV] : Prop := d1q agg n x h k.k
def d8e (n : Nat) (a x : AV) (h : Heap) [k : Kh] : Prop := d2x n a x h k.k
def c3k (agg : Bool) (n : Nat) (cs : List AV) (off : Nat) [k : K1 AV] : Prop := b59 agg n cs off k.k
def c3l (cs : List AV) (i : Nat) [k : K1 AV] : Prop := b5x cs i k.k
def c6h (o : Option Ob) (i : Nat) [k : Kr] : Prop := b8h o i k.k
def iob (o : Option Ob) [k : Ko] : Prop := obK o k.k
def c6a {α : Type} (l : List α) (i : Int) [k : K1 α] : Prop := b7n l i k.k
def d01 (c : AV) [p : Kp] [q : Kp] : Prop := c34 c p.p q.p
def b75 (x : AV) [k : K1 (List AV)] : Prop := b4p x k.k
def c6f (x : AV) (h : Heap) [k : K1 AV] : Prop := d11 x h k.k
def d0x (n : Nat) (x : AV) (h : Heap) [k : K1 AV] : Prop := c9g n x h k.k
def iix (n : Nat) (x i : AV) (h : Heap) [k : K1 AV] : Prop := d02 n x i h k.k
def b3g (op : BinOp) (e : EqK) (x y : AV) [k : K1 AV] : Prop := b2w op e x y k.k
def iun (op : UnOp) (x : AV) [k : K1 AV] : Prop := unK op x k.k
def c06 (x : AV) [k : K1 Int] : Prop := b7d x k.k
def d7i (x : AV) (i : Nat) [k : K1 AV] : Prop := c89 x i k.k
def b5s (v : AV) [k : K1 AV] : Prop := k.k v
def b5m (a : Prop) [p : Kp] : Prop := a ∧ p.p
def c3j (O : Orac) (f : String) (as : List AV) (h : Heap) [k : K2] : Prop := b7l O f as h k.k
def d7a (O : Orac) (f : String) (as : List AV) (h : Heap) [k : K2] : Prop := b7m O f as h k.k
def d68 (O : Orac) (f : AV) (as : List AV) (h : Heap) [k : K2] : Prop := ∃ n a b, callee f = some (n, a, b) ∧ b7l O n (a ++ as ++ b) h k.k
section
variable {O : Orac} {d : Option Nat} {g : Nat} {b0 : Bool} {r : List XO} {K : Slots → Heap → Prop} {t : Slots} {h : Heap} {k : AV → Heap → Prop}
theorem g9s {x} : b0g O (⟨d, none, .mv x⟩ :: r) K t h = @iop O (.mv x) t h ⟨fun v h' => b0g O r K (b0s t d v) h'⟩ := g40
theorem j0m {x} : b0g O (⟨d, some (g, b0), .mv x⟩ :: r) K t h = @b25 (t g) b0 ⟨@iop O (.mv x) (upd t g (B b0)) h ⟨fun v h' => b0g O r K (b0s (upd t g (B b0)) d v) h'⟩⟩ ⟨b0g O r K (b0s (upd t g (B (!b0))) d U) h⟩ ⟨b0g O r K (b0s t d U) h⟩ := g7j
theorem g9u {c a b} : b0g O (⟨d, none, .pick c a b⟩ :: r) K t h = @iop O (.pick c a b) t h ⟨fun v h' => b0g O r K (b0s t d v) h'⟩ := g42
theorem j0o {c a b} : b0g O (⟨d, some (g, b0), .pick c a b⟩ :: r) K t h = @b25 (t g) b0 ⟨@iop O (.pick c a b) (upd t g (B b0)) h ⟨fun v h' => b0g O r K (b0s (upd t g (B b0)) d v) h'⟩⟩ ⟨b0g O r K (b0s (upd t g (B (!b0))) d U) h⟩ ⟨b0g O r K (b0s t d U) h⟩ := g7l
theorem g9a {x} : b0g O (⟨d, none, .boxF x⟩ :: r) K t h = @iop O (.boxF x) t h ⟨fun v h' => b0g O r K (b0s t d v) h'⟩ := g4e
theorem g96 {x} : b0g O (⟨d, some (g, b0), .boxF x⟩ :: r) K t h = @b25 (t g) b0 ⟨@iop O (.boxF x) (upd t g (B b0)) h ⟨fun v h' => b0g O r K (b0s (upd t g (B b0)) d v) h'⟩⟩ ⟨b0g O r K (b0s (upd t g (B (!b0))) d U) h⟩ ⟨b0g O r K (b0s t d U) h⟩ := g7a
theorem g89 {x} : b0g O (⟨d, none, .box x⟩ :: r) K t h = @iop O (.box x) t h ⟨fun v h' => b0g O r K (b0s t d v) h'⟩ := g4d
theorem g95 {x} : b0g O (⟨d, some (g, b0), .box x⟩ :: r) K t h = @b25 (t g) b0 ⟨@iop O (.box x) (upd t g (B b0)) h ⟨fun v h' => b0g O r K (b0s (upd t g (B b0)) d v) h'⟩⟩ ⟨b0g O r K (b0s (upd t g (B (!b0))) d U) h⟩ ⟨b0g O r K (b0s t d U) h⟩ := g69
theorem g86 {zs} : b0g O (⟨d, none, .alloc zs⟩ :: r) K t h = @iop O (.alloc zs) t h ⟨fun v h' => b0g O r K (b0s t d v) h'⟩ := g4b
theorem g92 {zs} : b0g O (⟨d, some (g, b0), .alloc zs⟩ :: r) K t h = @b25 (t g) b0 ⟨@iop O (.alloc zs) (upd t g (B b0)) h ⟨fun v h' => b0g O r K (b0s (upd t g (B b0)) d v) h'⟩⟩ ⟨b0g O r K (b0s (upd t g (B (!b0))) d U) h⟩ ⟨b0g O r K (b0s t d U) h⟩ := g67
theorem g9n {agg n a} : b0g O (⟨d, none, .load agg n a⟩ :: r) K t h = @iop O (.load agg n a) t h ⟨fun v h' => b0g O r K (b0s t d v) h'⟩ := g4y
theorem j0h {agg n a} : b0g O (⟨d, some (g, b0), .load agg n a⟩ :: r) K t h = @b25 (t g) b0 ⟨@iop O (.load agg n a) (upd t g (B b0)) h ⟨fun v h' => b0g O r K (b0s (upd t g (B b0)) d v) h'⟩⟩ ⟨b0g O r K (b0s (upd t g (B (!b0))) d U) h⟩ ⟨b0g O r K (b0s t d U) h⟩ := g7h
theorem g9w {n a x} : b0g O (⟨d, none, .store n a x⟩ :: r) K t h = @iop O (.store n a x) t h ⟨fun v h' => b0g O r K (b0s t d v) h'⟩ := g5d
theorem j0q {n a x} : b0g O (⟨d, some (g, b0), .store n a x⟩ :: r) K t h = @b25 (t g) b0 ⟨@iop O (.store n a x) (upd t g (B b0)) h ⟨fun v h' => b0g O r K (b0s (upd t g (B b0)) d v) h'⟩⟩ ⟨b0g O r K (b0s (upd t g (B (!b0))) d U) h⟩ ⟨b0g O r K (b0s t d U) h⟩ := g7m
theorem g9t {x} : b0g O (⟨d, none, .nilck x⟩ :: r) K t h = @iop O (.nilck x) t h ⟨fun v h' => b0g O r K (b0s t d v) h'⟩ := g41
theorem j0n {x} : b0g O (⟨d, some (g, b0), .nilck x⟩ :: r) K t h = @b25 (t g) b0 ⟨@iop O (.nilck x) (upd t g (B b0)) h ⟨fun v h' => b0g O r K (b0s (upd t g (B b0)) d v) h'⟩⟩ ⟨b0g O r K (b0s (upd t g (B (!b0))) d U) h⟩ ⟨b0g O r K (b0s t d U) h⟩ := g7k
theorem g9j {o x} : b0g O (⟨d, none, .fldA o x⟩ :: r) K t h = @iop O (.fldA o x) t h ⟨fun v h' => b0g O r K (b0s t d v) h'⟩ := g4i
theorem j0e {o x} : b0g O (⟨d, some (g, b0), .fldA o x⟩ :: r) K t h = @b25 (t g) b0 ⟨@iop O (.fldA o x) (upd t g (B b0)) h ⟨fun v h' => b0g O r K (b0s (upd t g (B b0)) d v) h'⟩⟩ ⟨b0g O r K (b0s (upd t g (B (!b0))) d U) h⟩ ⟨b0g O r K (b0s t d U) h⟩ := g7e
theorem g9k {n x i} : b0g O (⟨d, none, .ixA n x i⟩ :: r) K t h = @iop O (.ixA n x i) t h ⟨fun v h' => b0g O r K (b0s t d v) h'⟩ := g4s
theorem j0f {n x i} : b0g O (⟨d, some (g, b0), .ixA n x i⟩ :: r) K t h = @b25 (t g) b0 ⟨@iop O (.ixA n x i) (upd t g (B b0)) h ⟨fun v h' => b0g O r K (b0s (upd t g (B b0)) d v) h'⟩⟩ ⟨b0g O r K (b0s (upd t g (B (!b0))) d U) h⟩ ⟨b0g O r K (b0s t d U) h⟩ := g7f
theorem g88 {op e x y} : b0g O (⟨d, none, .bin op e x y⟩ :: r) K t h = @iop O (.bin op e x y) t h ⟨fun v h' => b0g O r K (b0s t d v) h'⟩ := g4c
theorem g94 {op e x y} : b0g O (⟨d, some (g, b0), .bin op e x y⟩ :: r) K t h = @b25 (t g) b0 ⟨@iop O (.bin op e x y) (upd t g (B b0)) h ⟨fun v h' => b0g O r K (b0s (upd t g (B b0)) d v) h'⟩⟩ ⟨b0g O r K (b0s (upd t g (B (!b0))) d U) h⟩ ⟨b0g O r K (b0s t d U) h⟩ := g68
theorem g9x {op x} : b0g O (⟨d, none, .un op x⟩ :: r) K t h = @iop O (.un op x) t h ⟨fun v h' => b0g O r K (b0s t d v) h'⟩ := g5e
theorem j0r {op x} : b0g O (⟨d, some (g, b0), .un op x⟩ :: r) K t h = @b25 (t g) b0 ⟨@iop O (.un op x) (upd t g (B b0)) h ⟨fun v h' => b0g O r K (b0s (upd t g (B b0)) d v) h'⟩⟩ ⟨b0g O r K (b0s (upd t g (B (!b0))) d U) h⟩ ⟨b0g O r K (b0s t d U) h⟩ := g7n
theorem g9m {x} : b0g O (⟨d, none, .len false x⟩ :: r) K t h = @iop O (.len false x) t h ⟨fun v h' => b0g O r K (b0s t d v) h'⟩ := g4x
theorem j0g {x} : b0g O (⟨d, some (g, b0), .len false x⟩ :: r) K t h = @b25 (t g) b0 ⟨@iop O (.len false x) (upd t g (B b0)) h ⟨fun v h' => b0g O r K (b0s (upd t g (B b0)) d v) h'⟩⟩ ⟨b0g O r K (b0s (upd t g (B (!b0))) d U) h⟩ ⟨b0g O r K (b0s t d U) h⟩ := g7g
theorem g9h {x i} : b0g O (⟨d, none, .ext x i⟩ :: r) K t h = @iop O (.ext x i) t h ⟨fun v h' => b0g O r K (b0s t d v) h'⟩ := g4h
theorem j0c {x i} : b0g O (⟨d, some (g, b0), .ext x i⟩ :: r) K t h = @b25 (t g) b0 ⟨@iop O (.ext x i) (upd t g (B b0)) h ⟨fun v h' => b0g O r K (b0s (upd t g (B b0)) d v) h'⟩⟩ ⟨b0g O r K (b0s (upd t g (B (!b0))) d U) h⟩ ⟨b0g O r K (b0s t d U) h⟩ := g7d
theorem g9q {f a b} : b0g O (⟨d, none, .mkfn f a b⟩ :: r) K t h = @iop O (.mkfn f a b) t h ⟨fun v h' => b0g O r K (b0s t d v) h'⟩ := g4z
theorem j0k {f a b} : b0g O (⟨d, some (g, b0), .mkfn f a b⟩ :: r) K t h = @b25 (t g) b0 ⟨@iop O (.mkfn f a b) (upd t g (B b0)) h ⟨fun v h' => b0g O r K (b0s (upd t g (B b0)) d v) h'⟩⟩ ⟨b0g O r K (b0s (upd t g (B (!b0))) d U) h⟩ ⟨b0g O r K (b0s t d U) h⟩ := g7i
theorem g9d {f l} : b0g O (⟨d, none, .call f l⟩ :: r) K t h = @iop O (.call f l) t h ⟨fun v h' => b0g O r K (b0s t d v) h'⟩ := g4f
theorem g99 {f l} : b0g O (⟨d, some (g, b0), .call f l⟩ :: r) K t h = @b25 (t g) b0 ⟨@iop O (.call f l) (upd t g (B b0)) h ⟨fun v h' => b0g O r K (b0s (upd t g (B b0)) d v) h'⟩⟩ ⟨b0g O r K (b0s (upd t g (B (!b0))) d U) h⟩ ⟨b0g O r K (b0s t d U) h⟩ := g7b
theorem g9f {f l} : b0g O (⟨d, none, .callw f l⟩ :: r) K t h = @iop O (.callw f l) t h ⟨fun v h' => b0g O r K (b0s t d v) h'⟩ := g50
theorem g9e {f l} : b0g O (⟨d, none, .callv f l⟩ :: r) K t h = @iop O (.callv f l) t h ⟨fun v h' => b0g O r K (b0s t d v) h'⟩ := g4g
theorem j0a {f l} : b0g O (⟨d, some (g, b0), .callv f l⟩ :: r) K t h = @b25 (t g) b0 ⟨@iop O (.callv f l) (upd t g (B b0)) h ⟨fun v h' => b0g O r K (b0s (upd t g (B b0)) d v) h'⟩⟩ ⟨b0g O r K (b0s (upd t g (B (!b0))) d U) h⟩ ⟨b0g O r K (b0s t d U) h⟩ := g7c
theorem j1f {x} : @iop O (.mv x) t h ⟨k⟩ = @b5s (evT t x) ⟨fun v => k v h⟩ := j6n
theorem j1h {c a b} : @iop O (.pick c a b) t h ⟨k⟩ = @d01 (evT t c) ⟨@b5s (evT t a) ⟨fun v => k v h⟩⟩ ⟨@b5s (evT t b) ⟨fun v => k v h⟩⟩ := j6p
theorem j0x {x} : @iop O (.boxF x) t h ⟨k⟩ = @b75 (evT t x) ⟨fun cs => k (.fp cs 0) h⟩ := j6e
theorem j0w {x} : @iop O (.box x) t h ⟨k⟩ = @b75 (evT t x) ⟨fun cs => k (.rp h.nx 0 0) (h.new (cs.length, [cs]))⟩ := j6d
theorem j0t {zs} : @iop O (.alloc zs) t h ⟨k⟩ = k (.rp h.nx 0 0) (h.new (zs.length, [zs.map .v])) := j6b
theorem j1a {agg n a} : @iop O (.load agg n a) t h ⟨k⟩ = @d0z agg n (evT t a) h ⟨fun v => k v h⟩ := j6l
theorem j1j {n a x} : @iop O (.store n a x) t h ⟨k⟩ = @d8e n (evT t a) (evT t x) h ⟨fun h' => k .dead h'⟩ := j6q
theorem j1g {x} : @iop O (.nilck x) t h ⟨k⟩ = @c6f (evT t x) h ⟨fun v => k v h⟩ := j6o
theorem j06 {o x} : @iop O (.fldA o x) t h ⟨k⟩ = @d0x o (evT t x) h ⟨fun v => k v h⟩ := j6i
theorem j07 {n x i} : @iop O (.ixA n x i) t h ⟨k⟩ = @iix n (evT t x) (evT t i) h ⟨fun v => k v h⟩ := j6j
theorem j0v {op e x y} : @iop O (.bin op e x y) t h ⟨k⟩ = @b3g op e (evT t x) (evT t y) ⟨fun v => k v h⟩ := j6c
theorem j1k {op x} : @iop O (.un op x) t h ⟨k⟩ = @iun op (evT t x) ⟨fun v => k v h⟩ := j6r
theorem j09 {x} : @iop O (.len false x) t h ⟨k⟩ = @c06 (evT t x) ⟨fun n => k (I n) h⟩ := j6k
theorem j04 {x i} : @iop O (.ext x i) t h ⟨k⟩ = @d7i (evT t x) i ⟨fun v => k v h⟩ := j6h
theorem j1d {f a b} : @iop O (.mkfn f a b) t h ⟨k⟩ = k (.fn f (a.map (evT t)) (b.map (evT t))) h := j6m
theorem j00 {f l} : @iop O (.call f l) t h ⟨k⟩ = @c3j O f (l.map (evT t)) h ⟨k⟩ := j6f
theorem j02 {f l} : @iop O (.callw f l) t h ⟨k⟩ = @d7a O f (l.map (evT t)) h ⟨k⟩ := rfl
theorem j01 {f l} : @iop O (.callv f l) t h ⟨k⟩ = @d68 O (evT t f) (l.map (evT t)) h ⟨k⟩ := j6g
theorem j1w {c a b} {Q : XExit → Slots → Heap → Prop} : cw O (.cond c a b) Q t h = @d7d (evT t c) ⟨cw O a Q t h⟩ ⟨cw O b Q t h⟩ := g56
end
section
variable {k : AV → Prop} {h : Heap} {p q q0 : Prop}
theorem j1v {x} : @b5s (.v x) ⟨k⟩ = k (.v x) := rfl
theorem j1n {x} : @b5s (.agg x) ⟨k⟩ = k (.agg x) := rfl
theorem j1u {x} : @b5s (.tup x) ⟨k⟩ = k (.tup x) := rfl
theorem j1r {a b} : @b5s (.fs a b) ⟨k⟩ = k (.fs a b) := rfl
theorem j1q {a b} : @b5s (.fp a b) ⟨k⟩ = k (.fp a b) := rfl
theorem j1p {a b c} : @b5s (.fn a b c) ⟨k⟩ = k (.fn a b c) := rfl
theorem j1t {a b c} : @b5s (.rs a b c) ⟨k⟩ = k (.rs a b c) := rfl
theorem j1s {a b c} : @b5s (.rp a b c) ⟨k⟩ = k (.rp a b c) := rfl
theorem j1o : @b5s .dead ⟨k⟩ = k .dead := rfl
theorem b0b (v : AV) : @b5s v ⟨k⟩ = k v := rfl
theorem d66  : @ibr true ⟨p⟩ ⟨q⟩ = p := g33
theorem d65  : @ibr false ⟨p⟩ ⟨q⟩ = q := g32
theorem d7e {b} : @d7d (.v (.bool b)) ⟨p⟩ ⟨q⟩ = @ibr b ⟨p⟩ ⟨q⟩ := g5z
theorem d7q {y} : @b25 (.v (.bool y)) true ⟨p⟩ ⟨q⟩ ⟨q0⟩ = @ibr y ⟨p⟩ ⟨q⟩ := g7w
theorem d7p {y} : @b25 (.v (.bool y)) false ⟨p⟩ ⟨q⟩ ⟨q0⟩ = @ibr y ⟨q⟩ ⟨p⟩ := g7v
theorem d7r {b} : @b25 U b ⟨p⟩ ⟨q⟩ ⟨q0⟩ = q0 := rfl
theorem d7w {agg n cs off} : @d0z agg n (.fp cs off) h ⟨k⟩ = @c3k agg n cs off ⟨k⟩ := rfl
theorem d7x {agg n id i off} : @d0z agg n (.rp id i off) h ⟨k⟩ = @c6h (h.ob id) i ⟨fun _ _ cs => @c3k agg n cs off ⟨k⟩⟩ := rfl
theorem d8f {n id i off x} {k : Heap → Prop} : @d8e n (.rp id i off) x h ⟨k⟩ = @c6h (h.ob id) i ⟨fun sz es cs => b2x x = true ∧ (cellsOf x).length = n ∧ off + n ≤ cs.length ∧ k (h.upd id (some (sz, es.set i (cs.take off ++ cellsOf x ++ cs.drop (off + n)))))⟩ := rfl
theorem d7b {n cs off} : @c3k false n cs off ⟨k⟩ = @c3l cs off ⟨k⟩ := g5i
theorem d7c {n cs off} : @c3k true n cs off ⟨k⟩ = @b5m (off + n ≤ cs.length) ⟨k (.agg ((cs.drop off).take n))⟩ := g5j
theorem d7n {c cs} : @c3l (c :: cs) 0 ⟨k⟩ = k c := g7q
theorem d7o {c cs n} : @c3l (c :: cs) (n + 1) ⟨k⟩ = @c3l cs n ⟨k⟩ := g7r
theorem d8a {sz cs} {k : Nat → List (List AV) → List AV → Prop} : @c6h (some (sz, [cs])) 0 ⟨k⟩ = k sz [cs] cs := j8b
theorem d76 {sz es} {k : Nat → List (List AV) → Prop} : @iob (some (sz, es)) ⟨k⟩ = k sz es := j50
theorem d7h {α β : Type} {f : α → β} {l : List α} {i : Int} {k : β → Prop} : @c6a β (l.map f) i ⟨k⟩ = @c6a α l i ⟨fun a => k (f a)⟩ := g6o
theorem d79  : @d01 (.v (.bool true)) ⟨p⟩ ⟨q⟩ = p := rfl
theorem d78  : @d01 (.v (.bool false)) ⟨p⟩ ⟨q⟩ = q := rfl
theorem d6z {cs} {k : List AV → Prop} : @b75 (.agg cs) ⟨k⟩ = k cs := g3w
theorem d62 {kd n} {k : List AV → Prop} : @b75 (.v (.int kd n)) ⟨k⟩ = k [.v (.int kd n)] := g3z
theorem d60 {b} {k : List AV → Prop} : @b75 (.v (.bool b)) ⟨k⟩ = k [.v (.bool b)] := g3x
theorem d64 {a b c} {k : List AV → Prop} : @b75 (.v (.slice a b c)) ⟨k⟩ = k [.v (.slice a b c)] := g31
theorem d61 {sz es} {k : List AV → Prop} : @b75 (.fs sz es) ⟨k⟩ = k [.fs sz es] := g3y
theorem d63 {a b c} {k : List AV → Prop} : @b75 (.rs a b c) ⟨k⟩ = k [.rs a b c] := g30
theorem d74 {cs off} : @c6f (.fp cs off) h ⟨k⟩ = k (.fp cs off) := rfl
theorem d73 {f a b} : @c6f (.fn f a b) h ⟨k⟩ = k (.fn f a b) := rfl
theorem d75 {id i off} : @c6f (.rp id i off) h ⟨k⟩ = @b5m ((h.ob id).isSome = true) ⟨k (.rp id i off)⟩ := rfl
theorem d7l {n cs off} : @d0x n (.fp cs off) h ⟨k⟩ = k (.fp cs (off + n)) := rfl
theorem d7m {n id i off} : @d0x n (.rp id i off) h ⟨k⟩ = @b5m ((h.ob id).isSome = true) ⟨k (.rp id i (off + n))⟩ := rfl
theorem d7t {n sz es kd j} : @iix n (.fs sz es) (.v (.int kd j)) h ⟨k⟩ = @b5m (sz = n) ⟨@c6a (List AV) es j ⟨fun cs => k (.fp cs 0)⟩⟩ := rfl
theorem d7u {n id lo len kd j} : @iix n (.rs id lo len) (.v (.int kd j)) h ⟨k⟩ = @iob (h.ob id) ⟨fun sz _ => @b5m (sz = n) ⟨@b5m (0 ≤ j) ⟨@b5m (j < (len : Int)) ⟨k (.rp id (lo + j.toNat) 0)⟩⟩⟩⟩ := rfl
theorem d7v {sz es} {k : Int → Prop} : @c06 (.fs sz es) ⟨k⟩ = k es.length := j12
theorem c6c {id lo len} {k : Int → Prop} : @c06 (.rs id lo len) ⟨k⟩ = k len := j14
theorem c6b {k : Int → Prop} : @c06 (.v (.slice none 0 0)) ⟨k⟩ = k 0 := j13
theorem d7j {vs i} : @d7i (.tup vs) i ⟨k⟩ = @c3l vs i ⟨k⟩ := rfl
theorem d8h {b : Bool} : @iun .not (B b) ⟨k⟩ = k (B (!b)) := j9o
theorem d8g {kd a} : @iun .neg (.v (.int kd a)) ⟨k⟩ = k (.v (.int kd (kd.wrap (0 - a)))) := j9n
theorem d59 {a : Prop} (ha : a) : @b5m a ⟨p⟩ = p := by simp [b5m, ha]
theorem d6b {e kd a b} : @b3g .add e (.v (.int kd a)) (.v (.int kd b)) ⟨k⟩ = k (.v (.int kd (kd.wrap (a + b)))) := g3j
theorem d6x {e kd a b} : @b3g .sub e (.v (.int kd a)) (.v (.int kd b)) ⟨k⟩ = k (.v (.int kd (kd.wrap (a - b)))) := g3t
theorem d6n {e kd a b} : @b3g .mul e (.v (.int kd a)) (.v (.int kd b)) ⟨k⟩ = k (.v (.int kd (kd.wrap (a * b)))) := g3r
theorem d6g {e kd} {a b : Int} : @b3g .eql e (.v (.int kd a)) (.v (.int kd b)) ⟨k⟩ = k (B (decide (a = b))) := g3m
theorem d6o {e kd} {a b : Int} : @b3g .neq e (.v (.int kd a)) (.v (.int kd b)) ⟨k⟩ = k (B (decide (¬ a = b))) := g3s
theorem d6m {e kd} {a b : Int} : @b3g .lss e (.v (.int kd a)) (.v (.int kd b)) ⟨k⟩ = k (B (decide (a < b))) := g3q
theorem d6l {e kd} {a b : Int} : @b3g .leq e (.v (.int kd a)) (.v (.int kd b)) ⟨k⟩ = k (B (decide (a ≤ b))) := g3p
theorem d6k {e kd} {a b : Int} : @b3g .gtr e (.v (.int kd a)) (.v (.int kd b)) ⟨k⟩ = k (B (decide (b < a))) := g3o
theorem d6j {e kd} {a b : Int} : @b3g .geq e (.v (.int kd a)) (.v (.int kd b)) ⟨k⟩ = k (B (decide (b ≤ a))) := g3n
theorem d6d {a b : Bool} : @b3g .eql .bool (B a) (B b) ⟨k⟩ = k (B (c0c a b)) := g3k
theorem d6e {a b : Bool} : @b3g .neq .bool (B a) (B b) ⟨k⟩ = k (B (!(c0c a b))) := g3l
theorem b0u {x : Bool} {p q : Prop} (h1 : x = true → p) (h2 : x = false → q) : @ibr x ⟨p⟩ ⟨q⟩ := ⟨h1, h2⟩
end
def c6g {α : Type} (o : Option α) [k : K1 α] : Prop := ∃ x, o = some x ∧ k.k x
theorem d77 {α : Type} {x : α} {k : α → Prop} : @c6g α (some x) ⟨k⟩ = k x := by simp [c6g]
section
variable {O : Orac} {d : Option Nat} {g : Nat} {b0 : Bool} {r : List XO} {K : Slots → Heap → Prop} {t : Slots} {h : Heap} {k : AV → Heap → Prop}
theorem g9c {zs ps} : b0g O (⟨d, none, .build zs ps⟩ :: r) K t h = @iop O (.build zs ps) t h ⟨fun v h' => b0g O r K (b0s t d v) h'⟩ := b3a rfl
theorem g98 {zs ps} : b0g O (⟨d, some (g, b0), .build zs ps⟩ :: r) K t h = @b25 (t g) b0 ⟨@iop O (.build zs ps) (upd t g (B b0)) h ⟨fun v h' => b0g O r K (b0s (upd t g (B b0)) d v) h'⟩⟩ ⟨b0g O r K (b0s (upd t g (B (!b0))) d U) h⟩ ⟨b0g O r K (b0s t d U) h⟩ := b3c rfl
theorem j0z {zs ps} : @iop O (.build zs ps) t h ⟨k⟩ = @c6g _ (b8d (ps.map fun p => (p.1, p.2.1, evT t p.2.2))) ⟨fun qs => @b5m ((qs.all fun p => decide (p.1 + p.2.length ≤ zs.length)) = true) ⟨k (.agg (place (zs.map .v) qs)) h⟩⟩ := by
  simp only [iop, op1, eff, c6g, b5m]
  apply propext; constructor
  · rintro ⟨r, h', he, hk⟩
    simp only [Option.bind_eq_some_iff] at he
    obtain ⟨qs, h1, he⟩ := he
    split at he
    · rename_i hc; cases he; exact ⟨qs, h1, hc, hk⟩
    · cases he
  · rintro ⟨qs, h1, h2, h3⟩
    exact ⟨_, _, by simp only [h1, Option.bind_some]; rw [if_pos h2], h3⟩
end
theorem j7g : b8d [] = some [] := rfl
theorem j7f {a n : Nat} {x : AV} {l} : b8d ((a, n, x) :: l) = if b2x x ∧ (cellsOf x).length = n then (b8d l).map ((a, cellsOf x) :: ·) else none := by
  unfold b8d
  rw [List.mapM_cons]
  simp only []
  split
  · rename_i hc
    simp only [Option.bind_eq_bind, Option.bind_some, Option.pure_def]
    generalize (List.mapM (m := Option) _ l) = o
    cases o <;> rfl
  · rfl
theorem j56 {kd n} : b2x (.v (.int kd n)) = true := rfl
theorem j52 {b} : b2x (.v (.bool b)) = true := rfl
theorem j59 {a b c} : b2x (.v (.slice a b c)) = true := rfl
theorem j51 {cs} : b2x (.agg cs) = true := rfl
theorem j55 {a b} : b2x (.fs a b) = true := rfl
theorem j58 {a b c} : b2x (.rs a b c) = true := rfl
theorem g5q {x} : cellsOf (.v x) = [.v x] := rfl
theorem g5k {cs} : cellsOf (.agg cs) = cs := rfl
theorem g5n {a b} : cellsOf (.fs a b) = [.fs a b] := rfl
theorem g5p {a b c} : cellsOf (.rs a b c) = [.rs a b c] := rfl
theorem j7p {cs} : place cs [] = cs := rfl
theorem j7o {cs off ds r} : place cs ((off, ds) :: r) = place (cs.take off ++ ds ++ cs.drop (off + ds.length)) r := rfl
attribute [go_sem] j1v j1n j1u j1r j1q j1p j1t j1s j1o
attribute [go_sem ↓] d77 g9c g98 j0z g52 g9s j0m g9u j0o g9a g96 g89 g95 g86 g92 g9n j0h g9w j0q g9t j0n g9j j0e g9k j0f g88 g94 g9x j0r g9m j0g g9h j0c g9q j0k g9d g99 g9e j0a j1f j1h j0x j0w j0t j1a j1j j1g j06 j07 j0v j1k j09 j04 j1d j00 j01 g9f j02 j1w d66 d65 d7e d7q d7p d7r d7w d7x d8f d7b d7c d7n d7o d8a d76 d7h d79 d78 d6z d62 d60 d64 d61 d63 d74 d73 d75 d7l d7m d7t d7u d7v c6c c6b d7j d8h d8g d59 d6b d6x d6n d6g d6o d6m d6l d6k d6j d6d d6e
attribute [go_sem] d77 j7g j7f j56 j52 j59 j51 j55 j58 g5q g5k g5n g5p j7p j7o List.map_cons List.map_nil List.take_zero List.take_succ_cons List.drop_zero List.drop_succ_cons List.nil_append List.cons_append List.length_cons List.length_nil List.all_cons List.all_nil Option.map_some Nat.reduceLeDiff Option.isSome_some decide_true Bool.and_true true_and and_true if_true if_false List.set_cons_zero List.take_nil List.drop_nil List.append_nil d66 d65 d7e d7q d7p d7r d7w d7x d8f d7b d7c d7n d7o d8a d76 d7h d79 d78 d6z d62 d60 d64 d61 d63 d74 d73 d75 d7l d7m d7t d7u d7v c6c c6b d7j d8h d8g d59 d6b d6x d6n d6g d6o d6m d6l d6k d6j d6d d6e Bool.not_true Bool.not_false Nat.reduceAdd Nat.reduceEqDiff not_false_eq_true
end Go.Nw
