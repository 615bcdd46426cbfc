/- The rules, with what comes behind as instance-implicit arguments: there "simp" does not go. -/
import Derived.Test.YteoedeeljnboeaaNwRules
set_option linter.all false
set_option linter.unusedVariables false
set_option linter.unusedSimpArgs false
set_option linter.unusedSectionVars false
namespace Go.Nw
class Kp where p : Prop
class K1 (α : Type) where k : α → Prop
class K2 where k : AV → Heap → Prop
class Kr where k : Nat → List (List AV) → List AV → Prop
class Ko where k : Nat → List (List AV) → Prop
class Kh where k : Heap → Prop
def ibr (x : Bool) [p : Kp] [q : Kp] : Prop := br x p.p q.p
def d6j (x : AV) [p : Kp] [q : Kp] : Prop := c4a x p.p q.p
def b21 (x : AV) (b : Bool) [p : Kp] [q : Kp] [q0 : Kp] : Prop := b3f x b p.p q.p q0.p
def iop (O : Orac) (op : XOp) (t : Slots) (h : Heap) [k : K2] : Prop := op1 O op t h k.k
def c9y (agg : Bool) (n : Nat) (x : AV) (h : Heap) [k : K1 AV] : Prop := d0u agg n x h k.k
def d7k (n : Nat) (a x : AV) (h : Heap) [k : Kh] : Prop := d1x n a x h k.k
def c13 (agg : Bool) (n : Nat) (cs : List AV) (off : Nat) [k : K1 AV] : Prop := b5f agg n cs off k.k
def c14 (cs : List AV) (i : Nat) [k : K1 AV] : Prop := b46 cs i k.k
def c5j (o : Option Ob) (i : Nat) [k : Kr] : Prop := b7d o i k.k
def iob (o : Option Ob) [k : Ko] : Prop := obK o k.k
def c5b {α : Type} (l : List α) (i : Int) [k : K1 α] : Prop := b6o l i k.k
def c90 (c : AV) [p : Kp] [q : Kp] : Prop := c2l c p.p q.p
def b60 (x : AV) [k : K1 (List AV)] : Prop := b35 x k.k
def c5g (x : AV) (h : Heap) [k : K1 AV] : Prop := d05 x h k.k
def c9w (n : Nat) (x : AV) (h : Heap) [k : K1 AV] : Prop := c8c n x h k.k
def iix (n : Nat) (x i : AV) (h : Heap) [k : K1 AV] : Prop := c91 n x i h k.k
def b3a (op : BinOp) (e : EqK) (x y : AV) [k : K1 AV] : Prop := b2s op e x y k.k
def iun (op : UnOp) (x : AV) [k : K1 AV] : Prop := unK op x k.k
def b9s (x : AV) [k : K1 Int] : Prop := b6i x k.k
def d6n (x : AV) (i : Nat) [k : K1 AV] : Prop := c74 x i k.k
def b4s (v : AV) [k : K1 AV] : Prop := k.k v
def b4j (a : Prop) [p : Kp] : Prop := a ∧ p.p
def c12 (O : Orac) (f : String) (as : List AV) (h : Heap) [k : K2] : Prop := b6m O f as h k.k
def d6f (O : Orac) (f : String) (as : List AV) (h : Heap) [k : K2] : Prop := b6n O f as h k.k
def d6d (O : Orac) (f : AV) (as : List AV) (h : Heap) [k : K2] : Prop := ∃ n a b, callee f = some (n, a, b) ∧ b6m O n (a ++ as ++ b) h k.k
section
variable {O : Orac} {d : Option Nat} {g : Nat} {b0 : Bool} {r : List XO} {K : Slots → Heap → Prop} {t : Slots} {h : Heap} {k : AV → Heap → Prop}
theorem g7u {x} : b0g O (⟨d, none, .mv x⟩ :: r) K t h = @iop O (.mv x) t h ⟨fun v h' => b0g O r K (b0t t d v) h'⟩ := g28
theorem g8o {x} : b0g O (⟨d, some (g, b0), .mv x⟩ :: r) K t h = @b21 (t g) b0 ⟨@iop O (.mv x) (upd t g (B b0)) h ⟨fun v h' => b0g O r K (b0t (upd t g (B b0)) d v) h'⟩⟩ ⟨b0g O r K (b0t (upd t g (B (!b0))) d U) h⟩ ⟨b0g O r K (b0t t d U) h⟩ := g5n
theorem g7w {c a b} : b0g O (⟨d, none, .pick c a b⟩ :: r) K t h = @iop O (.pick c a b) t h ⟨fun v h' => b0g O r K (b0t t d v) h'⟩ := g3a
theorem g8q {c a b} : b0g O (⟨d, some (g, b0), .pick c a b⟩ :: r) K t h = @b21 (t g) b0 ⟨@iop O (.pick c a b) (upd t g (B b0)) h ⟨fun v h' => b0g O r K (b0t (upd t g (B b0)) d v) h'⟩⟩ ⟨b0g O r K (b0t (upd t g (B (!b0))) d U) h⟩ ⟨b0g O r K (b0t t d U) h⟩ := g5p
theorem g7c {x} : b0g O (⟨d, none, .boxF x⟩ :: r) K t h = @iop O (.boxF x) t h ⟨fun v h' => b0g O r K (b0t t d v) h'⟩ := g2e
theorem g78 {x} : b0g O (⟨d, some (g, b0), .boxF x⟩ :: r) K t h = @b21 (t g) b0 ⟨@iop O (.boxF x) (upd t g (B b0)) h ⟨fun v h' => b0g O r K (b0t (upd t g (B b0)) d v) h'⟩⟩ ⟨b0g O r K (b0t (upd t g (B (!b0))) d U) h⟩ ⟨b0g O r K (b0t t d U) h⟩ := g5e
theorem g7b {x} : b0g O (⟨d, none, .box x⟩ :: r) K t h = @iop O (.box x) t h ⟨fun v h' => b0g O r K (b0t t d v) h'⟩ := g2d
theorem g77 {x} : b0g O (⟨d, some (g, b0), .box x⟩ :: r) K t h = @b21 (t g) b0 ⟨@iop O (.box x) (upd t g (B b0)) h ⟨fun v h' => b0g O r K (b0t (upd t g (B b0)) d v) h'⟩⟩ ⟨b0g O r K (b0t (upd t g (B (!b0))) d U) h⟩ ⟨b0g O r K (b0t t d U) h⟩ := g5d
theorem g68 {zs} : b0g O (⟨d, none, .alloc zs⟩ :: r) K t h = @iop O (.alloc zs) t h ⟨fun v h' => b0g O r K (b0t t d v) h'⟩ := g2b
theorem g74 {zs} : b0g O (⟨d, some (g, b0), .alloc zs⟩ :: r) K t h = @b21 (t g) b0 ⟨@iop O (.alloc zs) (upd t g (B b0)) h ⟨fun v h' => b0g O r K (b0t (upd t g (B b0)) d v) h'⟩⟩ ⟨b0g O r K (b0t (upd t g (B (!b0))) d U) h⟩ ⟨b0g O r K (b0t t d U) h⟩ := g5b
theorem g7p {agg n a} : b0g O (⟨d, none, .load agg n a⟩ :: r) K t h = @iop O (.load agg n a) t h ⟨fun v h' => b0g O r K (b0t t d v) h'⟩ := g26
theorem g8j {agg n a} : b0g O (⟨d, some (g, b0), .load agg n a⟩ :: r) K t h = @b21 (t g) b0 ⟨@iop O (.load agg n a) (upd t g (B b0)) h ⟨fun v h' => b0g O r K (b0t (upd t g (B b0)) d v) h'⟩⟩ ⟨b0g O r K (b0t (upd t g (B (!b0))) d U) h⟩ ⟨b0g O r K (b0t t d U) h⟩ := g5l
theorem g7y {n a x} : b0g O (⟨d, none, .store n a x⟩ :: r) K t h = @iop O (.store n a x) t h ⟨fun v h' => b0g O r K (b0t t d v) h'⟩ := g3j
theorem g8s {n a x} : b0g O (⟨d, some (g, b0), .store n a x⟩ :: r) K t h = @b21 (t g) b0 ⟨@iop O (.store n a x) (upd t g (B b0)) h ⟨fun v h' => b0g O r K (b0t (upd t g (B b0)) d v) h'⟩⟩ ⟨b0g O r K (b0t (upd t g (B (!b0))) d U) h⟩ ⟨b0g O r K (b0t t d U) h⟩ := g5q
theorem g7v {x} : b0g O (⟨d, none, .nilck x⟩ :: r) K t h = @iop O (.nilck x) t h ⟨fun v h' => b0g O r K (b0t t d v) h'⟩ := g29
theorem g8p {x} : b0g O (⟨d, some (g, b0), .nilck x⟩ :: r) K t h = @b21 (t g) b0 ⟨@iop O (.nilck x) (upd t g (B b0)) h ⟨fun v h' => b0g O r K (b0t (upd t g (B b0)) d v) h'⟩⟩ ⟨b0g O r K (b0t (upd t g (B (!b0))) d U) h⟩ ⟨b0g O r K (b0t t d U) h⟩ := g5o
theorem g7l {o x} : b0g O (⟨d, none, .fldA o x⟩ :: r) K t h = @iop O (.fldA o x) t h ⟨fun v h' => b0g O r K (b0t t d v) h'⟩ := g2i
theorem g8g {o x} : b0g O (⟨d, some (g, b0), .fldA o x⟩ :: r) K t h = @b21 (t g) b0 ⟨@iop O (.fldA o x) (upd t g (B b0)) h ⟨fun v h' => b0g O r K (b0t (upd t g (B b0)) d v) h'⟩⟩ ⟨b0g O r K (b0t (upd t g (B (!b0))) d U) h⟩ ⟨b0g O r K (b0t t d U) h⟩ := g5i
theorem g7m {n x i} : b0g O (⟨d, none, .ixA n x i⟩ :: r) K t h = @iop O (.ixA n x i) t h ⟨fun v h' => b0g O r K (b0t t d v) h'⟩ := g2y
theorem g8h {n x i} : b0g O (⟨d, some (g, b0), .ixA n x i⟩ :: r) K t h = @b21 (t g) b0 ⟨@iop O (.ixA n x i) (upd t g (B b0)) h ⟨fun v h' => b0g O r K (b0t (upd t g (B b0)) d v) h'⟩⟩ ⟨b0g O r K (b0t (upd t g (B (!b0))) d U) h⟩ ⟨b0g O r K (b0t t d U) h⟩ := g5j
theorem g7a {op e x y} : b0g O (⟨d, none, .bin op e x y⟩ :: r) K t h = @iop O (.bin op e x y) t h ⟨fun v h' => b0g O r K (b0t t d v) h'⟩ := g2c
theorem g76 {op e x y} : b0g O (⟨d, some (g, b0), .bin op e x y⟩ :: r) K t h = @b21 (t g) b0 ⟨@iop O (.bin op e x y) (upd t g (B b0)) h ⟨fun v h' => b0g O r K (b0t (upd t g (B b0)) d v) h'⟩⟩ ⟨b0g O r K (b0t (upd t g (B (!b0))) d U) h⟩ ⟨b0g O r K (b0t t d U) h⟩ := g5c
theorem g7z {op x} : b0g O (⟨d, none, .un op x⟩ :: r) K t h = @iop O (.un op x) t h ⟨fun v h' => b0g O r K (b0t t d v) h'⟩ := g3k
theorem g8t {op x} : b0g O (⟨d, some (g, b0), .un op x⟩ :: r) K t h = @b21 (t g) b0 ⟨@iop O (.un op x) (upd t g (B b0)) h ⟨fun v h' => b0g O r K (b0t (upd t g (B b0)) d v) h'⟩⟩ ⟨b0g O r K (b0t (upd t g (B (!b0))) d U) h⟩ ⟨b0g O r K (b0t t d U) h⟩ := g5r
theorem g7o {x} : b0g O (⟨d, none, .len false x⟩ :: r) K t h = @iop O (.len false x) t h ⟨fun v h' => b0g O r K (b0t t d v) h'⟩ := g25
theorem g8i {x} : b0g O (⟨d, some (g, b0), .len false x⟩ :: r) K t h = @b21 (t g) b0 ⟨@iop O (.len false x) (upd t g (B b0)) h ⟨fun v h' => b0g O r K (b0t (upd t g (B b0)) d v) h'⟩⟩ ⟨b0g O r K (b0t (upd t g (B (!b0))) d U) h⟩ ⟨b0g O r K (b0t t d U) h⟩ := g5k
theorem g7j {x i} : b0g O (⟨d, none, .ext x i⟩ :: r) K t h = @iop O (.ext x i) t h ⟨fun v h' => b0g O r K (b0t t d v) h'⟩ := g2h
theorem g8e {x i} : b0g O (⟨d, some (g, b0), .ext x i⟩ :: r) K t h = @b21 (t g) b0 ⟨@iop O (.ext x i) (upd t g (B b0)) h ⟨fun v h' => b0g O r K (b0t (upd t g (B b0)) d v) h'⟩⟩ ⟨b0g O r K (b0t (upd t g (B (!b0))) d U) h⟩ ⟨b0g O r K (b0t t d U) h⟩ := g5h
theorem g7s {f a b} : b0g O (⟨d, none, .mkfn f a b⟩ :: r) K t h = @iop O (.mkfn f a b) t h ⟨fun v h' => b0g O r K (b0t t d v) h'⟩ := g27
theorem g8m {f a b} : b0g O (⟨d, some (g, b0), .mkfn f a b⟩ :: r) K t h = @b21 (t g) b0 ⟨@iop O (.mkfn f a b) (upd t g (B b0)) h ⟨fun v h' => b0g O r K (b0t (upd t g (B b0)) d v) h'⟩⟩ ⟨b0g O r K (b0t (upd t g (B (!b0))) d U) h⟩ ⟨b0g O r K (b0t t d U) h⟩ := g5m
theorem g7f {f l} : b0g O (⟨d, none, .call f l⟩ :: r) K t h = @iop O (.call f l) t h ⟨fun v h' => b0g O r K (b0t t d v) h'⟩ := g2f
theorem g8b {f l} : b0g O (⟨d, some (g, b0), .call f l⟩ :: r) K t h = @b21 (t g) b0 ⟨@iop O (.call f l) (upd t g (B b0)) h ⟨fun v h' => b0g O r K (b0t (upd t g (B b0)) d v) h'⟩⟩ ⟨b0g O r K (b0t (upd t g (B (!b0))) d U) h⟩ ⟨b0g O r K (b0t t d U) h⟩ := g5f
theorem g7h {f l} : b0g O (⟨d, none, .callw f l⟩ :: r) K t h = @iop O (.callw f l) t h ⟨fun v h' => b0g O r K (b0t t d v) h'⟩ := g34
theorem g7g {f l} : b0g O (⟨d, none, .callv f l⟩ :: r) K t h = @iop O (.callv f l) t h ⟨fun v h' => b0g O r K (b0t t d v) h'⟩ := g2g
theorem g8c {f l} : b0g O (⟨d, some (g, b0), .callv f l⟩ :: r) K t h = @b21 (t g) b0 ⟨@iop O (.callv f l) (upd t g (B b0)) h ⟨fun v h' => b0g O r K (b0t (upd t g (B b0)) d v) h'⟩⟩ ⟨b0g O r K (b0t (upd t g (B (!b0))) d U) h⟩ ⟨b0g O r K (b0t t d U) h⟩ := g5g
theorem g9h {x} : @iop O (.mv x) t h ⟨k⟩ = @b4s (evT t x) ⟨fun v => k v h⟩ := j4f
theorem g9j {c a b} : @iop O (.pick c a b) t h ⟨k⟩ = @c90 (evT t c) ⟨@b4s (evT t a) ⟨fun v => k v h⟩⟩ ⟨@b4s (evT t b) ⟨fun v => k v h⟩⟩ := j4h
theorem g8z {x} : @iop O (.boxF x) t h ⟨k⟩ = @b60 (evT t x) ⟨fun cs => k (.fp cs 0) h⟩ := j36
theorem g8y {x} : @iop O (.box x) t h ⟨k⟩ = @b60 (evT t x) ⟨fun cs => k (.rp h.nx 0 0) (h.new (cs.length, [cs]))⟩ := j35
theorem g8v {zs} : @iop O (.alloc zs) t h ⟨k⟩ = k (.rp h.nx 0 0) (h.new (zs.length, [zs.map .v])) := j33
theorem g9c {agg n a} : @iop O (.load agg n a) t h ⟨k⟩ = @c9y agg n (evT t a) h ⟨fun v => k v h⟩ := j4d
theorem g9l {n a x} : @iop O (.store n a x) t h ⟨k⟩ = @d7k n (evT t a) (evT t x) h ⟨fun h' => k .dead h'⟩ := j4i
theorem g9i {x} : @iop O (.nilck x) t h ⟨k⟩ = @c5g (evT t x) h ⟨fun v => k v h⟩ := j4g
theorem g88 {o x} : @iop O (.fldA o x) t h ⟨k⟩ = @c9w o (evT t x) h ⟨fun v => k v h⟩ := j4a
theorem g89 {n x i} : @iop O (.ixA n x i) t h ⟨k⟩ = @iix n (evT t x) (evT t i) h ⟨fun v => k v h⟩ := j4b
theorem g8x {op e x y} : @iop O (.bin op e x y) t h ⟨k⟩ = @b3a op e (evT t x) (evT t y) ⟨fun v => k v h⟩ := j34
theorem g9m {op x} : @iop O (.un op x) t h ⟨k⟩ = @iun op (evT t x) ⟨fun v => k v h⟩ := j4j
theorem g9b {x} : @iop O (.len false x) t h ⟨k⟩ = @b9s (evT t x) ⟨fun n => k (I n) h⟩ := j4c
theorem g86 {x i} : @iop O (.ext x i) t h ⟨k⟩ = @d6n (evT t x) i ⟨fun v => k v h⟩ := j39
theorem g9f {f a b} : @iop O (.mkfn f a b) t h ⟨k⟩ = k (.fn f (a.map (evT t)) (b.map (evT t))) h := j4e
theorem g82 {f l} : @iop O (.call f l) t h ⟨k⟩ = @c12 O f (l.map (evT t)) h ⟨k⟩ := j37
theorem g84 {f l} : @iop O (.callw f l) t h ⟨k⟩ = @d6f O f (l.map (evT t)) h ⟨k⟩ := rfl
theorem g83 {f l} : @iop O (.callv f l) t h ⟨k⟩ = @d6d O (evT t f) (l.map (evT t)) h ⟨k⟩ := j38
theorem g9x {c a b} {Q : XExit → Slots → Heap → Prop} : cw O (.cond c a b) Q t h = @d6j (evT t c) ⟨cw O a Q t h⟩ ⟨cw O b Q t h⟩ := g39
end
section
variable {k : AV → Prop} {h : Heap} {p q q0 : Prop}
theorem g9w {x} : @b4s (.v x) ⟨k⟩ = k (.v x) := rfl
theorem g9o {x} : @b4s (.agg x) ⟨k⟩ = k (.agg x) := rfl
theorem g9v {x} : @b4s (.tup x) ⟨k⟩ = k (.tup x) := rfl
theorem g9s {a b} : @b4s (.fs a b) ⟨k⟩ = k (.fs a b) := rfl
theorem g9r {a b} : @b4s (.fp a b) ⟨k⟩ = k (.fp a b) := rfl
theorem g9q {a b c} : @b4s (.fn a b c) ⟨k⟩ = k (.fn a b c) := rfl
theorem g9u {a b c} : @b4s (.rs a b c) ⟨k⟩ = k (.rs a b c) := rfl
theorem g9t {a b c} : @b4s (.rp a b c) ⟨k⟩ = k (.rp a b c) := rfl
theorem g9p : @b4s .dead ⟨k⟩ = k .dead := rfl
theorem b0a (v : AV) : @b4s v ⟨k⟩ = k v := rfl
theorem d6b  : @ibr true ⟨p⟩ ⟨q⟩ = p := g15
theorem d6a  : @ibr false ⟨p⟩ ⟨q⟩ = q := g14
theorem d6k {b} : @d6j (.v (.bool b)) ⟨p⟩ ⟨q⟩ = @ibr b ⟨p⟩ ⟨q⟩ := g33
theorem d6v {y} : @b21 (.v (.bool y)) true ⟨p⟩ ⟨q⟩ ⟨q0⟩ = @ibr y ⟨p⟩ ⟨q⟩ := g5y
theorem d6u {y} : @b21 (.v (.bool y)) false ⟨p⟩ ⟨q⟩ ⟨q0⟩ = @ibr y ⟨q⟩ ⟨p⟩ := g5x
theorem d6w {b} : @b21 U b ⟨p⟩ ⟨q⟩ ⟨q0⟩ = q0 := rfl
theorem d61 {agg n cs off} : @c9y agg n (.fp cs off) h ⟨k⟩ = @c13 agg n cs off ⟨k⟩ := rfl
theorem d62 {agg n id i off} : @c9y agg n (.rp id i off) h ⟨k⟩ = @c5j (h.ob id) i ⟨fun _ _ cs => @c13 agg n cs off ⟨k⟩⟩ := rfl
theorem d7l {n id i off x} {k : Heap → Prop} : @d7k n (.rp id i off) x h ⟨k⟩ = @c5j (h.ob id) i ⟨fun sz es cs => b2u x = true ∧ (cellsOf x).length = n ∧ off + n ≤ cs.length ∧ k (h.upd id (some (sz, es.set i (cs.take off ++ cellsOf x ++ cs.drop (off + n)))))⟩ := rfl
theorem d6h {n cs off} : @c13 false n cs off ⟨k⟩ = @c14 cs off ⟨k⟩ := g3o
theorem d6i {n cs off} : @c13 true n cs off ⟨k⟩ = @b4j (off + n ≤ cs.length) ⟨k (.agg ((cs.drop off).take n))⟩ := g3p
theorem d6s {c cs} : @c14 (c :: cs) 0 ⟨k⟩ = k c := g5u
theorem d6t {c cs n} : @c14 (c :: cs) (n + 1) ⟨k⟩ = @c14 cs n ⟨k⟩ := g5v
theorem d7e {sz cs} {k : Nat → List (List AV) → List AV → Prop} : @c5j (some (sz, [cs])) 0 ⟨k⟩ = k sz [cs] cs := j5u
theorem d7a {sz es} {k : Nat → List (List AV) → Prop} : @iob (some (sz, es)) ⟨k⟩ = k sz es := j3s
theorem d6m {α β : Type} {f : α → β} {l : List α} {i : Int} {k : β → Prop} : @c5b β (l.map f) i ⟨k⟩ = @c5b α l i ⟨fun a => k (f a)⟩ := g4t
theorem d7d  : @c90 (.v (.bool true)) ⟨p⟩ ⟨q⟩ = p := rfl
theorem d7c  : @c90 (.v (.bool false)) ⟨p⟩ ⟨q⟩ = q := rfl
theorem d54 {cs} {k : List AV → Prop} : @b60 (.agg cs) ⟨k⟩ = k cs := g1y
theorem d57 {kd n} {k : List AV → Prop} : @b60 (.v (.int kd n)) ⟨k⟩ = k [.v (.int kd n)] := g11
theorem d55 {b} {k : List AV → Prop} : @b60 (.v (.bool b)) ⟨k⟩ = k [.v (.bool b)] := g1z
theorem d59 {a b c} {k : List AV → Prop} : @b60 (.v (.slice a b c)) ⟨k⟩ = k [.v (.slice a b c)] := g13
theorem d56 {sz es} {k : List AV → Prop} : @b60 (.fs sz es) ⟨k⟩ = k [.fs sz es] := g10
theorem d58 {a b c} {k : List AV → Prop} : @b60 (.rs a b c) ⟨k⟩ = k [.rs a b c] := g12
theorem d68 {cs off} : @c5g (.fp cs off) h ⟨k⟩ = k (.fp cs off) := rfl
theorem d67 {f a b} : @c5g (.fn f a b) h ⟨k⟩ = k (.fn f a b) := rfl
theorem d69 {id i off} : @c5g (.rp id i off) h ⟨k⟩ = @b4j ((h.ob id).isSome = true) ⟨k (.rp id i off)⟩ := rfl
theorem d6q {n cs off} : @c9w n (.fp cs off) h ⟨k⟩ = k (.fp cs (off + n)) := rfl
theorem d6r {n id i off} : @c9w n (.rp id i off) h ⟨k⟩ = @b4j ((h.ob id).isSome = true) ⟨k (.rp id i (off + n))⟩ := rfl
theorem d6y {n sz es kd j} : @iix n (.fs sz es) (.v (.int kd j)) h ⟨k⟩ = @b4j (sz = n) ⟨@c5b (List AV) es j ⟨fun cs => k (.fp cs 0)⟩⟩ := rfl
theorem d6z {n id lo len kd j} : @iix n (.rs id lo len) (.v (.int kd j)) h ⟨k⟩ = @iob (h.ob id) ⟨fun sz _ => @b4j (sz = n) ⟨@b4j (0 ≤ j) ⟨@b4j (j < (len : Int)) ⟨k (.rp id (lo + j.toNat) 0)⟩⟩⟩⟩ := rfl
theorem d60 {sz es} {k : Int → Prop} : @b9s (.fs sz es) ⟨k⟩ = k es.length := g93
theorem c5d {id lo len} {k : Int → Prop} : @b9s (.rs id lo len) ⟨k⟩ = k len := g95
theorem c5c {k : Int → Prop} : @b9s (.v (.slice none 0 0)) ⟨k⟩ = k 0 := g94
theorem d6o {vs i} : @d6n (.tup vs) i ⟨k⟩ = @c14 vs i ⟨k⟩ := rfl
theorem d7n {b : Bool} : @iun .not (B b) ⟨k⟩ = k (B (!b)) := j69
theorem d7m {kd a} : @iun .neg (.v (.int kd a)) ⟨k⟩ = k (.v (.int kd (kd.wrap (0 - a)))) := j68
theorem d5d {a : Prop} (ha : a) : @b4j a ⟨p⟩ = p := by simp [b4j, ha]
theorem d5g {e kd a b} : @b3a .add e (.v (.int kd a)) (.v (.int kd b)) ⟨k⟩ = k (.v (.int kd (kd.wrap (a + b)))) := g1m
theorem d52 {e kd a b} : @b3a .sub e (.v (.int kd a)) (.v (.int kd b)) ⟨k⟩ = k (.v (.int kd (kd.wrap (a - b)))) := g1w
theorem d5s {e kd a b} : @b3a .mul e (.v (.int kd a)) (.v (.int kd b)) ⟨k⟩ = k (.v (.int kd (kd.wrap (a * b)))) := g1u
theorem d5l {e kd} {a b : Int} : @b3a .eql e (.v (.int kd a)) (.v (.int kd b)) ⟨k⟩ = k (B (decide (a = b))) := g1p
theorem d5t {e kd} {a b : Int} : @b3a .neq e (.v (.int kd a)) (.v (.int kd b)) ⟨k⟩ = k (B (decide (¬ a = b))) := g1v
theorem d5r {e kd} {a b : Int} : @b3a .lss e (.v (.int kd a)) (.v (.int kd b)) ⟨k⟩ = k (B (decide (a < b))) := g1t
theorem d5q {e kd} {a b : Int} : @b3a .leq e (.v (.int kd a)) (.v (.int kd b)) ⟨k⟩ = k (B (decide (a ≤ b))) := g1s
theorem d5p {e kd} {a b : Int} : @b3a .gtr e (.v (.int kd a)) (.v (.int kd b)) ⟨k⟩ = k (B (decide (b < a))) := g1r
theorem d5o {e kd} {a b : Int} : @b3a .geq e (.v (.int kd a)) (.v (.int kd b)) ⟨k⟩ = k (B (decide (b ≤ a))) := g1q
theorem d5i {a b : Bool} : @b3a .eql .bool (B a) (B b) ⟨k⟩ = k (B (b83 a b)) := g1n
theorem d5j {a b : Bool} : @b3a .neq .bool (B a) (B b) ⟨k⟩ = k (B (!(b83 a b))) := g1o
theorem b0u {x : Bool} {p q : Prop} (h1 : x = true → p) (h2 : x = false → q) : @ibr x ⟨p⟩ ⟨q⟩ := ⟨h1, h2⟩
end
def c5i {α : Type} (o : Option α) [k : K1 α] : Prop := ∃ x, o = some x ∧ k.k x
theorem d7b {α : Type} {x : α} {k : α → Prop} : @c5i α (some x) ⟨k⟩ = k x := by simp [c5i]
section
variable {O : Orac} {d : Option Nat} {g : Nat} {b0 : Bool} {r : List XO} {K : Slots → Heap → Prop} {t : Slots} {h : Heap} {k : AV → Heap → Prop}
theorem g7e {zs ps} : b0g O (⟨d, none, .build zs ps⟩ :: r) K t h = @iop O (.build zs ps) t h ⟨fun v h' => b0g O r K (b0t t d v) h'⟩ := b24 rfl
theorem g8a {zs ps} : b0g O (⟨d, some (g, b0), .build zs ps⟩ :: r) K t h = @b21 (t g) b0 ⟨@iop O (.build zs ps) (upd t g (B b0)) h ⟨fun v h' => b0g O r K (b0t (upd t g (B b0)) d v) h'⟩⟩ ⟨b0g O r K (b0t (upd t g (B (!b0))) d U) h⟩ ⟨b0g O r K (b0t t d U) h⟩ := b25 rfl
theorem g81 {zs ps} : @iop O (.build zs ps) t h ⟨k⟩ = @c5i _ (b67 (ps.map fun p => (p.1, p.2.1, evT t p.2.2))) ⟨fun qs => @b4j ((qs.all fun p => decide (p.1 + p.2.length ≤ zs.length)) = true) ⟨k (.agg (place (zs.map .v) qs)) h⟩⟩ := by
  simp only [iop, op1, eff, c5i, b4j]
  apply propext; constructor
  · rintro ⟨r, h', he, hk⟩
    simp only [Option.bind_eq_some_iff] at he
    obtain ⟨qs, h1, he⟩ := he
    split at he
    · rename_i hc; cases he; exact ⟨qs, h1, hc, hk⟩
    · cases he
  · rintro ⟨qs, h1, h2, h3⟩
    exact ⟨_, _, by simp only [h1, Option.bind_some]; rw [if_pos h2], h3⟩
end
theorem j43 : b67 [] = some [] := rfl
theorem j42 {a n : Nat} {x : AV} {l} : b67 ((a, n, x) :: l) = if b2u x ∧ (cellsOf x).length = n then (b67 l).map ((a, cellsOf x) :: ·) else none := by
  unfold b67
  rw [List.mapM_cons]
  simp only []
  split
  · rename_i hc
    simp only [Option.bind_eq_bind, Option.bind_some, Option.pure_def]
    generalize (List.mapM (m := Option) _ l) = o
    cases o <;> rfl
  · rfl
theorem j3y {kd n} : b2u (.v (.int kd n)) = true := rfl
theorem j3u {b} : b2u (.v (.bool b)) = true := rfl
theorem j31 {a b c} : b2u (.v (.slice a b c)) = true := rfl
theorem j3t {cs} : b2u (.agg cs) = true := rfl
theorem j3x {a b} : b2u (.fs a b) = true := rfl
theorem j30 {a b c} : b2u (.rs a b c) = true := rfl
theorem g3w {x} : cellsOf (.v x) = [.v x] := rfl
theorem g3q {cs} : cellsOf (.agg cs) = cs := rfl
theorem g3t {a b} : cellsOf (.fs a b) = [.fs a b] := rfl
theorem g3v {a b c} : cellsOf (.rs a b c) = [.rs a b c] := rfl
theorem j48 {cs} : place cs [] = cs := rfl
theorem j47 {cs off ds r} : place cs ((off, ds) :: r) = place (cs.take off ++ ds ++ cs.drop (off + ds.length)) r := rfl
attribute [go_sem] g9w g9o g9v g9s g9r g9q g9u g9t g9p
attribute [go_sem ↓] d7b g7e g8a g81 g36 g7u g8o g7w g8q g7c g78 g7b g77 g68 g74 g7p g8j g7y g8s g7v g8p g7l g8g g7m g8h g7a g76 g7z g8t g7o g8i g7j g8e g7s g8m g7f g8b g7g g8c g9h g9j g8z g8y g8v g9c g9l g9i g88 g89 g8x g9m g9b g86 g9f g82 g83 g7h g84 g9x d6b d6a d6k d6v d6u d6w d61 d62 d7l d6h d6i d6s d6t d7e d7a d6m d7d d7c d54 d57 d55 d59 d56 d58 d68 d67 d69 d6q d6r d6y d6z d60 c5d c5c d6o d7n d7m d5d d5g d52 d5s d5l d5t d5r d5q d5p d5o d5i d5j
attribute [go_sem] d7b j43 j42 j3y j3u j31 j3t j3x j30 g3w g3q g3t g3v j48 j47 List.map_cons List.map_nil List.take_zero List.take_succ_cons List.drop_zero List.drop_succ_cons List.nil_append List.cons_append List.length_cons List.length_nil List.all_cons List.all_nil Option.map_some Nat.reduceLeDiff Option.isSome_some decide_true Bool.and_true true_and and_true if_true if_false List.set_cons_zero List.take_nil List.drop_nil List.append_nil d6b d6a d6k d6v d6u d6w d61 d62 d7l d6h d6i d6s d6t d7e d7a d6m d7d d7c d54 d57 d55 d59 d56 d58 d68 d67 d69 d6q d6r d6y d6z d60 c5d c5c d6o d7n d7m d5d d5g d52 d5s d5l d5t d5r d5q d5p d5o d5i d5j Bool.not_true Bool.not_false Nat.reduceAdd Nat.reduceEqDiff not_false_eq_true
end Go.Nw
